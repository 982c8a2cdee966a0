import Derived.RangeFuncNested
import Derived.RangeFuncBound
import Derived.RangeFuncLeaves
import Derived.RangeFuncBox
import Derived.Shelf.Abstract
import Derived.TacticsInMore
import Derived.LoopNIn
import Derived.LoopIn
import Derived.Test.YtmadfhgiaonnlaaGreatDoorPk6
open Array renaming replicate_succ->pr,replicate_zero->pw,getD_eq_getD_getElem?->au
open Go renaming callsIn_wide->wx,callsIn_of_wp_marks->zv,wpIn_rangeFunc_ownH->zw,belowK_b->xd,boxed_own->oz,ownFrom_below->vo,run_takeDeferred->sa,grownBy_putObj'->pb
open Go.Act renaming put->ez
open Go.Boxed renaming new->sf
open Go.Fence renaming wide->ri
open Go.IntKind renaming wrap->di,bits->dj,signed->cz
open Go.KeepsOthers renaming alloc->rl,setCell->jx
open Go.Lib renaming hid->aa
open Go.Oper renaming semAt_some->abm
open Go.Proofs.Tryz renaming prog->ab,func187->aai,func186->acv,func160->acw,underlying31->bz,underlying95->ly,underlying98->lz
open Go.Region renaming wanted->ee
open Go.RowKit.Below renaming refl->aj,trans->qd,mono->rj,drew->tg
open Go.World renaming cell?->lg,size_alloc->px,putObj_heap_other->xo
open List renaming size_toArray->ei,length_cons->gp,length_nil->ox,push_toArray->rk,append_toArray->qk,nil_append->tc,cons_append->rz,range->ay,drop_succ_cons->cq,drop_zero->df
open List.range renaming loop->dc
open Nat renaming reduceAdd->vf,reduceSub->vi,le_refl->af,zero_le->cr
open Prod.mk renaming inj->fp
open Bool renaming false->ns,true->nr
open Go renaming Program->ma,TypeId->nz,Value->ny,World->nu,undef->mc
open Go.Ending renaming returned->np
open Go.IntKind renaming i64->O
open Go.Value renaming bool->ni,int->U,pointer->nj,slice->ng,string->nh,tuple->nq
open Option renaming none->V,some->I
open Go.Proofs.YtmadfhgiaonnlaaGreatDoor renaming Blk->mg
set_option maxRecDepth 100000
set_option maxHeartbeats 8000000
set_option linter.unusedVariables false
set_option linter.unusedSimpArgs false
namespace Go.Proofs.YtmadfhgiaonnlaaGreatDoor
namespace Nbr
open Go.RowKit
attribute [local go_sem] abm
abbrev i (n:Int):ny:=U O n
def intOf:ny->Int
 | .int _ n=>n
 | _=>0
abbrev qi6 (x:Int×Int):ny:=.agg #[i x.1,i x.2]
abbrev nbV (f:Nat->Int×Int) (x:Nat):Array ny:=#[qi6 (f x),qi6 (f (x+1))]
def qup(n₀ Bs:Nat)(W W':nu):Prop:=Below n₀ W W'/\W'.heap[Bs]? = W.heap[Bs]?
theorem qup.trans{n₀ Bs:Nat}{A B C:nu}(h:qup n₀ Bs A B)(k:qup n₀ Bs B C):qup n₀ Bs A C:=⟨h.1.trans k.1,k.2.trans h.2⟩
theorem qup.refl(n₀ Bs:Nat)(W:nu):qup n₀ Bs W W:=⟨aj _ _,rfl⟩
theorem qup.cell{n₀ Bs:Nat}{A B:nu}(h:qup n₀ Bs A B)(o:Nat):B.cell? ⟨Bs,o,V⟩=A.cell? ⟨Bs,o,V⟩:=by unfold lg;simp only[h.2]
def Rds(W:nu)(n₀:Nat)(A:Option Addr)(len:Nat)(f:Nat->Int×Int):Prop:=∀j,j<len->∃b off,A=I ⟨b,off,V⟩/\b<n₀/\W.cell? ⟨b,off+j*2,V⟩=I (i (f j).1)/\W.cell? ⟨b,off+j*2+1,V⟩=I (i (f j).2)
theorem Rds.below{W W':nu}{n₀:Nat}{A:Option Addr}{len:Nat}{f:Nat->Int×Int}(h:Rds W n₀ A len f)(hb:Below n₀ W W'):Rds W' n₀ A len f:=λj hj=>by
 obtain⟨b,off,e,h1,h2,h3⟩:=h j hj;exact⟨b,off,e,h1,(hb.cell (p:=⟨b,_,V⟩) h1).trans h2,(hb.cell (p:=⟨b,_,V⟩) h1).trans h3⟩
theorem nb1(F:Fence)(n:Nat)(hf:F.fn 187)(hro:F.round=V)(hn:1<=n)(l' Bs n₀:Nat)(A:Option Addr)(len c:Nat)(f:Nat->Int×Int)(hlen:len<=1048576)(J Jx:List Nat->nu->Prop)
  (hY:∀pre x W,J pre W->pre.length<len->YieldAt F (n-1) ab l' (nbV f x) W λe W'=>
    (e=np (ni nr)/\J (pre++[x]) W'/\qup n₀ Bs W W')\/(e=np (ni ns)/\Jx (pre++[x]) W'))
  (W:nu) (hBs:W.cell? ⟨Bs,0,V⟩=I (ng A len c))
  (hR:Rds W n₀ A len f) (h0:J [] W) (hJd:∀pre W,J pre W->J pre W.drew) :
  CallsIn F n ab 187 #[.func (.yield l') #[] #[],nj (I ⟨Bs,0,V⟩)] W λe W'=>(∃v,e=np v) /\
   ((∃ys,True/\J ys W')\/(∃pre,True/\Jx pre W')):=by
 refine callsIn_of_wp aai rfl hf ?_ hro;simp only[Tryz.ntmps187,ei,gp,ox,vf,vi,pr,pw,rk,qk,tc,rz];have HR:=aa hR;clear hR
 gi_wp2
 gi_loopw [3] (λs3 wr=>∃(k:Nat) (pre:List Nat),pre.length+1=k/\(k<=len\/k=1)/\s3=i k/\J pre wr/\Hid (qup n₀ Bs W wr))
  (λs3 _=>len-(intOf s3).toNat)
 case atStart=>exact⟨1,[],rfl,.inr rfl,rfl,h0,qup.refl _ _ _⟩
 case round=>
  obtain⟨k,pre,hpl,hkl,rfl,hJs,HB⟩:=hrel;have cBs:wr.cell? ⟨Bs,0,V⟩=I (ng A len c):=(HB.out.cell 0).trans hBs;by_cases hlt:k<len
  .obtain⟨j,rfl⟩:∃j,k=j+1:=⟨k-1,kg⟩;have hJ':pre.length<len:=kg;obtain⟨fn,tmps,assign,body,hy,hRd⟩:=hY pre j wr.drew (hJd _ _ hJs) hJ'
   dsimp only[nbV] at hy
   have hltz:((j+1:Nat):Int)<(len:Int):=kg;have hjz:((j+1:Nat):Int)-1=(j:Int):=kg;have hjw:IntKind.i64.wrap (j:Int)=(j:Int):=IntWalk.i64_in _ kg;obtain⟨b,off,rfl,hb0,q0,q1⟩:=HR.out.below HB.out.1 j kg;obtain⟨b',off',e,-,z0,z1⟩:=HR.out.below HB.out.1 (j+1) hlt;obtain⟨rfl,rfl⟩:b=b'/\off=off':=by simpa using e
   clear e;generalize f j=xa at *;generalize f (j+1)=xb at *;obtain⟨a0,a1⟩:=xa;obtain⟨b0,b1⟩:=xb;simp only at *
   gi_wp2
   refine Reg5.quiet 10 (λk=>match k with|0=>(.func (.yield l') #[] #[])|1=>(ng (I ⟨b,off,V⟩) len c)|2=>(i ((j+1:Nat):Int))|3=>(i (j:Int))|4=>(nj (I ⟨b,off+j*2,V⟩))|5=>(.agg #[i a0,i a1])|6=>(ng (I ⟨b,off,V⟩) len c)|7=>(i ((j+1:Nat):Int))|8=>(nj (I ⟨b,off+(j+1)*2,V⟩))|9=>(.agg #[i b0,i b1])|_=>mc) ki ki ki ?_ ?_ ?_
   .exact qx.qqq (n:=22) ki rfl
   .intro j o hj ho a qh;have hj':j=0\/j=1\/j=2\/j=3\/j=4\/j=5\/j=6\/j=7\/j=8\/j=9:=kg;rcases hj' with rfl|rfl|rfl|rfl|rfl|rfl|rfl|rfl|rfl|rfl
    all_goals
     cases oi ho;clear ho hj
    .have h0:a.tmps[0]?.getD mc=(.func (.yield l') #[] #[]):=gdq (qh 0 nf);go_simp
    .have h1:a.tmps[1]?.getD mc=(nj (I ⟨Bs,0,V⟩)):=gdq (qh 1 nf);go_simp
    .have h3:a.tmps[3]?.getD mc=(i ((j+1:Nat):Int)):=gdq (qh 3 nf);go_simp
    .have qd8:a.tmps[12]?.getD mc=(i ((j+1:Nat):Int)):=gdq (qh 12 nf);go_simp
    .have h11:a.tmps[11]?.getD mc=(ng (I ⟨b,off,V⟩) len c):=gdq (qh 11 nf);have h13:a.tmps[13]?.getD mc=(i (j:Int)):=gdq (qh 13 nf);go_simp
     all_goals(try(intro hx;exfalso;omega))
    .have qtl:a.tmps[14]?.getD mc=(nj (I ⟨b,off+j*2,V⟩)):=gdq (qh 14 nf);go_simp
    .have h1:a.tmps[1]?.getD mc=(nj (I ⟨Bs,0,V⟩)):=gdq (qh 1 nf);go_simp
    .have h3:a.tmps[3]?.getD mc=(i ((j+1:Nat):Int)):=gdq (qh 3 nf);go_simp
    .have qr5:a.tmps[16]?.getD mc=(ng (I ⟨b,off,V⟩) len c):=gdq (qh 16 nf);have qmg:a.tmps[17]?.getD mc=(i ((j+1:Nat):Int)):=gdq (qh 17 nf);go_simp
     all_goals(try(intro hx;exfalso;omega))
    .have qiu:a.tmps[18]?.getD mc=(nj (I ⟨b,off+(j+1)*2,V⟩)):=gdq (qh 18 nf);go_simp
   .simp only[qx.puts,qx.zi,ay,dc,if_true,cq,df]
    gi_wp2
    refine hRd.mono ?_;rintro e W3 (⟨rfl,hJ3,hk3⟩|⟨rfl,hJx3⟩)
    .gi_wp2
     go_roundw
     case rel=>exact⟨j+2,_,nc,kg,by go_num,hJ3,⟨HB.out.1.trans ((aj n₀ wr).drew.trans hk3.1),hk3.2.trans HB.out.2⟩⟩
     case measure=>simp[intOf];omega
    .gi_wp2
     refine bodyPost_ret (results_none rfl _ _ _) rfl ?_
     first|exact⟨⟨_,rfl⟩,.inr ⟨_,trivial,hJx3⟩⟩|exact⟨⟨_,rfl⟩,.inr ⟨_,hJx3⟩⟩|exact .inr ⟨_,hJx3⟩
  .have hltz:¬(k:Int)<(len:Int):=kg
   gi_wp2
   go_end0
   first|exact⟨⟨_,rfl⟩,.inl ⟨_,trivial,hJs⟩⟩|exact⟨⟨_,rfl⟩,.inl ⟨_,hJs⟩⟩|exact .inl ⟨_,hJs⟩
theorem nb(F:Fence)(n:Nat)(hf:F.fn 179)(hro:F.round=V)(A:Option Addr)(len c:Nat)(w:nu) :
  CallsIn F n ab 179 #[ng A len c] w λe w'=>e=np (.func (.func 187) #[] #[nj (I ⟨w.heap.size,0,V⟩)])/\w'=w.alloc (.cells #[ng A len c] 23):=by
 refine callsIn_of_wp Tryz.func179 rfl hf ?_ hro;simp only[Tryz.ntmps179,ei,gp,ox,vf,vi,pr,pw,rk,qk,tc,rz]
 gi_wp2
 go_ret;exact⟨rfl,rfl⟩
theorem qo0(F:Fence)(n:Nat)(hf:F.fn 187)(hro:F.round=V)(hn:1<=n)(Bs n₀:Nat)(A:Option Addr)(len c:Nat)(f:Nat->Int×Int)(hlen:len<=1048576)(w:nu)(hBs:Bs<w.heap.size)(hn₀:n₀<=w.heap.size)
  (hc:w.cell? ⟨Bs,0,V⟩=I (ng A len c)) (hR:Rds w n₀ A len f) :
  SeqStopsK F n ab 187 #[nj (I ⟨Bs,0,V⟩)] (nbV f) (qup n₀ Bs) (λ_=>True) (λ_=>True) len w:=λl' J Jx W hW hJ _ hY h0=>by
 refine nb1 F n hf hro hn l' Bs n₀ A len c f hlen J Jx hY W ((hW.cell (p:=⟨Bs,0,V⟩) (by show Bs<_;omega)).trans hc) (hR.below (hW.mono hn₀)) h0 (λpre W' h=>?_);exact hJ pre W' W'.drew V h ⟨rfl,rfl,rfl,af _,λ_ _ _=>rfl⟩ (λr e=>by cases e)
end Nbr
namespace Sy
open Go.RowKit Nbr
variable {tmps:Array ny}{m:Int}{B B7 k n s0:Nat}{A:Option Addr}{t:nz}{S v:ny}{W:nu}
attribute [local go_sem] abm
section
variable {W0:nu}{T:Nat->Prop}{w:nu}
theorem qf0{X Y:nu}{row:Option Nat}{cs:Array ny}(h:mg X B t cs)(hg:X.grownBy Y row)(hr:∀r,row=I r->∃o:Obj,X.heap[r]? = I o/\o.isCells=ns):mg Y B t cs:=
 (hg.block B h.lt (λe=>by obtain⟨o,ho,hc⟩:=hr B e.symm;rw[show X.heap[B]? = _ from h] at ho;cases ho;cases hc)).trans h
theorem qln(h:tmps.getD 2 mc=nj (I ⟨B,0,V⟩))(k:Boxed W B t v):(results Tryz.f186 tmps).run ab W=.ok v W:=by
 have c:=k.cell;rw[au] at h;simp[results,Tryz.f186,go_sem,h,c]
theorem q5x(A:Option Addr)(len c:Nat)(f:Nat->Int×Int)(hlen:len<=1048576)(w:nu)(hR:Rds w w.heap.size A len f) :
  Calls ab 186 #[ng A len c] w λe w'=>∃q:Bool,e=np (ni q)/\Hid (Below w.heap.size w w'):=by
 refine(wx (n:=9)).1 ?_;have hro:ri.round=V:=rfl;have hn1:1<=9:=kg;have HR:=aa hR;clear hR;refine zv acv rfl trivial ?_ hro;simp only[Tryz.ntmps186,ei,gp,ox,vf,vi,pr,pw,rk,qk,tc,rz]
 gi_wp2_with (refine⟨trivial,?_⟩;gi_at_call 179;refine(nb ri 8 trivial hro _ _ _ _).mono ?_;rintro e w6 ⟨rfl,rfl⟩)
 have hb0:=qp (qp (aj w.heap.size w) (.cells #[ni ns] 4)) (.cells #[ng A len c] 23);have k2:=(sf w 4 (ni ns)).alloc (.cells #[ng A len c] 23);have ks:=sf (w.alloc (.cells #[ni ns] 4)) 23 (ng A len c);rw[px] at ks;have hsz:((w.alloc (.cells #[ni ns] 4)).alloc (.cells #[ng A len c] 23)).heap.size=w.heap.size+2:=kq;generalize (w.alloc (.cells #[ni ns] 4)).alloc (.cells #[ng A len c] 23)=w1 at *;have HRS:=aa (HR.out.below hb0);have HB0:=aa hb0;have hbs:=ks.cell
 refine zw hro hn1 (gf:=187) (lb:=#[nj (I ⟨w.heap.size+1,0,V⟩)]) rfl trivial (enters_of aai ki rfl)
  (qo0 ri 8 trivial hro kg (w.heap.size+1) w.heap.size A len c f hlen w1 kg HB0.out.size hbs HRS.out) qup.trans (λW l' o o' hl hlo _ _=>⟨xd HB0.out.size W l' o o' hl hlo ‹_› ‹_›,by rw[xo kg]⟩) (aj _ _) (λ_=>rfl)
  (λpre W=>Boxed W w.heap.size 4 (ni ns)/\Boxed W (w.heap.size+1) 23 (ng A len c)/\Below w.heap.size w W)
  (λcc pre W=>cc=.ret/\(∃q:Bool,Boxed W w.heap.size 4 (ni q))/\Below w.heap.size w W)
  ?hI ?hIx ⟨k2,ks,hb0⟩
  (λx a' W=>∃B3 B4,mg W B3 156 #[Nbr.i (f x).1,Nbr.i (f x).2]/\mg W B4 156 #[Nbr.i (f (x+1)).1,Nbr.i (f (x+1)).2]/\a'={ tmps:=#[ng A len c,mc,nj (I ⟨w.heap.size,0,V⟩),nj (I ⟨B3,0,V⟩),nj (I ⟨B4,0,V⟩),ng A len c,.func (.func 187) #[] #[nj (I ⟨w.heap.size+1,0,V⟩)],qi6 (f x),qi6 (f (x+1)),mc,mc,mc,mc,mc],defers:=[] })
  ?hAx ?assign ?body ?done ?stop
 case hI=>
  intro s X Y row hs hg hr;obtain⟨h1,h2,h3⟩:=hs;have hr2:∀r,row=I r->∃o:Obj,X.heap[r]? = I o/\o.isCells=ns:=λr e=>(hr r e).2
  exact⟨oz _ _ (λ_:Unit=>ni ns) () X Y row h1 hg hr2,oz _ _ (λ_:Unit=>ng A len c) () X Y row h2 hg hr2,vo (af _) kg () X Y row h3 hg hr⟩
 case hIx=>
  intro cc s X Y row hs hg hr;obtain⟨h0,⟨q,h1⟩,h3⟩:=hs;have hr2:∀r,row=I r->∃o:Obj,X.heap[r]? = I o/\o.isCells=ns:=λr e=>(hr r e).2
  exact⟨h0,⟨q,oz _ _ (λ_:Unit=>ni q) () X Y row h1 hg hr2⟩,vo (af _) kg () X Y row h3 hg hr⟩
 case hAx=>
  intro x a' _ X Y row hs hg hr;obtain⟨B3,B4,p1,p2,p3⟩:=hs;exact⟨B3,B4,qf0 p1 hg (λr e=>(hr r e).2),qf0 p2 hg (λr e=>(hr r e).2),p3⟩
 case assign=>
  rintro l' pre x W K ⟨h1,h2,h3⟩ hK;have hs3:=h3.size
  gi_wp2
  refine hK _ _ (((rl _ _).trans (rl _ _)).from _) ⟨((aj _ W).alloc hs3 _).alloc nc _,((h2.alloc _).alloc _).trans h2.symm⟩ ⟨(h1.alloc _).alloc _,(h2.alloc _).alloc _,(h3.alloc hs3 _).alloc nc _⟩ ⟨W.heap.size,W.heap.size+1,(mg.new W _ _).alloc _,?_,rfl⟩;have:=mg.new (W.alloc (.cells #[Nbr.i (f x).1,Nbr.i (f x).2] 156)) 156 #[Nbr.i (f (x+1)).1,Nbr.i (f (x+1)).2]
  rwa [px] at this
 case body=>
  rintro l' pre x a' W hl' ⟨r,hr⟩ ⟨h1,h2,h3⟩ ⟨B3,B4,p3,p4,rfl⟩ hlt;have c3:=p3.cell 0;have c4:=p4.cell 0;simp at c3 c4;have f2:=h1.frozen;have c2:=h1.cell;by_cases hle:(f (x+1)).1<=(f x).1
  .gi_wp2
   exact⟨(jx _ _ _).from _,rfl,⟨ns,h1.set _⟩,h3.setCell (p:=⟨w.heap.size,0,V⟩) (af _) _⟩
  .gi_wp2
   exact⟨KeepsFrom.refl _ _,qup.refl _ _ _,h1,h2,h3⟩
 case done=>
  rintro D ys W hD _ ⟨h1,h2,h3⟩ hK;have c2:=h1.cell;have f2:=h1.frozen
  gi_wp2
  have hK':=(jx W ⟨w.heap.size,0,V⟩ (ni nr)).same D _ hK rfl;refine⟨kq,.inl ⟨_,_,rfl,sa hK',?_⟩⟩;exact⟨ni nr,qln rfl ((h1.set (ni nr)).kept (pb _ D _) (λe=>by cases e;omega)),nr,rfl,(h3.setCell (p:=⟨w.heap.size,0,V⟩) (af _) _).trans (xd (w:=w) (af _) _ D _ _ kg hK' rfl rfl)⟩
 case stop=>
  rintro D c pre W hD _ ⟨rfl,⟨q,h1⟩,h3⟩ hK;have c2:=h1.cell
  gi_wp2
  refine⟨kq,.inl ⟨_,_,rfl,sa hK,?_⟩⟩;exact⟨ni q,qln rfl (h1.kept (pb _ D _) (λe=>by cases e;omega)),q,rfl,h3.trans (xd (w:=w) (af _) _ D _ _ kg hK rfl rfl)⟩
def qy7(n:Int):Prop:=-9223372036854775808<=n/\n<=9223372036854775807
theorem ret2{B4 B5:Nat}{e:Int}{t4 t5:nz}(h4:tmps.getD 4 mc=nj (I ⟨B4,0,V⟩))(h5:tmps.getD 5 mc=nj (I ⟨B5,0,V⟩))
  (k4:Boxed W B4 t4 v) (k5:Boxed W B5 t5 (Nbr.i e)):(results Tryz.f160 tmps).run ab W=.ok (nq #[v,Nbr.i e]) W:=by
 have c4:=k4.cell;have c5:=k5.cell;rw[au] at h4 h5;simp[results,Tryz.f160,go_sem,h4,h5,c4,c5]
def q7m(w:nu)(e:Ending)(w':nu):Prop:=∃z k:Int,e=np (nq #[Nbr.i z,Nbr.i k])/\qy7 z/\qy7 k/\Hid (Below w.heap.size w w')
theorem boxes(m:Int){w w1:nu}(hb:Below (((w.alloc (.cells #[Nbr.i m] 3)).alloc (.cells #[zI] 3)).alloc (.cells #[zI] 52)).heap.size (((w.alloc (.cells #[Nbr.i m] 3)).alloc (.cells #[zI] 3)).alloc (.cells #[zI] 52)) w1) :
  Boxed w1 w.heap.size 3 (Nbr.i m)/\Boxed w1 (w.heap.size+1) 3 (Nbr.i 0)/\Boxed w1 (w.heap.size+1+1) 52 (Nbr.i 0)/\Hid (Below w.heap.size w w1):=by
 have b3:=((sf w 3 (Nbr.i m)).alloc (.cells #[Nbr.i 0] 3)).alloc (.cells #[Nbr.i 0] 52);have b4:=(sf (w.alloc (.cells #[Nbr.i m] 3)) 3 (Nbr.i 0)).alloc (.cells #[Nbr.i 0] 52);have b5:=sf ((w.alloc (.cells #[Nbr.i m] 3)).alloc (.cells #[Nbr.i 0] 3)) 52 (Nbr.i 0);simp only[px] at b4 b5;exact⟨(hb.block _ b3.lt).trans b3,(hb.block _ b4.lt).trans b4,(hb.block _ b5.lt).trans b5,qg (qp (qp (qp (aj _ _) _) _) _) hb⟩
structure TI(s0 B7:Nat)(S:Value)(m:Int)(w W:World):Prop where
 b3:Boxed W s0 3 (Nbr.i m)
 b4:Boxed W (s0+1) 3 (Nbr.i 0)
 b5:Boxed W (s0+1+1) 52 (Nbr.i 0)
 b7:∃z,Boxed W B7 3 (Nbr.i z)/\qy7 z
 bs:Boxed W (B7+1) 23 S
 bw:Below s0 w W
theorem TI.alloc{s0 B7:Nat}{S:ny}{m:Int}{w W:nu}{o:Obj}(h:TI s0 B7 S m w W)(hs:s0<=w.heap.size):TI s0 B7 S m w (W.alloc o):=by
 obtain⟨z,h7,h8⟩:=h.b7;exact⟨h.b3.alloc o,h.b4.alloc o,h.b5.alloc o,⟨z,h7.alloc o,h8⟩,h.bs.alloc o,h.bw.alloc (by have:=h.bw.size;omega) o⟩
theorem TI.below{w W':nu}(h:TI s0 B7 S m w W)(hb:Below W.heap.size W W'):TI s0 B7 S m w W':=by
 obtain⟨z,h7,h8⟩:=h.b7;exact⟨(hb.block _ h.b3.lt).trans h.b3,(hb.block _ h.b4.lt).trans h.b4,(hb.block _ h.b5.lt).trans h.b5,⟨z,(hb.block _ h7.lt).trans h7,h8⟩,(hb.block _ h.bs.lt).trans h.bs,h.bw.trans (hb.mono (by have:=h.b3.lt;omega))⟩
theorem TI.own{N0:Nat}{w:nu}(h2:s0<=w.heap.size)(h4:s0<=N0):OwnFrom N0 (λ(_:List Nat) W=>TI s0 B7 S m w W):=by
 intro s X Y row h hg hr;have hr2:∀r,row=I r->∃o:Obj,X.heap[r]? = I o/\o.isCells=ns:=λr e=>(hr r e).2
 obtain⟨z,h7,h8⟩:=h.b7;exact⟨oz _ _ (λ_:Unit=>Nbr.i m) () X Y row h.b3 hg hr2,oz _ _ (λ_:Unit=>Nbr.i 0) () X Y row h.b4 hg hr2,oz _ _ (λ_:Unit=>Nbr.i 0) () X Y row h.b5 hg hr2,⟨z,oz _ _ (λ_:Unit=>Nbr.i z) () X Y row h7 hg hr2,h8⟩,oz _ _ (λ_:Unit=>S) () X Y row h.bs hg hr2,vo h2 h4 () X Y row h.bw hg hr⟩
theorem qwm(n:Int):qy7 (wrap64 n):=by
 unfold qy7 wrap64;omega
theorem q5j(A:Option Addr)(len c:Nat)(f:Nat->Int×Int)(m:Int)(hlen:len<=1048576)(w:nu)(hR:Rds w w.heap.size A len f)(hf:∀k,qy7 (f k).1/\qy7 (f k).2)
  (hV:∀W,Below w.heap.size w W->Calls ab 178 #[ng A len c,Nbr.i m] W λe w'=>∃k,e=np (Nbr.i k)/\qy7 k/\Below W.heap.size W w')
  (hD:∀W a b,Below w.heap.size w W->qy7 a->qy7 b->Calls ab 180 #[Nbr.i a,Nbr.i b,Nbr.i m] W λe w'=>∃z k,e=np (nq #[Nbr.i z,Nbr.i k])/\qy7 k/\Below W.heap.size W w') :
  Calls ab 160 #[ng A len c,Nbr.i m] w (q7m w):=by
 have HV:Hid (∀W,Below w.heap.size w W->CallsIn ri 8 ab 178 #[ng A len c,Nbr.i m] W λe w'=>∃k,e=np (Nbr.i k)/\qy7 k/\Below W.heap.size W w'):=λW hb=>wx.2 (hV W hb)
 have HDL:=aa hD;refine(wx (n:=9)).1 ?_;have hro:ri.round=V:=rfl;have hn1:1<=9:=kg;have HR:=aa hR;clear hR hV hD;refine zv acw rfl trivial ?_ hro;simp only[Tryz.ntmps160,ei,gp,ox,vf,vi,pr,pw,rk,qk,tc,rz]
 gi_wp2_with (refine⟨trivial,?_⟩;gi_at_call 178;refine(HV.out _ (qp (qp (qp (aj _ _) _) _) _)).mono ?_)
 rintro e w2 ⟨k,rfl,hk,hb⟩;obtain⟨b3,b4,b5,HB⟩:=boxes m hb;clear hb;have c3:=b3.cell;have c4:=b4.cell;have c5:=b5.cell;have f4:=b4.frozen;have f5:=b5.frozen;by_cases h0:k=0
 .subst h0
  gi_wp2_with (refine⟨trivial,?_⟩;gi_at_call 179;refine(nb ri 8 trivial hro _ _ _ _).mono ?_;rintro e w6 ⟨rfl,rfl⟩)
  have hsz2:=HB.out.size;have g7:=(sf w2 3 (Nbr.i 0)).alloc (.cells #[ng A len c] 23);have gs:=sf (w2.alloc (.cells #[Nbr.i 0] 3)) 23 (ng A len c);rw[px] at gs
  have hTI:TI w.heap.size w2.heap.size (ng A len c) m w ((w2.alloc (.cells #[Nbr.i 0] 3)).alloc (.cells #[ng A len c] 23)):=
   ⟨(b3.alloc _).alloc _,(b4.alloc _).alloc _,(b5.alloc _).alloc _,⟨0,g7,by unfold qy7;omega⟩,gs,qp (qp HB.out _) _⟩
  have hsz:((w2.alloc (.cells #[Nbr.i 0] 3)).alloc (.cells #[ng A len c] 23)).heap.size=w2.heap.size+2:=kq;have hl5:=b5.lt;clear c3 c4 c5 f4 f5 b3 b4 b5 g7 gs;generalize hB7:w2.heap.size=B7 at *;generalize (w2.alloc (.cells #[Nbr.i 0] 3)).alloc (.cells #[ng A len c] 23)=w1 at *;have HRS:=aa (HR.out.below hTI.bw);have hbs:=hTI.bs.cell
  refine zw hro hn1 (gf:=187) (lb:=#[nj (I ⟨B7+1,0,V⟩)]) rfl trivial (enters_of aai ki rfl)
   (qo0 ri 8 trivial hro kg (B7+1) w.heap.size A len c f hlen w1 kg hTI.bw.size hbs HRS.out) qup.trans (λW l' o o' hl hlo _ _=>⟨xd hTI.bw.size W l' o o' hl hlo ‹_› ‹_›,by rw[xo kg]⟩) (aj _ _) (λ_=>rfl)
   (λpre W=>TI w.heap.size B7 (ng A len c) m w W)
   (λcc pre W=>cc=.ret/\(∃z k:Int,Boxed W (w.heap.size+1) 3 (Nbr.i z)/\Boxed W (w.heap.size+1+1) 52 (Nbr.i k)/\qy7 z/\qy7 k)/\Below w.heap.size w W)
   (TI.own (af _) kg) ?hIx hTI
   (λx a' W=>∃B8 B9,mg W B8 156 #[Nbr.i (f x).1,Nbr.i (f x).2]/\mg W B9 156 #[Nbr.i (f (x+1)).1,Nbr.i (f (x+1)).2]/\a'={ tmps:=#[ng A len c,Nbr.i m,mc,nj (I ⟨w.heap.size,0,V⟩),nj (I ⟨w.heap.size+1,0,V⟩),nj (I ⟨w.heap.size+1+1,0,V⟩),Nbr.i 0,nj (I ⟨B7,0,V⟩),nj (I ⟨B8,0,V⟩),nj (I ⟨B9,0,V⟩),mc,mc,ng A len c,Nbr.i m,Nbr.i 0,Nbr.i 0,ni ns,mc,ng A len c,.func (.func 187) #[] #[nj (I ⟨B7+1,0,V⟩)],qi6 (f x),qi6 (f (x+1)),mc,mc,mc,mc,mc,mc,mc,mc,mc,mc,mc,mc,mc,mc,mc,mc],defers:=[] })
   ?hAx ?assign ?body ?done ?stop
  case hIx=>
   intro cc s X Y row hs hg hr;obtain⟨h0,⟨z,k,h1,h2,h4⟩,h3⟩:=hs;have hr2:∀r,row=I r->∃o:Obj,X.heap[r]? = I o/\o.isCells=ns:=λr e=>(hr r e).2
   exact⟨h0,⟨z,k,oz _ _ (λ_:Unit=>Nbr.i z) () X Y row h1 hg hr2,oz _ _ (λ_:Unit=>Nbr.i k) () X Y row h2 hg hr2,h4⟩,vo (af _) kg () X Y row h3 hg hr⟩
  case hAx=>
   intro x a' _ X Y row hs hg hr;obtain⟨B8,B9,p1,p2,p3⟩:=hs;exact⟨B8,B9,qf0 p1 hg (λr e=>(hr r e).2),qf0 p2 hg (λr e=>(hr r e).2),p3⟩
  case assign=>
   rintro l' pre x W K hi hK;have hs3:=hi.bw.size
   gi_wp2
   refine hK _ _ (((rl _ _).trans (rl _ _)).from _) ⟨((aj _ W).alloc hs3 _).alloc nc _,((hi.bs.alloc _).alloc _).trans hi.bs.symm⟩ ((hi.alloc (af _)).alloc (af _)) ⟨W.heap.size,W.heap.size+1,(mg.new W _ _).alloc _,?_,rfl⟩;have:=mg.new (W.alloc (.cells #[Nbr.i (f x).1,Nbr.i (f x).2] 156)) 156 #[Nbr.i (f (x+1)).1,Nbr.i (f (x+1)).2]
   rwa [px] at this
  case body=>
   rintro l' pre x a' W hl' ⟨r,hr⟩ hi ⟨B8,B9,p8,p9,rfl⟩ hlt;have c8:=p8.cell 1;have c9:=p9.cell 1;simp at c8 c9;have c3:=hi.b3.cell;have HI:=aa hi;obtain⟨q1,q2⟩:=hf x;obtain⟨q3,q4⟩:=hf (x+1);have HD2:=aa (λW hb=>HDL.out W (f x).2 (f (x+1)).2 hb q2 q4);generalize (f x).2=ra at *;generalize (f (x+1)).2=rb at *
   gi_wp2_with (refine⟨trivial,?_⟩;gi_at_call 180;refine(CallsIn.inRound l' (wx.2 (HD2.out _ HI.out.bw))).mono ?_)
   rintro e W2 ⟨z,k,rfl,hk,hb⟩;have hi2:=HI.out.below hb;have HI2:=aa hi2;have c4:=hi2.b4.cell;have c5:=hi2.b5.cell;have f4:=hi2.b4.frozen;have f5:=hi2.b5.frozen;obtain⟨s7,h7,h8⟩:=hi2.b7;have c7:=h7.cell;have f7:=h7.frozen;have hkf:KeepsFrom w1.heap.size W W2:=⟨hb.size,λj o _ hj _=>(hb.block j (Array.getElem?_eq_some_iff.1 hj).1).trans hj⟩;have hkp:qup w.heap.size (B7+1) W W2:=⟨hb.mono (by have:=HI.out.b3.lt;omega),hi2.bs.trans HI.out.bs.symm⟩;by_cases h0:k=0
   .subst h0
    gi_wp2
    exact⟨hkf.trans ((jx _ _ _).from _),hkp.trans ⟨(aj _ W2).setCell (p:=⟨B7,0,V⟩) kg _,hi2.bs.other kg _ |>.trans hi2.bs.symm⟩,hi2.b3.other kg _,hi2.b4.other kg _,hi2.b5.other kg _,⟨_,h7.set _,qwm _⟩,hi2.bs.other kg _,hi2.bw.setCell (p:=⟨B7,0,V⟩) kg _⟩
   .have hkz:(k != 0)=nr:=by simpa using h0
    gi_wp2
    exact⟨hkf.trans (((jx _ _ _).trans (jx _ _ _)).from _),rfl,⟨0,k,(hi2.b4.set _).other kg _,(hi2.b5.other kg _).set _,by unfold qy7;omega,hk⟩,(hi2.bw.setCell (p:=⟨w.heap.size+1,0,V⟩) kq _).setCell (p:=⟨w.heap.size+1+1,0,V⟩) nc _⟩
  case done=>
   rintro D ys W hD _ hi hK;obtain⟨z,h7,h8⟩:=hi.b7;have c7:=h7.cell;have f4:=hi.b4.frozen;have c4:=hi.b4.cell;have f5:=hi.b5.frozen;have c5:=hi.b5.cell
   gi_wp2
   have hK':=(jx _ ⟨w.heap.size+1+1,0,V⟩ (Nbr.i 0)).same D _ ((jx W ⟨w.heap.size+1,0,V⟩ (Nbr.i z)).same D _ hK rfl) rfl;refine⟨kq,.inl ⟨_,_,rfl,sa hK',?_⟩⟩;exact⟨nq #[Nbr.i z,Nbr.i 0],ret2 rfl rfl (((hi.b4.set (Nbr.i z)).other kg _).kept (pb _ D _) (λe=>by cases e;omega)) (((hi.b5.other kg _).set _).kept (pb _ D _) (λe=>by cases e;omega)),z,0,rfl,h8,by unfold qy7;omega,((hi.bw.setCell (p:=⟨w.heap.size+1,0,V⟩) kq _).setCell (p:=⟨w.heap.size+1+1,0,V⟩) nc _).trans (xd (w:=w) (af _) _ D _ _ kg hK' rfl rfl)⟩
  case stop=>
   rintro D c pre W hD _ ⟨rfl,⟨z,k,h1,h2,h4,h5⟩,h3⟩ hK;have c4:=h1.cell;have c5:=h2.cell
   gi_wp2
   refine⟨kq,.inl ⟨_,_,rfl,sa hK,?_⟩⟩;exact⟨nq #[Nbr.i z,Nbr.i k],ret2 rfl rfl (h1.kept (pb _ D _) (λe=>by cases e;omega)) (h2.kept (pb _ D _) (λe=>by cases e;omega)),z,k,rfl,h4,h5,h3.trans (xd (w:=w) (af _) _ D _ _ kg hK rfl rfl)⟩
 .have hkz:(k != 0)=nr:=by simpa using h0
  gi_wp2
  exact⟨nq #[Nbr.i 0,Nbr.i k],ret2 rfl rfl ((b4.set _).other kg _) ((b5.other kg _).set _),0,k,rfl,by unfold qy7;omega,hk,(HB.out.setCell (p:=⟨w.heap.size+1,0,V⟩) kq _).setCell (p:=⟨w.heap.size+1+1,0,V⟩) nc _⟩
theorem q1f{c:Nat}(hw:WTc W0 T w)(h:CVc W0 T w w.heap.size (.sl 0 156 1024) (ng A n c)):∃f,Rds w w.heap.size A n f/\∀k,qy7 (f k).1/\qy7 (f k).2:=by
 have hx:∀j,∃p:Int×Int,(qy7 p.1/\qy7 p.2)/\(j<n->∃b off,A=I ⟨b,off,V⟩/\b<w.heap.size/\w.cell? ⟨b,off+j*2,V⟩=I (Nbr.i p.1)/\w.cell? ⟨b,off+j*2+1,V⟩=I (Nbr.i p.2)):=by
  intro j;by_cases hj:j<n
  .obtain⟨b,off,rfl⟩:∃b off,A=I ⟨b,off,V⟩:=by
    rcases h with h|⟨-,h⟩|⟨b,off,_,_,h,-⟩
    .injection h with h1 h2 h3;omega
    .cases h with
     | nil=>omega
     | emp=>omega
     | sl=>exact⟨_,_,rfl⟩
    .injection h with h1 h2 h3;exact⟨b,off,h1⟩
   have hel:=h.elem (i:=j) hj;have hsz:cx.tb.sz 156=2:=rfl;rw[hsz] at hel;obtain⟨v0,c0,n0,rfl,t0⟩:=hw.load hel (k:=0) (ct:=qy O) rfl;obtain⟨v1,c1,n1,rfl,t1⟩:=hw.load hel (k:=1) (ct:=qy O) rfl;refine⟨(n0,n1),⟨t0,t1⟩,λ_=>⟨b,off,rfl,?_,c0,c1⟩⟩;rcases Nat.lt_or_ge b w.heap.size with h1|h1
   .exact h1
   .simp[lg,Array.getElem?_eq_none h1] at c0
  .exact⟨(0,0),⟨by unfold qy7;omega,by unfold qy7;omega⟩,λh=>absurd h hj⟩
 obtain⟨f,hf⟩:=Classical.axiomOfChoice hx;exact⟨f,λj hj=>(hf j).2 hj,λk=>(hf k).1⟩
theorem qn9{lb base:Nat}{e:nz}(h:CVc W0 T w base (.sl 0 e lb) v):∃A n c,v=ng A n c/\n<=lb:=by
 rcases h with h|⟨-,h⟩|⟨b,off,n,c,h,h1,h2,-⟩
 .exact⟨_,_,_,h,cr _⟩
 .cases h with
  | nil=>exact⟨_,_,_,rfl,cr _⟩
  | emp a=>exact⟨_,_,_,rfl,cr _⟩
  | sl f hb hn hl=>exact⟨_,_,_,rfl,hl⟩
 .exact⟨_,n,_,h,h2⟩
def c186':zu:=⟨[.one (.sl 0 156 1024)],[],[.one .bool],[],nr,V⟩
theorem q0s:qm ab cx W0 186 c186':=by
 refine holds_one (ct:=.bool) ⟨_,acv,ki,ki⟩ rfl rfl rfl λT w args hw hty _=>?_
 rcases args with _|⟨v,_|⟨u,l⟩⟩
 .exact hty.elim
 .have hv:CVc W0 T w w.heap.size (.sl 0 156 1024) v:=hty.1;obtain⟨A,n,c,rfl,hn⟩:=qn9 hv;obtain⟨f,hf,-⟩:=q1f hw hv;refine(q5x A n c f kg w hf).mono ?_;rintro e w' ⟨q,rfl,hb⟩;exact⟨_,rfl,⟨q,rfl⟩,hb.out⟩
 .exact hty.2.elim
theorem qf7{w':nu}{T':Nat->Prop}(h:zg T w nr T' w'):Below w.heap.size w w':=⟨h.os,h.tape,h.output,h.size,λb hb=>h.keep b hb (.inl rfl)⟩
def qwc:zu:=⟨[.one (.sl 0 156 1024),.one (qy O)],[],[.one (qy O),.one (qy O)],[],nr,V⟩
theorem q1o(h178:qm ab cx W0 178 c178)(h180:qm ab cx W0 180 c180):qm ab cx W0 160 qwc:=by
 refine⟨⟨_,acw,ki,ki⟩,λT w args hw hty _=>?_⟩;have hlen:=uk hty
 obtain⟨v,u1,e⟩:∃v u1,args=#[v,u1]:=by
  obtain⟨l⟩:=args;rcases l with _|⟨a,_|⟨b,_|⟨c,l⟩⟩⟩<;>first|(simp[qwc] at hlen;done)|exact⟨_,_,rfl⟩
 subst e;obtain⟨hv,⟨m,rfl,m1,m2⟩,-⟩:=hty;have hv:CVc W0 T w w.heap.size (.sl 0 156 1024) v:=hv;obtain⟨A,n,c,rfl,hn⟩:=qn9 hv;obtain⟨f,hf,hr⟩:=q1f hw hv;refine(q5j A n c f m kg w hf hr ?_ ?_).mono ?_
 .intro W hb;obtain⟨hW,hx⟩:=zh hw hb;refine(h178.2 T W #[ng A n c,Nbr.i m] hW ⟨show CVc W0 T W W.heap.size (.sl 0 156 1024) _ from ?_,⟨m,rfl,m1,m2⟩,trivial⟩ (λl hl=>by cases hl)).mono ?_
  .rcases hv.mono hx (af _) with h|h|⟨b,off,n',c',a1,a2,a3,a4,a5,a6,a7⟩
   .exact .inl h
   .exact .inr (.inl h)
   .exact .inr (.inr ⟨b,off,n',c',a1,a2,a3,a4,a5,λh=>kg,a7⟩)
  .rintro e w' ⟨v,vs,T',rfl,hr,hty,-,-,hh,-⟩;have hr:vs=[v]:=hr;subst hr;obtain⟨⟨k,rfl,k1,k2⟩,-⟩:=hty;exact⟨k,rfl,⟨k1,k2⟩,qf7 hh⟩
 .intro W a b hb ha hb2;obtain⟨hW,hx⟩:=zh hw hb;refine(h180.2 T W #[Nbr.i a,Nbr.i b,Nbr.i m] hW ⟨⟨a,rfl,ha.1,ha.2⟩,⟨b,rfl,hb2.1,hb2.2⟩,⟨m,rfl,m1,m2⟩,trivial⟩ (λl hl=>by cases hl)).mono ?_;rintro e w' ⟨v,vs,T',rfl,hr,hty,-,-,hh,-⟩;have hl2:=uk hty
  obtain⟨x,y,rfl⟩:∃x y,vs=[x,y]:=by
   rcases vs with _|⟨a,_|⟨b,_|⟨c,l⟩⟩⟩<;>first|(simp[c180] at hl2;done)|exact⟨_,_,rfl⟩
  have hr:v=nq #[x,y]:=hr;subst hr;obtain⟨⟨z,rfl,-⟩,⟨k,rfl,k1,k2⟩,-⟩:=hty;exact⟨z,k,rfl,⟨k1,k2⟩,qf7 hh⟩
 .rintro e w' ⟨z,k,rfl,z1,k1,hb⟩;obtain⟨w1,w2⟩:=zh hw hb.out;exact⟨_,[Nbr.i z,Nbr.i k],T,rfl,rfl,⟨⟨z,rfl,z1.1,z1.2⟩,⟨k,rfl,k1.1,k1.2⟩,trivial⟩,(λl hl=>by cases hl),(λe he=>by cases he),zk hw hb.out,w1⟩
end
open Go.RowKit
section
variable {W0:nu}{T:Nat->Prop}{w:nu}
theorem vz{w:nu}{f:Nat->Int×Int}(hR:Nbr.Rds w w.heap.size A n f)(hB:Below w.heap.size w W):Nbr.Rds W W.heap.size A n f:=λj hj=>by
 obtain⟨b,off,e,h1,h2,h3⟩:=hR.below hB j hj;exact⟨b,off,e,Nat.lt_of_lt_of_le h1 hB.size,h2,h3⟩
def qqr(w:nu)(A:Option Addr)(n k:Nat)(f:Nat->List ny):Prop:=∀j,j<n->∃b off,A=I ⟨b,off,V⟩/\∀W,Below w.heap.size w W->∀(o:Nat) (u:ny),(f j)[o]? = I u->W.cell? ⟨b,off+j*k+o,V⟩=I u
theorem qqr.grow{w:nu}{f:Nat->List ny}(h:qqr w A n k f)(hB:Below w.heap.size w W):qqr W A n k f:=λj hj=>by
 obtain⟨b,off,e,h2⟩:=h j hj;exact⟨b,off,e,λW' hb=>h2 W' (qg hB hb)⟩
def qxn(w:nu)(A B:Option Addr)(n k:Nat)(R:List ny->List ny->Prop):Prop:=∀j,j<n->∃(ba oa bb ob:Nat) (r r':List ny),A=I ⟨ba,oa,V⟩/\B=I ⟨bb,ob,V⟩/\R r r' /\
 (∀W,Below w.heap.size w W->∀(o:Nat) (u:ny),r[o]? = I u->W.cell? ⟨ba,oa+j*k+o,V⟩=I u)/\∀W,Below w.heap.size w W->∀(o:Nat) (u:ny),r'[o]? = I u->W.cell? ⟨bb,ob+j*k+o,V⟩=I u
theorem qxn.grow{w:nu}{B:Option Addr}{R R':List ny->List ny->Prop}(h:qxn w A B n k R)(hB:Below w.heap.size w W)(hR:∀r r',R r r'->R' r r'):qxn W A B n k R':=λj hj=>by
 obtain⟨ba,oa,bb,ob,r,r',e1,e2,h1,h2,h3⟩:=h j hj;exact⟨ba,oa,bb,ob,r,r',e1,e2,hR r r' h1,λW' hb=>h2 W' (qg hB hb),λW' hb=>h3 W' (qg hB hb)⟩
def qtn(r:List ny):Prop:=∃(s0 s1 s2:ByteArray) (n3 n4 n5:Int),r=[nh s0,nh s1,nh s2,U O n3,U O n4,U O n5]
theorem q1t(A B:Option Addr)(n c d:Nat)(f:Nat->Int×Int)(w:nu)(hn:n<=1048576)(hR:Nbr.Rds w w.heap.size A n f)(hR':Nbr.Rds w w.heap.size B n f) :
  Calls ab 65 #[ng A n c,ng B n d] w λe w'=>e=np (ni nr)/\Hid (Below w.heap.size w w'):=by
 have HR:=aa hR;have HS:=aa hR';clear hR hR';go_enter Tryz.func65,Tryz.ntmps65;go_wp2_with fail;go_loopg [5] n (λgg s5 wr=>∃j:Nat,j+gg=n/\s5=U O j/\Hid (Below w.heap.size w wr))
 case atStart=>exact⟨0,kg,rfl,aa (aj _ _)⟩
 case round=>
  obtain⟨j,hj,rfl,HB⟩:=hrel;by_cases hjn:j<n
  .obtain⟨b,off,rfl,hb,h0,h1⟩:=HR.out.below HB.out j hjn;obtain⟨b',off',rfl,hb',h0',h1'⟩:=HS.out.below HB.out j hjn;have hltz:(j:Int)<(n:Int):=kg;have hj0:(0:Int)<=(j:Int):=kg;have e4:IntKind.i64.wrap ((j:Int)+1)=((j+1:Nat):Int):=by simp[di,dj,cz];omega
   generalize (f j).1=x at *;generalize (f j).2=y at *;go_wp2_with fail
   go_quiet (fail)
   go_wp2_with fail;go_roundg (n-(j+1))
   case measure=>omega
   case rel=>exact⟨j+1,kg,kq,aa (by have:=HB.out;first|assumption|exact yf this _|(exact qd HB.out (rj na (HB.out.size))))⟩
  .have xm:n=j:=kg;subst xm;go_wp2_with fail;go_ret;exact⟨rfl,HB⟩
theorem same67(A B:Option Addr)(n c d:Nat)(f:Nat->List ny)(w:nu)(hn:n<=1048576)(hf:∀j,j<n->qtn (f j))(hR:qqr w A n 6 f)(hR':qqr w B n 6 f) :
  Calls ab 67 #[ng A n c,ng B n d] w λe w'=>e=np (ni nr)/\Hid (Below w.heap.size w w'):=by
 have HR:=aa hR;have HS:=aa hR';clear hR hR';go_enter Tryz.func67,Tryz.ntmps67;go_wp2_with fail;go_loopg [5] n (λgg s5 wr=>∃j:Nat,j+gg=n/\s5=U O j/\Hid (Below w.heap.size w wr))
 case atStart=>exact⟨0,kg,rfl,aa (aj _ _)⟩
 case round=>
  obtain⟨j,hj,rfl,HB⟩:=hrel;by_cases hjn:j<n
  .obtain⟨b,off,rfl,hcl⟩:=HR.out j hjn;obtain⟨b',off',rfl,hcl'⟩:=HS.out j hjn;obtain⟨s0,s1,s2,n3,n4,n5,hfj⟩:=hf j hjn;have hcw:=hcl wr HB.out;have qzh:=hcl' wr HB.out;rw[hfj] at hcw qzh;have h0:wr.cell? ⟨b,off+j*6,V⟩=I (nh s0):=by simpa using hcw 0 _ rfl
   have h1:=hcw 1 _ rfl;have h2:=hcw 2 _ rfl;have h3:=hcw 3 _ rfl;have h4:=hcw 4 _ rfl;have h5:=hcw 5 _ rfl;have h0':wr.cell? ⟨b',off'+j*6,V⟩=I (nh s0):=by simpa using qzh 0 _ rfl
   have h1':=qzh 1 _ rfl;have h2':=qzh 2 _ rfl;have h3':=qzh 3 _ rfl;have h4':=qzh 4 _ rfl;have h5':=qzh 5 _ rfl;clear hcl hcw hcl' qzh hfj;have hltz:(j:Int)<(n:Int):=kg;have hj0:(0:Int)<=(j:Int):=kg;have e4:IntKind.i64.wrap ((j:Int)+1)=((j+1:Nat):Int):=by simp[di,dj,cz];omega
   go_wp2_with fail
   go_quiet (fail)
   go_wp2_with fail;go_roundg (n-(j+1))
   case measure=>omega
   case rel=>exact⟨j+1,kg,kq,aa (by have:=HB.out;first|assumption|exact yf this _|(exact qd HB.out (rj na (HB.out.size))))⟩
  .have xm:n=j:=kg;subst xm;go_wp2_with fail;go_ret;exact⟨rfl,HB⟩
theorem same27(s0 s1:ByteArray)(n2 n3 n4 n5:Int)(s6:ByteArray)(b7:Bool)(n8:Int)(A B:Option Addr)(n c d:Nat)(f:Nat->Int×Int)(w:nu)(hn:n<=1048576)(hR:Nbr.Rds w w.heap.size A n f)(hR':Nbr.Rds w w.heap.size B n f) :
  Calls ab 27 #[.agg #[nh s0,nh s1,U O n2,U O n3,U O n4,U O n5,nh s6,ni b7,U O n8,ng A n c],.agg #[nh s0,nh s1,U O n2,U O n3,U O n4,U O n5,nh s6,ni b7,U O n8,ng B n d]] w λe w'=>e=np (ni nr)/\Hid (Below w.heap.size w w'):=by
 have hB:=qp (zy w (.cells #[nh s0,nh s1,U O n2,U O n3,U O n4,U O n5,nh s6,ni b7,U O n8,ng A n c] 95)) (.cells #[nh s0,nh s1,U O n2,U O n3,U O n4,U O n5,nh s6,ni b7,U O n8,ng B n d] 95);have HB:=aa hB;have HC:=aa (q1t A B n c d f _ hn (vz hR hB) (vz hR' hB));clear hB hR hR';go_enter Tryz.func27,Tryz.ntmps27;go_wp2_with fail;refine HC.out.mono ?_;rintro e w5 ⟨rfl,hb⟩;have HB5:=aa (qg HB.out hb.out);go_wp2_with fail;go_ret;exact⟨rfl,HB5⟩
theorem same28(s0 s1:ByteArray)(n2:Int)(s3:ByteArray)(n4 n5 n7 n8:Int)(b9 b10:Bool)(A B:Option Addr)(n c d:Nat)(f:Nat->Int×Int)(w:nu)(hn:n<=1048576)(hR:Nbr.Rds w w.heap.size A n f)(hR':Nbr.Rds w w.heap.size B n f) :
  Calls ab 28 #[.agg #[nh s0,nh s1,U O n2,nh s3,U O n4,U O n5,ng A n c,U O n7,U O n8,ni b9,ni b10],.agg #[nh s0,nh s1,U O n2,nh s3,U O n4,U O n5,ng B n d,U O n7,U O n8,ni b9,ni b10]] w λe w'=>e=np (ni nr)/\Hid (Below w.heap.size w w'):=by
 have HR:=aa hR;have HS:=aa hR';clear hR hR';have HB1:=aa (qp (zy w (.cells #[nh s0,nh s1,U O n2,nh s3,U O n4,U O n5,ng A n c,U O n7,U O n8,ni b9,ni b10] 98)) (.cells #[nh s0,nh s1,U O n2,nh s3,U O n4,U O n5,ng B n d,U O n7,U O n8,ni b9,ni b10] 98));have HK2:=aa ((mg.new w 98 #[nh s0,nh s1,U O n2,nh s3,U O n4,U O n5,ng A n c,U O n7,U O n8,ni b9,ni b10]).alloc (.cells #[nh s0,nh s1,U O n2,nh s3,U O n4,U O n5,ng B n d,U O n7,U O n8,ni b9,ni b10] 98));have HK3:=aa (mg.new (w.alloc (.cells #[nh s0,nh s1,U O n2,nh s3,U O n4,U O n5,ng A n c,U O n7,U O n8,ni b9,ni b10] 98)) 98 #[nh s0,nh s1,U O n2,nh s3,U O n4,U O n5,ng B n d,U O n7,U O n8,ni b9,ni b10]);rw[show(w.alloc (.cells #[nh s0,nh s1,U O n2,nh s3,U O n4,U O n5,ng A n c,U O n7,U O n8,ni b9,ni b10] 98)).heap.size=w.heap.size+1 by simp] at HK3;go_enter Tryz.func28,Tryz.ntmps28;go_wp2_with fail;generalize (w.alloc (.cells #[nh s0,nh s1,U O n2,nh s3,U O n4,U O n5,ng A n c,U O n7,U O n8,ni b9,ni b10] 98)).alloc (.cells #[nh s0,nh s1,U O n2,nh s3,U O n4,U O n5,ng B n d,U O n7,U O n8,ni b9,ni b10] 98)=w1 at *;go_loopg [77] n (λgg s77 wr=>∃j:Nat,j+gg=n/\s77=U O j/\Hid (Below w1.heap.size w1 wr))
 case atStart=>exact⟨0,kg,rfl,aa (aj _ _)⟩
 case round=>
  obtain⟨j,hj,rfl,HB⟩:=hrel;have k2:=(HK2.out.call HB.out).cell 6;have k3:=(HK3.out.call HB.out).cell 6;simp at k2 k3;by_cases hjn:j<n
  .obtain⟨b,off,rfl,hb,h0,h1⟩:=HR.out.below (qg HB1.out HB.out) j hjn;obtain⟨b',off',rfl,hb',h0',h1'⟩:=HS.out.below (qg HB1.out HB.out) j hjn;have hltz:(j:Int)<(n:Int):=kg;have hj0:(0:Int)<=(j:Int):=kg;have e4:IntKind.i64.wrap ((j:Int)+1)=((j+1:Nat):Int):=by simp[di,dj,cz];omega
   generalize (f j).1=x at *;generalize (f j).2=y at *;go_wp2_with fail
   go_quiet (fail)
   go_wp2_with fail;go_roundg (n-(j+1))
   case measure=>omega
   case rel=>exact⟨j+1,kg,kq,aa (by have:=HB.out;first|assumption|exact yf this _|(exact qd HB.out (rj na (HB.out.size))))⟩
  .have xm:n=j:=kg;subst xm;go_wp2_with fail;go_ret;exact⟨rfl,qg HB1.out HB.out⟩
theorem same66(n0 n1 n2 n3 n4:Int)(s5:ByteArray)(n6 n7 n8 n9:Int)(A B:Option Addr)(n c d:Nat)(f:Nat->Int×Int)(w:nu)(hn:n<=1048576)(hR:Nbr.Rds w w.heap.size A n f)(hR':Nbr.Rds w w.heap.size B n f) :
  Calls ab 66 #[.agg #[U O n0,U O n1,U O n2,U O n3,U O n4,nh s5,U O n6,U O n7,U O n8,U O n9,ng A n c],.agg #[U O n0,U O n1,U O n2,U O n3,U O n4,nh s5,U O n6,U O n7,U O n8,U O n9,ng B n d]] w λe w'=>e=np (ni nr)/\Hid (Below w.heap.size w w'):=by
 have HR:=aa hR;have HS:=aa hR';clear hR hR';have HB1:=aa (qp (zy w (.cells #[U O n0,U O n1,U O n2,U O n3,U O n4,nh s5,U O n6,U O n7,U O n8,U O n9,ng A n c] 28)) (.cells #[U O n0,U O n1,U O n2,U O n3,U O n4,nh s5,U O n6,U O n7,U O n8,U O n9,ng B n d] 28));have HK2:=aa ((mg.new w 28 #[U O n0,U O n1,U O n2,U O n3,U O n4,nh s5,U O n6,U O n7,U O n8,U O n9,ng A n c]).alloc (.cells #[U O n0,U O n1,U O n2,U O n3,U O n4,nh s5,U O n6,U O n7,U O n8,U O n9,ng B n d] 28));have HK3:=aa (mg.new (w.alloc (.cells #[U O n0,U O n1,U O n2,U O n3,U O n4,nh s5,U O n6,U O n7,U O n8,U O n9,ng A n c] 28)) 28 #[U O n0,U O n1,U O n2,U O n3,U O n4,nh s5,U O n6,U O n7,U O n8,U O n9,ng B n d]);rw[show(w.alloc (.cells #[U O n0,U O n1,U O n2,U O n3,U O n4,nh s5,U O n6,U O n7,U O n8,U O n9,ng A n c] 28)).heap.size=w.heap.size+1 by simp] at HK3;go_enter Tryz.func66,Tryz.ntmps66;go_wp2_with fail;generalize (w.alloc (.cells #[U O n0,U O n1,U O n2,U O n3,U O n4,nh s5,U O n6,U O n7,U O n8,U O n9,ng A n c] 28)).alloc (.cells #[U O n0,U O n1,U O n2,U O n3,U O n4,nh s5,U O n6,U O n7,U O n8,U O n9,ng B n d] 28)=w1 at *;go_loopg [5] n (λgg s5 wr=>∃j:Nat,j+gg=n/\s5=U O j/\Hid (Below w1.heap.size w1 wr))
 case atStart=>exact⟨0,kg,rfl,aa (aj _ _)⟩
 case round=>
  obtain⟨j,hj,rfl,HB⟩:=hrel;have k2:=(HK2.out.call HB.out).cell 10;have k3:=(HK3.out.call HB.out).cell 10;simp at k2 k3;by_cases hjn:j<n
  .obtain⟨b,off,rfl,hb,h0,h1⟩:=HR.out.below (qg HB1.out HB.out) j hjn;obtain⟨b',off',rfl,hb',h0',h1'⟩:=HS.out.below (qg HB1.out HB.out) j hjn;have hltz:(j:Int)<(n:Int):=kg;have hj0:(0:Int)<=(j:Int):=kg;have e4:IntKind.i64.wrap ((j:Int)+1)=((j+1:Nat):Int):=by simp[di,dj,cz];omega
   generalize (f j).1=x at *;generalize (f j).2=y at *;go_wp2_with fail
   go_quiet (fail)
   go_wp2_with fail;go_roundg (n-(j+1))
   case measure=>omega
   case rel=>exact⟨j+1,kg,kq,aa (by have:=HB.out;first|assumption|exact yf this _|(exact qd HB.out (rj na (HB.out.size))))⟩
  .have xm:n=j:=kg;subst xm;go_wp2_with fail;go_ret;exact⟨rfl,qg HB1.out HB.out⟩
theorem same25(n0 n1 n2 n3 n4 n5 n6 n7:Int)(s8 s9 s10:ByteArray)(b11:Bool)(A1 B1:Option Addr)(m1 c1 d1:Nat)(p0 p1 p2 p3 p4:Int)(p5:ByteArray)(p6 p7 p8 p9:Int)(A2 B2:Option Addr)(m2 c2 d2:Nat)(A3 B3:Option Addr)(m3 c3 d3:Nat)(f1 f2:Nat->Int×Int)(f3:Nat->List ny)(w:nu)
  (z1:m1<=1048576) (z2:m2<=1048576) (z3:m3<=1048576) (r1:Nbr.Rds w w.heap.size A1 m1 f1) (r1':Nbr.Rds w w.heap.size B1 m1 f1) (r2:Nbr.Rds w w.heap.size A2 m2 f2) (r2':Nbr.Rds w w.heap.size B2 m2 f2) (t3:∀j,j<m3->qtn (f3 j)) (r3:qqr w A3 m3 6 f3) (r3':qqr w B3 m3 6 f3) :
  Calls ab 25 #[.agg #[U O n0,U O n1,U O n2,U O n3,U O n4,U O n5,U O n6,U O n7,nh s8,nh s9,nh s10,ni b11,ng A1 m1 c1,U O p0,U O p1,U O p2,U O p3,U O p4,nh p5,U O p6,U O p7,U O p8,U O p9,ng A2 m2 c2,ng A3 m3 c3],.agg #[U O n0,U O n1,U O n2,U O n3,U O n4,U O n5,U O n6,U O n7,nh s8,nh s9,nh s10,ni b11,ng B1 m1 d1,U O p0,U O p1,U O p2,U O p3,U O p4,nh p5,U O p6,U O p7,U O p8,U O p9,ng B2 m2 d2,ng B3 m3 d3]] w λe w'=>e=np (ni nr)/\Hid (Below w.heap.size w w'):=by
 have HB1:=aa (qp (zy w (.cells #[U O n0,U O n1,U O n2,U O n3,U O n4,U O n5,U O n6,U O n7,nh s8,nh s9,nh s10,ni b11,ng A1 m1 c1,U O p0,U O p1,U O p2,U O p3,U O p4,nh p5,U O p6,U O p7,U O p8,U O p9,ng A2 m2 c2,ng A3 m3 c3] 31)) (.cells #[U O n0,U O n1,U O n2,U O n3,U O n4,U O n5,U O n6,U O n7,nh s8,nh s9,nh s10,ni b11,ng B1 m1 d1,U O p0,U O p1,U O p2,U O p3,U O p4,nh p5,U O p6,U O p7,U O p8,U O p9,ng B2 m2 d2,ng B3 m3 d3] 31));have HK2:=aa ((mg.new w 31 #[U O n0,U O n1,U O n2,U O n3,U O n4,U O n5,U O n6,U O n7,nh s8,nh s9,nh s10,ni b11,ng A1 m1 c1,U O p0,U O p1,U O p2,U O p3,U O p4,nh p5,U O p6,U O p7,U O p8,U O p9,ng A2 m2 c2,ng A3 m3 c3]).alloc (.cells #[U O n0,U O n1,U O n2,U O n3,U O n4,U O n5,U O n6,U O n7,nh s8,nh s9,nh s10,ni b11,ng B1 m1 d1,U O p0,U O p1,U O p2,U O p3,U O p4,nh p5,U O p6,U O p7,U O p8,U O p9,ng B2 m2 d2,ng B3 m3 d3] 31));have HK3:=aa (mg.new (w.alloc (.cells #[U O n0,U O n1,U O n2,U O n3,U O n4,U O n5,U O n6,U O n7,nh s8,nh s9,nh s10,ni b11,ng A1 m1 c1,U O p0,U O p1,U O p2,U O p3,U O p4,nh p5,U O p6,U O p7,U O p8,U O p9,ng A2 m2 c2,ng A3 m3 c3] 31)) 31 #[U O n0,U O n1,U O n2,U O n3,U O n4,U O n5,U O n6,U O n7,nh s8,nh s9,nh s10,ni b11,ng B1 m1 d1,U O p0,U O p1,U O p2,U O p3,U O p4,nh p5,U O p6,U O p7,U O p8,U O p9,ng B2 m2 d2,ng B3 m3 d3]);rw[show(w.alloc (.cells #[U O n0,U O n1,U O n2,U O n3,U O n4,U O n5,U O n6,U O n7,nh s8,nh s9,nh s10,ni b11,ng A1 m1 c1,U O p0,U O p1,U O p2,U O p3,U O p4,nh p5,U O p6,U O p7,U O p8,U O p9,ng A2 m2 c2,ng A3 m3 c3] 31)).heap.size=w.heap.size+1 by simp] at HK3;have H1:Hid (∀W,Below w.heap.size w W->Calls ab 65 #[ng A1 m1 c1,ng B1 m1 d1] W λe w'=>e=np (ni nr)/\Hid (Below W.heap.size W w')):=λW hb=>q1t A1 B1 m1 c1 d1 f1 W z1 (vz r1 hb) (vz r1' hb)
 have H2:Hid (∀W,Below w.heap.size w W->Calls ab 66 #[.agg #[U O p0,U O p1,U O p2,U O p3,U O p4,nh p5,U O p6,U O p7,U O p8,U O p9,ng A2 m2 c2],.agg #[U O p0,U O p1,U O p2,U O p3,U O p4,nh p5,U O p6,U O p7,U O p8,U O p9,ng B2 m2 d2]] W λe w'=>e=np (ni nr)/\Hid (Below W.heap.size W w')):=λW hb=>same66 _ _ _ _ _ _ _ _ _ _ A2 B2 m2 c2 d2 f2 W z2 (vz r2 hb) (vz r2' hb)
 have H3:Hid (∀W,Below w.heap.size w W->Calls ab 67 #[ng A3 m3 c3,ng B3 m3 d3] W λe w'=>e=np (ni nr)/\Hid (Below W.heap.size W w')):=λW hb=>same67 A3 B3 m3 c3 d3 f3 W z3 t3 (r3.grow hb) (r3'.grow hb)
 clear r1 r2 r3 r1' r2' r3';go_enter Tryz.func25,Tryz.ntmps25;go_wp2_with fail;refine(H1.out _ HB1.out).mono ?_;rintro e w5 ⟨rfl,hb⟩;have HB5:=aa (qg HB1.out hb.out);have qg0:=aa (HK2.out.call hb.out);have qgz:=aa (HK3.out.call hb.out);have k2:=qg0.out.cell;have k3:=qgz.out.cell;clear HB1 HK2 HK3 hb;go_wp2_with fail;clear k2 k3;refine(H2.out _ HB5.out).mono ?_;rintro e w6 ⟨rfl,hb⟩;have HB6:=aa (qg HB5.out hb.out);have k2:=(qg0.out.call hb.out).cell;have k3:=(qgz.out.call hb.out).cell;clear HB5 qg0 qgz hb;go_wp2_with fail;clear k2 k3;refine(H3.out _ HB6.out).mono ?_;rintro e w7 ⟨rfl,hb⟩;have HB7:=aa (qg HB6.out hb.out);go_wp2_with fail;go_ret;exact⟨rfl,HB7⟩
def quj(w:nu)(r r':List ny):Prop:=∃(n0 n1 n2 n3 n4 n5 n6 n7:Int) (s8 s9 s10:ByteArray) (b11:Bool) (A1 B1:Option Addr) (m1 c1 d1:Nat) (p0 p1 p2 p3 p4:Int) (p5:ByteArray) (p6 p7 p8 p9:Int) (A2 B2:Option Addr) (m2 c2 d2:Nat) (A3 B3:Option Addr) (m3 c3 d3:Nat) (f1 f2:Nat->Int×Int) (f3:Nat->List ny),r=[U O n0,U O n1,U O n2,U O n3,U O n4,U O n5,U O n6,U O n7,nh s8,nh s9,nh s10,ni b11,ng A1 m1 c1,U O p0,U O p1,U O p2,U O p3,U O p4,nh p5,U O p6,U O p7,U O p8,U O p9,ng A2 m2 c2,ng A3 m3 c3]/\r'=[U O n0,U O n1,U O n2,U O n3,U O n4,U O n5,U O n6,U O n7,nh s8,nh s9,nh s10,ni b11,ng B1 m1 d1,U O p0,U O p1,U O p2,U O p3,U O p4,nh p5,U O p6,U O p7,U O p8,U O p9,ng B2 m2 d2,ng B3 m3 d3]/\m1<=1048576/\m2<=1048576/\m3<=1048576/\Nbr.Rds w w.heap.size A1 m1 f1/\Nbr.Rds w w.heap.size B1 m1 f1/\Nbr.Rds w w.heap.size A2 m2 f2/\Nbr.Rds w w.heap.size B2 m2 f2/\(∀j,j<m3->qtn (f3 j))/\qqr w A3 m3 6 f3/\qqr w B3 m3 6 f3
theorem quj.same{r r':List ny}(h:quj w r r')(W:nu)(hb:Below w.heap.size w W):Calls ab 25 #[.agg r.toArray,.agg r'.toArray] W λe w'=>e=np (ni nr)/\Hid (Below W.heap.size W w'):=by
 obtain⟨n0,n1,n2,n3,n4,n5,n6,n7,s8,s9,s10,b11,A1,B1,m1,c1,d1,p0,p1,p2,p3,p4,p5,p6,p7,p8,p9,A2,B2,m2,c2,d2,A3,B3,m3,c3,d3,f1,f2,f3,rfl,rfl,z1,z2,z3,r1,r1',r2,r2',t3,r3,r3'⟩:=h;exact same25 n0 n1 n2 n3 n4 n5 n6 n7 s8 s9 s10 b11 A1 B1 m1 c1 d1 p0 p1 p2 p3 p4 p5 p6 p7 p8 p9 A2 B2 m2 c2 d2 A3 B3 m3 c3 d3 f1 f2 f3 W z1 z2 z3 (vz r1 hb) (vz r1' hb) (vz r2 hb) (vz r2' hb) t3 (r3.grow hb) (r3'.grow hb)
theorem quj.grow{r r':List ny}(h:quj w r r'){W:nu}(hb:Below w.heap.size w W):quj W r r':=by
 obtain⟨n0,n1,n2,n3,n4,n5,n6,n7,s8,s9,s10,b11,A1,B1,m1,c1,d1,p0,p1,p2,p3,p4,p5,p6,p7,p8,p9,A2,B2,m2,c2,d2,A3,B3,m3,c3,d3,f1,f2,f3,rfl,rfl,z1,z2,z3,r1,r1',r2,r2',t3,r3,r3'⟩:=h;exact⟨n0,n1,n2,n3,n4,n5,n6,n7,s8,s9,s10,b11,A1,B1,m1,c1,d1,p0,p1,p2,p3,p4,p5,p6,p7,p8,p9,A2,B2,m2,c2,d2,A3,B3,m3,c3,d3,f1,f2,f3,rfl,rfl,z1,z2,z3,vz r1 hb,vz r1' hb,vz r2 hb,vz r2' hb,t3,r3.grow hb,r3'.grow hb⟩
end
end Sy
namespace Reg9G
def asB:ny->Option Bool
 | .bool b=>I b
 | _=>V
open Go.RowKit qx
section
variable {P:ma}{ops:Array Oper}{Q:Exit->Act->nu->Prop}{m:Nat}{a0:Act}
abbrev qqt:=Reg9g.qqt
theorem q28(o:Oper)(vals:Nat->ny):ee o (λj=>asB (vals j))=Reg9g.qqw o vals:=by
 unfold ee Reg9g.qqw;cases o.guard with
 | none=>rfl
 | some p=>
   obtain⟨j,want⟩:=p;simp only;cases vals j<;>rfl
theorem region{id:Nat}{w:nu}(m:Nat)(S:(Nat->Bool)->(Nat->ny)->nu->Prop)(hm:P.follows .mixedOrders=nr)(hH:qqt ops m=nr)(hin:∀k d,k<m->zi ops k=I d->d<a0.tmps.size)(hG:S (λ_=>ns) (λ_=>mc) w.drew)
  (hstep:∀i o,i<m->ops[i]? = I o->∀(L:Nat->Bool) (vals:Nat->ny) (a:Act) (w:nu),L i=ns->S L vals w->(∀e∈o.after,Region.binds .any e=nr->L e.on=nr)->(∀d,Operand.tmp d∈o.op.operands->match idxOf ops m d with|some k=>L k=nr/\a.tmps.getD d mc=vals k|none=>a.tmps.getD d mc=a0.tmps.getD d mc)->(∀j b,o.guard=I (j,b)->j<m/\L j=nr) ->
    if ee o (λj=>asB (vals j))=nr then qc P (λv w'=>S (λk=>if k=i then nr else L k) (λk=>if k=i then v else vals k) w') ((execOp a.eval o).run P w) else S (λk=>if k=i then nr else L k) (λk=>if k=i then mc else vals k) w)
  (hfin:∀(L:Nat->Bool) (vals:Nat->ny) (w:nu),(∀k,k<m->L k=nr)->S L vals w->wpList P ops Q (ops.toList.drop m) (puts ops vals (λ_=>nr) (ay m) a0) w) :
  (Code.region id ops nr).wp P Q a0 w:=
 Reg9g.region m S hm hH hin hG (λi o hi ho L vals a w hL hS hed qh _ hgd=>by
  have h:=hstep i o hi ho L vals a w hL hS hed qh hgd;rw[q28] at h;refine⟨λhw=>?_,λhw=>?_⟩
  .rw[if_pos hw] at h;exact h
  .rw[if_neg (by rw[hw];decide)] at h;exact h) hfin
end
end Reg9G
namespace RegG
open Go.RowKit qx
section
variable {P:ma}{ops:Array Oper}{Q:Exit->Act->nu->Prop}{a0:Act}
end
end RegG
namespace RegM
open Go.RowKit qx
def IsI(v:ny):Prop:=∃n:Int,v=U O n
def IsB(v:ny):Prop:=∃q:Bool,v=ni q
theorem IsI.mk(n:Int):IsI (U O n):=⟨n,rfl⟩
theorem IsB.mk(q:Bool):IsB (ni q):=⟨q,rfl⟩
section
variable {P:ma}{ops:Array Oper}{Q:Exit->Act->nu->Prop}{a0:Act}
theorem region{id:Nat}{w:nu}(m:Nat)(Φ:Nat->ny->nu->Prop)(hm:P.follows .mixedOrders=nr)(hH:qyf ops m=nr)(hin:∀k d,k<m->zi ops k=I d->d<a0.tmps.size)
  (hmono:∀k u W W',Below W.heap.size W W'->Φ k u W->Φ k u W')
  (hstep:∀i o,i<m->ops[i]? = I o->∀(a:Act) (W:nu),Below w.heap.size w W->(∀d,Operand.tmp d∈o.op.operands->qkd ops m a0 Φ W d (a.tmps.getD d mc))->qc P (λv W'=>Below W.heap.size W W'/\Φ i v W') ((execOp a.eval o).run P W))
  (hfin:∀(vals:Nat->ny) (W:nu),Below w.heap.size w W->(∀k,k<m->Φ k (vals k) W)->wpList P ops Q (ops.toList.drop m) (puts ops vals (λ_=>nr) (ay m) a0) W) :
  (Code.region id ops nr).wp P Q a0 w:=
 qx.region m (λW=>Below w.heap.size w W) Φ hm hH hin (tg (aj _ _))
  (λi o hi ho a W hG qh=>(hstep i o hi ho a W hG qh).mono λv W' h=>⟨qg hG h.1,h.2,λk u _ _ _ hk=>hmono k u W W' h.1 hk⟩) hfin
theorem qi0{id:Nat}{w:nu}(m:Nat)(Φ:Nat->ny->nu->Prop)(hm:P.follows .mixedOrders=nr)(hH:Reg9G.qqt ops m=nr)(hin:∀k d,k<m->zi ops k=I d->d<a0.tmps.size)
  (hmono:∀k u W W',Below W.heap.size W W'->Φ k u W->Φ k u W')
  (hstep:∀i o,i<m->ops[i]? = I o->∀(a:Act) (W:nu),Below w.heap.size w W->(∀j b,o.guard=I (j,b)->∃v,Reg9G.asB v=I b/\Φ j v W)->(∀d,Operand.tmp d∈o.op.operands->qkd ops m a0 Φ W d (a.tmps.getD d mc))->qc P (λv W'=>Below W.heap.size W W'/\Φ i v W') ((execOp a.eval o).run P W))
  (hoff:∀i o,i<m->ops[i]? = I o->∀j b,o.guard=I (j,b)->∀v W,Φ j v W->Reg9G.asB v≠I b->Φ i mc W)
  (hfin:∀(vals:Nat->ny) (W:nu),Below w.heap.size w W->(∀k,k<m->Φ k (vals k) W)->wpList P ops Q (ops.toList.drop m) (puts ops vals (λ_=>nr) (ay m) a0) W) :
  (Code.region id ops nr).wp P Q a0 w:=by
 refine Reg9G.region m (λL vals W=>Below w.heap.size w W/\∀k,L k=nr->Φ k (vals k) W) hm hH hin ⟨tg (aj _ _),λ_ h=>(by cases h)⟩ ?_ ?_
 .intro i o hi ho L vals a W hL hS hw qh hg;obtain⟨hb,hv⟩:=hS;by_cases hW:ee o (λj=>Reg9G.asB (vals j))=nr
  .rw[if_pos hW];refine qx.qc.mono (hstep i o hi ho a W hb (λj b hgo=>?_) (λd hd=>?_)) ?_
   .unfold ee at hW;rw[hgo] at hW;simp only[beq_iff_eq] at hW;exact⟨vals j,hW,hv j (hg j b hgo).2⟩
   .have:=qh d hd;unfold qkd;split
    .rename_i k hk;rw[hk] at this;rw[this.2];exact hv k this.1
    .rename_i hk;rw[hk] at this;exact this
   .rintro v W' ⟨hbc,hx⟩;refine⟨hb.trans (hbc.mono hb.size),λk hk=>?_⟩;by_cases ek:k=i
    .subst ek;simp only[if_true];exact hx
    .simp only[if_neg ek] at hk ⊢;exact hmono k _ _ _ hbc (hv k hk)
  .rw[if_neg hW];refine⟨hb,λk hk=>?_⟩;by_cases ek:k=i
   .subst ek;simp only[if_true];cases hgo:o.guard with
    | none=>unfold ee at hW;rw[hgo] at hW;simp at hW
    | some p=>
      obtain⟨j,b⟩:=p;refine hoff k o hi ho j b hgo (vals j) W (hv j (hg j b hgo).2) (λe=>hW ?_);unfold ee;rw[hgo];simp only[beq_iff_eq];exact e
   .simp only[if_neg ek] at hk ⊢;exact hv k hk
 .intro L vals W hall hS;exact hfin vals W hS.1 (λk hk=>hS.2 k (hall k hk))
end
end RegM
namespace Sy
open Go.RowKit
variable {r r':List ny}{W:nu}
section
variable {W0:nu}{T:Nat->Prop}{w:nu}
theorem qj6{P:ma}{o:Oper}{a:Act}{ty:nz}{x:Operand}(ho:o.op=.load ty x){b off:Nat}(hx:a.eval x=nj (I ⟨b,off,V⟩)){cs:List ny}{d:TypeDesc}(hc:W.rangeAt b off cs)(hu:P.underlying ty=I d)(hd:d.isRow=nr)
  (hi:(P.info? ty).map (·.size)=I cs.length) {R:ny->nu->Prop} (hR:R (.agg cs.toArray) W):qx.qc P R ((execOp a.eval o).run P W):=by
 unfold execOp;simp only[ho,hx,Sem.run_bind,run_loadAt_mid W b off ty cs d hc hu hd hi,Result.andThen_ok];exact hR
theorem quj.len(h:quj w r r'):r.length=25/\r'.length=25:=by
 obtain⟨n0,n1,n2,n3,n4,n5,n6,n7,s8,s9,s10,b11,A1,B1,m1,c1,d1,p0,p1,p2,p3,p4,p5,p6,p7,p8,p9,A2,B2,m2,c2,d2,A3,B3,m3,c3,d3,f1,f2,f3,rfl,rfl,-⟩:=h;exact⟨rfl,rfl⟩
theorem qn6(A B:Option Addr)(n c d:Nat)(w:nu)(hn:n<=1048576)(hR:qxn w A B n 25 (quj w)) :
  Calls ab 68 #[ng A n c,ng B n d] w λe w'=>e=np (ni nr)/\Hid (Below w.heap.size w w'):=by
 have HR:=aa hR;clear hR;go_enter Tryz.func68,Tryz.ntmps68;go_wp2_with fail;go_loopg [13] n (λgg s13 wr=>∃j:Nat,j+gg=n/\s13=U O j/\Hid (Below w.heap.size w wr))
 case atStart=>exact⟨0,kg,rfl,aa (aj _ _)⟩
 case round=>
  obtain⟨j,hj,rfl,HB⟩:=hrel;by_cases hjn:j<n
  .obtain⟨b,off,b',off',r,r',rfl,rfl,hr,hcl,hcl'⟩:=HR.out j hjn;have HM:=aa (λW hb=>hr.same W hb);have HL:=aa hr.len;have HCL:Hid (∀W,Below w.heap.size w W->W.rangeAt b (off+j*25) r):=λW hb o u hu=>hcl W hb o u hu
   have qed:Hid (∀W,Below w.heap.size w W->W.rangeAt b' (off'+j*25) r'):=λW hb o u hu=>hcl' W hb o u hu
   clear hcl hcl' hr;have hltz:(j:Int)<(n:Int):=kg;have hj0:(0:Int)<=(j:Int):=kg;have e4:IntKind.i64.wrap ((j:Int)+1)=((j+1:Nat):Int):=by simp[di,dj,cz];omega
   go_wp2_with fail;refine RegM.region 10 (λkz v W=>match kz with|0=>v=ng (I ⟨b,off,V⟩) n c|1=>v=.int O j|2=>v=nj (I ⟨b,off+j*25,V⟩)|3=>v=.agg r.toArray|4=>v=ng (I ⟨b',off',V⟩) n d|5=>v=.int O j|6=>v=nj (I ⟨b',off'+j*25,V⟩)|7=>v=.agg r'.toArray|8=>v=ni nr|9=>v=ni ns|_=>True) ki ki (qx.qqq (n:=27) ki rfl) (λ_ _ _ _ _ h=>h) ?_ ?_
   .intro idx o hj ho a' w' hG qh;have hj':idx=0\/idx=1\/idx=2\/idx=3\/idx=4\/idx=5\/idx=6\/idx=7\/idx=8\/idx=9:=kg;clear hj;rcases hj' with rfl|rfl|rfl|rfl|rfl|rfl|rfl|rfl|rfl|rfl
    .cases oi ho;have h0:=qx.gdt (qh 0 nd);refine qx.qc.eq ?_ ⟨aj _ _,rfl⟩;go_simp
     all_goals(try exact⟨rfl,rfl⟩)
    .cases oi ho;have h5:=qx.gdt (qh 5 nd);refine qx.qc.eq ?_ ⟨aj _ _,rfl⟩;go_simp
     all_goals(try exact⟨rfl,rfl⟩)
    .cases oi ho;have qr5:a'.tmps[16]?.getD mc=ng (I ⟨b,off,V⟩) n c:=qx.gdt (qh 16 nd);have qmg:a'.tmps[17]?.getD mc=.int O j:=qx.gdt (qh 17 nd);refine qx.qc.eq ?_ ⟨aj _ _,rfl⟩;go_simp
     all_goals(try exact⟨rfl,rfl⟩)
    .cases oi ho;have qiu:a'.tmps[18]?.getD mc=nj (I ⟨b,off+j*25,V⟩):=qx.gdt (qh 18 nd);exact qj6 (x:=.tmp 18) (a:=a') (d:=_) rfl ((au ..).trans qiu) (HCL.out _ (qg HB.out hG)) bz rfl (by rw[HL.out.1];kernel_rfl) ⟨aj _ _,rfl⟩
    .cases oi ho;have h1:=qx.gdt (qh 1 nd);refine qx.qc.eq ?_ ⟨aj _ _,rfl⟩;go_simp
     all_goals(try exact⟨rfl,rfl⟩)
    .cases oi ho;have h5:=qx.gdt (qh 5 nd);refine qx.qc.eq ?_ ⟨aj _ _,rfl⟩;go_simp
     all_goals(try exact⟨rfl,rfl⟩)
    .cases oi ho;have qko:a'.tmps[20]?.getD mc=ng (I ⟨b',off',V⟩) n d:=qx.gdt (qh 20 nd);have qcd:a'.tmps[21]?.getD mc=.int O j:=qx.gdt (qh 21 nd);refine qx.qc.eq ?_ ⟨aj _ _,rfl⟩;go_simp
     all_goals(try exact⟨rfl,rfl⟩)
    .cases oi ho;have qmm:a'.tmps[22]?.getD mc=nj (I ⟨b',off'+j*25,V⟩):=qx.gdt (qh 22 nd);exact qj6 (x:=.tmp 22) (a:=a') (d:=_) rfl ((au ..).trans qmm) (qed.out _ (qg HB.out hG)) bz rfl (by rw[HL.out.2];kernel_rfl) ⟨aj _ _,rfl⟩
    .cases oi ho;have qbg:a'.tmps[19]?.getD mc=.agg r.toArray:=qx.gdt (qh 19 nd);have qrg:a'.tmps[23]?.getD mc=.agg r'.toArray:=qx.gdt (qh 23 nd);refine qx.qc.mono (R:=λv W=>(v=ni nr)/\Hid (Below w'.heap.size w' W)) ?_ (λv W h=>⟨h.2.out,h.1⟩)
     .go_simp;refine(show Calls _ _ _ _ _ from HM.out _ (qg HB.out hG)).mono ?_;rintro e w5 ⟨rfl,hb⟩;exact⟨_,rfl,rfl,hb⟩
    .cases oi ho;have qts:a'.tmps[24]?.getD mc=ni nr:=qx.gdt (qh 24 nd);refine qx.qc.eq ?_ ⟨aj _ _,rfl⟩;go_simp
     all_goals(try exact⟨rfl,rfl⟩)
   .intro vals w' hG hv;have hv0:vals 0=ng (I ⟨b,off,V⟩) n c:=hv 0 kg;have hv1:vals 1=.int O j:=hv 1 kg;have hv2:vals 2=nj (I ⟨b,off+j*25,V⟩):=hv 2 kg;have hv3:vals 3=.agg r.toArray:=hv 3 kg;have hv4:vals 4=ng (I ⟨b',off',V⟩) n d:=hv 4 kg;have hv5:vals 5=.int O j:=hv 5 kg;have hv6:vals 6=nj (I ⟨b',off'+j*25,V⟩):=hv 6 kg;have hv7:vals 7=.agg r'.toArray:=hv 7 kg;have hv8:vals 8=ni nr:=hv 8 kg;have hv9:vals 9=ni ns:=hv 9 kg;simp only[qx.puts,qx.zi,ay,dc,if_true,cq,df,hv0,hv1,hv2,hv3,hv4,hv5,hv6,hv7,hv8,hv9];clear hv hv0 hv1 hv2 hv3 hv4 hv5 hv6 hv7 hv8 hv9;simp[ez];have HB3:=aa (qg HB.out hG);go_wp2_with fail;go_roundg (n-(j+1))
    case measure=>omega
    case rel=>exact⟨j+1,kg,kq,HB3⟩
  .have xm:n=j:=kg;subst xm;go_wp2_with fail;go_ret;exact⟨rfl,HB⟩
def q3n(w:nu)(r r':List ny):Prop:=∃(n0 n1 n2:Int) (A3 B3:Option Addr) (m3 c3 d3:Nat) (A4 B4:Option Addr) (m4 c4 d4:Nat) (n5 n6:Int) (A7 B7:Option Addr) (m7 c7 d7:Nat),
 r=[U O n0,U O n1,U O n2,ng A3 m3 c3,ng A4 m4 c4,U O n5,U O n6,ng A7 m7 c7]/\r'=[U O n0,U O n1,U O n2,ng B3 m3 d3,ng B4 m4 d4,U O n5,U O n6,ng B7 m7 d7] /\
 m3<=1048576/\m4<=1048576/\m7<=1048576/\qxn w A3 B3 m3 25 (quj w)/\qxn w A4 B4 m4 25 (quj w)/\qxn w A7 B7 m7 25 (quj w)
theorem qjq{A B:Option Addr}{n:Nat}(h:qxn w A B n 25 (quj w))(hb:Below w.heap.size w W):qxn W A B n 25 (quj W):=h.grow hb (λr r' hr=>hr.grow hb)
theorem q3n.grow(h:q3n w r r')(hb:Below w.heap.size w W):q3n W r r':=by
 obtain⟨n0,n1,n2,A3,B3,m3,c3,d3,A4,B4,m4,c4,d4,n5,n6,A7,B7,m7,c7,d7,rfl,rfl,z3,z4,z7,r3,r4,r7⟩:=h;exact⟨n0,n1,n2,A3,B3,m3,c3,d3,A4,B4,m4,c4,d4,n5,n6,A7,B7,m7,c7,d7,rfl,rfl,z3,z4,z7,qjq r3 hb,qjq r4 hb,qjq r7 hb⟩
theorem same26(w:nu)(h:q3n w r r'):Calls ab 26 #[.agg r.toArray,.agg r'.toArray] w λe w'=>e=np (ni nr)/\Hid (Below w.heap.size w w'):=by
 obtain⟨n0,n1,n2,A3,B3,m3,c3,d3,A4,B4,m4,c4,d4,n5,n6,A7,B7,m7,c7,d7,rfl,rfl,z3,z4,z7,r3,r4,r7⟩:=h;have HB1:=aa (qp (zy w (.cells #[U O n0,U O n1,U O n2,ng A3 m3 c3,ng A4 m4 c4,U O n5,U O n6,ng A7 m7 c7] 82)) (.cells #[U O n0,U O n1,U O n2,ng B3 m3 d3,ng B4 m4 d4,U O n5,U O n6,ng B7 m7 d7] 82));have HK2:=aa ((mg.new w 82 #[U O n0,U O n1,U O n2,ng A3 m3 c3,ng A4 m4 c4,U O n5,U O n6,ng A7 m7 c7]).alloc (.cells #[U O n0,U O n1,U O n2,ng B3 m3 d3,ng B4 m4 d4,U O n5,U O n6,ng B7 m7 d7] 82));have HK3:=aa (mg.new (w.alloc (.cells #[U O n0,U O n1,U O n2,ng A3 m3 c3,ng A4 m4 c4,U O n5,U O n6,ng A7 m7 c7] 82)) 82 #[U O n0,U O n1,U O n2,ng B3 m3 d3,ng B4 m4 d4,U O n5,U O n6,ng B7 m7 d7]);rw[show(w.alloc (.cells #[U O n0,U O n1,U O n2,ng A3 m3 c3,ng A4 m4 c4,U O n5,U O n6,ng A7 m7 c7] 82)).heap.size=w.heap.size+1 by simp] at HK3;have H1:Hid (∀W,Below w.heap.size w W->Calls ab 68 #[ng A3 m3 c3,ng B3 m3 d3] W λe w'=>e=np (ni nr)/\Hid (Below W.heap.size W w')):=λW hb=>qn6 A3 B3 m3 c3 d3 W z3 (qjq r3 hb)
 have H2:Hid (∀W,Below w.heap.size w W->Calls ab 68 #[ng A4 m4 c4,ng B4 m4 d4] W λe w'=>e=np (ni nr)/\Hid (Below W.heap.size W w')):=λW hb=>qn6 A4 B4 m4 c4 d4 W z4 (qjq r4 hb)
 have H3:Hid (∀W,Below w.heap.size w W->Calls ab 68 #[ng A7 m7 c7,ng B7 m7 d7] W λe w'=>e=np (ni nr)/\Hid (Below W.heap.size W w')):=λW hb=>qn6 A7 B7 m7 c7 d7 W z7 (qjq r7 hb)
 clear r3 r4 r7;go_enter Tryz.func26,Tryz.ntmps26;go_wp2_with fail;refine(H1.out _ HB1.out).mono ?_;rintro e w5 ⟨rfl,hb⟩;have HB5:=aa (qg HB1.out hb.out);have qg0:=aa (HK2.out.call hb.out);have qgz:=aa (HK3.out.call hb.out);have k2:=qg0.out.cell;have k3:=qgz.out.cell;clear HB1 HK2 HK3 hb;go_wp2_with fail;clear k2 k3;refine(H2.out _ HB5.out).mono ?_;rintro e w6 ⟨rfl,hb⟩;have HB6:=aa (qg HB5.out hb.out);have k2:=(qg0.out.call hb.out).cell;have k3:=(qgz.out.call hb.out).cell;clear HB5 qg0 qgz hb;go_wp2_with fail;clear k2 k3;refine(H3.out _ HB6.out).mono ?_;rintro e w7 ⟨rfl,hb⟩;have HB7:=aa (qg HB6.out hb.out);go_wp2_with fail;go_ret;exact⟨rfl,HB7⟩
end
end Sy
namespace Cen
open Go.RowKit
abbrev i (n:Int):ny:=U O n
structure Tk where
 id:ByteArray
 grp:ByteArray
 con:ByteArray
 kind:Int
 st:Int
 ex:Int
abbrev tkA (x:Tk):Array ny:=#[nh x.id,nh x.grp,nh x.con,i x.kind,i x.st,i x.ex]
end Cen
namespace Sy
open Go.RowKit
variable {r r':List ny}{W:nu}
section
variable {W0:nu}{T:Nat->Prop}{w:nu}
def IntC(r:List ny):Prop:=∃n:Int,r=[U O n]
def q38(w:nu)(r r':List ny):Prop:=∃(s0:ByteArray) (b1:Bool) (n2:Int) (A3 B3:Option Addr) (m3 c3 d3:Nat) (n4 q0 q1 q2:Int) (A8 B8:Option Addr) (m8 c8 d8:Nat) (A9 B9:Option Addr) (m9 c9 d9:Nat) (q5 q6:Int) (A12 B12:Option Addr) (m12 qcc d12:Nat) (f3:Nat->List ny),r=[nh s0,ni b1,U O n2,ng A3 m3 c3,U O n4,U O q0,U O q1,U O q2,ng A8 m8 c8,ng A9 m9 c9,U O q5,U O q6,ng A12 m12 qcc]/\r'=[nh s0,ni b1,U O n2,ng B3 m3 d3,U O n4,U O q0,U O q1,U O q2,ng B8 m8 d8,ng B9 m9 d9,U O q5,U O q6,ng B12 m12 d12]/\m3<=1048576/\(∀j,j<m3->IntC (f3 j))/\qqr w A3 m3 1 f3/\qqr w B3 m3 1 f3/\q3n w [U O q0,U O q1,U O q2,ng A8 m8 c8,ng A9 m9 c9,U O q5,U O q6,ng A12 m12 qcc] [U O q0,U O q1,U O q2,ng B8 m8 d8,ng B9 m9 d9,U O q5,U O q6,ng B12 m12 d12]
theorem q38.grow{r r':List ny}(h:q38 w r r'){W:nu}(hb:Below w.heap.size w W):q38 W r r':=by
 obtain⟨s0,b1,n2,A3,B3,m3,c3,d3,n4,q0,q1,q2,A8,B8,m8,c8,d8,A9,B9,m9,c9,d9,q5,q6,A12,B12,m12,qcc,d12,f3,rfl,rfl,z3,t3,r3,r3',he⟩:=h;exact⟨s0,b1,n2,A3,B3,m3,c3,d3,n4,q0,q1,q2,A8,B8,m8,c8,d8,A9,B9,m9,c9,d9,q5,q6,A12,B12,m12,qcc,d12,f3,rfl,rfl,z3,t3,r3.grow hb,r3'.grow hb,he.grow hb⟩
def qrh(w:nu)(r r':List ny):Prop:=∃(s0 s1:ByteArray) (n2 n3 n4 n5:Int) (s6:ByteArray) (b7:Bool) (n8:Int) (A9 B9:Option Addr) (m9 c9 d9:Nat) (f:Nat->Int×Int),r=[nh s0,nh s1,U O n2,U O n3,U O n4,U O n5,nh s6,ni b7,U O n8,ng A9 m9 c9]/\r'=[nh s0,nh s1,U O n2,U O n3,U O n4,U O n5,nh s6,ni b7,U O n8,ng B9 m9 d9]/\m9<=1048576/\Nbr.Rds w w.heap.size A9 m9 f/\Nbr.Rds w w.heap.size B9 m9 f
theorem qrh.grow(h:qrh w r r')(hb:Below w.heap.size w W):qrh W r r':=by
 obtain⟨s0,s1,n2,n3,n4,n5,s6,b7,n8,A9,B9,m9,c9,d9,f,rfl,rfl,z,r,r'⟩:=h;exact⟨s0,s1,n2,n3,n4,n5,s6,b7,n8,A9,B9,m9,c9,d9,f,rfl,rfl,z,vz r hb,vz r' hb⟩
theorem qrh.same(h:qrh w r r')(W:nu)(hb:Below w.heap.size w W):Calls ab 27 #[.agg r.toArray,.agg r'.toArray] W λe w'=>e=np (ni nr)/\Hid (Below W.heap.size W w'):=by
 obtain⟨s0,s1,n2,n3,n4,n5,s6,b7,n8,A9,B9,m9,c9,d9,f,rfl,rfl,z,r,r'⟩:=h;exact same27 s0 s1 n2 n3 n4 n5 s6 b7 n8 A9 B9 m9 c9 d9 f W z (vz r hb) (vz r' hb)
def q4u(w:nu)(r r':List ny):Prop:=∃(s0 s1:ByteArray) (n2:Int) (s3:ByteArray) (n4 n5:Int) (A6 B6:Option Addr) (m6 c6 d6:Nat) (n7 n8:Int) (b9 b10:Bool) (f:Nat->Int×Int),r=[nh s0,nh s1,U O n2,nh s3,U O n4,U O n5,ng A6 m6 c6,U O n7,U O n8,ni b9,ni b10]/\r'=[nh s0,nh s1,U O n2,nh s3,U O n4,U O n5,ng B6 m6 d6,U O n7,U O n8,ni b9,ni b10]/\m6<=1048576/\Nbr.Rds w w.heap.size A6 m6 f/\Nbr.Rds w w.heap.size B6 m6 f
theorem q4u.grow(h:q4u w r r')(hb:Below w.heap.size w W):q4u W r r':=by
 obtain⟨s0,s1,n2,s3,n4,n5,A6,B6,m6,c6,d6,n7,n8,b9,b10,f,rfl,rfl,z,r,r'⟩:=h;exact⟨s0,s1,n2,s3,n4,n5,A6,B6,m6,c6,d6,n7,n8,b9,b10,f,rfl,rfl,z,vz r hb,vz r' hb⟩
def LnC(r:List ny):Prop:=∃(n0 n1:Int) (s2 s3 s4:ByteArray) (n5:Int),r=[U O n0,U O n1,nh s2,nh s3,nh s4,U .u64 n5]
def CeE(w:nu)(r r':Array ny):Prop:=∃(n0:Int) (A1 B1:Option Addr) (m1 c1 d1:Nat) (A2 B2:Option Addr) (m2 c2 d2:Nat) (A3 B3:Option Addr) (m3A c3 m3B d3:Nat) (A4 B4:Option Addr) (m4A c4 m4B d4:Nat) (n5:Int) (A6 B6:Option Addr) (m6 c6 d6:Nat) (A7 B7:Option Addr) (m7 c7 d7:Nat) (A8 B8:Option Addr) (m8 c8 d8:Nat) (A9 B9:Option Addr) (m9A c9 m9B d9:Nat) (A10 B10:Option Addr) (m10A c10 m10B d10:Nat) (n11 n12:Int) (ft fl:Nat->List ny),r=#[U O n0,ng A1 m1 c1,ng A2 m2 c2,ng A3 m3A c3,ng A4 m4A c4,U O n5,ng A6 m6 c6,ng A7 m7 c7,ng A8 m8 c8,ng A9 m9A c9,ng A10 m10A c10,U O n11,U O n12]/\r'=#[U O n0,ng B1 m1 d1,ng B2 m2 d2,ng B3 m3B d3,ng B4 m4B d4,U O n5,ng B6 m6 d6,ng B7 m7 d7,ng B8 m8 d8,ng B9 m9B d9,ng B10 m10B d10,U O n11,U O n12]/\(m1<=1048576/\m2<=1048576/\m6<=1048576/\m7<=1048576/\m8<=1048576)/\qxn w A1 B1 m1 13 (q38 w)/\(∀j,j<m2->qtn (ft j))/\qqr w A2 m2 6 ft/\qqr w B2 m2 6 ft /\
 qxn w A6 B6 m6 10 (qrh w)/\qxn w A7 B7 m7 11 (q4u w)/\(∀j,j<m8->LnC (fl j))/\qqr w A8 m8 6 fl/\qqr w B8 m8 6 fl
theorem same11{r r':Array ny}(w:nu)(h:CeE w r r'):Calls ab 11 #[.agg r,.agg r'] w λe w'=>e=np (ni nr)/\Hid (Below w.heap.size w w'):=by
 obtain⟨n0,A1,B1,m1,c1,d1,A2,B2,m2,c2,d2,A3,B3,m3A,c3,m3B,d3,A4,B4,m4A,c4,m4B,d4,n5,A6,B6,m6,c6,d6,A7,B7,m7,c7,d7,A8,B8,m8,c8,d8,A9,B9,m9A,c9,m9B,d9,A10,B10,m10A,c10,m10B,d10,n11,n12,ft,fl,rfl,rfl,⟨z1,z2,z6,z7,z8⟩,g1,gt,g2,g2',g6,g7,gl,g8,g8'⟩:=h;have HB1:=aa (qp (zy w (.cells #[U O n0,ng A1 m1 c1,ng A2 m2 c2,ng A3 m3A c3,ng A4 m4A c4,U O n5,ng A6 m6 c6,ng A7 m7 c7,ng A8 m8 c8,ng A9 m9A c9,ng A10 m10A c10,U O n11,U O n12] 51)) (.cells #[U O n0,ng B1 m1 d1,ng B2 m2 d2,ng B3 m3B d3,ng B4 m4B d4,U O n5,ng B6 m6 d6,ng B7 m7 d7,ng B8 m8 d8,ng B9 m9B d9,ng B10 m10B d10,U O n11,U O n12] 51));have HK2:=aa ((mg.new w 51 #[U O n0,ng A1 m1 c1,ng A2 m2 c2,ng A3 m3A c3,ng A4 m4A c4,U O n5,ng A6 m6 c6,ng A7 m7 c7,ng A8 m8 c8,ng A9 m9A c9,ng A10 m10A c10,U O n11,U O n12]).alloc (.cells #[U O n0,ng B1 m1 d1,ng B2 m2 d2,ng B3 m3B d3,ng B4 m4B d4,U O n5,ng B6 m6 d6,ng B7 m7 d7,ng B8 m8 d8,ng B9 m9B d9,ng B10 m10B d10,U O n11,U O n12] 51));have HK3:=aa (mg.new (w.alloc (.cells #[U O n0,ng A1 m1 c1,ng A2 m2 c2,ng A3 m3A c3,ng A4 m4A c4,U O n5,ng A6 m6 c6,ng A7 m7 c7,ng A8 m8 c8,ng A9 m9A c9,ng A10 m10A c10,U O n11,U O n12] 51)) 51 #[U O n0,ng B1 m1 d1,ng B2 m2 d2,ng B3 m3B d3,ng B4 m4B d4,U O n5,ng B6 m6 d6,ng B7 m7 d7,ng B8 m8 d8,ng B9 m9B d9,ng B10 m10B d10,U O n11,U O n12]);rw[show(w.alloc (.cells #[U O n0,ng A1 m1 c1,ng A2 m2 c2,ng A3 m3A c3,ng A4 m4A c4,U O n5,ng A6 m6 c6,ng A7 m7 c7,ng A8 m8 c8,ng A9 m9A c9,ng A10 m10A c10,U O n11,U O n12] 51)).heap.size=w.heap.size+1 by simp] at HK3;have G1:=aa g1;have GT:=aa gt;have G2:=aa g2;have G2':=aa g2';have G6:=aa g6;have G7:=aa g7;have GL:=aa gl;have G8:=aa g8;have G8':=aa g8';clear g1 gt g2 g2' g6 g7 gl g8 g8';go_enter Tryz.func11,Tryz.ntmps11;go_wp2_with fail;have hs2:w.heap.size+1<((w.alloc (.cells #[U O n0,ng A1 m1 c1,ng A2 m2 c2,ng A3 m3A c3,ng A4 m4A c4,U O n5,ng A6 m6 c6,ng A7 m7 c7,ng A8 m8 c8,ng A9 m9A c9,ng A10 m10A c10,U O n11,U O n12] 51)).alloc (.cells #[U O n0,ng B1 m1 d1,ng B2 m2 d2,ng B3 m3B d3,ng B4 m4B d4,U O n5,ng B6 m6 d6,ng B7 m7 d7,ng B8 m8 d8,ng B9 m9B d9,ng B10 m10B d10,U O n11,U O n12] 51)).heap.size:=kq;generalize (w.alloc (.cells #[U O n0,ng A1 m1 c1,ng A2 m2 c2,ng A3 m3A c3,ng A4 m4A c4,U O n5,ng A6 m6 c6,ng A7 m7 c7,ng A8 m8 c8,ng A9 m9A c9,ng A10 m10A c10,U O n11,U O n12] 51)).alloc (.cells #[U O n0,ng B1 m1 d1,ng B2 m2 d2,ng B3 m3B d3,ng B4 m4B d4,U O n5,ng B6 m6 d6,ng B7 m7 d7,ng B8 m8 d8,ng B9 m9B d9,ng B10 m10B d10,U O n11,U O n12] 51)=w1 at *;have hs1:w.heap.size<w1.heap.size:=kg;go_loopg [85] m1 (λgg s85 wr=>∃j:Nat,j+gg=m1/\s85=U O j/\Hid (Below w1.heap.size w1 wr))
 case atStart=>exact⟨0,kg,rfl,aa (aj _ _)⟩
 case round=>
  obtain⟨j,hj,rfl,HB⟩:=hrel;have k2:=(HK2.out.call HB.out).cell;have k3:=(HK3.out.call HB.out).cell;by_cases hjn:j<m1
  .obtain⟨ba,oa,bb,ob,r,r',rfl,rfl,⟨t0,ub1,un2,uA3,uB3,um3,uc3,ud3,un4,uq0,uq1,uq2,uA8,uB8,um8,uc8,ud8,uA9,uB9,um9,uc9,ud9,uq5,uq6,uA12,uB12,um12,uc12,ud12,uf3,rfl,rfl,z3,t3,r3,r3',he⟩,ha,hb⟩:=G1.out j hjn;have H26:Hid (∀W,Below w.heap.size w W->Calls ab 26 #[.agg #[U O uq0,U O uq1,U O uq2,ng uA8 um8 uc8,ng uA9 um9 uc9,U O uq5,U O uq6,ng uA12 um12 uc12],.agg #[U O uq0,U O uq1,U O uq2,ng uB8 um8 ud8,ng uB9 um9 ud9,U O uq5,U O uq6,ng uB12 um12 ud12]] W λe w'=>e=np (ni nr)/\Hid (Below W.heap.size W w')):=λW hb=>same26 W (he.grow hb)
   have HI:=aa r3;have HI':=aa r3';have HT:=aa t3;have ha':=ha wr (qg HB1.out HB.out);have a0:wr.cell? ⟨ba,oa+j*13,V⟩=I (nh t0):=by simpa using ha' 0 _ rfl
   have a1:wr.cell? ⟨ba,oa+j*13+1,V⟩=_:=ha' 1 _ rfl;have a2:wr.cell? ⟨ba,oa+j*13+2,V⟩=_:=ha' 2 _ rfl;have a3:wr.cell? ⟨ba,oa+j*13+3,V⟩=_:=ha' 3 _ rfl;have a4:wr.cell? ⟨ba,oa+j*13+4,V⟩=_:=ha' 4 _ rfl;have a5:wr.cell? ⟨ba,oa+j*13+5,V⟩=_:=ha' 5 _ rfl;have a6:wr.cell? ⟨ba,oa+j*13+6,V⟩=_:=ha' 6 _ rfl;have a7:wr.cell? ⟨ba,oa+j*13+7,V⟩=_:=ha' 7 _ rfl;have a8:wr.cell? ⟨ba,oa+j*13+8,V⟩=_:=ha' 8 _ rfl;have a9:wr.cell? ⟨ba,oa+j*13+9,V⟩=_:=ha' 9 _ rfl;have a10:wr.cell? ⟨ba,oa+j*13+10,V⟩=_:=ha' 10 _ rfl;have a11:wr.cell? ⟨ba,oa+j*13+11,V⟩=_:=ha' 11 _ rfl;have a12:wr.cell? ⟨ba,oa+j*13+12,V⟩=_:=ha' 12 _ rfl;have b0:∀o,(wr.alloc o).cell? ⟨bb,ob+j*13,V⟩=I (nh t0):=λo=>by simpa using hb (wr.alloc o) (qp (qg HB1.out HB.out) o) 0 _ rfl
   have b1:∀o,(wr.alloc o).cell? ⟨bb,ob+j*13+1,V⟩=I (ni ub1):=λo=>hb (wr.alloc o) (qp (qg HB1.out HB.out) o) 1 _ rfl
   have b2:∀o,(wr.alloc o).cell? ⟨bb,ob+j*13+2,V⟩=I (U O un2):=λo=>hb (wr.alloc o) (qp (qg HB1.out HB.out) o) 2 _ rfl
   have b3:∀o,(wr.alloc o).cell? ⟨bb,ob+j*13+3,V⟩=I (ng uB3 um3 ud3):=λo=>hb (wr.alloc o) (qp (qg HB1.out HB.out) o) 3 _ rfl
   have b4:∀o,(wr.alloc o).cell? ⟨bb,ob+j*13+4,V⟩=I (U O un4):=λo=>hb (wr.alloc o) (qp (qg HB1.out HB.out) o) 4 _ rfl
   have b5:∀o,(wr.alloc o).cell? ⟨bb,ob+j*13+5,V⟩=I (U O uq0):=λo=>hb (wr.alloc o) (qp (qg HB1.out HB.out) o) 5 _ rfl
   have b6:∀o,(wr.alloc o).cell? ⟨bb,ob+j*13+6,V⟩=I (U O uq1):=λo=>hb (wr.alloc o) (qp (qg HB1.out HB.out) o) 6 _ rfl
   have b7:∀o,(wr.alloc o).cell? ⟨bb,ob+j*13+7,V⟩=I (U O uq2):=λo=>hb (wr.alloc o) (qp (qg HB1.out HB.out) o) 7 _ rfl
   have b8:∀o,(wr.alloc o).cell? ⟨bb,ob+j*13+8,V⟩=I (ng uB8 um8 ud8):=λo=>hb (wr.alloc o) (qp (qg HB1.out HB.out) o) 8 _ rfl
   have b9:∀o,(wr.alloc o).cell? ⟨bb,ob+j*13+9,V⟩=I (ng uB9 um9 ud9):=λo=>hb (wr.alloc o) (qp (qg HB1.out HB.out) o) 9 _ rfl
   have b10:∀o,(wr.alloc o).cell? ⟨bb,ob+j*13+10,V⟩=I (U O uq5):=λo=>hb (wr.alloc o) (qp (qg HB1.out HB.out) o) 10 _ rfl
   have b11:∀o,(wr.alloc o).cell? ⟨bb,ob+j*13+11,V⟩=I (U O uq6):=λo=>hb (wr.alloc o) (qp (qg HB1.out HB.out) o) 11 _ rfl
   have b12:∀o,(wr.alloc o).cell? ⟨bb,ob+j*13+12,V⟩=I (ng uB12 um12 ud12):=λo=>hb (wr.alloc o) (qp (qg HB1.out HB.out) o) 12 _ rfl
   have k3a:=λ(o:Obj)=>((HK3.out.call HB.out).alloc o).cell 1
   simp at k3a;clear ha' ha hb r3 r3' t3 he;have hltz:(j:Int)<(m1:Int):=kg;have hj0:(0:Int)<=(j:Int):=kg;have e4:IntKind.i64.wrap ((j:Int)+1)=((j+1:Nat):Int):=by simp[di,dj,cz];omega
   go_wp2_with fail;refine(H26.out _ (qp (qp (qg HB1.out HB.out) _) _)).mono ?_;rintro e w5 ⟨rfl,hbc⟩;have HB5:Hid (Below w1.heap.size w1 w5):=qg (qp (qp HB.out _) _) hbc.out;have HKa:=aa (((mg.new wr 84 #[nh t0,ni ub1,U O un2,ng uA3 um3 uc3,U O un4,U O uq0,U O uq1,U O uq2,ng uA8 um8 uc8,ng uA9 um9 uc9,U O uq5,U O uq6,ng uA12 um12 uc12]).alloc (.cells #[nh t0,ni ub1,U O un2,ng uB3 um3 ud3,U O un4,U O uq0,U O uq1,U O uq2,ng uB8 um8 ud8,ng uB9 um9 ud9,U O uq5,U O uq6,ng uB12 um12 ud12] 84)).call hbc.out);have HKb:=aa ((mg.new (wr.alloc (.cells #[nh t0,ni ub1,U O un2,ng uA3 um3 uc3,U O un4,U O uq0,U O uq1,U O uq2,ng uA8 um8 uc8,ng uA9 um9 uc9,U O uq5,U O uq6,ng uA12 um12 uc12] 84)) 84 #[nh t0,ni ub1,U O un2,ng uB3 um3 ud3,U O un4,U O uq0,U O uq1,U O uq2,ng uB8 um8 ud8,ng uB9 um9 ud9,U O uq5,U O uq6,ng uB12 um12 ud12]).call hbc.out);rw[show(wr.alloc (.cells #[nh t0,ni ub1,U O un2,ng uA3 um3 uc3,U O un4,U O uq0,U O uq1,U O uq2,ng uA8 um8 uc8,ng uA9 um9 uc9,U O uq5,U O uq6,ng uA12 um12 uc12] 84)).heap.size=wr.heap.size+1 by simp] at HKb;have ka:=HKa.out.cell;have kb:=HKb.out.cell;clear k2 k3 k3a hbc a0 b0 a1 b1 a2 b2 a3 b3 a4 b4 a5 b5 a6 b6 a7 b7 a8 b8 a9 b9 a10 b10 a11 b11 a12 b12;go_wp2_with fail;clear ka kb;go_loopg [141] um3 (λgg s141 wi=>∃i:Nat,i+gg=um3/\s141=U O i/\Hid (Below w5.heap.size w5 wi))
   case atStart=>exact⟨0,kg,rfl,aa (aj _ _)⟩
   case round=>
    obtain⟨i,hi,rfl,HBi⟩:=hrel;have ka:=(HKa.out.call HBi.out).cell 3;have kb:=(HKb.out.call HBi.out).cell 3;simp at ka kb;by_cases hin:i<um3
    .obtain⟨b4,o4,rfl,hc4⟩:=HI.out i hin;obtain⟨b5,o5,rfl,hc5⟩:=HI'.out i hin;obtain⟨nn,hnn⟩:=HT.out i hin;have x4:=hc4 wr (qg HB1.out (qg HB5.out HBi.out)) 0;have x5:=hc5 wr (qg HB1.out (qg HB5.out HBi.out)) 0;rw[hnn] at x4 x5;have x4:wr.cell? ⟨b4,o4+i,V⟩=I (U O nn):=by simpa using x4 _ rfl
     have x5:wr.cell? ⟨b5,o5+i,V⟩=I (U O nn):=by simpa using x5 _ rfl
     clear hc4 hc5 hnn;have hltz:(i:Int)<(um3:Int):=kg;have hj0:(0:Int)<=(i:Int):=kg;have e5:IntKind.i64.wrap ((i:Int)+1)=((i+1:Nat):Int):=by simp[di,dj,cz];omega
     go_wp2_with fail
     go_quiet (fail)
     go_wp2_with fail;go_roundg (um3-(i+1))
     case measure=>omega
     case rel=>exact⟨i+1,kg,kq,aa (by have:=HBi.out;first|assumption|exact yf this _|(exact qd HBi.out (rj na (HBi.out.size))))⟩
    .have hin':um3=i:=kg;subst hin';go_wp2_with fail;go_roundg (m1-(j+1))
     case measure=>omega
     case rel=>exact⟨j+1,kg,kq,aa (qg HB5.out HBi.out)⟩
  .have xm:m1=j:=kg;subst xm;go_wp2_with fail;clear k2 k3;go_loopg [160] m2 (λgg s160 wr=>∃j:Nat,j+gg=m2/\s160=U O j/\Hid (Below w1.heap.size w1 wr))
   case atStart=>exact⟨0,kg,rfl,HB⟩
   case round=>
    clear HB;obtain⟨j,hj,rfl,HB⟩:=hrel;by_cases hjn:j<m2
    .have k2:=(HK2.out.call HB.out).cell 2;have k3:=(HK3.out.call HB.out).cell 2;simp at k2 k3;obtain⟨b,off,rfl,hcl⟩:=G2.out j hjn;obtain⟨b',off',rfl,hcl'⟩:=G2'.out j hjn;obtain⟨s0,s1,s2,n3,n4,n5',hfj⟩:=GT.out j hjn;have hcw:=hcl wr (qg HB1.out HB.out);have qzh:=hcl' wr (qg HB1.out HB.out);rw[hfj] at hcw qzh;have h0:wr.cell? ⟨b,off+j*6,V⟩=I (nh s0):=by simpa using hcw 0 _ rfl
     have h1:wr.cell? ⟨b,off+j*6+1,V⟩=_:=hcw 1 _ rfl;have h2:wr.cell? ⟨b,off+j*6+2,V⟩=_:=hcw 2 _ rfl;have h3:wr.cell? ⟨b,off+j*6+3,V⟩=_:=hcw 3 _ rfl;have h4:wr.cell? ⟨b,off+j*6+4,V⟩=_:=hcw 4 _ rfl;have h5:wr.cell? ⟨b,off+j*6+5,V⟩=_:=hcw 5 _ rfl;have i0:wr.cell? ⟨b',off'+j*6,V⟩=I (nh s0):=by simpa using qzh 0 _ rfl
     have i1:wr.cell? ⟨b',off'+j*6+1,V⟩=_:=qzh 1 _ rfl;have i2:wr.cell? ⟨b',off'+j*6+2,V⟩=_:=qzh 2 _ rfl;have i3:wr.cell? ⟨b',off'+j*6+3,V⟩=_:=qzh 3 _ rfl;have i4:wr.cell? ⟨b',off'+j*6+4,V⟩=_:=qzh 4 _ rfl;have i5:wr.cell? ⟨b',off'+j*6+5,V⟩=_:=qzh 5 _ rfl;clear hcl hcw hcl' qzh hfj;have hltz:(j:Int)<(m2:Int):=kg;have hj0:(0:Int)<=(j:Int):=kg;have e4:IntKind.i64.wrap ((j:Int)+1)=((j+1:Nat):Int):=by simp[di,dj,cz];omega
     go_wp2_with fail
     go_quiet (fail)
     go_wp2_with fail;go_roundg (m2-(j+1))
     case measure=>omega
     case rel=>exact⟨j+1,kg,kq,aa (by have:=HB.out;first|assumption|exact yf this _|(exact qd HB.out (rj na (HB.out.size))))⟩
    .have xm:m2=j:=kg;subst xm;have k2:=(HK2.out.call HB.out).cell;have k3:=(HK3.out.call HB.out).cell;go_wp2_with fail;clear k2 k3;go_loopg [178] m6 (λgg s178 wr=>∃j:Nat,j+gg=m6/\s178=U O j/\Hid (Below w1.heap.size w1 wr))
     case atStart=>exact⟨0,kg,rfl,HB⟩
     case round=>
      clear HB;obtain⟨j,hj,rfl,HB⟩:=hrel;by_cases hjn:j<m6
      .obtain⟨b,off,b',off',r,r',rfl,rfl,hr,hcl,hcl'⟩:=G6.out j hjn;have HM:=aa (λW hb=>hr.same W hb)
       have HL:Hid (r.length=10/\r'.length=10):=by
        obtain⟨s0,s1,n2,n3,n4,n5,s6,b7,n8,A9,B9,m9,c9,d9,f,rfl,rfl,-⟩:=hr;exact⟨rfl,rfl⟩
       have HCL:Hid (∀W,Below w.heap.size w W->W.rangeAt b (off+j*10) r):=λW hb o u hu=>hcl W hb o u hu
       have qed:Hid (∀W,Below w.heap.size w W->W.rangeAt b' (off'+j*10) r'):=λW hb o u hu=>hcl' W hb o u hu
       clear hcl hcl' hr;have hltz:(j:Int)<(m6:Int):=kg;have hj0:(0:Int)<=(j:Int):=kg;have e4:IntKind.i64.wrap ((j:Int)+1)=((j+1:Nat):Int):=by simp[di,dj,cz];omega
       go_wp2_with fail;refine RegM.region 12 (λkz v W=>match kz with|0=>v=nj (I ⟨w.heap.size,6,V⟩)|1=>v=ng (I ⟨b,off,V⟩) m6 c6|2=>v=.int O j|3=>v=nj (I ⟨b,off+j*10,V⟩)|4=>v=.agg r.toArray|5=>v=nj (I ⟨w.heap.size+1,6,V⟩)|6=>v=ng (I ⟨b',off',V⟩) m6 d6|7=>v=.int O j|8=>v=nj (I ⟨b',off'+j*10,V⟩)|9=>v=.agg r'.toArray|10=>v=ni nr|11=>v=ni ns|_=>True) ki ki (qx.qqq (n:=246) ki rfl) (λ_ _ _ _ _ h=>h) ?_ ?_
       .intro idx o hj ho a' w' hG qh;have hj':idx=0\/idx=1\/idx=2\/idx=3\/idx=4\/idx=5\/idx=6\/idx=7\/idx=8\/idx=9\/idx=10\/idx=11:=kg;clear hj;rcases hj' with rfl|rfl|rfl|rfl|rfl|rfl|rfl|rfl|rfl|rfl|rfl|rfl
        .cases oi ho;have h2:=qx.gdt (qh 2 nd);refine qx.qc.eq ?_ ⟨aj _ _,rfl⟩;go_simp
         all_goals(try exact⟨rfl,rfl⟩)
        .cases oi ho;have h181:a'.tmps[181]?.getD mc=nj (I ⟨w.heap.size,6,V⟩):=qx.gdt (qh 181 nd);have k2:=((HK2.out.call HB.out).call hG).cell 6;simp at k2;refine qx.qc.eq ?_ ⟨aj _ _,rfl⟩;go_simp
         all_goals(try exact⟨rfl,rfl⟩)
        .cases oi ho;have h10:=qx.gdt (qh 10 nd);refine qx.qc.eq ?_ ⟨aj _ _,rfl⟩;go_simp
         all_goals(try exact⟨rfl,rfl⟩)
        .cases oi ho;have h182:a'.tmps[182]?.getD mc=ng (I ⟨b,off,V⟩) m6 c6:=qx.gdt (qh 182 nd);have h183:a'.tmps[183]?.getD mc=.int O j:=qx.gdt (qh 183 nd);refine qx.qc.eq ?_ ⟨aj _ _,rfl⟩;go_simp
         all_goals(try exact⟨rfl,rfl⟩)
        .cases oi ho;have h184:a'.tmps[184]?.getD mc=nj (I ⟨b,off+j*10,V⟩):=qx.gdt (qh 184 nd);exact qj6 (x:=.tmp 184) (a:=a') (d:=_) rfl ((au ..).trans h184) (HCL.out _ (qg (qg HB1.out HB.out) hG)) ly rfl (by rw[HL.out.1];kernel_rfl) ⟨aj _ _,rfl⟩
        .cases oi ho;have h3:=qx.gdt (qh 3 nd);refine qx.qc.eq ?_ ⟨aj _ _,rfl⟩;go_simp
         all_goals(try exact⟨rfl,rfl⟩)
        .cases oi ho;have h186:a'.tmps[186]?.getD mc=nj (I ⟨w.heap.size+1,6,V⟩):=qx.gdt (qh 186 nd);have k3:=((HK3.out.call HB.out).call hG).cell 6;simp at k3;refine qx.qc.eq ?_ ⟨aj _ _,rfl⟩;go_simp
         all_goals(try exact⟨rfl,rfl⟩)
        .cases oi ho;have h10:=qx.gdt (qh 10 nd);refine qx.qc.eq ?_ ⟨aj _ _,rfl⟩;go_simp
         all_goals(try exact⟨rfl,rfl⟩)
        .cases oi ho;have h187:a'.tmps[187]?.getD mc=ng (I ⟨b',off',V⟩) m6 d6:=qx.gdt (qh 187 nd);have h188:a'.tmps[188]?.getD mc=.int O j:=qx.gdt (qh 188 nd);refine qx.qc.eq ?_ ⟨aj _ _,rfl⟩;go_simp
         all_goals(try exact⟨rfl,rfl⟩)
        .cases oi ho;have h189:a'.tmps[189]?.getD mc=nj (I ⟨b',off'+j*10,V⟩):=qx.gdt (qh 189 nd);exact qj6 (x:=.tmp 189) (a:=a') (d:=_) rfl ((au ..).trans h189) (qed.out _ (qg (qg HB1.out HB.out) hG)) ly rfl (by rw[HL.out.2];kernel_rfl) ⟨aj _ _,rfl⟩
        .cases oi ho;have h185:a'.tmps[185]?.getD mc=.agg r.toArray:=qx.gdt (qh 185 nd);have h190:a'.tmps[190]?.getD mc=.agg r'.toArray:=qx.gdt (qh 190 nd);refine qx.qc.mono (R:=λv W=>(v=ni nr)/\Hid (Below w'.heap.size w' W)) ?_ (λv W h=>⟨h.2.out,h.1⟩)
         .go_simp;refine(show Calls _ _ _ _ _ from HM.out _ (qg (qg HB1.out HB.out) hG)).mono ?_;rintro e w5 ⟨rfl,hb⟩;exact⟨_,rfl,rfl,hb⟩
        .cases oi ho;have h191:a'.tmps[191]?.getD mc=ni nr:=qx.gdt (qh 191 nd);refine qx.qc.eq ?_ ⟨aj _ _,rfl⟩;go_simp
         all_goals(try exact⟨rfl,rfl⟩)
       .intro vals w' hG hv;have hv0:vals 0=nj (I ⟨w.heap.size,6,V⟩):=hv 0 kg;have hv1:vals 1=ng (I ⟨b,off,V⟩) m6 c6:=hv 1 kg;have hv2:vals 2=.int O j:=hv 2 kg;have hv3:vals 3=nj (I ⟨b,off+j*10,V⟩):=hv 3 kg;have hv4:vals 4=.agg r.toArray:=hv 4 kg;have hv5:vals 5=nj (I ⟨w.heap.size+1,6,V⟩):=hv 5 kg;have hv6:vals 6=ng (I ⟨b',off',V⟩) m6 d6:=hv 6 kg;have hv7:vals 7=.int O j:=hv 7 kg;have hv8:vals 8=nj (I ⟨b',off'+j*10,V⟩):=hv 8 kg;have hv9:vals 9=.agg r'.toArray:=hv 9 kg;have qxs:vals 10=ni nr:=hv 10 kg;have qki:vals 11=ni ns:=hv 11 kg;simp only[qx.puts,qx.zi,ay,dc,if_true,cq,df,hv0,hv1,hv2,hv3,hv4,hv5,hv6,hv7,hv8,hv9,qxs,qki];clear hv hv0 hv1 hv2 hv3 hv4 hv5 hv6 hv7 hv8 hv9 qxs qki;simp[ez];have HB3:Hid (Below w1.heap.size w1 w'):=qg HB.out hG;go_wp2_with fail;go_roundg (m6-(j+1))
        case measure=>omega
        case rel=>exact⟨j+1,kg,kq,HB3⟩
      .have xm:m6=j:=kg;subst xm;have k2:=(HK2.out.call HB.out).cell;have k3:=(HK3.out.call HB.out).cell;go_wp2_with fail;clear k2 k3;go_loopg [197] m7 (λgg s197 wr=>∃j:Nat,j+gg=m7/\s197=U O j/\Hid (Below w1.heap.size w1 wr))
       case atStart=>exact⟨0,kg,rfl,HB⟩
       case round=>
        clear HB;obtain⟨j,hj,rfl,HB⟩:=hrel;by_cases hjn:j<m7
        .obtain⟨b,off,b',off',r,r',rfl,rfl,⟨t0,us1,un2,us3,un4,un5,uA6,uB6,um6,uc6,ud6,un7,un8,ub9,ub10,uf,rfl,rfl,z,r,r'⟩,hcl,hcl'⟩:=G7.out j hjn;have HM:Hid (∀W,Below w.heap.size w W->Calls ab 28 #[.agg #[nh t0,nh us1,U O un2,nh us3,U O un4,U O un5,ng uA6 um6 uc6,U O un7,U O un8,ni ub9,ni ub10],.agg #[nh t0,nh us1,U O un2,nh us3,U O un4,U O un5,ng uB6 um6 ud6,U O un7,U O un8,ni ub9,ni ub10]] W λe w'=>e=np (ni nr)/\Hid (Below W.heap.size W w')):=λW hb=>same28 t0 us1 un2 us3 un4 un5 un7 un8 ub9 ub10 uA6 uB6 um6 uc6 ud6 uf W z (vz r hb) (vz r' hb)
         have HCL:Hid (∀W,Below w.heap.size w W->W.rangeAt b (off+j*11) [nh t0,nh us1,U O un2,nh us3,U O un4,U O un5,ng uA6 um6 uc6,U O un7,U O un8,ni ub9,ni ub10]):=λW hb o u hu=>hcl W hb o u hu
         have qed:Hid (∀W,Below w.heap.size w W->W.rangeAt b' (off'+j*11) [nh t0,nh us1,U O un2,nh us3,U O un4,U O un5,ng uB6 um6 ud6,U O un7,U O un8,ni ub9,ni ub10]):=λW hb o u hu=>hcl' W hb o u hu
         clear hcl hcl' r r';have hltz:(j:Int)<(m7:Int):=kg;have hj0:(0:Int)<=(j:Int):=kg;have e4:IntKind.i64.wrap ((j:Int)+1)=((j+1:Nat):Int):=by simp[di,dj,cz];omega
         go_wp2_with fail;refine RegM.qi0 27 (λkz v W=>match kz with|0=>v=nj (I ⟨w.heap.size,7,V⟩)|1=>v=ng (I ⟨b,off,V⟩) m7 c7|2=>v=.int O j|3=>v=nj (I ⟨b,off+j*11,V⟩)|4=>v=.agg #[nh t0,nh us1,U O un2,nh us3,U O un4,U O un5,ng uA6 um6 uc6,U O un7,U O un8,ni ub9,ni ub10]|5=>v=nj (I ⟨w.heap.size+1,7,V⟩)|6=>v=ng (I ⟨b',off',V⟩) m7 d7|7=>v=.int O j|8=>v=nj (I ⟨b',off'+j*11,V⟩)|9=>v=.agg #[nh t0,nh us1,U O un2,nh us3,U O un4,U O un5,ng uB6 um6 ud6,U O un7,U O un8,ni ub9,ni ub10]|10=>v=ni nr|11=>v=ni ns|12=>v=ni ns|13=>v=nj (I ⟨w.heap.size,7,V⟩)|14=>v=ng (I ⟨b,off,V⟩) m7 c7|15=>v=.int O j|16=>v=nj (I ⟨b,off+j*11,V⟩)|17=>v=nj (I ⟨b,off+j*11+9,V⟩)|18=>v=ni ub9|19=>v=nj (I ⟨w.heap.size+1,7,V⟩)|20=>v=ng (I ⟨b',off',V⟩) m7 d7|21=>v=.int O j|22=>v=nj (I ⟨b',off'+j*11,V⟩)|23=>v=nj (I ⟨b',off'+j*11+9,V⟩)|24=>v=ni ub9|25=>v=ni ns|26=>v=ni ns|_=>True) ki ki (qx.qqq (n:=246) ki rfl) (λ_ _ _ _ _ h=>h) ?_ ?_ ?_
         .intro idx o hj ho a' w' hG hgd qh;have hj':idx=0\/idx=1\/idx=2\/idx=3\/idx=4\/idx=5\/idx=6\/idx=7\/idx=8\/idx=9\/idx=10\/idx=11\/idx=12\/idx=13\/idx=14\/idx=15\/idx=16\/idx=17\/idx=18\/idx=19\/idx=20\/idx=21\/idx=22\/idx=23\/idx=24\/idx=25\/idx=26:=kg;clear hj;rcases hj' with rfl|rfl|rfl|rfl|rfl|rfl|rfl|rfl|rfl|rfl|rfl|rfl|rfl|rfl|rfl|rfl|rfl|rfl|rfl|rfl|rfl|rfl|rfl|rfl|rfl|rfl|rfl
          .cases oi ho;clear hgd;have h2:=qx.gdt (qh 2 nd);refine qx.qc.eq ?_ ⟨aj _ _,rfl⟩;go_simp
           all_goals(try exact⟨rfl,rfl⟩)
          .cases oi ho;clear hgd;have h200:a'.tmps[200]?.getD mc=nj (I ⟨w.heap.size,7,V⟩):=qx.gdt (qh 200 nd);have k2:=((HK2.out.call HB.out).call hG).cell 7;simp at k2;refine qx.qc.eq ?_ ⟨aj _ _,rfl⟩;go_simp
           all_goals(try exact⟨rfl,rfl⟩)
          .cases oi ho;clear hgd;have h11:=qx.gdt (qh 11 nd);refine qx.qc.eq ?_ ⟨aj _ _,rfl⟩;go_simp
           all_goals(try exact⟨rfl,rfl⟩)
          .cases oi ho;clear hgd;have h201:a'.tmps[201]?.getD mc=ng (I ⟨b,off,V⟩) m7 c7:=qx.gdt (qh 201 nd);have h202:a'.tmps[202]?.getD mc=.int O j:=qx.gdt (qh 202 nd);refine qx.qc.eq ?_ ⟨aj _ _,rfl⟩;go_simp
           all_goals(try exact⟨rfl,rfl⟩)
          .cases oi ho;clear hgd;have h203:a'.tmps[203]?.getD mc=nj (I ⟨b,off+j*11,V⟩):=qx.gdt (qh 203 nd);exact qj6 (x:=.tmp 203) (a:=a') (d:=_) rfl ((au ..).trans h203) (HCL.out _ (qg (qg HB1.out HB.out) hG)) lz rfl ki ⟨aj _ _,rfl⟩
          .cases oi ho;clear hgd;have h3:=qx.gdt (qh 3 nd);refine qx.qc.eq ?_ ⟨aj _ _,rfl⟩;go_simp
           all_goals(try exact⟨rfl,rfl⟩)
          .cases oi ho;clear hgd;have h205:a'.tmps[205]?.getD mc=nj (I ⟨w.heap.size+1,7,V⟩):=qx.gdt (qh 205 nd);have k3:=((HK3.out.call HB.out).call hG).cell 7;simp at k3;refine qx.qc.eq ?_ ⟨aj _ _,rfl⟩;go_simp
           all_goals(try exact⟨rfl,rfl⟩)
          .cases oi ho;clear hgd;have h11:=qx.gdt (qh 11 nd);refine qx.qc.eq ?_ ⟨aj _ _,rfl⟩;go_simp
           all_goals(try exact⟨rfl,rfl⟩)
          .cases oi ho;clear hgd;have h206:a'.tmps[206]?.getD mc=ng (I ⟨b',off',V⟩) m7 d7:=qx.gdt (qh 206 nd);have h207:a'.tmps[207]?.getD mc=.int O j:=qx.gdt (qh 207 nd);refine qx.qc.eq ?_ ⟨aj _ _,rfl⟩;go_simp
           all_goals(try exact⟨rfl,rfl⟩)
          .cases oi ho;clear hgd;have h208:a'.tmps[208]?.getD mc=nj (I ⟨b',off'+j*11,V⟩):=qx.gdt (qh 208 nd);exact qj6 (x:=.tmp 208) (a:=a') (d:=_) rfl ((au ..).trans h208) (qed.out _ (qg (qg HB1.out HB.out) hG)) lz rfl ki ⟨aj _ _,rfl⟩
          .cases oi ho;clear hgd;have h204:a'.tmps[204]?.getD mc=.agg #[nh t0,nh us1,U O un2,nh us3,U O un4,U O un5,ng uA6 um6 uc6,U O un7,U O un8,ni ub9,ni ub10]:=qx.gdt (qh 204 nd);have h209:a'.tmps[209]?.getD mc=.agg #[nh t0,nh us1,U O un2,nh us3,U O un4,U O un5,ng uB6 um6 ud6,U O un7,U O un8,ni ub9,ni ub10]:=qx.gdt (qh 209 nd);refine qx.qc.mono (R:=λv W=>(v=ni nr)/\Hid (Below w'.heap.size w' W)) ?_ (λv W h=>⟨h.2.out,h.1⟩)
           .go_simp;refine(show Calls _ _ _ _ _ from HM.out _ (qg (qg HB1.out HB.out) hG)).mono ?_;rintro e w5 ⟨rfl,hb⟩;exact⟨_,rfl,rfl,hb⟩
          .cases oi ho;clear hgd;have h210:a'.tmps[210]?.getD mc=ni nr:=qx.gdt (qh 210 nd);refine qx.qc.eq ?_ ⟨aj _ _,rfl⟩;go_simp
           all_goals(try exact⟨rfl,rfl⟩)
          .cases oi ho;clear hgd;have h211:a'.tmps[211]?.getD mc=ni ns:=qx.gdt (qh 211 nd);refine qx.qc.eq ?_ ⟨aj _ _,rfl⟩;go_simp
           all_goals(try exact⟨rfl,rfl⟩)
          .cases oi ho;clear hgd;have h2:=qx.gdt (qh 2 nd);refine qx.qc.eq ?_ ⟨aj _ _,rfl⟩;go_simp
           all_goals(try exact⟨rfl,rfl⟩)
          .cases oi ho;clear hgd;have h213:a'.tmps[213]?.getD mc=nj (I ⟨w.heap.size,7,V⟩):=qx.gdt (qh 213 nd);have k2:=((HK2.out.call HB.out).call hG).cell 7;simp at k2;refine qx.qc.eq ?_ ⟨aj _ _,rfl⟩;go_simp
           all_goals(try exact⟨rfl,rfl⟩)
          .cases oi ho;clear hgd;have h11:=qx.gdt (qh 11 nd);refine qx.qc.eq ?_ ⟨aj _ _,rfl⟩;go_simp
           all_goals(try exact⟨rfl,rfl⟩)
          .cases oi ho;clear hgd;have h214:a'.tmps[214]?.getD mc=ng (I ⟨b,off,V⟩) m7 c7:=qx.gdt (qh 214 nd);have h215:a'.tmps[215]?.getD mc=.int O j:=qx.gdt (qh 215 nd);refine qx.qc.eq ?_ ⟨aj _ _,rfl⟩;go_simp
           all_goals(try exact⟨rfl,rfl⟩)
          .cases oi ho;clear hgd;have h216:a'.tmps[216]?.getD mc=nj (I ⟨b,off+j*11,V⟩):=qx.gdt (qh 216 nd);refine qx.qc.eq ?_ ⟨aj _ _,rfl⟩;go_simp
           all_goals(try exact⟨rfl,rfl⟩)
          .cases oi ho;clear hgd;have h217:a'.tmps[217]?.getD mc=nj (I ⟨b,off+j*11+9,V⟩):=qx.gdt (qh 217 nd);have c9:=HCL.out _ (qg (qg HB1.out HB.out) hG) 9 _ rfl;refine qx.qc.eq ?_ ⟨aj _ _,rfl⟩;go_simp
           all_goals(try exact⟨rfl,rfl⟩)
          .cases oi ho;clear hgd;have h3:=qx.gdt (qh 3 nd);refine qx.qc.eq ?_ ⟨aj _ _,rfl⟩;go_simp
           all_goals(try exact⟨rfl,rfl⟩)
          .cases oi ho;clear hgd;have h219:a'.tmps[219]?.getD mc=nj (I ⟨w.heap.size+1,7,V⟩):=qx.gdt (qh 219 nd);have k3:=((HK3.out.call HB.out).call hG).cell 7;simp at k3;refine qx.qc.eq ?_ ⟨aj _ _,rfl⟩;go_simp
           all_goals(try exact⟨rfl,rfl⟩)
          .cases oi ho;clear hgd;have h11:=qx.gdt (qh 11 nd);refine qx.qc.eq ?_ ⟨aj _ _,rfl⟩;go_simp
           all_goals(try exact⟨rfl,rfl⟩)
          .cases oi ho;clear hgd;have h220:a'.tmps[220]?.getD mc=ng (I ⟨b',off',V⟩) m7 d7:=qx.gdt (qh 220 nd);have h221:a'.tmps[221]?.getD mc=.int O j:=qx.gdt (qh 221 nd);refine qx.qc.eq ?_ ⟨aj _ _,rfl⟩;go_simp
           all_goals(try exact⟨rfl,rfl⟩)
          .cases oi ho;clear hgd;have h222:a'.tmps[222]?.getD mc=nj (I ⟨b',off'+j*11,V⟩):=qx.gdt (qh 222 nd);refine qx.qc.eq ?_ ⟨aj _ _,rfl⟩;go_simp
           all_goals(try exact⟨rfl,rfl⟩)
          .cases oi ho;clear hgd;have h223:a'.tmps[223]?.getD mc=nj (I ⟨b',off'+j*11+9,V⟩):=qx.gdt (qh 223 nd);have c9:=qed.out _ (qg (qg HB1.out HB.out) hG) 9 _ rfl;refine qx.qc.eq ?_ ⟨aj _ _,rfl⟩;go_simp
           all_goals(try exact⟨rfl,rfl⟩)
          .cases oi ho;clear hgd;have h218:a'.tmps[218]?.getD mc=ni ub9:=qx.gdt (qh 218 nd);have h224:a'.tmps[224]?.getD mc=ni ub9:=qx.gdt (qh 224 nd);refine qx.qc.eq ?_ ⟨aj _ _,rfl⟩;go_simp
           all_goals(try exact⟨rfl,rfl⟩)
          .cases oi ho;clear hgd;have h212:a'.tmps[212]?.getD mc=ni ns:=qx.gdt (qh 212 nd);have h225:a'.tmps[225]?.getD mc=ni ns:=qx.gdt (qh 225 nd);refine qx.qc.eq ?_ ⟨aj _ _,rfl⟩;go_simp
           all_goals(try exact⟨rfl,rfl⟩)
         .intro idx o hj ho j b hg v W hv hne;have hj':idx=0\/idx=1\/idx=2\/idx=3\/idx=4\/idx=5\/idx=6\/idx=7\/idx=8\/idx=9\/idx=10\/idx=11\/idx=12\/idx=13\/idx=14\/idx=15\/idx=16\/idx=17\/idx=18\/idx=19\/idx=20\/idx=21\/idx=22\/idx=23\/idx=24\/idx=25\/idx=26:=kg;clear hj;rcases hj' with rfl|rfl|rfl|rfl|rfl|rfl|rfl|rfl|rfl|rfl|rfl|rfl|rfl|rfl|rfl|rfl|rfl|rfl|rfl|rfl|rfl|rfl|rfl|rfl|rfl|rfl|rfl
          .cases oi ho;cases hg
          .cases oi ho;cases hg
          .cases oi ho;cases hg
          .cases oi ho;cases hg
          .cases oi ho;cases hg
          .cases oi ho;cases hg
          .cases oi ho;cases hg
          .cases oi ho;cases hg
          .cases oi ho;cases hg
          .cases oi ho;cases hg
          .cases oi ho;cases hg
          .cases oi ho;cases hg
          .cases oi ho;cases hg
          .cases oi ho;obtain⟨rfl,rfl⟩:=fp (oi hg);have hv:v=ni ns:=hv;subst hv;exact absurd rfl hne
          .cases oi ho;obtain⟨rfl,rfl⟩:=fp (oi hg);have hv:v=ni ns:=hv;subst hv;exact absurd rfl hne
          .cases oi ho;obtain⟨rfl,rfl⟩:=fp (oi hg);have hv:v=ni ns:=hv;subst hv;exact absurd rfl hne
          .cases oi ho;obtain⟨rfl,rfl⟩:=fp (oi hg);have hv:v=ni ns:=hv;subst hv;exact absurd rfl hne
          .cases oi ho;obtain⟨rfl,rfl⟩:=fp (oi hg);have hv:v=ni ns:=hv;subst hv;exact absurd rfl hne
          .cases oi ho;obtain⟨rfl,rfl⟩:=fp (oi hg);have hv:v=ni ns:=hv;subst hv;exact absurd rfl hne
          .cases oi ho;obtain⟨rfl,rfl⟩:=fp (oi hg);have hv:v=ni ns:=hv;subst hv;exact absurd rfl hne
          .cases oi ho;obtain⟨rfl,rfl⟩:=fp (oi hg);have hv:v=ni ns:=hv;subst hv;exact absurd rfl hne
          .cases oi ho;obtain⟨rfl,rfl⟩:=fp (oi hg);have hv:v=ni ns:=hv;subst hv;exact absurd rfl hne
          .cases oi ho;obtain⟨rfl,rfl⟩:=fp (oi hg);have hv:v=ni ns:=hv;subst hv;exact absurd rfl hne
          .cases oi ho;obtain⟨rfl,rfl⟩:=fp (oi hg);have hv:v=ni ns:=hv;subst hv;exact absurd rfl hne
          .cases oi ho;obtain⟨rfl,rfl⟩:=fp (oi hg);have hv:v=ni ns:=hv;subst hv;exact absurd rfl hne
          .cases oi ho;obtain⟨rfl,rfl⟩:=fp (oi hg);have hv:v=ni ns:=hv;subst hv;exact absurd rfl hne
          .cases oi ho;cases hg
         .intro vals w' hG hv;have hv0:vals 0=nj (I ⟨w.heap.size,7,V⟩):=hv 0 kg;have hv1:vals 1=ng (I ⟨b,off,V⟩) m7 c7:=hv 1 kg;have hv2:vals 2=.int O j:=hv 2 kg;have hv3:vals 3=nj (I ⟨b,off+j*11,V⟩):=hv 3 kg;have hv4:vals 4=.agg #[nh t0,nh us1,U O un2,nh us3,U O un4,U O un5,ng uA6 um6 uc6,U O un7,U O un8,ni ub9,ni ub10]:=hv 4 kg;have hv5:vals 5=nj (I ⟨w.heap.size+1,7,V⟩):=hv 5 kg;have hv6:vals 6=ng (I ⟨b',off',V⟩) m7 d7:=hv 6 kg;have hv7:vals 7=.int O j:=hv 7 kg;have hv8:vals 8=nj (I ⟨b',off'+j*11,V⟩):=hv 8 kg;have hv9:vals 9=.agg #[nh t0,nh us1,U O un2,nh us3,U O un4,U O un5,ng uB6 um6 ud6,U O un7,U O un8,ni ub9,ni ub10]:=hv 9 kg;have qxs:vals 10=ni nr:=hv 10 kg;have qki:vals 11=ni ns:=hv 11 kg;have qkv:vals 12=ni ns:=hv 12 kg;have qkg:vals 13=nj (I ⟨w.heap.size,7,V⟩):=hv 13 kg;have hv14:vals 14=ng (I ⟨b,off,V⟩) m7 c7:=hv 14 kg;have hv15:vals 15=.int O j:=hv 15 kg;have hv16:vals 16=nj (I ⟨b,off+j*11,V⟩):=hv 16 kg;have hv17:vals 17=nj (I ⟨b,off+j*11+9,V⟩):=hv 17 kg;have hv18:vals 18=ni ub9:=hv 18 kg;have hv19:vals 19=nj (I ⟨w.heap.size+1,7,V⟩):=hv 19 kg;have hv20:vals 20=ng (I ⟨b',off',V⟩) m7 d7:=hv 20 kg;have hv21:vals 21=.int O j:=hv 21 kg;have hv22:vals 22=nj (I ⟨b',off'+j*11,V⟩):=hv 22 kg;have hv23:vals 23=nj (I ⟨b',off'+j*11+9,V⟩):=hv 23 kg;have hv24:vals 24=ni ub9:=hv 24 kg;have hv25:vals 25=ni ns:=hv 25 kg;have hv26:vals 26=ni ns:=hv 26 kg;simp only[qx.puts,qx.zi,ay,dc,if_true,cq,df,hv0,hv1,hv2,hv3,hv4,hv5,hv6,hv7,hv8,hv9,qxs,qki,qkv,qkg,hv14,hv15,hv16,hv17,hv18,hv19,hv20,hv21,hv22,hv23,hv24,hv25,hv26];clear hv hv0 hv1 hv2 hv3 hv4 hv5 hv6 hv7 hv8 hv9 qxs qki qkv qkg hv14 hv15 hv16 hv17 hv18 hv19 hv20 hv21 hv22 hv23 hv24 hv25 hv26;simp[ez];have HB3:Hid (Below w1.heap.size w1 w'):=qg HB.out hG;go_wp2_with fail;go_roundg (m7-(j+1))
          case measure=>omega
          case rel=>exact⟨j+1,kg,kq,HB3⟩
        .have xm:m7=j:=kg;subst xm;have k2:=(HK2.out.call HB.out).cell;have k3:=(HK3.out.call HB.out).cell;go_wp2_with fail;clear k2 k3;go_loopg [231] m8 (λgg s231 wr=>∃j:Nat,j+gg=m8/\s231=U O j/\Hid (Below w1.heap.size w1 wr))
         case atStart=>exact⟨0,kg,rfl,HB⟩
         case round=>
          clear HB;obtain⟨j,hj,rfl,HB⟩:=hrel;by_cases hjn:j<m8
          .have k2:=(HK2.out.call HB.out).cell 8;have k3:=(HK3.out.call HB.out).cell 8;simp at k2 k3;obtain⟨b,off,rfl,hcl⟩:=G8.out j hjn;obtain⟨b',off',rfl,hcl'⟩:=G8'.out j hjn;obtain⟨l0,l1,l2,l3,l4,l5,hfj⟩:=GL.out j hjn;have hcw:=hcl wr (qg HB1.out HB.out);have qzh:=hcl' wr (qg HB1.out HB.out);rw[hfj] at hcw qzh;have h0:wr.cell? ⟨b,off+j*6,V⟩=I (U O l0):=by simpa using hcw 0 _ rfl
           have h1:wr.cell? ⟨b,off+j*6+1,V⟩=_:=hcw 1 _ rfl;have h2:wr.cell? ⟨b,off+j*6+2,V⟩=_:=hcw 2 _ rfl;have h3:wr.cell? ⟨b,off+j*6+3,V⟩=_:=hcw 3 _ rfl;have h4:wr.cell? ⟨b,off+j*6+4,V⟩=_:=hcw 4 _ rfl;have h5:wr.cell? ⟨b,off+j*6+5,V⟩=_:=hcw 5 _ rfl;have i0:wr.cell? ⟨b',off'+j*6,V⟩=I (U O l0):=by simpa using qzh 0 _ rfl
           have i1:wr.cell? ⟨b',off'+j*6+1,V⟩=_:=qzh 1 _ rfl;have i2:wr.cell? ⟨b',off'+j*6+2,V⟩=_:=qzh 2 _ rfl;have i3:wr.cell? ⟨b',off'+j*6+3,V⟩=_:=qzh 3 _ rfl;have i4:wr.cell? ⟨b',off'+j*6+4,V⟩=_:=qzh 4 _ rfl;have i5:wr.cell? ⟨b',off'+j*6+5,V⟩=_:=qzh 5 _ rfl;clear hcl hcw hcl' qzh hfj;have hltz:(j:Int)<(m8:Int):=kg;have hj0:(0:Int)<=(j:Int):=kg;have e4:IntKind.i64.wrap ((j:Int)+1)=((j+1:Nat):Int):=by simp[di,dj,cz];omega
           go_wp2_with fail
           go_quiet (fail)
           go_wp2_with fail;go_roundg (m8-(j+1))
           case measure=>omega
           case rel=>exact⟨j+1,kg,kq,aa (by have:=HB.out;first|assumption|exact yf this _|(exact qd HB.out (rj na (HB.out.size))))⟩
          .have xm:m8=j:=kg;subst xm;have k2:=(HK2.out.call HB.out).cell;have k3:=(HK3.out.call HB.out).cell;go_wp2_with fail;go_ret;exact⟨rfl,qg HB1.out HB.out⟩
end
end Sy
end Go.Proofs.YtmadfhgiaonnlaaGreatDoor
