import Derived.OrdersIn
import Derived.OwnWalkIn
import Derived.Test.YtmadfhgiaonnlaaGreatDoorPk5
open Array renaming size_append->fw,length_toList->aw,getElem_toList->pq,getElem?_eq_some_iff->cl,getElem?_eq_none->dq,getElem?_toList->ax,getElem?_eq_getElem->ak,getElem?_setIfInBounds->bt,getElem?_append_left->dz,getElem?_append_right->fh,getElem?_extract->yi,all_eq_true_iff_forall_mem->ru,getD_eq_getD_getElem?->au,replicate->fy
open Bool renaming and_eq_true->ag,or_eq_true->cj
open Go renaming run_append_nil->rf,grownCap_ge->mq,grownCap_le_maxLen->ib,heap_alloc_new->gy,size_zeroCells->pj,setRow_other->cw,setRow_heap->gh,run_append_grow->oy,growslice_fits->rh,wpList_plain->qu,run_underlying->bg,cell_of_row->dx,run_firstCells_none->mn,run_firstCells_some->gu,size_setRow->dr
open Go.Addr renaming add_lit->acr
open Go.Builtin renaming zeroCells->gw,append_->fu,firstCells->gm
open Go.Instr renaming mapUpdate->lu,lookup->mr,fill->iv,loadAt->qq,sureAddr->mo
open Go.Lib renaming hid->aa
open Go.MapKept renaming run_getObj_map->lp
open Go.Oper renaming wp->vv
open Go.Proofs.Tryz renaming prog->ab,underlying202->ub,func114->acs
open Go.Region renaming seqB->tr,binds->dy,wanted->ee
open Go.Result renaming andThen_ok->aq
open Go.RowKit.Below renaming refl->aj,heap_alloc->iy,heap_setCell->iz
open Go.Sem renaming run_bind->ai,run_pure->eb
open Go.Value renaming ownBlock->abv
open Go.World renaming drewN->yb,cell?->lg,cell?_of_block->cg
open List renaming mem_append->bo,size_toArray->ei,length_take->fb,length_drop->oc,length_cons->gp,length_nil->ox,mem_of_mem_take->ze,getElem?_take->fc,getElem_mem->wv,mem_of_getElem?->cm,all_eq_true->ao,getElem?_eq_some_iff->al,range->ay,getElem?_map->dh,getElem?_range->zr,getElem?_eq_getElem->ah,getElem?_drop->ia,getElem?_eq_none->dn,mem_range->bj,nodup_range->pn
open Nat renaming mod_one->ya,zero_add->bu,zero_le->cr,lt_or_ge->dw,le_trans->cy,le_refl->af,lt_of_lt_of_le->bf,mul_le_mul->tn,add_mul_mod_self_right->ev,add_mul->eh,mul_le_mul_right->dd,one_mul->lq,add_assoc->gi,add_sub_cancel_left->dm,mod_eq_of_lt->iw,zero_mul->qv,add_comm->acu
open Option renaming getD_some->lj
open Option.some renaming injEq->bc
open Bool renaming false->ns,true->nr
open Go renaming Program->ma,TypeId->nz,Value->ny,World->nu,maxLen->mf,undef->mc
open Go.Ending renaming returned->np
open Go.IntKind renaming i64->O
open Go.Value renaming bool->ni,int->U,pointer->nj,slice->ng,string->nh
open Option renaming none->V,some->I
open Go.Proofs.YtmadfhgiaonnlaaGreatDoor renaming Blk->mg
set_option maxRecDepth 100000
set_option maxHeartbeats 2000000
set_option linter.unusedVariables false
set_option linter.unusedSimpArgs false
namespace Go.Proofs.YtmadfhgiaonnlaaGreatDoor
namespace Sy
open Go.RowKit
variable {a:Act}{es:Array MapEntry}{ops:Array Oper}{cs cs' cs0 cs1 cs2 cur rs xs ys z:Array ny}{s s0 s1:ByteArray}{ct ct':CT}{Q:Exit->Act->nu->Prop}{f l:List CT}{rest:List Oper}{D b c c' c2 g g2 j k lb lb2 lim m m2 n n' o off p q:Nat}{T2:Nat->Prop}{A B:Option Addr}{d:TD}{e t t2 ty tz:nz}{key r u v v' x:ny}{w1 w2:nu}
section
variable {W0:nu}{T:Nat->Prop}{w:nu}
abbrev qxg (a b:ByteArray):Array ny:=#[nh a,nh b]
def qy0(cs:Array ny):Prop:=∀u∈cs.toList,∃s:ByteArray,u=nh s/\s.size<=mf
theorem qy0.app{a b:Array ny}(h:qy0 a)(k:qy0 b):qy0 (a++b):=λu hu=>by
 rw[Array.toList_append,bo] at hu;rcases hu with hu|hu
 .exact h u hu
 .exact k u hu
theorem qy0.one(h:s.size<=mf):qy0 [Value.string s].toArray:=λu hu=>by
 obtain rfl:u=nh s:=by simpa using hu
 exact⟨s,rfl,h⟩
theorem qy0.zero(k:Nat):qy0 (gw (Value.string ⟨#[]⟩).cells k):=λu hu=>by
 rw[qxt] at hu;simp only[Array.toList_map,List.mem_map,Array.mem_toList_iff] at hu;obtain⟨x,-,rfl⟩:=hu;refine⟨⟨#[]⟩,?_,kj⟩;have:(Value.string ⟨#[]⟩).cells.size=1:=rfl;rw[this,ya];rfl
theorem qy0.sub{a:Array ny}{l:List ny}(h:qy0 a)(hl:∀u∈l,u∈a.toList):qy0 l.toArray:=λu hu=>h u (hl u (by simpa using hu))
def qxx(base:Nat)(w:nu)(v:ny)(n:Nat):Prop:=(v=ng V 0 0/\n=0) \/
 ∃g c cur,v=ng (I ⟨g,0,V⟩) n c/\base<=g/\mg w g 9 cur/\n<=c/\c<=mf/\cur.size=c/\qy0 cur
theorem qxx.qkk{base:Nat}{w:nu}(h:qxx base w v n):∃A c,v=ng A n c:=by
 rcases h with⟨rfl,rfl⟩|⟨g,c,cur,rfl,-⟩<;>exact⟨_,_,rfl⟩
theorem qxx.call{base n:Nat}{w w':nu}{v:ny}(h:qxx base w v n)(hb:Below w.heap.size w w'):qxx base w' v n:=by
 rcases h with h|⟨g,c,cur,h1,h2,h3,h4⟩
 .exact .inl h
 .exact .inr ⟨g,c,cur,h1,h2,h3.call hb,h4⟩
theorem q7w:(ab.info? 9).map (λi=>(i.zero,i.size,i.bytes))=I (I (nh ⟨#[]⟩),1,16):=ki
theorem below_grown{base:Nat}{w w':nu}(hg:w.grownBy w' v.ownBlock)(hb:base<=w.heap.size)(h:∀k,v.ownBlock=I k->base<=k):Below base w w':=(aj _ _).grown hg hb h
theorem q0c{base:Nat}{w:nu}(h:qxx base w v n)(hn:n<=8192)(hs:s.size<=mf)(hx:mg w g 9 #[nh s])(hb:base<=w.heap.size) :
  ∃v' w',(fu #[202,202] ty #[v,ng (I ⟨g,0,V⟩) 1 1]).run ab w=.ok v' w'/\qxx base w' v' (n+1)/\Below base w w'/\w.grownBy w' v.ownBlock:=by
 have hml:mf=9223372036854775807:=kj;obtain⟨i0,hi0,hz0,hz1,hz2⟩:=Stn.info_parts q7w
 have hnews:∀(j:Nat) (u:ny),([Value.string s]:List ny)[j]? = I u->w.cell? ((⟨g,0,V⟩:Addr).add j)=I u:=λj u hu=>by
  match j,hu with
  | 0,hu=>cases hu;rw[acr];simpa using hx.cell 0
  | j+1,hu=>simp at hu
 have hone:∀u∈([Value.string s]:List ny),u.oneCell'=nr:=λu hu=>by
  obtain rfl:u=nh s:=by simpa using hu
  rfl
 rcases h with⟨rfl,rfl⟩|⟨gv,c,cur,rfl,h2,h3,h4,h5,h6,h7⟩
 .have hr:=rf (P:=ab) w 202 ty 9 i0 (nh ⟨#[]⟩) ub hi0 hz0 ⟨g,0,V⟩ 1 1 [nh s] (by rw[hz1];rfl) hnews kg kg (by rw[hz2];omega);have g1:=mq w 1 0 9;have g2:=ib w 1 0 9 kg;have hg:w.grownBy (w.drew.alloc (.cells ([Value.string s].toArray++gw (Value.string ⟨#[]⟩).cells (grownCap w 1 0 9-1)) 9)) V:=⟨rfl,rfl,rfl,kq,λk hk _=>iy w.drew _ _ hk⟩;refine⟨_,_,hr,.inr ⟨_,_,_,rfl,hb,gy w.drew _,g1,g2,?_,qy0.app (qy0.one hs) (qy0.zero _)⟩,below_grown (v:=ng V 0 0) hg hb (λk hk=>by cases hk),hg⟩;rw[fw,pj];show 1+_*1=_;omega
 .by_cases hroom:n+1<=c
  .have hr:=run_append_room (P:=ab) w 202 ty 9 i0 ub hi0 gv n c cur h3 ⟨g,0,V⟩ 1 1 [nh s] (by rw[hz1];rfl) hnews hone hroom (by rw[hz1];simp;omega);rw[hz1,Nat.mul_one] at hr;have hg:∀cs,w.grownBy (w.setRow gv cs) (I gv):=λcs=>⟨rfl,rfl,rfl,kq,λk _ hk=>cw w gv k _ (λe=>hk (by simp[e]))⟩
   refine⟨_,_,hr,.inr ⟨_,_,_,rfl,h2,gh w gv cur _ 9 _ h3,hroom,h5,?_,?_⟩,below_grown (v:=ng (I ⟨gv,0,V⟩) n c) (hg _) hb (λk hk=>by obtain rfl:=oi hk;exact h2),hg _⟩
   .simp only[ei,List.length_append,fb,oc,aw,gp,ox];omega
   .intro u hu;simp only[bo] at hu;rcases hu with(hu|hu)|hu
    .exact h7 u (ze hu)
    .obtain rfl:u=nh s:=by simpa using hu
     exact⟨s,rfl,hs⟩
    .exact h7 u (List.mem_of_mem_drop hu)
  .have hr:=oy (P:=ab) w 202 ty 9 i0 (nh ⟨#[]⟩) ub hi0 hz0 ⟨gv,0,V⟩ n c (cur.toList.take n) (by rw[hz1];simp;omega) (λj u hu=>by
    rw[fc] at hu;split at hu
    .rw[acr,bu,h3.cell j];simpa using hu
    .cases hu) ⟨g,0,V⟩ 1 1 [nh s] (by rw[hz1];rfl) hnews kg kg (rh (need:=n+1) (old:=c) (bytes:=i0.bytes) kg (by rw[hz2];omega))
   have g1:=mq w (n+1) c 9;have g2:=ib w (n+1) c 9 kg;have hg:∀cs row,w.grownBy (w.drew.alloc (.cells cs 9)) row:=λcs row=>⟨rfl,rfl,rfl,kq,λk hk _=>iy w.drew _ _ hk⟩
   refine⟨_,_,hr,.inr ⟨_,_,_,rfl,hb,gy w.drew _,g1,g2,?_,qy0.app (qy0.app (qy0.sub h7 (λu hu=>ze hu)) (qy0.one hs)) (qy0.zero _)⟩,below_grown (v:=ng V 0 0) (hg _ _) hb (λk hk=>by cases hk),hg _ _⟩;simp only[fw,pj,ei,fb,aw,gp,ox];show _+_*1=_;omega
theorem qsu{o:Oper}{w:nu}(hgd:o.guard=V)(x y:Operand)
  (ho:o.op=.call { callee:=.builtin .append,args:=#[x,y],argTypes:=#[202,202] }) {base:Nat}   (hxe:a.eval x=v) (hye:a.eval y=ng (I ⟨g,0,V⟩) 1 1)
  (h:qxx base w v n) (hn:n<=8192) (hs:s.size<=mf) (hx:mg w g 9 #[nh s]) (hb:base<=w.heap.size)
  (hK:∀v' w',qxx base w' v' (n+1)->Below base w w'->w.grownBy w' v.ownBlock->wpList ab ops Q rest (a.put o.dst v') w'):wpList ab ops Q (o::rest) a w:=by
 obtain⟨v',w',hr,h1,h2,h3⟩:=q0c (ty:=o.type) h hn hs hx hb;refine qu hgd λK hK'=>?_
 unfold vv;simp[execOp,ho,resolve,invoke,builtin,hxe,hye,hr,Result.andThen];exact hK' _ _ (hK v' w' h1 h2 h3)
theorem qxx.ne{base r:Nat}{w:nu}{o:Obj}(h:qxx base w v n)(ho:w.heap[r]? = I o)(hne:∀cs fr,o≠.cells cs 9 fr):I r≠v.ownBlock:=by
 intro e;rcases h with⟨rfl,-⟩|⟨g,c,cur,rfl,h2,h3,-⟩
 .simp[abv] at e
 .obtain rfl:r=g:=by simpa[abv] using e
  rw[show w.heap[r]? = _ from h3] at ho;cases ho;exact hne _ _ rfl
theorem qso{n2 n3 n4 n5:Int}{s6:ByteArray}{b7:Bool}{n8:Int}(h:qqf cx.tb W0 T w 95 (.agg (qqc s0 s1 n2 n3 n4 n5 s6 b7 n8 v))):s0.size<=mf/\s1.size<=mf/\s6.size<=mf:=by
 have hfl:cx.tb.flat 95=I [.str mf,.str mf,qy O,qy O,qy O,qy O,.str mf,.bool,qy O,.sl 0 156 1024]:=rfl;rcases h with⟨cs,e,hs,hk⟩|⟨ct,h1,-⟩
 .cases e;rw[hfl] at hk;obtain⟨x0,e0,s,rfl,q0⟩:=hk 0 _ rfl;obtain⟨x1,e1,s,rfl,q1⟩:=hk 1 _ rfl;obtain⟨x2,e2,m,rfl,q2⟩:=hk 6 _ rfl;cases e0;cases e1;cases e2;exact⟨q0,q1,q2⟩
 .rw[hfl] at h1;cases h1
theorem qmb(h0:s0.size<=mf)(h1:s1.size<=mf):qqf cx.tb W0 T w 205 (.agg (qxg s0 s1)):=by
 have hfk:cx.tb.flat 205=I [.str mf,.str mf]:=rfl;refine .inl ⟨_,rfl,rfl,λk ct hk=>?_⟩;rw[hfk] at hk;have hk:([.str mf,.str mf]:List CT)[k]? = I ct:=hk
 match k,hk with
 | 0,hk=>cases hk;exact⟨_,rfl,s0,rfl,h0⟩
 | 1,hk=>cases hk;exact⟨_,rfl,s1,rfl,h1⟩
 | k+2,hk=>simp at hk
def qr0(W0:nu)(T:Nat->Prop)(w1:nu)(es:Array MapEntry):Prop:=∀e∈es.toList,qqf cx.tb W0 T w1 205 e.key/\∃q,e.val=ni q
theorem updAcc(r:Nat){w:nu}{q:Bool}(hk:qqf cx.tb W0 T w1 205 key)(hb:w.heap[r]? = I (.map es c))(hes:qr0 W0 T w1 es) :
  ∃k es' c',(lu 222 (.map (I r)) key (ni q)).run ab w=.ok () (qqg (w.drewN k) r (.map es' c'))/\qr0 W0 T w1 es':=by
 have hf:cx.tb.flat 205=I [.str mf,.str mf]:=rfl;have hm:ab.underlying 222=I (.map 205 4):=ki;have hks:qz3 cx 30 205=I [.str,.str]:=ki;have hd:yx cx 205=I qfd:=ki;have hag:qfd.k.agg=nr:=rfl;have hx:=qxj (ks:=[.str,.str]) hag hf kj ki hk;have hck:=qjf (P:=ab) (w:=w) cxOk ns 30 205 _ qfd hks hd 10000 _ kg hx;obtain⟨res,hr1,hr2⟩:=qu7 (w:=w) cxOk kj hks hd hx es.toList (λe he=>qxj (ks:=[.str,.str]) hag hf kj ki (hes e he).1);have hgo:(getObj r).run ab w=.ok (.map es c) w:=lp hb;have hset:∀k o,(setObj r o).run ab (w.drewN k)=.ok () (qqg (w.drewN k) r o):=λk o=>Go.MapKept.run_setObj_map o (w:=w.drewN k) hb
 cases res with
 | none=>
   refine⟨0,es.push { key,val:=ni q,born:=c },c+1,?_,λe he=>?_⟩
   .have:=hset 0 (.map (es.push { key,val:=ni q,born:=c }) (c+1));simp only[yb,Nat.add_zero] at this;simp[lu,ai,bg hm,hgo,hck,hr1,yb,this]
   .simp only[Array.toList_push,bo,List.mem_singleton] at he;rcases he with he|rfl
    .exact hes e he
    .exact⟨hk,q,rfl⟩
 | some jv=>
   obtain⟨i,v0⟩:=jv;obtain⟨k,kv,hkr,hkv⟩:=qbk (P:=ab) (w:=w) (((es[i]?).map (·.key)).getD key) key;refine⟨k,es.modify i λe=>{ e with key:=kv,val:=ni q },c,?_,λe he=>?_⟩
   .simp[lu,ai,bg hm,hgo,hck,hr1,hkr,hset]
   .have hpk:qqf cx.tb W0 T w1 205 kv:=by
     rcases hkv with rfl|rfl
     .cases hq:es[i]? with
      | none=>exact hk
      | some e0=>exact(hes e0 (by have:=Array.mem_of_getElem? hq;exact this.val)).1
     .exact hk
    obtain⟨j,hj,rfl⟩:=List.getElem_of_mem he;simp only[pq,Array.getElem_modify];split
    .exact⟨hpk,q,rfl⟩
    .exact hes _ (by rw[<-pq];exact wv _)
theorem q7f(r:Nat){w:nu}(hk:qqf cx.tb W0 T w1 205 key)(hb:w.heap[r]? = I (.map es c))(hes:qr0 W0 T w1 es) :
  ∃q,(mr 222 (.map (I r)) key ns).run ab w=.ok (ni q) w:=by
 have hf:cx.tb.flat 205=I [.str mf,.str mf]:=rfl;have hm:ab.underlying 222=I (.map 205 4):=ki;have hks:qz3 cx 30 205=I [.str,.str]:=ki;have hd:yx cx 205=I qfd:=ki;have hag:qfd.k.agg=nr:=rfl;have hx:=qxj (ks:=[.str,.str]) hag hf kj ki hk;have hck:=qjf (w:=w) cxOk es.isEmpty 30 205 _ qfd hks hd 10000 _ kg hx;obtain⟨res,hr1,hr2⟩:=qu7 (w:=w) cxOk kj hks hd hx es.toList (λe he=>qxj (ks:=[.str,.str]) hag hf kj ki (hes e he).1);have hgo:(getObj r).run ab w=.ok (.map es c) w:=lp hb
 have hz:(zeroValue 4).run ab w=.ok (ni ns) w:=by
  have:(ab.info? 4).map (·.zero)=I (I (ni ns)):=ki;cases hi:ab.info? 4 with
  | none=>rw[hi] at this;cases this
  | some i0=>
    rw[hi] at this;simp only[Option.map_some,bc] at this;simp[zeroValue,typeInfo,hi,this,ai]
 cases res with
 | none=>exact⟨ns,by simp[mr,ai,bg hm,hgo,hck,hr1,hz]⟩
 | some p=>
   obtain⟨j,v⟩:=p;obtain⟨e,he,rfl⟩:=hr2 j v rfl;obtain⟨q,hq⟩:=(hes e he).2;exact⟨q,by simp[mr,ai,bg hm,hgo,hck,hr1,hq]⟩
theorem qsy(hn:n<=8192)(hE:qye W0 T w A n)(hcell:∀W,Below w.heap.size w W->W.cell? ⟨b,off+6,V⟩=I (ng A n c))(a0 a1:ByteArray) :
  Calls ab 114 #[nj (I ⟨b,off,V⟩),.agg (qxg a0 a1)] w λe w'=>∃v k,e=np v/\k<=n/\Hid (qxx w.heap.size w' v k)/\Hid (Below w.heap.size w w'):=by
 have HE:=aa hE;have HC:=aa hcell;clear hE hcell;go_enter acs,Tryz.ntmps114;have hmk:∀W:nu,(Instr.makeMap 222 V).run ab W=.ok (.map (I W.heap.size)) (W.alloc (.map #[] 0)):=λW=>run_makeMap 222 W
 have hc0:=HC.out ((w.alloc (.cells (qxg a0 a1) 205)).alloc (.map #[] 0)) (qp (qp (aj _ _) _) _);have hs1:(w.alloc (.cells (qxg a0 a1) 205)).heap.size=w.heap.size+1:=kq;go_wp2_with fail;clear hmk hc0;go_loopg [19] n (λgg s19 wr=>∃j:Nat,j+gg=n/\s19=U O j/\Hid (∃es c',wr.heap[w.heap.size+1]? = I (.map es c')/\qr0 W0 T w es)/\Hid (mg wr w.heap.size 205 (qxg a0 a1))/\Hid (Below w.heap.size w wr)/\Hid (w.heap.size+1<wr.heap.size))
 case atStart=>
  refine⟨0,kg,rfl,⟨#[],0,?_,λe he=>by simp at he⟩,(mg.new w 205 (qxg a0 a1)).alloc _,qp (qp (aj _ _) _) _,by show _<_;simp⟩;rw[<-hs1];exact gy _ _
 case round=>
  obtain⟨j,hj,rfl,HM,HK,HB,HS⟩:=hrel;by_cases hjn:j<n
  .obtain⟨b',off',rfl,s0,s1,n2,n3,n4,n5,s6,b7,n8,B,m,c9,hpe,hpk,hat⟩:=HE.out j hjn;obtain⟨h0,h1,h2,h3,h4,h5,h6,h7,h8,h9⟩:=hat wr HB.out;have HPE:=aa (qso hpe);have HKB:=aa (mg.new wr 95 #[nh s0,nh s1,U O n2,U O n3,U O n4,U O n5,nh s6,ni b7,U O n8,ng B m c9]);clear hpe hpk hat;by_cases h3':n4=3
   .subst h3';obtain⟨es,c',hM,hT⟩:=HM.out;have hM':(wr.alloc (.cells #[nh s0,nh s1,U O n2,U O n3,U O 3,U O n5,nh s6,ni b7,U O n8,ng B m c9] 95)).heap[w.heap.size+1]? = I (.map es c'):=(iy wr _ _ HS.out).trans hM;obtain⟨kd,es2,c2,hrun,hT2⟩:=updAcc (w.heap.size+1) (q:=nr) (qmb (w:=w) HPE.out.1 HPE.out.2.1) hM' hT;have hba:=qp HB.out (.cells #[nh s0,nh s1,U O n2,U O n3,U O 3,U O n5,nh s6,ni b7,U O n8,ng B m c9] 95);have HB2:=aa (qd9 (o:=.map es2 c2) (r:=w.heap.size+1) (hba.trans (yf (aj _ _) kd)) kg);have hsz:w.heap.size+1<(wr.alloc (.cells #[nh s0,nh s1,U O n2,U O n3,U O 3,U O n5,nh s6,ni b7,U O n8,ng B m c9] 95)).heap.size:=by have:=HS.out;simp;omega
    have HM2:Hid (∃es c',(qqg ((wr.alloc (.cells #[nh s0,nh s1,U O n2,U O n3,U O 3,U O n5,nh s6,ni b7,U O n8,ng B m c9] 95)).drewN kd) (w.heap.size+1) (.map es2 c2)).heap[w.heap.size+1]? = I (.map es c')/\qr0 W0 T w es):=⟨es2,c2,ql3 hsz,hT2⟩
    have HK2:Hid (mg (qqg ((wr.alloc (.cells #[nh s0,nh s1,U O n2,U O n3,U O 3,U O n5,nh s6,ni b7,U O n8,ng B m c9] 95)).drewN kd) (w.heap.size+1) (.map es2 c2)) w.heap.size 205 (qxg a0 a1)):=by
     show _=_;rw[qnn kg];exact HK.out.alloc _
    have HS2:Hid (w.heap.size+1<(qqg ((wr.alloc (.cells #[nh s0,nh s1,U O n2,U O n3,U O 3,U O n5,nh s6,ni b7,U O n8,ng B m c9] 95)).drewN kd) (w.heap.size+1) (.map es2 c2)).heap.size):=by
     show _<_;simp only[qqg,Array.size_setIfInBounds];exact hsz
    clear hba hsz hM hT hM' hT2;go_wp2_with (refine qd3 rfl (.tmp 26) (.tmp 31) (.const (ni nr)) 222 rfl hrun ?_);generalize qqg ((wr.alloc (.cells #[nh s0,nh s1,U O n2,U O n3,U O 3,U O n5,nh s6,ni b7,U O n8,ng B m c9] 95)).drewN kd) (w.heap.size+1) (.map es2 c2)=w3 at *;clear hrun;go_roundg (n-(j+1))
    case measure=>omega
    case rel=>exact⟨j+1,kg,kq,HM2,HK2,HB2,HS2⟩
   .go_wp2_with fail;go_roundg (n-(j+1))
    case measure=>omega
    case rel=>
     obtain⟨es,c',hM,hT⟩:=HM.out;exact⟨j+1,kg,kq,⟨es,c',(iy wr _ _ HS.out).trans hM,hT⟩,HK.out.alloc _,qp HB.out _,by show _<_;have:=HS.out;simp;omega⟩
  .have xm:n=j:=kg;subst xm;have hc1:=HC.out wr HB.out;obtain⟨es,c',hM,hT⟩:=HM.out;have HMM:=aa (And.intro hM hT);clear hM hT HM;go_wp2_with fail;clear hc1;go_loopg [8,39] n (λgg s8 s39 wr=>∃j k:Nat,j+gg=n/\k<=j/\s39=U O j/\Hid (qxx w.heap.size wr s8 k)/\Hid (wr.heap[w.heap.size+1]? = I (.map es c'))/\Hid (mg wr w.heap.size 205 (qxg a0 a1))/\Hid (Below w.heap.size w wr))
   case atStart=>exact⟨0,0,kg,kg,rfl,.inl ⟨rfl,rfl⟩,HMM.out.1,HK,HB⟩
   case round=>
    obtain⟨j,k,hj,hkj,rfl,HST,HM1,HK1,HB1⟩:=hrel;by_cases hjn:j<n
    .obtain⟨b',off',rfl,s0,s1,n2,n3,n4,n5,s6,b7,n8,B,m,c9,hpe,hpk,hat⟩:=HE.out j hjn;obtain⟨h0,h1,h2,h3,h4,h5,h6,h7,h8,h9⟩:=hat wr HB1.out;have HPE:=aa (qso hpe);clear hpe hpk hat;obtain⟨A8,c8,rfl⟩:=qxx.qkk HST.out;have HW3:=aa (qp (qp HB1.out (.cells #[nh s0,nh s1,U O n2,U O n3,U O n4,U O n5,nh s6,ni b7,U O n8,ng B m c9] 95)) (.cells (qxg s0 s1) 205));have HST3:=aa ((HST.out.call (zy wr (.cells #[nh s0,nh s1,U O n2,U O n3,U O n4,U O n5,nh s6,ni b7,U O n8,ng B m c9] 95))).call (zy _ (.cells (qxg s0 s1) 205)));have HKE:=aa ((mg.new wr 95 #[nh s0,nh s1,U O n2,U O n3,U O n4,U O n5,nh s6,ni b7,U O n8,ng B m c9]).alloc (.cells (qxg s0 s1) 205));have HKK:=aa (mg.new (wr.alloc (.cells #[nh s0,nh s1,U O n2,U O n3,U O n4,U O n5,nh s6,ni b7,U O n8,ng B m c9] 95)) 205 (qxg s0 s1));have HKA:=aa ((HK1.out.alloc (.cells #[nh s0,nh s1,U O n2,U O n3,U O n4,U O n5,nh s6,ni b7,U O n8,ng B m c9] 95)).alloc (.cells (qxg s0 s1) 205));have hlt:w.heap.size+1<wr.heap.size:=(cl.1 HM1.out).1;have HM3:Hid (((wr.alloc (.cells #[nh s0,nh s1,U O n2,U O n3,U O n4,U O n5,nh s6,ni b7,U O n8,ng B m c9] 95)).alloc (.cells (qxg s0 s1) 205)).heap[w.heap.size+1]? = I (.map es c')):=(iy _ _ _ nc).trans ((iy wr _ _ hlt).trans HM1.out);rw[show(wr.alloc (.cells #[nh s0,nh s1,U O n2,U O n3,U O n4,U O n5,nh s6,ni b7,U O n8,ng B m c9] 95)).heap.size=wr.heap.size+1 by simp] at HKK;go_upto_region 13 with(fail);generalize (wr.alloc (.cells #[nh s0,nh s1,U O n2,U O n3,U O n4,U O n5,nh s6,ni b7,U O n8,ng B m c9] 95)).alloc (.cells (qxg s0 s1) 205)=w3 at *;have HG:Hid (w.heap.size<=w3.heap.size):=HW3.out.size;have HM4:Hid (∃q,(mr 222 (.map (I (w.heap.size+1))) (.agg (qxg s0 s1)) ns).run ab w3=.ok (ni q) w3):=q7f (w.heap.size+1) (qmb (W0:=W0) (T:=T) (w:=w) HPE.out.1 HPE.out.2.1) HM3.out HMM.out.2;go_cut [61] (λs61 wd=>∃q:Bool,s61=ni q/\wd=w3)
     case first=>
      have ke:=HKE.out.cell;have kk:=HKK.out.cell;have ka:=HKA.out.cell;obtain⟨q,hlk⟩:=HM4.out;by_cases qic:n4=1
      .subst qic;go_wp2_with fail
       all_goals
        go_meet;exact⟨_,rfl,rfl⟩
      .have h41':(n4 == 1)=ns:=by simpa using qic
       go_wp2_with fail;go_meet;exact⟨_,rfl,rfl⟩
     case rest=>
     obtain⟨q,rfl,rfl⟩:=hcut;cases q with
     | false=>
       go_wp2_with fail;go_roundg (n-(j+1))
       case measure=>omega
       case rel=>exact⟨j+1,k,kg,kg,kq,HST3,HM3,HKA,HW3⟩
     | true=>
       have k6:=HKE.out.cell 6;simp at k6;have HST4:=aa (HST3.out.call (zy wc (.cells #[nh s6] 9)));have HB4:=aa (qp HW3.out (.cells #[nh s6] 9));have hltc:w.heap.size+1<wc.heap.size:=(cl.1 HM3.out).1;have HM5:Hid ((wc.alloc (.cells #[nh s6] 9)).heap[w.heap.size+1]? = I (.map es c')):=(iy wc _ _ hltc).trans HM3.out;have HKA5:=aa (HKA.out.alloc (.cells #[nh s6] 9));go_wp2_with (at_builtin;refine qsu rfl (.tmp 62) (.tmp 65) rfl rfl rfl HST4.out kg HPE.out.2.2 (mg.new wc 9 _) (by have:=HG.out;simp;omega) ?_);intro v' w5 hs5 hb5 hg5;have HST5:=aa hs5;have HB5:=aa (HB4.out.trans hb5);have HM6:Hid (w5.heap[w.heap.size+1]? = I (.map es c')):=(hg5.block _ (cl.1 HM5.out).1 (HST4.out.ne HM5.out (λcs fr e=>by cases e))).trans HM5.out;have HKA6:Hid (mg w5 w.heap.size 205 (qxg a0 a1)):=(hg5.block _ HKA5.out.lt (HST4.out.ne HKA5.out (λcs fr e=>by cases e))).trans HKA5.out;clear hs5 hb5 hg5 HM5 HKA5 HB4 HST4 k6;obtain⟨A9,c9',rfl⟩:=qxx.qkk HST5.out;go_wp2_with fail;go_roundg (n-(j+1))
       case measure=>omega
       case rel=>exact⟨j+1,k+1,kg,kg,kq,HST5,HM6,HKA6,HB5⟩
    .have xm:n=j:=kg;subst xm;go_wp2_with fail;go_ret;exact⟨_,k,rfl,kg,HST,HB1⟩
theorem qv4{base:Nat}(h:CVc W0 T w base (.sl m e lb) v)(hm:m<=1)(base':Nat):CVc W0 T w base' (.sl 0 e lb) v:=by
 rcases h with h|⟨h0,h⟩|⟨b,off,n,c,h1,h2,h3,h4,h5,h6,h7⟩
 .exact .inl h
 .exact .inr (.inl ⟨rfl,h⟩)
 .exact .inr (.inr ⟨b,off,n,c,h1,h2,h3,h4,h5,λh=>kg,h7⟩)
theorem yc{base:Nat}(h:CVc W0 T w base (.sl m e lb) v):∃A n c,v=ng A n c/\n<=lb:=by
 rcases h with h|⟨-,h⟩|⟨b,off,n,c,h,h1,h2,-⟩
 .exact⟨_,_,_,h,cr _⟩
 .cases h with
  | nil=>exact⟨_,_,_,rfl,cr _⟩
  | emp a=>exact⟨_,_,_,rfl,cr _⟩
  | sl f hb hn hl=>exact⟨_,_,_,rfl,hl⟩
 .exact⟨_,n,_,h,h2⟩
theorem qls{W:nu}(hb:Below w.heap.size w W)(hc:w.cell? ⟨b,o,V⟩=I v):W.cell? ⟨b,o,V⟩=I v:=by
 have hlt:b<w.heap.size:=by
  rcases dw b w.heap.size with h1|h1
  .exact h1
  .simp[lg,dq h1] at hc
 unfold lg at hc ⊢;rw[hb.block b hlt];exact hc
theorem q1x(hw:WTc W0 T w){B:Nat}(hB:W0.heap.size<=B)(h:qxx B w v k)(hk:k<=1048576)(base:Nat)(hbase:base<=B) :
  ∃T',WTc W0 T' w/\xq T w T' w/\(∀b,T' b->T b\/B<=b)/\CVc W0 T' w base (.sl 1 9 1048576) v:=by
 rcases h with⟨rfl,rfl⟩|⟨g,c,cur,rfl,h2,h3,h4,h5,h6,h7⟩
 .exact⟨T,hw,xq.refl _ _,λ_ h=>.inl h,.inl rfl⟩
 .have hcell:∀(i:Nat) (v:ny),cur[i]? = I v->∃ct,([.str mf]:List CT)[i%1]? = I ct/\CVc W0 T w 0 ct v:=by
   intro i v hv;obtain⟨s,rfl,hs⟩:=h7 v (by rw[<-ax] at hv;exact cm hv);rw[ya];exact⟨_,rfl,s,rfl,hs⟩
  obtain⟨j1,j2⟩:=hw.join (tb:=cx.tb) (cy hB h2) h3 (.inl rfl) (show cx.tb.flat 9=I [.str mf] from rfl) kj hcell (qdp rfl cur);refine⟨add T g,j1,j2,λb hb=>?_,.inr (.inr ⟨g,0,k,c,rfl,h4,hk,h5,.inr rfl,λh=>kg,kj,kj,cur,(0,0),h3,?_⟩)⟩
  .rcases hb with hb|rfl
   .exact .inl hb
   .exact .inr h2
  .show 0+c*1<=_;omega
def q0i:zu:=⟨[.one (.pt 1 80),.agg [.str mf,.str mf]],[],[.one (.sl 1 9 1048576)],[],nr,V⟩
theorem qpp:qm ab cx W0 114 q0i:=by
 refine⟨⟨_,acs,ki,ki⟩,λT w args hw hty _=>?_⟩;have hlen:=uk hty
 obtain⟨v,u1,e⟩:∃v u1,args=#[v,u1]:=by
  obtain⟨l⟩:=args;rcases l with _|⟨a,_|⟨b,_|⟨c,l⟩⟩⟩<;>first|(simp[q0i] at hlen;done)|exact⟨_,_,rfl⟩
 subst e;obtain⟨hv,⟨cs,rfl,hs,ha⟩,-⟩:=hty;have hv:CVc W0 T w w.heap.size (.pt 1 80) v:=hv
 obtain⟨b,off,rfl⟩:∃b off,v=nj (I ⟨b,off,V⟩):=by
  obtain⟨b,off,h,-⟩:=hv;exact⟨b,off,h⟩
 obtain⟨u,hcu,hu⟩:=hw.load hv (k:=6) (ct:=.sl 1 95 8192) rfl;obtain⟨A,n,c,rfl,hn⟩:=yc hu;have hs:cs.size=2:=hs
 obtain⟨a0,a1,rfl⟩:∃a0 a1,cs=qxg a0 a1:=by
  obtain⟨l⟩:=cs;rcases l with _|⟨x,_|⟨y,_|⟨z,l⟩⟩⟩<;>first|(simp at hs;done)|skip
  obtain⟨s0,rfl,-⟩:=ha 0 _ _ rfl rfl;obtain⟨s1,rfl,-⟩:=ha 1 _ _ rfl rfl;exact⟨s0,s1,rfl⟩
 refine(qsy hn (qo9 hw (qv4 hu kg _)) (λW hb=>qls hb hcu) a0 a1).mono ?_;rintro e w' ⟨v,k,rfl,hk,hst,hb⟩;obtain⟨w1,w2⟩:=zh hw hb.out;obtain⟨T',j1,j2,j3,j4⟩:=q1x w1 hw.size hst.out kg w.heap.size (af _);have hh:=zk (PU:=nr) hw hb.out;exact⟨_,[v],T',rfl,rfl,⟨j4,trivial⟩,(λl hl=>by cases hl),(λe he=>by cases he),⟨w2.trans j2,j3,hh.size,hh.os,hh.tape,hh.output,hh.keep,λh=>(Lv.nb (b:=nr) h).elim⟩,j1⟩
end
open Go.RowKit
section
variable {W0:nu}{T T' T'':Nat->Prop}{w W W':nu}
abbrev qbi:List CT:=[.int O 0 268435456,.sl 1 84 63,.cs 1 34 128,.sl 0 123 0,.sl 0 3 0,qy O,.sl 1 95 8192,.sl 1 98 1024,.sl 1 69 8192,.sl 1 133 0,.sl 0 138 0,qy O,.int O 0 60]
abbrev tyM:List CT:=[vw,vw,vw,vw,vw,vw,vw,vw,.str mf,.str mf,.str mf,.bool,.sl 0 156 1024,vw,vw,vw,vw,vw,.str mf,vw,vw,vw,vw,.sl 0 181 64,.sl 0 34 128]
abbrev ceA (n0:Int) (A1:Option Addr) (m1 c1:Nat) (A2:Option Addr) (m2 c2:Nat) (A3:Option Addr) (m3 c3:Nat) (A4:Option Addr) (m4 c4:Nat) (n5:Int) (A6:Option Addr) (m6 c6:Nat) (A7:Option Addr) (m7 c7:Nat) (A8:Option Addr) (m8 c8:Nat) (A9:Option Addr) (m9 c9:Nat) (A10:Option Addr) (m10 c10:Nat) (n11 n12:Int):Array ny:=
 #[U O n0,ng A1 m1 c1,ng A2 m2 c2,ng A3 m3 c3,ng A4 m4 c4,U O n5,ng A6 m6 c6,ng A7 m7 c7,ng A8 m8 c8,ng A9 m9 c9,ng A10 m10 c10,U O n11,U O n12]
theorem q69{base:Nat}(h:CVc W0 T w base (.cs q e lb) v):∃A n c,v=ng A n c/\n<=lb:=by
 rcases h with h|⟨b,off,n,c,cs,fr,h,h1,h2,-⟩
 .exact⟨_,_,_,h,cr _⟩
 .exact⟨_,n,_,h,h2⟩
theorem qsi{base:Nat}(h:TyValc W0 T w base (.agg qbi) (.agg cs)) :
  ∃n0 A1 m1 c1 A2 m2 c2 A3 m3 c3 A4 m4 c4 n5 A6 m6 c6 A7 m7 c7 A8 m8 c8 A9 m9 c9 A10 m10 c10 n11 n12,cs=ceA n0 A1 m1 c1 A2 m2 c2 A3 m3 c3 A4 m4 c4 n5 A6 m6 c6 A7 m7 c7 A8 m8 c8 A9 m9 c9 A10 m10 c10 n11 n12:=by
 obtain⟨cs',e,hs,ha⟩:=h;cases e;obtain⟨r⟩:=cs;have hl:r.length=13:=hs;rcases r with _|⟨a0,_|⟨a1,_|⟨a2,_|⟨a3,_|⟨a4,_|⟨a5,_|⟨a6,_|⟨a7,_|⟨a8,_|⟨a9,_|⟨a10,_|⟨a11,_|⟨a12,_|⟨a13,r⟩⟩⟩⟩⟩⟩⟩⟩⟩⟩⟩⟩⟩⟩<;>first|(simp at hl;done)|skip
 obtain⟨n0,rfl,-⟩:=ha 0 _ _ rfl rfl;obtain⟨A1,m1,c1,rfl,-⟩:=yc (ha 1 _ _ rfl rfl);obtain⟨A2,m2,c2,rfl,-⟩:=q69 (ha 2 _ _ rfl rfl);obtain⟨A3,m3,c3,rfl,-⟩:=yc (ha 3 _ _ rfl rfl);obtain⟨A4,m4,c4,rfl,-⟩:=yc (ha 4 _ _ rfl rfl);obtain⟨n5,rfl,-⟩:=ha 5 _ _ rfl rfl;obtain⟨A6,m6,c6,rfl,-⟩:=yc (ha 6 _ _ rfl rfl);obtain⟨A7,m7,c7,rfl,-⟩:=yc (ha 7 _ _ rfl rfl);obtain⟨A8,m8,c8,rfl,-⟩:=yc (ha 8 _ _ rfl rfl);obtain⟨A9,m9,c9,rfl,-⟩:=yc (ha 9 _ _ rfl rfl);obtain⟨A10,m10,c10,rfl,-⟩:=yc (ha 10 _ _ rfl rfl);obtain⟨n11,rfl,-⟩:=ha 11 _ _ rfl rfl;obtain⟨n12,rfl,-⟩:=ha 12 _ _ rfl rfl;exact⟨n0,A1,m1,c1,A2,m2,c2,A3,m3,c3,A4,m4,c4,n5,A6,m6,c6,A7,m7,c7,A8,m8,c8,A9,m9,c9,A10,m10,c10,n11,n12,rfl⟩
def lowM:CT->Bool
 | .sl m _ _=>decide (m<=1)
 | .pt m _=>decide (m<=1)
 | .fn _ _ _=>ns
 | _=>nr
theorem q6t{base:Nat}(h:CVc W0 T w base ct v)(hl:lowM ct=nr)(base':Nat):CVc W0 T w base' ct v:=by
 cases ct with
 | sl m e lb=>
   have hm:m<=1:=by simpa[lowM] using hl
   rcases h with h|h|⟨b,off,n,c,h1,h2,h3,h4,h5,h6,h7⟩
   .exact .inl h
   .exact .inr (.inl h)
   .exact .inr (.inr ⟨b,off,n,c,h1,h2,h3,h4,h5,λh=>kg,h7⟩)
 | pt m t=>
   have hm:m<=1:=by simpa[lowM] using hl
   obtain⟨b,off,e,h|⟨h1,h2,h3⟩⟩:=h
   .exact⟨b,off,e,.inl h⟩
   .exact⟨b,off,e,.inr ⟨h1,λh=>kg,h3⟩⟩
 | fn fs l m=>cases hl
 | int k lo hi=>exact h
 | bool=>exact h
 | str lb=>exact h
 | idx d=>exact h
 | fz b=>cases b<;>exact h
 | cs q e lb=>exact h
 | mp k v=>exact h
 | tf b=>exact h
 | sq=>exact h
 | any=>exact h
 | kp b=>cases b with
   | sl e lb=>exact quv.qzg h (af _) _
   | _=>exact h
theorem qfc{base:Nat}(h:TyValc W0 T w base (.agg l) v)(hl:l.all lowM=nr)(base':Nat):TyValc W0 T w base' (.agg l) v:=by
 obtain⟨cs,e,h1,h2⟩:=h;exact⟨cs,e,h1,λi ct u hi hu=>q6t (h2 i ct u hi hu) (ao.1 hl ct (cm hi)) base'⟩
end
open Go.RowKit
section
variable {W0:nu}{T T' T'':Nat->Prop}{w W W':nu}{tb:yg}
def qf2:CT->Bool
 | .int _ _ _=>nr
 | .bool=>nr
 | .str _=>nr
 | .kp (.int _ _ _)=>nr
 | .fz _=>nr
 | _=>ns
theorem RV.av(h:RV tb W0 ct v)(hp:qf2 ct=nr):AV tb W0 ct v:=by
 cases h with
 | int h1 h2=>exact .int h1 h2
 | bool=>exact .bool
 | str h=>exact .str h
 | kint h1 h2=>exact .kint h1 h2
 | fzi h1 h2=>exact .fzi h1 h2
 | fzs h=>exact .fzs h
 | nil=>cases hp
 | emp=>cases hp
 | sl=>cases hp
theorem RV.avl(h:RV tb W0 (.sl m e lb) (ng A n c))(hn:n<=lb)(hp:((tb.flat e).getD []).all qf2=nr):AV tb W0 (.sl 0 e lb) (ng A n c):=by
 cases h with
 | nil=>exact .nil
 | emp a=>exact .emp a
 | sl f hb hn' hc hs hf ht=>exact .sl f hb hn' hn hc hs hf (λj k ct hj hk=>(ht j k ct hj hk).av (ao.1 hp ct (cm hk)))
theorem RV.slf(h:RV tb W0 (.sl m e lb) v):∃A n c,v=ng A n c/\n<=c/\c<=mf:=by
 cases h with
 | nil=>exact⟨_,_,_,rfl,af _,cr _⟩
 | emp a=>exact⟨_,_,_,rfl,af _,cr _⟩
 | sl f hb hn' hc hs hf ht=>exact⟨_,_,_,rfl,hn',hc⟩
theorem op_av{r:List ny}(h:∀(k:Nat) (ct:CT) (u:ny),quh[k]? = I ct->r[k]? = I u->RV cx.tb W0 ct u)(hs:qet r)(k:Nat)(ct:CT)(u:ny)(hk:quh[k]? = I ct)(hu:r[k]? = I u):AV cx.tb W0 ct u:=by
 have h1:=h k ct u hk hu;by_cases hp:qf2 ct=nr
 .exact h1.av hp
 have hkl:k<35:=(al.1 hk).1
 have hk3:k=22\/k=33\/k=34:=by
  have hq:∀k:Fin 35,qf2 ((quh[k.1]?).getD .bool)=nr\/k.1=22\/k.1=33\/k.1=34:=kj;have:=hq ⟨k,hkl⟩;simp only[hk,lj] at this;exact this.resolve_left hp
 rcases hk3 with rfl|rfl|rfl
 .cases hk;obtain⟨A,n,c,rfl,-⟩:=h1.slf;exact h1.avl (by have:=(hs.sl 22 A n c hu).1 rfl;omega) ki
 .cases hk;obtain⟨A,n,c,rfl,-⟩:=h1.slf;exact h1.avl (by have:=(hs.sl 33 A n c hu).2.2 rfl;omega) ki
 .cases hk;obtain⟨A,n,c,rfl,-⟩:=h1.slf;exact h1.avl (by have:=(hs.sl 34 A n c hu).2.1 rfl;omega) ki
theorem szO:cx.tb.sz 36=35:=ki
theorem flO:cx.tb.flat 36=I quh:=ki
theorem q3x(h:RV cx.tb w (.sl m 36 lb) v):∃A n c F,v=ng A n c/\n<=9223372036854775807/\OpsAt w A n F/\((n<=80/\∀j,j<n->qet (F j))->80<=lb->AV cx.tb w (.sl 0 36 lb) (ng A n c)):=by
 have hml:mf=9223372036854775807:=kj;cases h with
 | nil=>exact⟨V,0,0,λ_=>[],rfl,kg,λj hj=>kg,λ_ _=>.nil⟩
 | emp a=>exact⟨I a,0,0,λ_=>[],rfl,kg,λj hj=>kg,λ_ _=>.emp a⟩
 | sl f hb hn hc hs hf ht=>
   rename_i b off n c;have hsz:=szO;have hfl:=flO;rw[hsz] at hf;rw[hfl] at ht
   have hget:∀(j k:Nat) (u:ny),((ay 35).map (f j))[k]? = I u->k<35/\u=f j k:=λj k u hu=>by
    have hk:k<35:=by simpa using(al.1 hu).1
    rw[dh,zr hk] at hu;exact⟨hk,(oi hu).symm⟩
   have hty:∀j,j<n->∀(k:Nat) (ct:CT) (u:ny),quh[k]? = I ct->((ay 35).map (f j))[k]? = I u->RV cx.tb w ct u:=λj hj k ct u hk hu=>by
    obtain⟨-,rfl⟩:=hget j k u hu;exact ht j k ct hj hk
   refine⟨I ⟨b,off,V⟩,n,c,λj=>(ay 35).map (f j),rfl,kg,λj hj=>⟨b,off,rfl,q3j kq (hty j hj),λW hB k u hu=>?_⟩,λhsm hlb=>?_⟩
   .obtain⟨hk,rfl⟩:=hget j k u hu;have hc':=hf j k hj hk;unfold lg at hc' ⊢;rw[hB.block b hb];exact hc'
   .refine .sl f hb hn kg hc (by rw[hsz];omega) (by rw[hsz];exact hf) (λj k ct hj hk=>?_);rw[hfl] at hk;have hk:quh[k]? = I ct:=hk;have hkl:k<35:=(al.1 hk).1;exact op_av (hty j hj) (hsm.2 j hj) k ct (f j k) hk (by rw[dh,zr hkl];rfl)
end
open Go.RowKit
def CT.elt:CT->Option nz
 | .sl _ e _=>I e
 | .cs _ e _=>I e
 | .kp (.sl e _)=>I e
 | _=>V
section
variable (tb:yg)(W0:nu)
def Bk(T:Nat->Prop)(b:Nat):Prop:=T b\/b<W0.heap.size
def SlE(T:Nat->Prop)(w:nu)(l:List CT)(R:CT->ny->ny->Prop)(v v':ny):Prop:=∃A n c A' c',v=ng A n c/\v'=ng A' n c' /\
 ∀j,j<n->∃b off b' off',A=I ⟨b,off,V⟩/\A'=I ⟨b',off',V⟩/\Bk W0 T b/\Bk W0 T b' /\
  ∀k ct,l[k]? = I ct->∃u u',w.cell? ⟨b,off+j*l.length+k,V⟩=I u/\w.cell? ⟨b',off'+j*l.length+k,V⟩=I u'/\R ct u u'
def xn(T:Nat->Prop)(w:nu):Nat->CT->ny->ny->Prop
 | 0,_,v,v'=>v=v'
 | d+1,ct,v,v'=>match ct.elt with
   | none=>v=v'
   | some e=>SlE W0 T w ((tb.flat e).getD []) (xn T w d) v v'
def jw(T:Nat->Prop)(w:nu)(d:Nat)(l:List CT)(cs cs':Array ny):Prop:=cs.size=l.length/\cs'.size=l.length/\∀(k:Nat) (ct:CT) (u u':ny),l[k]? = I ct->cs[k]? = I u->cs'[k]? = I u'->xn tb W0 T w d ct u u'
end
section
variable {tb:yg}{W0:nu}{T T':Nat->Prop}{w w':nu}{base:Nat}
def CT.unk:CT->CT
 | .kp (.int k lo hi)=>.int k lo hi
 | .kp .str=>.str mf
 | .kp (.sl e lb)=>.sl 1 e lb
 | ct=>ct
theorem CV.unk:CV tb W0 T w base ct.unk v↔CV tb W0 T w base ct v:=by
 cases ct with
 | kp k=>cases k<;>exact Iff.rfl
 | _=>exact Iff.rfl
theorem xn.scalar{d:Nat}(h:ct.elt=V)(v:ny):xn tb W0 T w d ct v v:=by
 cases d with
 | zero=>rfl
 | succ d=>unfold xn;rw[h]
theorem xn.unk{d:Nat}{ct:CT}{v v':ny}:xn tb W0 T w d ct.unk v v'↔xn tb W0 T w d ct v v':=by
 have he:ct.unk.elt=ct.elt:=by
  cases ct with
  | kp k=>cases k<;>rfl
  | _=>rfl
 cases d with
 | zero=>exact Iff.rfl
 | succ d=>unfold xn;rw[he]
theorem xn.eq{d:Nat}(h:xn tb W0 T w d ct v v')(hc:ct.elt=V):v=v':=by
 cases d with
 | zero=>exact h
 | succ d=>unfold xn at h;rw[hc] at h;exact h
theorem xn.same:∀{d:Nat} {ct:CT} {v v':ny},xn tb W0 T w d ct v v'->(∀b,T b->T' b)->(∀b,Bk W0 T b->w'.heap[b]? = w.heap[b]?)->xn tb W0 T' w' d ct v v'
 | 0,_,_,_,h,_,_=>h
 | d+1,ct,v,v',h,hT,hs=>by
   unfold xn at h ⊢;split at h
   .exact h
   .obtain⟨A,n,c,A',c',h1,h2,h3⟩:=h;refine⟨A,n,c,A',c',h1,h2,λj hj=>?_⟩;obtain⟨b,off,b',off',e1,e2,k1,k2,h4⟩:=h3 j hj;refine⟨b,off,b',off',e1,e2,k1.imp (hT b) id,k2.imp (hT b') id,λk ct hk=>?_⟩;obtain⟨u,u',g1,g2,g3⟩:=h4 k ct hk;exact⟨u,u',by rw[cg (hs b k1)];exact g1,by rw[cg (hs b' k2)];exact g2,g3.same hT hs⟩
theorem xn.hist{d:Nat}(h:xn tb W0 T w d ct v v')(hw:WT tb W0 T w)(hh:zg T w nr T' w'):xn tb W0 T' w' d ct v v':=
 h.same hh.ext.sub λb hb=>hh.keep b (by rcases hb with hb|hb;exact hw.lt hb;exact bf hb hw.size) (.inl rfl)
theorem jw.same{d:Nat}{l:List CT}{cs cs':Array ny}(h:jw tb W0 T w d l cs cs')(hT:∀b,T b->T' b)(hs:∀b,Bk W0 T b->w'.heap[b]? = w.heap[b]?):jw tb W0 T' w' d l cs cs':=
 ⟨h.1,h.2.1,λk ct u u' h1 h2 h3=>(h.2.2 k ct u u' h1 h2 h3).same hT hs⟩
theorem jw.hist{d:Nat}{l:List CT}{cs cs':Array ny}(h:jw tb W0 T w d l cs cs')(hw:WT tb W0 T w)(hh:zg T w nr T' w'):jw tb W0 T' w' d l cs cs':=
 ⟨h.1,h.2.1,λk ct u u' h1 h2 h3=>(h.2.2 k ct u u' h1 h2 h3).hist hw hh⟩
theorem xn.trans:∀{d:Nat} {ct:CT} {u v x:ny},xn tb W0 T w d ct u v->xn tb W0 T w d ct v x->xn tb W0 T w d ct u x
 | 0,_,_,_,_,h,k=>Eq.trans h k
 | d+1,ct,u,v,x,h,k=>by
   unfold xn at h k ⊢;split at h
   .rename_i he;rw[he] at k;exact Eq.trans h k
   .rename_i e he;rw[he] at k;obtain⟨A,n,c,B,c1,h1,h2,h3⟩:=h;obtain⟨B',n',c1',A',c',k1,k2,k3⟩:=k;rw[h2] at k1;injection k1 with e1 e2 e3;subst e1;subst e2;subst e3;refine⟨A,n,c,A',c',h1,k2,λj hj=>?_⟩;obtain⟨b,off,b1,off1,e1,e2,q1,q2,h4⟩:=h3 j hj;obtain⟨b2,off2,b3,off3,e3,e4,q3,q4,k4⟩:=k3 j hj;rw[e2] at e3;injection e3 with e3;injection e3 with e5 e6;subst e5;subst e6;refine⟨b,off,b3,off3,e1,e4,q1,q4,λk ct hk=>?_⟩;obtain⟨u1,u2,g1,g2,g3⟩:=h4 k ct hk;obtain⟨u3,u4,g4,g5,g6⟩:=k4 k ct hk;rw[g2] at g4;cases g4;exact⟨u1,u4,g1,g5,g3.trans g6⟩
theorem jw.trans{d:Nat}{l:List CT}{a b c:Array ny}(h:jw tb W0 T w d l a b)(k:jw tb W0 T w d l b c):jw tb W0 T w d l a c:=
 ⟨h.1,k.2.1,λi ct u u' h1 h2 h3=>by
   have hi:i<l.length:=(al.1 h1).1
   exact(h.2.2 i ct u _ h1 h2 (ak (by have:=h.2.1;omega))).trans (k.2.2 i ct _ u' h1 (ak (by have:=h.2.1;omega)) h3)⟩
def qnz(l:List CT):Bool:=l.all λct=>ct.elt.isNone
theorem qvq(w:nu)(cs:Array ny)(e:nz)(o:Nat):(w.alloc (.cells cs e)).cell? ⟨w.heap.size,o,V⟩=cs[o]?:=dx _ _ o cs e (0,0) (gy w _)
end
section
variable {P:ma}{cx:Cx}{W0:nu}{T T':Nat->Prop}{w w':nu}{base:Nat}
theorem CV.src(hw:WT cx.tb W0 T w)(hf:cx.tb.flat e=I f)(hl:0<f.length)(h:CV cx.tb W0 T w base (.sl m e lb) v) :
  ∃(A:Option Addr) (n c:Nat) (news:List ny),v=ng A n c/\n<=c/\n<=lb/\c<=mf/\news.length=n*f.length/\(∀j v,news[j]? = I v->∃ct,f[j%f.length]? = I ct/\CV cx.tb W0 T w 0 ct v) /\
   (0<n->∃b off,A=I ⟨b,off,V⟩/\Bk W0 T b/\∀j v,news[j]? = I v->w.cell? ⟨b,off+j,V⟩=I v)/\(n=0->(gm f.length 0 v).run P w=.ok #[] w):=by
 obtain⟨A,n,c,rfl,h1,h2,h3,h4⟩:=h.slc
 have hlb:n<=lb:=by
  rcases h with h|⟨-,h⟩|⟨b,off,k,c',e1,-,e3,-⟩
  .cases h;exact cr _
  .cases h with
   | nil=>exact cr _
   | emp a=>exact cr _
   | sl g hb hn hl hc hs hf ht=>exact hl
  .cases e1;exact e3
 have h0:n=0->(gm f.length 0 (ng A n c)).run P w=.ok #[] w:=by
  rintro rfl;cases A with
  | none=>
    obtain⟨-,rfl⟩:=h3 rfl;exact mn w _ _ _ _
  | some ad=>exact gu (P:=P) w f.length 0 ad 0 c [] kq (λj v h=>by simp at h)
 by_cases hn:n=0
 .subst hn;exact⟨A,0,c,[],rfl,h1,hlb,h2,kq,λj v h=>by simp at h,λh=>kg,h0⟩
 .cases A with
  | none=>have:=h3 rfl;omega
  | some ad=>
    obtain⟨b,off,sp⟩:=ad;have hsp:=h4 _ rfl kg;simp only at hsp;subst hsp;obtain⟨news,n1,n2⟩:=CV.rows hw hf hl h;refine⟨_,n,c,news,rfl,h1,hlb,h2,n1,λj v hv=>(n2 j v hv).2,λ_=>⟨b,off,rfl,?_,λj v hv=>(n2 j v hv).1⟩,h0⟩;rcases h with h|⟨-,h⟩|⟨b',off',k,c',e1,-,-,-,e5,-⟩
    .cases h
    .cases h with
     | emp a=>omega
     | sl g hb hn hl hc hs hf ht=>exact .inr hb
    .injection e1 with e1;injection e1 with e1;injection e1 with e1;subst e1;exact .inl e5
theorem qi8{tb:yg}(hw:WT tb W0 T w)(h:CV tb W0 T w base (.sl m e lb) v){R:CT->ny->ny->Prop}(hR:∀ct u,CV tb W0 T w 0 ct u->R ct u u):SlE W0 T w ((tb.flat e).getD []) R v v:=by
 obtain⟨A,n,c,rfl,h1,h2,h3,h4⟩:=h.slc;refine⟨A,n,c,A,c,rfl,rfl,λj hj=>?_⟩;cases A with
 | none=>have:=h3 rfl;omega
 | some ad=>
   obtain⟨b,off,sp⟩:=ad;have hsp:=h4 _ rfl kg;simp only at hsp;subst hsp
   have hbk:Bk W0 T b:=by
    rcases h with h|⟨-,h⟩|⟨b',off',k,c',e1,-,-,-,e5,-⟩
    .cases h
    .cases h with
     | emp a=>omega
     | sl g hb hn hl hc hs hf ht=>exact .inr hb
    .injection e1 with e1;injection e1 with e1;injection e1 with e1;subst e1;exact .inl e5
   have hel:=h.elem hj;have hsz:tb.sz e=((tb.flat e).getD []).length:=by unfold yg.sz;cases tb.flat e<;>rfl
   refine⟨b,off,b,off,rfl,rfl,hbk,hbk,λk ct hk=>?_⟩;obtain⟨u,hu,hc⟩:=hw.load hel hk;rw[<-hsz];exact⟨u,u,hu,hu,hR ct u hc⟩
theorem xn.refl{tb:yg}(hw:WT tb W0 T w):∀(d:Nat) {base:Nat} {ct:CT} {v:ny},CV tb W0 T w base ct v->xn tb W0 T w d ct v v
 | 0,_,_,_,_=>rfl
 | d+1,base,ct,v,h=>by
   unfold xn;cases ct with
   | sl m e lb=>exact qi8 hw h (λct u hc=>xn.refl hw d hc)
   | cs q e lb=>exact qi8 hw h.qxy (λct u hc=>xn.refl hw d hc)
   | kp k=>cases k with
     | sl e lb=>exact qi8 (m:=1) hw h (λct u hc=>xn.refl hw d hc)
     | _=>rfl
   | _=>rfl
theorem jw.refl{tb:yg}(hw:WT tb W0 T w)(d:Nat){l:List CT}{cs:Array ny}(h:zq tb W0 T w base (.agg l) (.agg cs)):jw tb W0 T w d l cs cs:=by
 obtain⟨cs',e,hs,ha⟩:=h;cases e;exact⟨hs,hs,λk ct u u' h1 h2 h3=>by rw[h2] at h3;cases h3;exact xn.refl hw d (ha k ct u h1 h2)⟩
theorem jw.set{tb:yg}{d:Nat}(h:jw tb W0 T w d l cs cs')(hk:l[k]? = I ct)(hu:cs[k]? = I u)(hr:xn tb W0 T w d ct u r):jw tb W0 T w d l cs (cs'.setIfInBounds k r):=by
 refine⟨h.1,by simpa using h.2.1,λi ct' x x' h1 h2 h3=>?_⟩;by_cases hi:k=i
 .subst hi;rw[hk] at h1;cases h1;rw[hu] at h2;cases h2;have hlt:k<cs'.size:=by have:=(al.1 hk).1;have:=h.2.1;omega
  rw[bt] at h3;simp[hlt] at h3;subst h3;exact hr
 .rw[bt] at h3;simp[hi] at h3;exact h.2.2 i ct' x x' h1 h2 h3
theorem qpe{tb:yg}(h:zq tb W0 T w base (.agg l) (.agg cs))(hk:l[k]? = I ct)(hr:CV tb W0 T w base ct r):zq tb W0 T w base (.agg l) (.agg (cs.setIfInBounds k r)):=by
 obtain⟨cs',e,hs,ha⟩:=h;cases e;refine⟨_,rfl,by simpa using hs,λi ct' x h1 h2=>?_⟩;by_cases hi:k=i
 .subst hi;rw[hk] at h1;cases h1;have hlt:k<cs.size:=by have:=(al.1 hk).1;omega
  rw[bt] at h2;simp[hlt] at h2;subst h2;exact hr
 .rw[bt] at h2;simp[hi] at h2;exact ha i ct' x h1 h2
theorem zg.trans{pu:Lv}{T2:Nat->Prop}{w2:nu}(h:zg T w pu T' w')(k:zg T' w' pu T2 w2):zg T w pu T2 w2:=by
 refine⟨h.ext.trans k.ext,λb hb=>?_,cy h.size k.size,k.os.trans h.os,k.tape.trans h.tape,k.output.trans h.output,λb hb hp=>?_,λhp b hb hT=>(h.kpt hp b hb hT).trans (k.kpt hp b (bf hb h.size) (h.ext.sub b hT))⟩
 .rcases k.new b hb with h1|h1
  .exact h.new b h1
  .exact .inr (cy h.size h1)
 .refine(k.keep b (bf hb h.size) (hp.imp id λhT hT1=>?_)).trans (h.keep b hb hp);rcases h.new b hT1 with h1|h1
  .exact hT h1
  .omega
theorem qgx{tb:yg}{ex:Option Nat}(h:qyv tb W0 T w T' w' w.heap.size .pure ex)(he:∀g,ex=I g->w.heap.size<=g):zg T w nr T' w':=
 ⟨h.ext,h.new,h.size,h.os,h.tape,h.output,λb hb _=>h.pure b hb (.inl rfl),λh=>(Lv.nb h).elim⟩
theorem qsj{i:TypeInfo}(ht:P.underlying t=I (.slice e))(hi:P.info? e=I i)(A:Option Addr)(hx:(Builtin.lenOf x).run P w=.ok 0 w)(hn:(gm i.size 0 x).run P w=.ok #[] w) :
  (fu #[t,t] ty #[ng A 0 0,x]).run P w=.ok (ng A 0 0) w:=by
 cases A with
 | none=>exact qqd ht hi hx hn
 | some ad=>
   have hst:(storeCells (ad.add 0) []).run P w=.ok () w:=by simp[storeCells]
   simp[fu,bg ht,sizeOf,typeInfo,hi,hx,hn,uz,hst]
theorem qo4(hcx:yj P cx)(A:Option Addr)(hA:∀ad,A=I ad->∃g,ad=⟨g,0,V⟩)(hk:kd cx t=.sl e)(hd:yx cx e=I d)(hf:cx.tb.flat e=I f)(hz:qqb d f=nr)(hfl:qnz f=nr)
  (hby:d.bytes<=32768) (hlb:lb<=LM) (hw:WT cx.tb W0 T w) (hv:CV cx.tb W0 T w base (.sl m e lb) v) :
  ∃(r:ny) (T':Nat->Prop) (w':nu),(fu #[t,t] ty #[ng A 0 0,v]).run P w=.ok r w'/\WT cx.tb W0 T' w'/\zg T w nr T' w'/\(r=ng A 0 0\/CV cx.tb W0 T' w' w.heap.size (.sl 2 e lb) r)/\∀dp,xn cx.tb W0 T' w' (dp+1) (.sl m e lb) v r:=by
 obtain⟨u',g1,g2⟩:=xe hcx hk kq;obtain⟨e'',rfl⟩:∃e'',u'=.slice e'':=by cases u'<;>simp_all [KD.of]
 simp only[KD.of,KD.sl.injEq] at g2;subst g2;obtain⟨i,hi1,hi2,hi3,z,hz1,hz2⟩:=jg (hcx _ d hd);obtain⟨z1,z2,z3,-⟩:=qz4 (cx:=cx) (W0:=W0) (T:=T) (w:=w) (base:=base) hz;have hsz:i.size=f.length:=by rw[hi2,z2]
 have qae:cx.tb.sz e''=f.length:=by simp[yg.sz,hf]
 obtain⟨B,n,c,news,rfl,v1,v2,v3,v4,v5,v6,v7⟩:=hv.src (P:=P) hw hf z3;have hLM:LM=4294967296:=kj;have hml:mf=9223372036854775807:=kj;by_cases hn:n=0
 .subst hn;refine⟨ng A 0 0,T,w,qsj g1 hi1 A rfl (by rw[hsz];exact v7 rfl),hw,zg.refl _ _ _,.inl rfl,λdp=>?_⟩;unfold xn;exact⟨B,0,c,A,0,rfl,rfl,λj hj=>kg⟩
 .obtain⟨b,off,rfl,hbk,hcell⟩:=v6 kg;have hnews:∀j u,news[j]? = I u->w.cell? ((⟨b,off,V⟩:Addr).add j)=I u:=λj u hu=>by rw[uz];exact hcell j u hu
  have hbytes:n*i.bytes<=140737488355328:=by
   have h1:n*i.bytes<=4294967296*32768:=tn kg kg;omega
  have hcapge:n<=grownCap w n 0 e'':=mq w _ _ _;have hcaple:grownCap w n 0 e''<=mf:=ib w _ _ _ kg
  have hrun:(fu #[t,t] ty #[ng A 0 0,ng (I ⟨b,off,V⟩) n c]).run P w=.ok (ng (I ⟨w.heap.size,0,V⟩) n (grownCap w n 0 e'')) (w.drew.alloc (.cells (news.toArray++gw z.cells (grownCap w n 0 e''-n)) e'')):=by
   cases A with
   | none=>exact rf (P:=P) w t ty e'' i z g1 hi1 hz1 _ n c news (by rw[v4,hsz]) hnews kg kg kg
   | some ad=>
     obtain⟨g,rfl⟩:=hA ad rfl;have hnx:=rh (need:=0+n) (old:=0) (bytes:=i.bytes) kg (by rw[bu];exact hbytes);have:=oy (P:=P) w t ty e'' i z g1 hi1 hz1 ⟨g,0,V⟩ 0 0 [] kq (λj u h=>by simp at h) ⟨b,off,V⟩ n c news (by rw[v4,hsz]) hnews kg kg hnx;simpa using this
  generalize hq:news.toArray++gw z.cells (grownCap w n 0 e''-n)=q at hrun;have hd1:=qdg (tb:=cx.tb) hw w.heap.size;have hzs:z.cells.size=f.length:=by rw[<-aw,hz2,z1]
  have hns:news.toArray.size=n*f.length:=by simpa using v4
  have hqn:∀j,j<n*f.length->q[j]? = news[j]?:=λj hj=>by
   rw[<-hq,dz kg];simp
  have qg8:∀j u,q[j]? = I u->∃ct,f[j%f.length]? = I ct/\CV cx.tb W0 T w.drew 0 ct u:=by
   intro j u hu;by_cases h1:j<n*f.length
   .rw[hqn j h1] at hu;obtain⟨ct,p1,p2⟩:=v5 j u hu;exact⟨ct,p1,p2.mono hd1.ext (af _)⟩
   .rw[<-hq,fh kg,hns] at hu;rw[qxt] at hu;obtain⟨ct,p1,p2⟩:=qcv (cx:=cx) (W0:=W0) (T:=T) (w:=w) (base:=0) hz hz2 _ _ u hu;refine⟨ct,?_,p2.mono hd1.ext (af _)⟩;rw[<-p1];congr 1
    conv=>lhs;rw[show j=(j-n*f.length)+n*f.length by omega]
    rw[ev]
  have hd2:=qvy (base:=w.heap.size) (w:=w.drew) hd1.wt (af _) hf z3 (qj2 hz) qg8 nr
  have hqs:grownCap w n 0 e''*f.length<=q.size:=by
   rw[<-hq];simp only[fw,ei,v4,pj,hzs];rw[<-eh];exact dd _ kg
  have h:=hd1.trans hd2;have hwd:w.drew.heap.size=w.heap.size:=rfl;rw[hwd] at h;refine⟨_,add T w.heap.size,_,hrun,h.wt,qgx h (λg hg=>by cases hg),.inr ?_,λdp=>?_⟩
  .exact qcy (cx:=cx) (W0:=W0) (T:=T) (w:=w.drew) (base:=w.heap.size) (cs:=q) hf z3 (af _) hcapge v2 hcaple hqs
  .have qhd:∀(k:Nat) (ct:CT),f[k]? = I ct->ct.elt=V:=λk ct hk=>by
    have:=ao.1 hfl ct (cm hk);simpa using this
   unfold xn;simp only[CT.elt];rw[hf];refine⟨I ⟨b,off,V⟩,n,c,I ⟨w.heap.size,0,V⟩,grownCap w n 0 e'',rfl,rfl,λj hj=>⟨b,off,w.heap.size,0,rfl,rfl,hbk.imp (λh=>.inl h) id,.inl (.inr rfl),λk ct hk=>?_⟩⟩;simp only[lj] at hk ⊢;have hkl:k<f.length:=(al.1 hk).1
   have hjk:j*f.length+k<n*f.length:=by
    have:=dd f.length (show j+1<=n by omega);rw[eh,lq] at this;omega
   have hu:news[j*f.length+k]? = I (news[j*f.length+k]' kg):=ah kg;refine⟨news[j*f.length+k]' kg,news[j*f.length+k]' kg,?_,?_,xn.scalar (qhd k ct hk) _⟩
   .have hbl:b<w.heap.size:=by rcases hbk with hb|hb;exact hw.lt hb;exact bf hb hw.size
    rw[cg (h.pure b hbl (.inl rfl)),gi];exact hcell _ _ hu
   .have:=qvq w.drew q e'' (0+j*f.length+k);rw[hwd] at this;rw[this,bu,hqn _ hjk];exact hu
theorem um{o:Oper}(hg:o.guard=V)(s x:Operand)(t:nz)(qh:o.op=.call { callee:=.builtin .append,args:=#[s,x],argTypes:=#[t,t] })
  (hcx:yj P cx)      (A:Option Addr) (hs:a.eval s=ng A 0 0) (hx:a.eval x=v) (hA:∀ad,A=I ad->∃g,ad=⟨g,0,V⟩) (hk:kd cx t=.sl e) (hd:yx cx e=I d) (hf:cx.tb.flat e=I f) (hz:qqb d f=nr) (hfl:qnz f=nr)
  (hby:d.bytes<=32768) (hlb:lb<=LM) (hw:WT cx.tb W0 T w) (hv:CV cx.tb W0 T w base (.sl m e lb) v)
  (h:∀(r:ny) (T':Nat->Prop) (w':nu),WT cx.tb W0 T' w'->zg T w nr T' w'->(r=ng A 0 0\/CV cx.tb W0 T' w' w.heap.size (.sl 2 e lb) r)->(∀dp,xn cx.tb W0 T' w' (dp+1) (.sl m e lb) v r)->wpList P ops Q rest (a.put o.dst r) w') :
  wpList P ops Q (o::rest) a w:=by
 obtain⟨r,T',w',h1,h2,h3,h4,h5⟩:=qo4 (ty:=o.type) hcx A hA hk hd hf hz hfl hby hlb hw hv;refine qu hg λK' hK'=>?_
 have hr:(execOp a.eval o).run P w=.ok (.value r) w':=by
  rw[<-hs,<-hx] at h1;simp only[execOp,qh,resolve,invoke,builtin];simpa[ai] using qqp h1
 unfold vv;rw[hr];exact hK' _ _ (h r T' w' h2 h3 h4 h5)
theorem qwt(hcx:yj P cx)(hk:kd cx t=.sl e)(hd:yx cx e=I d)(hf:cx.tb.flat e=I f)(hz:qqb d f=nr)(hfl:qnz f=nr)
  (hby:d.bytes<=32768) (hlb:lb<=LM) (hw:WT cx.tb W0 T w) (hv:CV cx.tb W0 T w base (.cs q e lb) v) :
  ∃(r:ny) (T':Nat->Prop) (w':nu),(fu #[t,t] ty #[ng V 0 0,v]).run P w=.ok r w'/\WT cx.tb W0 T' w'/\zg T w nr T' w'/\CV cx.tb W0 T' w' w.heap.size (.cs q e lb) r/\∀dp,xn cx.tb W0 T' w' (dp+1) (.cs q e lb) v r:=by
 obtain⟨r,T',w',h1,h2,h3,h4,h5⟩:=qo4 (ty:=ty) hcx V (λad h=>by cases h) hk hd hf hz hfl hby hlb hw hv.qxy;refine⟨r,T',w',h1,h2,h3,?_,λdp=>by have:=h5 dp;unfold xn at this ⊢;exact this⟩;rcases hv with rfl|⟨b,off,n,c,cs,fr,rfl,u2,u3,u4,u5,u6,u7,u8,u9,u10,u11⟩
 .have e1:r=ng V 0 0:=by
   obtain⟨u',g1,g2⟩:=xe hcx hk kq;obtain⟨e'',rfl⟩:∃e'',u'=.slice e'':=by cases u'<;>simp_all [KD.of]
   simp only[KD.of,KD.sl.injEq] at g2;subst g2;obtain⟨i,hi1,-⟩:=jg (hcx _ d hd);rw[qqd g1 hi1 rfl (mn w _ _ _ _)] at h1;injection h1 with h1;exact h1.symm
  exact .inl e1
 .by_cases hn:n=0
  .subst hn
   have e1:r=ng V 0 0:=by
    obtain⟨u',g1,g2⟩:=xe hcx hk kq;obtain⟨e'',rfl⟩:∃e'',u'=.slice e'':=by cases u'<;>simp_all [KD.of]
    simp only[KD.of,KD.sl.injEq] at g2;subst g2;obtain⟨i,hi1,-⟩:=jg (hcx _ d hd);rw[qqd g1 hi1 rfl (gu (P:=P) w i.size 0 ⟨b,off,V⟩ 0 c [] kq (λj v h=>by simp at h))] at h1;injection h1 with h1;exact h1.symm
   exact .inl e1
  .have h5':=h5 0;unfold xn at h5';simp only[CT.elt] at h5';rw[hf] at h5';obtain⟨A,n',c',B,cB,e1,e2,h6⟩:=h5';cases e1;subst e2
   have hc:CV cx.tb W0 T' w' w.heap.size (.sl 2 e lb) (ng B n cB):=by
    rcases h4 with h4|h4
    .cases h4;exact absurd rfl hn
    .exact h4
   have hsz:cx.tb.sz e=f.length:=by simp[yg.sz,hf]
   obtain⟨b1,o1,b2,o2,k1,k2,-⟩:=h6 0 kg;cases k1;subst k2;rcases hc with hc|⟨hc,-⟩|⟨b',off',k,cc,e1,e2,e3,e4,e5,e6,e7,e8,e9⟩
   .cases hc
   .omega
   .injection e1 with e1 e10 e11;injection e1 with e1;injection e1 with e1 e12;subst e1;subst e10;subst e11;subst e12;obtain⟨cs2,fr2,m1,m2⟩:=e9;refine .inr ⟨b2,o2,n,cB,cs2,fr2,rfl,e2,e3,e4,e5,e7,e8,u8,m1,m2,?_⟩
    have hlen1:((cs.toList.drop off).take (n*cx.tb.sz e)).length=n*cx.tb.sz e:=by
     have:=dd (cx.tb.sz e) u2;have hcl:cs.toList.length=cs.size:=rfl;rw[fb,oc,hcl];omega
    have hlen2:((cs2.toList.drop o2).take (n*cx.tb.sz e)).length=n*cx.tb.sz e:=by
     have:=dd (cx.tb.sz e) e2;have hcl:cs2.toList.length=cs2.size:=rfl;rw[fb,oc,hcl];omega
    have heq:(cs2.toList.drop o2).take (n*cx.tb.sz e)=(cs.toList.drop off).take (n*cx.tb.sz e):=by
     refine List.ext_getElem? λi=>?_
     by_cases hi:i<n*cx.tb.sz e
     .rw[fc,if_pos hi,ia,fc,if_pos hi,ia,ax,ax];have hj:i/f.length<n:=by rw[Nat.div_lt_iff_lt_mul kg,<-hsz];exact hi
      have hkk:i%f.length<f.length:=Nat.mod_lt _ kg;obtain⟨b3,o3,b4,o4,q1,q2,-,-,q5⟩:=h6 (i/f.length) hj;cases q1;cases q2;obtain⟨u,u',p1,p2,p3⟩:=q5 (i%f.length) f[i%f.length] (by simp[hkk]);have p3:u=u':=p3;subst p3;simp only[lj] at p1 p2;have hdm:i/f.length*f.length+i%f.length=i:=by rw[Nat.mul_comm];exact Nat.div_add_mod _ _
      rw[gi,hdm] at p1 p2;rw[dx w' b2 _ cs2 e fr2 m1] at p2;rw[dx w' b _ cs e fr (h3.ext.fz b cs e fr u5 u8 u9)] at p1;rw[p1,p2]
     .rw[dn kg,dn kg]
    rw[heq];exact u11
theorem qgj{o:Oper}(hg:o.guard=V)(s x:Operand)(t:nz)(qh:o.op=.call { callee:=.builtin .append,args:=#[s,x],argTypes:=#[t,t] })
  (hcx:yj P cx)      (hs:a.eval s=ng V 0 0) (hx:a.eval x=v) (hk:kd cx t=.sl e) (hd:yx cx e=I d) (hf:cx.tb.flat e=I f) (hz:qqb d f=nr) (hfl:qnz f=nr)
  (hby:d.bytes<=32768) (hlb:lb<=LM) (hw:WT cx.tb W0 T w) (hv:CV cx.tb W0 T w base (.cs q e lb) v)
  (h:∀(r:ny) (T':Nat->Prop) (w':nu),WT cx.tb W0 T' w'->zg T w nr T' w'->CV cx.tb W0 T' w' w.heap.size (.cs q e lb) r->(∀dp,xn cx.tb W0 T' w' (dp+1) (.cs q e lb) v r)->wpList P ops Q rest (a.put o.dst r) w') :
  wpList P ops Q (o::rest) a w:=by
 obtain⟨r,T',w',h1,h2,h3,h4,h5⟩:=qwt (ty:=o.type) hcx hk hd hf hz hfl hby hlb hw hv;refine qu hg λK' hK'=>?_
 have hr:(execOp a.eval o).run P w=.ok (.value r) w':=by
  rw[<-hs,<-hx] at h1;simp only[execOp,qh,resolve,invoke,builtin];simpa[ai] using qqp h1
 unfold vv;rw[hr];exact hK' _ _ (h r T' w' h2 h3 h4 h5)
def qzj(cx:Cx)(W0:nu)(T:Nat->Prop)(w:nu)(ct':CT)(D:Nat)(ct:CT)(v:ny)(E:Ending)(w':nu):Prop:=∃(r:ny) (T':Nat->Prop),E=np r/\WT cx.tb W0 T' w'/\zg T w nr T' w'/\CV cx.tb W0 T' w' w.heap.size ct' r/\∀dp,xn cx.tb W0 T' w' (dp+D) ct v r
def qvt(cx:Cx)(W0:nu)(T:Nat->Prop)(w:nu)(D:Nat)(l:List CT)(cs:Array ny)(E:Ending)(w':nu):Prop:=∃(cs':Array ny) (T':Nat->Prop),E=np (.agg cs')/\WT cx.tb W0 T' w'/\zg T w nr T' w'/\zq cx.tb W0 T' w' w.heap.size (.agg l) (.agg cs')/\∀dp,jw cx.tb W0 T' w' (dp+D) l cs cs'
def qs0(cx:Cx)(W0:nu)(T:Nat->Prop)(w:nu)(D:Nat)(l:List CT)(cs:Array ny)(Q:Array ny->Prop)(E:Ending)(w':nu):Prop:=∃(cs':Array ny) (T':Nat->Prop),E=np (.agg cs')/\WT cx.tb W0 T' w'/\zg T w nr T' w'/\zq cx.tb W0 T' w' w.heap.size (.agg l) (.agg cs')/\(∀dp,jw cx.tb W0 T' w' (dp+D) l cs cs')/\Q cs'
structure qzv(cx:Cx)(W0:World)(T:Nat->Prop)(w:World)(g:Nat)(t:TypeId)(T':Nat->Prop)(W:World)(cs:Array Value):Prop where
 wt:WT cx.tb W0 T' W
 hi:zg T w nr T' W
 nt:¬T' g
 bk:mg W g t cs
 ge:w.heap.size<=g
 lo:W0.heap.size<=w.heap.size
theorem qzv.call(h:qzv cx W0 T w g t T' w' cs)(hw:WT cx.tb W0 T2 w2)(hh:zg T' w' nr T2 w2):qzv cx W0 T w g t T2 w2 cs:=
 ⟨hw,h.hi.trans hh,λhg=>(hh.new g hg).elim h.nt (λhk=>by have:=h.bk.lt;omega),(hh.keep g h.bk.lt (.inl rfl)).trans h.bk,h.ge,h.lo⟩
theorem qzv.put{T1:Nat->Prop}{w1 W2:nu}(h:qzv cx W0 T w g t T' w' cs)(hb:mg W2 g t cs')(hs:W2.heap.size=w'.heap.size)(ho:W2.os=w'.os)(ht:W2.tape=w'.tape)(hu:W2.output=w'.output)(hk:∀b,b≠g->W2.heap[b]? = w'.heap[b]?) :
  qzv cx W0 T w g t T' W2 cs'/\∀b,Bk W0 T' b->W2.heap[b]? = w'.heap[b]?:=by
 have hlt:=h.lo;have hge:=h.ge
 obtain⟨k1,k2⟩:=h.wt.frame (w':=W2) (by rw[hs];exact af _) (λk hk'=>hk k kg) (λk hk'=>hk k (λe=>h.nt (e ▸ hk'))) (λk es c hc=>by
  have:k≠g:=λe=>by subst e;have:=h.bk;unfold mg at this;rw[this] at hc;cases hc
  rw[hk k this];exact hc)
 exact⟨⟨k1,⟨h.hi.ext.trans k2,h.hi.new,by rw[hs];exact h.hi.size,ho.trans h.hi.os,ht.trans h.hi.tape,hu.trans h.hi.output,λb hb' hp=>(hk b kg).trans (h.hi.keep b hb' hp),λh=>(Lv.nb h).elim⟩,h.nt,hb,h.ge,h.lo⟩,
  λb hb'=>hk b (λe=>by subst e;rcases hb' with hb' | hb';exact h.nt hb';omega)⟩
theorem qzv.set(h:qzv cx W0 T w g t T' w' cs):qzv cx W0 T w g t T' (w'.setCell ⟨g,k,V⟩ r) (cs.setIfInBounds k r)/\∀b,Bk W0 T' b->(w'.setCell ⟨g,k,V⟩ r).heap[b]? = w'.heap[b]?:=
 h.put (T1:=T) (w1:=w) (h.bk.set_ k r) (World.size_setCell _ _ _) rfl rfl rfl (λb hb=>iz w' ⟨g,k,V⟩ r b hb)
structure yh(T':Nat->Prop)(W:World)(g:Nat)(t:TypeId)(cs:Array Value):Prop where
 nt:¬T' g
 bk:mg W g t cs
theorem yh.call{pu:Lv}(h:yh T' w' g t cs)(hh:zg T' w' pu T2 w2):yh T2 w2 g t cs:=
 ⟨λhg=>(hh.new g hg).elim h.nt (λhk=>by have:=h.bk.lt;omega),(hh.keep g h.bk.lt (.inr h.nt)).trans h.bk⟩
theorem yh.set(h:yh T' w' g t cs)(hp:g≠p):yh T' (w'.setCell ⟨p,k,V⟩ r) g t cs:=⟨h.nt,h.bk.far hp r⟩
theorem qzv.sets{rs:List ny}(h:qzv cx W0 T w g t T' w' cs)(hl:o+rs.length<=cs.size) :
  ∃cs':Array ny,qzv cx W0 T w g t T' (w'.setCells g o rs) cs'/\(∀b,Bk W0 T' b->(w'.setCells g o rs).heap[b]? = w'.heap[b]?)/\cs'.size=cs.size/\∀q,cs'[q]? = if o<=q/\q<o+rs.length then rs[q-o]? else cs[q]?:=by
 obtain⟨cs',k1,k2,k3⟩:=jh g t (0,0) rs o w' cs h.bk;obtain⟨r1,r2,r3,r4⟩:=ve g rs o w';obtain⟨b1,b2⟩:=h.put (T1:=T) (w1:=w) (cs':=cs') k1 r1 r2 r3 r4 (λb hb=>xk g rs o w' b hb)
 exact⟨cs',b1,b2,k2,λq=>by
  rw[k3 q];by_cases hq:o<=q/\q<o+rs.length
  .rw[if_pos ⟨hq.1,hq.2,kg⟩,if_pos hq]
  .rw[if_neg (λh=>hq ⟨h.1,h.2.1⟩),if_neg hq]⟩
theorem yh.sets{rs:List ny}(h:yh T' w' g t cs)(hp:g≠p):yh T' (w'.setCells p o rs) g t cs:=⟨h.nt,(xk p rs o w' g hp).trans h.bk⟩
theorem jw.splice{d:Nat}{m:List CT}(h:jw cx.tb W0 T w d l cs cs1)(hs:cs2.size=cs1.size)(hq:∀q,cs2[q]? = if o<=q/\q<o+rs.size then rs[q-o]? else cs1[q]?)
  (hr:jw cx.tb W0 T w d m xs rs) (hm:∀i,i<m.length->(l[o+i]?).map CT.unk=m[i]?) (hx:∀i,i<m.length->cs[o+i]? = xs[i]?):jw cx.tb W0 T w d l cs cs2:=by
 refine⟨h.1,hs.trans h.2.1,λk ct u u' h1 h2 h3=>?_⟩;rw[hq] at h3;split at h3
 .rename_i hk;obtain⟨i,rfl⟩:∃i,k=o+i:=⟨k-o,kg⟩;have hi:i<m.length:=by have:=hr.2.1;omega
  rw[dm] at h3;exact xn.unk.1 (hr.2.2 i ct.unk u u' (by rw[<-hm i hi,h1];rfl) (by rw[<-hx i hi];exact h2) h3)
 .exact h.2.2 k ct u u' h1 h2 h3
theorem q1r{tb:yg}{m:List CT}(h:zq tb W0 T w base (.agg l) (.agg cs1))(hs:cs2.size=cs1.size)(hq:∀q,cs2[q]? = if o<=q/\q<o+rs.size then rs[q-o]? else cs1[q]?)
  (hr:zq tb W0 T w base (.agg m) (.agg rs)) (hm:∀i,i<m.length->(l[o+i]?).map CT.unk=m[i]?):zq tb W0 T w base (.agg l) (.agg cs2):=by
 obtain⟨cs',e,hz,ha⟩:=h;cases e;obtain⟨rs',e,hrz,hra⟩:=hr;cases e;refine⟨_,rfl,hs.trans hz,λk ct u h1 h2=>?_⟩;rw[hq] at h2;split at h2
 .rename_i hk;obtain⟨i,rfl⟩:∃i,k=o+i:=⟨k-o,kg⟩;have hi:i<m.length:=kg;rw[dm] at h2;exact CV.unk.1 (hra i ct.unk u (by rw[<-hm i hi,h1];rfl) h2)
 .exact ha k ct u h1 h2
theorem q6u{tb:yg}{m:List CT}(h:zq tb W0 T w base (.agg l) (.agg cs))(hm:∀i,i<m.length->(l[o+i]?).map CT.unk=m[i]?)(hl:o+m.length<=l.length):zq tb W0 T w base (.agg m) (.agg (cs.extract o (o+m.length))):=by
 obtain⟨cs',e,hz,ha⟩:=h;cases e;refine⟨_,rfl,nc,λk ct u h1 h2=>?_⟩;have hk:k<m.length:=(al.1 h1).1;rw[yi] at h2;split at h2
 .have h3:=hm k hk;rw[h1] at h3;obtain⟨ct',h4,rfl⟩:=Option.map_eq_some_iff.1 h3;exact CV.unk.2 (ha (o+k) ct' u h4 h2)
 .cases h2
theorem xx{tb:yg}(h:zq tb W0 T w base (.agg l) (.agg cs)):cs.all (·.oneCell')=nr:=by
 obtain⟨cs',e,hz,ha⟩:=h;cases e;refine Array.all_eq_true.2 λi hi=>?_
 exact(ha i l[i] cs[i] (ah kg) (ak hi)).one
theorem jd{tb:yg}(h:zq tb W0 T w base (.agg l) (.agg cs))(hk:l[k]? = I ct):∃u,cs[k]? = I u/\CV tb W0 T w base ct u:=by
 obtain⟨cs',e,hz,ha⟩:=h;cases e;have hlt:k<cs.size:=by have:=(al.1 hk).1;omega
 exact⟨cs[k],ak hlt,ha k ct _ hk (ak hlt)⟩
theorem zf{tb:yg}(h:zq tb W0 T w base (.agg l) (.agg cs)):cs.size=l.length:=by
 obtain⟨cs',e,hz,ha⟩:=h;cases e;exact hz
def qkj:CT->Bool
 | .sl m _ _=>decide (m<=1)
 | .pt m _=>decide (m<=1)
 | .fn _ _ _=>ns
 | _=>nr
theorem qzt{base:Nat}(h:CV cx.tb W0 T w base ct v)(hl:qkj ct=nr)(base':Nat):CV cx.tb W0 T w base' ct v:=by
 cases ct with
 | sl m e lb=>
   have hm:m<=1:=by simpa[qkj] using hl
   exact quv.qzg h hm _
 | pt m t=>
   have hm:m<=1:=by simpa[qkj] using hl
   obtain⟨b,off,e,h|⟨h1,h2,h3⟩⟩:=h
   .exact⟨b,off,e,.inl h⟩
   .exact⟨b,off,e,.inr ⟨h1,λh=>kg,h3⟩⟩
 | fn fs l m=>cases hl
 | int k lo hi=>exact h
 | bool=>exact h
 | str lb=>exact h
 | idx d=>exact h
 | fz b=>cases b<;>exact h
 | cs q e lb=>exact h
 | mp k v=>exact h
 | tf b=>exact h
 | sq=>exact h
 | kp k=>cases k with
   | sl e lb=>exact quv.qzg h (af _) _
   | int k lo hi=>exact h
   | str=>exact h
 | any=>exact h
theorem qzz{base:Nat}(h:zq cx.tb W0 T w base (.agg l) v)(hl:l.all qkj=nr)(base':Nat):zq cx.tb W0 T w base' (.agg l) v:=by
 obtain⟨cs,e,h1,h2⟩:=h;exact⟨cs,e,h1,λi ct u hi hu=>qzt (h2 i ct u hi hu) (ao.1 hl ct (cm hi)) base'⟩
structure qzp(cx:Cx)(W0:World)(T:Nat->Prop)(w:World)(g:Nat)(t:TypeId)(l:List CT)(D:Nat)(cs0:Array Value)(T':Nat->Prop)(W:World)(cs:Array Value):Prop where
 b:qzv cx W0 T w g t T' W cs
 ty:zq cx.tb W0 T' W 0 (.agg l) (.agg cs)
 eq:∀dp,jw cx.tb W0 T' W (dp+D) l cs0 cs
theorem zx{p:PT}(x:xq T w T' w')(h:zq cx.tb W0 T w base p v):zq cx.tb W0 T' w' base p v:=by
 cases p with
 | one ct=>exact CV.mono (ct:=ct) h x (af _)
 | agg l=>
   obtain⟨cs,h1,h2,h3⟩:=h;exact⟨cs,h1,h2,λi ct u hi hu=>(h3 i ct u hi hu).mono x (af _)⟩
 | con c=>exact h
theorem qq6{tb:yg}(hw:WT tb W0 T w)(h:∀b,Bk W0 T b->w'.heap[b]? = w.heap[b]?)(hm:∀(b:Nat) es c,w.heap[b]? = I (.map es c)->w'.heap[b]? = I (.map es c)):xq T w T w':=
 ⟨λ_ h=>h,λb e n hb ⟨cs,fr,h1,h2⟩=>⟨cs,fr,by rw[h b (.inl hb)];exact h1,h2⟩,λb cs e fr hb _ hc=>by rw[h b (.inl hb)];exact hc,hm⟩
theorem qzp.start(hw:WT cx.tb W0 T w)(hv:zq cx.tb W0 T w base (.agg l) (.agg cs))(hl:l.all qkj=nr)(D:Nat) :
  qzp cx W0 T w w.heap.size t l D cs T ((w.alloc (.cells cs t)).alloc (.cells z tz)) cs/\yh T ((w.alloc (.cells cs t)).alloc (.cells z tz)) (w.heap.size+1) tz z:=by
 have hB:=qp (zy w (.cells cs t)) (.cells z tz);obtain⟨hw1,hx1⟩:=zh hw hB;have hn:∀g,w.heap.size<=g->¬T g:=λg hg h=>by have:=hw.lt h;omega
 refine⟨⟨⟨hw1,zk hw hB,hn _ (af _),(mg.new w t cs).alloc _,af _,hw.size⟩,qzz (zx hx1 hv) hl 0,λdp=>jw.refl hw1 _ (zx hx1 hv)⟩,⟨hn _ kg,?_⟩⟩;have:=mg.new (w.alloc (.cells cs t)) tz z
 rwa [show(w.alloc (.cells cs t)).heap.size=w.heap.size+1 by simp] at this
theorem qzp.step(h:qzp cx W0 T w g t l D cs0 T' w' cs)(hk:l[k]? = I ct)(hlow:qkj ct=nr)(hu:cs0[k]? = I u)
  (hw2:WT cx.tb W0 T2 w2) (hh:zg T' w' nr T2 w2) (hr:CV cx.tb W0 T2 w2 q ct' r) (hle:ct'.le ct=nr) (he:∀dp,xn cx.tb W0 T2 w2 (dp+D) ct u r):qzp cx W0 T w g t l D cs0 T2 (w2.setCell ⟨g,k,V⟩ r) (cs.setIfInBounds k r):=by
 obtain⟨b1,b2⟩:=(h.b.call hw2 hh).set (k:=k) (r:=r)
 have x:xq T2 w2 T2 (w2.setCell ⟨g,k,V⟩ r):=qq6 hw2 b2 (λb es c hc=>by
  have hb:=(h.b.call hw2 hh).bk;have:b≠g:=λe=>by subst e;unfold mg at hb;rw[hb] at hc;cases hc
  rw[iz w2 ⟨g,k,V⟩ r b this];exact hc)
 exact⟨b1,qpe (zx x (zx hh.ext h.ty)) hk (qzt ((hr.mono x (af _)).le hle) hlow 0),λdp=>jw.set (((h.eq dp).hist h.b.wt hh).same (λ_ h=>h) b2) hk hu ((he dp).same (λ_ h=>h) b2)⟩
theorem qzp.qxk{m:List CT}(h:qzp cx W0 T w g t l D cs0 T' w' cs)(hm:∀i,i<m.length->(l[o+i]?).map CT.unk=m[i]?)(hlow:m.all qkj=nr)(hx:∀i,i<m.length->cs0[o+i]? = xs[i]?)(hlen:o+m.length<=l.length)
  (hw2:WT cx.tb W0 T2 w2) (hh:zg T' w' nr T2 w2) (hr:zq cx.tb W0 T2 w2 q (.agg m) (.agg rs)) (he:∀dp,jw cx.tb W0 T2 w2 (dp+D) m xs rs):∃cs',qzp cx W0 T w g t l D cs0 T2 (w2.setCells g o rs.toList) cs'/\∀i,(i<o\/o+m.length<=i)->cs'[i]? = cs[i]?:=by
 have hsz:=zf hr;have hcs:=zf h.ty;obtain⟨cs',b1,b2,b3,b4⟩:=(h.b.call hw2 hh).sets (o:=o) (rs:=rs.toList) (by rw[aw];omega)
 have x:xq T2 w2 T2 (w2.setCells g o rs.toList):=qq6 hw2 b2 (λb es c hc=>by
  have hb:=(h.b.call hw2 hh).bk;have:b≠g:=λe=>by subst e;unfold mg at hb;rw[hb] at hc;cases hc
  rw[xk g rs.toList o w2 b this];exact hc)
 have hq:∀q,cs'[q]? = if o<=q/\q<o+rs.size then rs[q-o]? else cs[q]?:=λq=>by rw[b4 q];simp
 refine⟨cs',⟨b1,q1r (zx x (zx hh.ext h.ty)) b3 hq (qzz (zx x hr) hlow 0) hm,λdp=>jw.splice (((h.eq dp).hist h.b.wt hh).same (λ_ h=>h) b2) b3 hq ((he dp).same (λ_ h=>h) b2) hm hx⟩,λi hi=>?_⟩;rw[hq,if_neg kg]
theorem qzp.done(h:qzp cx W0 T w g t l D cs0 T' w' cs)(hl:l.all qkj=nr)(hz:yh T' w' g2 t2 z)(hg:w.heap.size<=g2):qvt cx W0 T w D l cs0 (np (.agg cs)) (w'.setRow g2 cs)/\(w'.setRow g2 cs).heap[g2]? = I (.cells cs t2 (0,0)):=by
 have hlo:=h.b.lo;have hs:∀b,Bk W0 T' b->(w'.setRow g2 cs).heap[b]? = w'.heap[b]?:=λb hb=>cw w' g2 b _ (λe=>by subst e;rcases hb with hb|hb;exact hz.nt hb;omega)
 have hm:∀(b:Nat) es c,w'.heap[b]? = I (.map es c)->(w'.setRow g2 cs).heap[b]? = I (.map es c):=λb es c hc=>by
  have:b≠g2:=λe=>by subst e;have hb:=hz.bk;unfold mg at hb;rw[hb] at hc;cases hc
  rw[cw w' g2 b _ this];exact hc
 have x:=qq6 h.b.wt hs hm;obtain⟨k1,-⟩:=h.b.wt.frame (w':=w'.setRow g2 cs) (by rw[dr];exact af _) (λk hk=>hs k (.inr hk)) (λk hk=>hs k (.inl hk)) hm;refine⟨⟨cs,T',rfl,k1,⟨h.b.hi.ext.trans x,h.b.hi.new,by rw[dr];exact h.b.hi.size,h.b.hi.os,h.b.hi.tape,h.b.hi.output,λb hb hp=>(cw w' g2 b _ kg).trans (h.b.hi.keep b hb hp),λh=>(Lv.nb h).elim⟩,qzz (zx x h.ty) hl _,λdp=>(h.eq dp).same (λ_ h=>h) hs⟩,gh w' g2 z cs t2 (0,0) hz.bk⟩
theorem q7v:∀i,i<m->cs[o+i]? = (cs.extract o (o+m))[i]?:=λi hi=>by
 rw[yi];by_cases h:o+i<cs.size
 .rw[if_pos kg]
 .rw[if_neg kg,dq kg]
def Un(lim:Nat)(cs0 cs:Array ny):Prop:=∀i,lim<=i->cs[i]? = cs0[i]?
theorem qhg(h:Un lim cs0 cs)(hc:lim<=c):Un (c+1) cs0 (cs.setIfInBounds c r):=λi hi=>by
 rw[Array.getElem?_setIfInBounds_ne kg];exact h i kg
theorem qta(h:Un lim cs0 cs)(hk:∀i,(i<o\/o+m<=i)->cs'[i]? = cs[i]?)(hc:lim<=o):Un (o+m) cs0 cs':=λi hi=>(hk i (.inr hi)).trans (h i kg)
def Ptc(cs:Array ny)(o m:Nat)(xs:Array ny):Prop:=xs.size=m/\∀i,i<m->cs[o+i]? = xs[i]?
theorem qpv{W:nu}(hb:mg W g t cs)(h:Un lim cs0 cs)(hc:lim<=o)(hx:Ptc cs0 o m xs):W.rangeAt g o xs.toList:=λj v hv=>by
 rw[hb.cell,h _ kg];rw[ax] at hv;rw[hx.2 j (by have:=(cl.1 hv).1;have:=hx.1;omega)];exact hv
theorem qwp{tb:yg}{m:List CT}(h:zq tb W0 T w base (.agg l) (.agg cs))(hm:∀i,i<m.length->(l[o+i]?).map CT.unk=m[i]?)(hl:o+m.length<=l.length):∃xs,Ptc cs o m.length xs/\zq tb W0 T w base (.agg m) (.agg xs):=by
 have h1:=q6u h hm hl;exact⟨_,⟨zf h1,λi hi=>q7v i hi⟩,h1⟩
theorem qkw{W:nu}(hb:mg W g t cs)(hn:o+n<=cs.size):W.there g o n:=λj hj=>
 ⟨by rw[hb.cell,ak kg];rfl,hb.frozen _⟩
theorem qx5{m:List CT}(h:(ay m.length).all (λi=>decide ((l[o+i]?).map CT.unk=m[i]?))=nr):∀i,i<m.length->(l[o+i]?).map CT.unk=m[i]?:=λi hi=>by
 exact of_decide_eq_true (ao.1 h i (bj.2 hi))
theorem qzp.doneQ(h:qzp cx W0 T w g t l D cs0 T' w' cs)(hl:l.all qkj=nr)(hz:yh T' w' g2 t2 z)(hg:w.heap.size<=g2)(Q:Array ny->Prop)(hQ:Q cs):qs0 cx W0 T w D l cs0 Q (np (.agg cs)) (w'.setRow g2 cs)/\(w'.setRow g2 cs).heap[g2]? = I (.cells cs t2 (0,0)):=by
 have hlo:=h.b.lo;have hs:∀b,Bk W0 T' b->(w'.setRow g2 cs).heap[b]? = w'.heap[b]?:=λb hb=>cw w' g2 b _ (λe=>by subst e;rcases hb with hb|hb;exact hz.nt hb;omega)
 have hm:∀(b:Nat) es c,w'.heap[b]? = I (.map es c)->(w'.setRow g2 cs).heap[b]? = I (.map es c):=λb es c hc=>by
  have:b≠g2:=λe=>by subst e;have hb:=hz.bk;unfold mg at hb;rw[hb] at hc;cases hc
  rw[cw w' g2 b _ this];exact hc
 have x:=qq6 h.b.wt hs hm;obtain⟨k1,-⟩:=h.b.wt.frame (w':=w'.setRow g2 cs) (by rw[dr];exact af _) (λk hk=>hs k (.inr hk)) (λk hk=>hs k (.inl hk)) hm;refine⟨⟨cs,T',rfl,k1,⟨h.b.hi.ext.trans x,h.b.hi.new,by rw[dr];exact h.b.hi.size,h.b.hi.os,h.b.hi.tape,h.b.hi.output,λb hb hp=>(cw w' g2 b _ kg).trans (h.b.hi.keep b hb hp),λh=>(Lv.nb h).elim⟩,qzz (zx x h.ty) hl _,λdp=>(h.eq dp).same (λ_ h=>h) hs,hQ⟩,gh w' g2 z cs t2 (0,0) hz.bk⟩
end
open Go.RowKit
section
variable {P:ma}{cx:Cx}{W0:nu}{T T':Nat->Prop}{w w':nu}{base:Nat}
def zo(cx:Cx)(W0:nu)(T:Nat->Prop)(w:nu)(f:List CT)(A:Option Addr)(j:Nat)(xs:Array ny):Prop:=∃b off,A=I ⟨b,off,V⟩/\Bk W0 T b/\b<w.heap.size/\xs.size=f.length/\(∀k,k<f.length->w.cell? ⟨b,off+j*f.length+k,V⟩=xs[k]?)/\zq cx.tb W0 T w 0 (.agg f) (.agg xs)
theorem jr(hw:WT cx.tb W0 T w)(hf:cx.tb.flat e=I f)(h:CV cx.tb W0 T w base (.sl m e lb) (ng A n c))(hj:j<n):∃xs,zo cx W0 T w f A j xs:=by
 obtain⟨A',n',c',e1,h1,h2,h3,h4⟩:=h.slc;cases e1;cases A with
 | none=>have:=h3 rfl;omega
 | some ad=>
   obtain⟨b,off,sp⟩:=ad;have hsp:=h4 _ rfl kg;simp only at hsp;subst hsp
   have hbk:Bk W0 T b:=by
    rcases h with h|⟨-,h⟩|⟨b',off',k,c',e1,-,-,-,e5,-⟩
    .cases h
    .cases h with
     | emp a=>omega
     | sl g hb hn hl hc hs hf ht=>exact .inr hb
    .injection e1 with e1;injection e1 with e1;injection e1 with e1;subst e1;exact .inl e5
   have hel:=h.elem hj;have hsz:cx.tb.sz e=f.length:=by simp[yg.sz,hf]
   obtain⟨l,l1,l2⟩:=qfr (Q:=λk v=>w.cell? ⟨b,off+j*f.length+k,V⟩=I v/\∃ct,f[k]? = I ct/\CV cx.tb W0 T w 0 ct v) f.length (λk hk=>by
    obtain⟨u,hu,hc⟩:=hw.load hel (k:=k) (ct:=f[k]) (by rw[hf];simp[hk]);rw[hsz] at hu
    exact⟨u,hu,f[k],ah hk,hc⟩)
   refine⟨l.toArray,b,off,rfl,hbk,by rcases hbk with hb|hb;exact hw.lt hb;exact bf hb hw.size,by simpa using l1,λk hk=>?_,⟨_,rfl,by simpa using l1,λk ct u h1 h2=>?_⟩⟩
   .have hk':k<l.length:=kg;rw[(l2 k _ (ah hk')).1];simp[hk']
   .obtain⟨-,ct',h3,h4⟩:=l2 k u (by simpa using h2);rw[h1] at h3;cases h3;exact h4
theorem zo.range(h:zo cx W0 T w f (I ⟨b,off,V⟩) j xs){W:nu}(hk:∀b,b<w.heap.size->W.heap[b]? = w.heap[b]?):W.rangeAt b (off+j*f.length) xs.toList:=λk v hv=>by
 obtain⟨b',off',e,-,h1,h2,h3,-⟩:=h;cases e;rw[cg (hk b h1)];rw[ax] at hv;rw[h3 k (by have:=(cl.1 hv).1;omega)];exact hv
def Made(d:TD)(k:Nat)(cur:Array ny):Prop:=∃z:ny,z.cells.toList=d.zero/\cur=madeCells z.cells k
structure qyk(cx:Cx)(W0:World)(T:Nat->Prop)(w:World)(g:Nat)(e:TypeId)(f:List CT)(D n:Nat)(A:Option Addr)(j:Nat)(T':Nat->Prop)(W:World)(cur:Array Value):Prop where
 b:qzv cx W0 T w g e T' W cur
 sz:cur.size=n*f.length
 ty:∀i v,cur[i]? = I v->∃ct,f[i%f.length]? = I ct/\CV cx.tb W0 T' W 0 ct v
 eq:∀dp i,i<j->∃xs,zo cx W0 T w f A i xs/\∀(k:Nat) (ct:CT),f[k]? = I ct->∃u u',xs[k]? = I u/\cur[i*f.length+k]? = I u'/\xn cx.tb W0 T' W (dp+D) ct u u'
theorem qyk.start(hw:WT cx.tb W0 T w)(hd:yx cx e=I d)(hf:cx.tb.flat e=I f)(hz:qqb d f=nr)(hcur:Made d (n*f.length) cur)(D:Nat)(A:Option Addr)(j:Nat)(hj:j=0) :
  qyk cx W0 T w w.heap.size e f D n A j T (w.alloc (.cells cur e)) cur:=by
 subst hj;obtain⟨z,hz2,rfl⟩:=hcur;have hB:=zy w (.cells (madeCells z.cells (n*f.length)) e);obtain⟨hw1,hx1⟩:=zh hw hB;refine⟨⟨hw1,zk hw hB,λh=>by have:=hw.lt h;omega,mg.new w e _,af _,hw.size⟩,by rw[size_madeCells],λi v hv=>?_,λdp i hi=>kg⟩;obtain⟨ct,p1,p2⟩:=qcv (cx:=cx) (W0:=W0) (T:=T) (w:=w) (base:=0) hz hz2 _ i v hv;exact⟨ct,p1,p2.mono hx1 (af _)⟩
theorem qyk.call{g:Nat}{e:nz}{f:List CT}{D n j:Nat}{A:Option Addr}{cur:Array ny}{T2:Nat->Prop}{w2:nu}(h:qyk cx W0 T w g e f D n A j T' w' cur)(hw2:WT cx.tb W0 T2 w2)(hh:zg T' w' nr T2 w2):qyk cx W0 T w g e f D n A j T2 w2 cur:=
 ⟨h.b.call hw2 hh,h.sz,λi v hv=>by obtain⟨ct,p1,p2⟩:=h.ty i v hv;exact⟨ct,p1,p2.mono hh.ext (af _)⟩,λdp i hi=>by
   obtain⟨xs,q1,q2⟩:=h.eq dp i hi;refine⟨xs,q1,λk ct hk=>?_⟩;obtain⟨u,u',r1,r2,r3⟩:=q2 k ct hk
   exact⟨u,u',r1,r2,r3.hist h.b.wt hh⟩⟩
theorem qyk.step(h:qyk cx W0 T w g e f D n A j T' w' cur)(hl:0<f.length)(hlow:f.all qkj=nr)(hj:j<n)(hx:zo cx W0 T w f A j xs)
  (hr:zq cx.tb W0 T' w' q (.agg f) (.agg rs)) (he:∀dp,jw cx.tb W0 T' w' (dp+D) f xs rs):∃cur',qyk cx W0 T w g e f D n A (j+1) T' (w'.setCells g (j*f.length) rs.toList) cur':=by
 have hrs:=zf hr;have hrl:rs.toList.length=rs.size:=rfl;have hmul:(j+1)*f.length<=n*f.length:=dd _ hj;rw[eh,lq] at hmul;obtain⟨cur',b1,b2,b3,b4⟩:=h.b.sets (o:=j*f.length) (rs:=rs.toList) (by rw[hrl,h.sz];omega)
 have x:xq T' w' T' (w'.setCells g (j*f.length) rs.toList):=qq6 h.b.wt b2 (λb es c hc=>by
  have hb:=h.b.bk;have:b≠g:=λe=>by subst e;unfold mg at hb;rw[hb] at hc;cases hc
  rw[xk g rs.toList (j*f.length) w' b this];exact hc)
 refine⟨cur',b1,b3.trans h.sz,λi v hv=>?_,λdp i hi=>?_⟩
 .rw[b4] at hv;split at hv
  .rename_i hi;rw[hrl] at hi;rw[ax] at hv;obtain⟨cs',e',hz,ha⟩:=hr;cases e';have hk:i-j*f.length<f.length:=kg;refine⟨f[i-j*f.length],?_,qzt ((ha (i-j*f.length) _ v (ah hk) hv).mono x (af _)) (ao.1 hlow _ (wv _)) 0⟩
   have:i%f.length=i-j*f.length:=by
    conv=>lhs;rw[show i=(i-j*f.length)+j*f.length by omega]
    rw[ev];exact iw hk
   rw[this];exact ah hk
  .obtain⟨ct,p1,p2⟩:=h.ty i v hv;exact⟨ct,p1,p2.mono x (af _)⟩
 .by_cases hij:i=j
  .subst hij;refine⟨xs,hx,λk ct hk=>?_⟩;have hkl:k<f.length:=(al.1 hk).1;obtain⟨b,off,-,-,-,hxs,-,-⟩:=hx;refine⟨xs[k]' kg,rs[k]' kg,ak _,?_,((he dp).2.2 k ct _ _ hk (ak kg) (ak kg)).same (λ_ h=>h) b2⟩;rw[b4,if_pos (by rw[hrl];omega),dm,ax];exact ak kg
  .obtain⟨ys,q1,q2⟩:=h.eq dp i kg;refine⟨ys,q1,λk ct hk=>?_⟩;have hkl:k<f.length:=(al.1 hk).1;obtain⟨u,u',r1,r2,r3⟩:=q2 k ct hk;refine⟨u,u',r1,?_,r3.same (λ_ h=>h) b2⟩;rw[b4,if_neg ?_]
   .exact r2
   .have hil:(i+1)*f.length<=j*f.length:=dd _ kg;rw[eh,lq] at hil;rw[hrl];omega
theorem qyk.done(h:qyk cx W0 T w g e f D n A j T' w' cur)(hj:j=n)(hf:cx.tb.flat e=I f)(hl:0<f.length)(hno:qvf f=nr)(hw:WT cx.tb W0 T w)(hlb:n<=lb)(hml:n<=mf) :
  qzj cx W0 T w (.sl 2 e lb) (D+1) (.sl m e lb) (ng A n c) (np (ng (I ⟨g,0,V⟩) n n)) w':=by
 subst hj;have hlo:=h.b.lo;have hge:=h.b.ge;obtain⟨k1,k2⟩:=h.b.wt.join (g:=g) kg h.b.bk (.inl rfl) hf hl h.ty (qdp hno cur);have hsz:cx.tb.sz e=f.length:=by simp[yg.sz,hf]
 refine⟨_,add T' g,rfl,k1,⟨h.b.hi.ext.trans k2,λb hb=>?_,h.b.hi.size,h.b.hi.os,h.b.hi.tape,h.b.hi.output,h.b.hi.keep,λh=>(Lv.nb h).elim⟩,?_,λdp=>?_⟩
 .rcases hb with hb|rfl
  .exact h.b.hi.new b hb
  .exact .inr hge
 .exact .inr (.inr ⟨g,0,j,j,rfl,af _,hlb,hml,.inr rfl,λ_=>hge,kg,Nat.zero_mod _,cur,(0,0),h.b.bk,by rw[hsz,h.sz];omega⟩)
 .rw[show dp+(D+1)=(dp+D)+1 by omega];unfold xn;simp only[CT.elt];rw[hf];refine⟨A,j,c,I ⟨g,0,V⟩,j,rfl,rfl,λi hi=>?_⟩;obtain⟨xs,⟨b,off,e1,q1,q2,q3,q4,q5⟩,q6⟩:=h.eq dp i hi;refine⟨b,off,g,0,e1,rfl,q1.imp (λhb=>.inl (h.b.hi.ext.sub b hb)) id,.inl (.inr rfl),λk ct hk=>?_⟩;simp only[lj] at hk ⊢;have hkl:k<f.length:=(al.1 hk).1;obtain⟨u,u',r1,r2,r3⟩:=q6 k ct hk;refine⟨u,u',?_,?_,r3.same (λ_ h=>.inl h) (λ_ _=>rfl)⟩
  .rw[cg (h.b.hi.keep b q2 (.inl rfl)),q4 k hkl];exact r1
  .rw[h.b.bk.cell,bu];exact r2
theorem zg.qbv{T1:Nat->Prop}(h:zg T w nr T1 w1):∀b,b<w.heap.size->w1.heap[b]? = w.heap[b]?:=λb hb=>h.keep b hb (.inl rfl)
theorem qjd{tb:yg}{e:Nat}(h:CV tb W0 T w base (.sl m e lb) (ng A n c)):n<=lb:=by
 rcases h with h|⟨-,h⟩|⟨b,off,k,c',e1,-,e3,-⟩
 .cases h;exact cr _
 .cases h with
  | nil=>exact cr _
  | emp a=>exact cr _
  | sl g hb hn hl hc hs hf ht=>exact hl
 .cases e1;exact e3
theorem qyk.far{g p k:Nat}{e:nz}{f:List CT}{D n j:Nat}{A:Option Addr}{cur:Array ny}{r:ny}{tp:nz}{cp:Array ny}(h:qyk cx W0 T w g e f D n A j T' w' cur)(hb:qzv cx W0 T w p tp T' w' cp)(hp:g≠p):qyk cx W0 T w g e f D n A j T' (w'.setCell ⟨p,k,V⟩ r) cur:=by
 obtain⟨b1,b2⟩:=hb.set (k:=k) (r:=r)
 have x:xq T' w' T' (w'.setCell ⟨p,k,V⟩ r):=qq6 h.b.wt b2 (λb es c hc=>by
  have hk:=hb.bk;have:b≠p:=λe=>by subst e;unfold mg at hk;rw[hk] at hc;cases hc
  rw[iz w' ⟨p,k,V⟩ r b this];exact hc)
 exact⟨⟨b1.wt,b1.hi,h.b.nt,h.b.bk.far hp r,h.b.ge,h.b.lo⟩,h.sz,λi v hv=>by obtain⟨ct,p1,p2⟩:=h.ty i v hv;exact⟨ct,p1,p2.mono x (af _)⟩,λdp i hi=>by
  obtain⟨xs,q1,q2⟩:=h.eq dp i hi;refine⟨xs,q1,λk ct hk=>?_⟩;obtain⟨u,u',r1,r2,r3⟩:=q2 k ct hk
  exact⟨u,u',r1,r2,r3.same (λ_ h=>h) b2⟩⟩
theorem qzp.row(hw:WT cx.tb W0 T w)(hw':WT cx.tb W0 T' w')(hh:zg T w nr T' w')(hx:zo cx W0 T w l A j xs)(D:Nat):qzp cx W0 T w w'.heap.size t l D xs T' (w'.alloc (.cells xs t)) xs:=by
 have hB:=zy w' (.cells xs t);obtain⟨hw1,hx1⟩:=zh hw' hB;obtain⟨b,off,-,-,-,-,-,hty⟩:=hx;exact⟨⟨hw1,hh.trans (zk hw' hB),λh=>by have:=hw'.lt h;omega,mg.new w' t xs,hh.size,hw.size⟩,zx (hh.ext.trans hx1) hty,λdp=>jw.refl hw1 _ (zx (hh.ext.trans hx1) hty)⟩
theorem qmr{o:Oper}(hg:o.guard=V)(s x:Operand)(t:nz)(qh:o.op=.call { callee:=.builtin .append,args:=#[s,x],argTypes:=#[t,t] })(hcx:yj P cx)(hk:kd cx t=.sl e)(hd:yx cx e=I d)
  (g j c q:Nat) (cur rs:Array ny) (tq:nz) (hs:a.eval s=ng (I ⟨g,0,V⟩) j c) (hx:a.eval x=ng (I ⟨q,0,V⟩) 1 1) (hb:mg w g e cur) (hq:mg w q tq rs) (hrs:rs.size=d.size) (hsz:cur.size=c*d.size) (hj:j<c) (h1:rs.all (·.oneCell')=nr)
  (h:wpList P ops Q rest (a.put o.dst (ng (I ⟨g,0,V⟩) (j+1) c)) (w.setCells g (j*d.size) rs.toList)):wpList P ops Q (o::rest) a w:=by
 obtain⟨u',g1,g2⟩:=xe hcx hk kq;obtain⟨e'',rfl⟩:∃e'',u'=.slice e'':=by cases u'<;>simp_all [KD.of]
 simp only[KD.of,KD.sl.injEq] at g2;subst g2;obtain⟨i,hi1,hi2,hi3,z,hz1,hz2⟩:=jg (hcx _ d hd);have hmul:=dd d.size (show j+1<=c by omega);rw[eh,lq] at hmul;have hrl:rs.toList.length=rs.size:=rfl
 have hfc:(gm i.size 1 (ng (I ⟨q,0,V⟩) 1 1)).run P w=.ok rs.toList.toArray w:=gu (P:=P) w i.size 1 ⟨q,0,V⟩ 1 1 rs.toList (by rw[hrl,hrs,hi2,lq]) (λk v hv=>by
  rw[uz,bu,hq.cell]
  rwa [ax] at hv)
 have hrun:=qjc (P:=P) (t:=t) (ty:=o.type) g1 hi1 hb (.inl rfl) (x:=ng (I ⟨q,0,V⟩) 1 1) (n:=1) (news:=rs.toList) (b:=g) (off:=0) (sLen:=j) (sCap:=c) rfl hfc (λv hv=>(ru.1 h1) v (by simpa using hv)) kg (by rw[hi2,hrl,hrs,hsz];omega);rw[bu,hi2] at hrun;refine qu hg λK' hK'=>?_
 have hr:(execOp a.eval o).run P w=.ok (.value (ng (I ⟨g,0,V⟩) (j+1) c)) (w.setCells g (j*d.size) rs.toList):=by
  rw[<-hs,<-hx] at hrun;simp only[execOp,qh,resolve,invoke,builtin];simpa[ai] using qqp hrun
 unfold vv;rw[hr];exact hK' _ _ h
theorem qpd{cells:Array ny}(h:cs.size=cells.size)(z:Nat)(hz:z=cs.size):iv (λi=>I (i*z,z)) cells [(0,.agg cs)]=I cs:=by
 subst hz;have hc:(Value.agg cs).cells=cs:=rfl;unfold iv;simp only[hc,qv,bu,ne_eq,not_true_eq_false,decide_false,Bool.false_or,gt_iff_lt,decide_eq_true_eq];rw[if_neg nc];unfold iv;congr 1;apply Array.ext';rw[<-Array.foldl_toList,Array.toList_zipIdx];have:=Sy.foldl_set cs.toList cells 0 0 nc;simp only[bu] at this;rw[this];simp;omega
theorem qnp{o:Oper}(hg:o.guard=V)(t e:nz)(x:Operand)(ho:o.op=.buildSlice t 1 #[(0,x)])
  (cs:Array ny) (hx:a.eval x=.agg cs) (hcx:yj P cx)  (hk:kd cx t=.sl e) (hd:yx cx e=I d) (hrs:cs.size=d.size) (hs1:d.size<=1000) (hs0:0<d.size)
  (h:wpList P ops Q rest (a.put o.dst (ng (I ⟨w.heap.size,0,V⟩) 1 1)) (w.alloc (.cells cs e))):wpList P ops Q (o::rest) a w:=by
 obtain⟨u',g1,g2⟩:=xe hcx hk kq;obtain⟨e'',rfl⟩:∃e'',u'=.slice e'':=by cases u'<;>simp_all [KD.of]
 simp only[KD.of,KD.sl.injEq] at g2;subst g2;obtain⟨i,hi1,hi2,hi3,z,hz1,hz2⟩:=jg (hcx _ d hd)
 refine qu hg λ_ hK=>wp_buildSlice t e'' 1 #[(0,x)] ho cs i z g1 hi1 hz1 (by rw[hi2];omega) (by rw[hi2];omega) (by
  have he:((#[(0,x)]:Array (Nat×Operand)).map λ(i,x)=>(i,a.eval x)).toList=[(0,.agg cs)]:=by simp[hx]
  rw[he]
  exact qpd (by simp[hrs,hi2]) i.size (by rw[hi2,hrs])) (hK _ _ h)
theorem qzp.call{g D:Nat}{t:nz}{l:List CT}{cs0 cs:Array ny}{T2:Nat->Prop}{w2:nu}(h:qzp cx W0 T w g t l D cs0 T' w' cs)(hw2:WT cx.tb W0 T2 w2)(hh:zg T' w' nr T2 w2):qzp cx W0 T w g t l D cs0 T2 w2 cs:=
 ⟨h.b.call hw2 hh,zx hh.ext h.ty,λdp=>(h.eq dp).hist h.b.wt hh⟩
theorem qzp.drew{g D:Nat}{t:nz}{l:List CT}{cs0 cs:Array ny}(h:qzp cx W0 T w g t l D cs0 T' w' cs):qzp cx W0 T w g t l D cs0 T' w'.drew cs:=by
 have hb:Below w'.heap.size w' w'.drew:=Below.drew (aj _ _);exact h.call (zh h.b.wt hb).1 (zk h.b.wt hb)
theorem yt{i:Nat}{L:Nat->Bool}{vals:Nat->ny}{Ψ Ψ':Nat->ny->Prop}(h:∀k,k<m->L k=nr->Ψ k (vals k))(hm:∀k v,Ψ k v->Ψ' k v)(hi:Ψ' i v):∀k,k<m->(if k=i then nr else L k)=nr->Ψ' k (if k=i then v else vals k):=λk hk hl=>by
 by_cases e:k=i
 .subst e;rw[if_pos rfl];exact hi
 .rw[if_neg e] at hl ⊢;exact hm _ _ (h k hk hl)
def NoRoom(E:Ending):Prop:=∃A n,E=np (ng A n n)
def qb9(l:List Nat)(cs:Array ny):Prop:=∀k∈l,∃A n,cs[k]? = I (ng A n n)
def quy(cx:Cx)(W0:nu)(D:Nat)(ct ct':CT)(x:ny)(v:ny)(T':Nat->Prop)(W:nu):Prop:=(∃A n,v=ng A n n)/\CV cx.tb W0 T' W 0 ct' v/\∀dp,xn cx.tb W0 T' W (dp+D) ct x v
theorem quy.call(h:quy cx W0 D ct ct' x v T' w')(hw:WT cx.tb W0 T' w')(hh:zg T' w' nr T2 w2):quy cx W0 D ct ct' x v T2 w2:=⟨h.1,h.2.1.mono hh.ext (af _),λdp=>(h.2.2 dp).hist hw hh⟩
theorem quy.far{tp:nz}{cp:Array ny}(h:quy cx W0 D ct ct' x v T' w')(hb:qzv cx W0 T w p tp T' w' cp):quy cx W0 D ct ct' x v T' (w'.setCell ⟨p,k,V⟩ r):=by
 obtain⟨b1,b2⟩:=hb.set (k:=k) (r:=r)
 have x:xq T' w' T' (w'.setCell ⟨p,k,V⟩ r):=qq6 hb.wt b2 (λb es c hc=>by
  have hk:=hb.bk;have:b≠p:=λe=>by subst e;unfold mg at hk;rw[hk] at hc;cases hc
  rw[iz w' ⟨p,k,V⟩ r b this];exact hc)
 exact⟨h.1,h.2.1.mono x (af _),λdp=>(h.2.2 dp).same (λ_ h=>h) b2⟩
theorem qq4{o:Oper}(hg:o.guard=V)(t:nz)(x y:Operand)(qh:o.op=.makeSlice t x y)(hcx:yj P cx)(hk:kd cx t=.sl e)(hd:yx cx e=I d)(hf:cx.tb.flat e=I f)(hz:qqb d f=nr)
  (hby:d.bytes<=32768) (n c:Nat) (hx:a.eval x=U O n) (hy:a.eval y=U O c) (hnc:n<=c) (hc:c<=LM)
  (h:∀cur:Array ny,Made d (c*f.length) cur->wpList P ops Q rest (a.put o.dst (ng (I ⟨w.heap.size,0,V⟩) n c)) (w.alloc (.cells cur e))):wpList P ops Q (o::rest) a w:=by
 obtain⟨u',g1,g2⟩:=xe hcx hk kq;obtain⟨e'',rfl⟩:∃e'',u'=.slice e'':=by cases u'<;>simp_all [KD.of]
 simp only[KD.of,KD.sl.injEq] at g2;subst g2;obtain⟨i,hi1,hi2,hi3,z,hz1,hz2⟩:=jg (hcx _ d hd);obtain⟨z1,z2,z3,-⟩:=qz4 (cx:=cx) (W0:=w) (T:=λ_=>False) (w:=w) (base:=0) hz;have hLM:LM=4294967296:=kj
 have hbytes:(i.bytes:Int)*(c:Int)<=281474976710656:=by
  have h1:(i.bytes:Int)*(c:Int)<=32768*(c:Int):=Int.mul_le_mul_of_nonneg_right kg kg;omega
 have hrun:=run_make (P:=P) w t e'' i z g1 hi1 hz1 O O (n:Int) (c:Int) kg kg hbytes kg;refine qu hg λK' hK'=>?_
 have hr:(execOp a.eval o).run P w=.ok (.value (ng (I ⟨w.heap.size,0,V⟩) n c)) (w.alloc (.cells (madeCells z.cells (c*f.length)) e'')):=by
  simp only[Int.toNat_natCast] at hrun;rw[hi2,z2] at hrun;simp only[execOp,qh,hx,hy];exact qqp hrun
 unfold vv;rw[hr];exact hK' _ _ (h _ ⟨z,hz2,rfl⟩)
theorem qzp.fld(h:qzp cx W0 T w g t l D cs0 T' w' cs)(hz:yh T' w' (g+1) tz z)(hu:Un lim cs0 cs)(hlk:lim<=k)(hk:l[k]? = I ct)(hlow:qkj ct=nr)(hv:cs0[k]? = I u)
  (hw2:WT cx.tb W0 T2 w2) (hh:zg T' w' nr T2 w2) (hr:CV cx.tb W0 T2 w2 q ct' (ng A n c)) (hle:ct'.le ct=nr) (he:∀dp,xn cx.tb W0 T2 w2 (dp+D) ct u (ng A n c)) :
  w2.cell? ⟨g,k,V⟩=I u/\w2.frozen? ⟨g,k,V⟩=ns/\Hid (qzp cx W0 T w g t l D cs0 T2 (w2.setCell ⟨g,k,V⟩ (ng A n c)) (cs.setIfInBounds k (ng A n c)))/\Hid (yh T2 (w2.setCell ⟨g,k,V⟩ (ng A n c)) (g+1) tz z)/\Hid (Un (k+1) cs0 (cs.setIfInBounds k (ng A n c))):=by
 have hb:=h.b.call hw2 hh;exact⟨by rw[hb.bk.cell];exact(hu k hlk).trans hv,hb.bk.frozen _,aa (h.step hk hlow hv hw2 hh hr hle he),aa ((hz.call hh).set kg),aa (qhg hu hlk)⟩
theorem qyk.rnd{z:Nat}(h:qyk cx W0 T w g e f D n A j T' w' cur)(hz:f.length=z)(h0:0<z)(hlow:f.all qkj=nr)(hj:j<n)(hx:zo cx W0 T w f A j xs)
  (hw2:WT cx.tb W0 T2 w2) (hh:zg T' w' nr T2 w2) (hr:zq cx.tb W0 T2 w2 q (.agg f) (.agg rs)) (he:∀dp,jw cx.tb W0 T2 w2 (dp+D) f xs rs) (hs:(P.info? e).map (·.size)=I m) (hm:m=z) :
  ∃cur',Hid (qyk cx W0 T w g e f D n A (j+1) T2 (w2.setCells g (j*z) rs.toList) cur')/\Hid ((P.info? e).map (·.size)=I rs.size)/\Hid (rs.all (·.oneCell')=nr)/\Hid (w2.there g (j*z) rs.size):=by
 subst hz;have h2:=h.call hw2 hh;obtain⟨cur',h3⟩:=h2.step h0 hlow hj hx hr he
 refine⟨cur',aa h3,aa (by rw[zf hr,hs,hm]),aa (xx hr),aa (qkw h2.b.bk (by
  have:=dd f.length (show j+1<=n by omega);rw[zf hr,h2.sz];rw[eh,lq] at this
  exact this))⟩
end
open Go.RowKit Go.Great
section
variable {P:ma}{cx:Cx}{W0:nu}{T T':Nat->Prop}{w w':nu}{base:Nat}
theorem zo.hist(h:zo cx W0 T w f A j xs)(hh:zg T w nr T2 w2):zo cx W0 T2 w2 f A j xs:=by
 obtain⟨b,off,e,h1,h2,h3,h4,h5⟩:=h;exact⟨b,off,e,h1.imp (hh.ext.sub b) id,bf h2 hh.size,h3,λk hk=>by rw[cg (hh.qbv b h2)];exact h4 k hk,zx hh.ext h5⟩
theorem zo.same(h:zo cx W0 T w f A j xs)(x:xq T w T2 w2)(hs:w.heap.size<=w2.heap.size)(hk:∀b,Bk W0 T b->w2.heap[b]? = w.heap[b]?):zo cx W0 T2 w2 f A j xs:=by
 obtain⟨b,off,e,h1,h2,h3,h4,h5⟩:=h;exact⟨b,off,e,h1.imp (x.sub b) id,bf h2 hs,h3,λk hk'=>by rw[cg (hk b h1)];exact h4 k hk',zx x h5⟩
theorem zo.uniq(h:zo cx W0 T w f A j xs)(h':zo cx W0 T' w f A j ys):xs=ys:=by
 obtain⟨b,off,e,-,-,h3,h4,-⟩:=h;obtain⟨b',off',e',-,-,h3',h4',-⟩:=h';rw[e] at e';cases e';refine Array.ext kg λi hi hi'=>?_
 have:=(h4 i kg).symm.trans (h4' i kg);rw[ak hi,ak hi'] at this;exact oi this
theorem qyp{d e:Nat}(hf:cx.tb.flat e=I f)(h:xn cx.tb W0 T w (d+1) (.sl m e lb) (ng A n c) (ng B n' c'))(hj:j<n)(hx:zo cx W0 T w f A j xs)(hy:zo cx W0 T w f B j ys):jw cx.tb W0 T w d f xs ys:=by
 unfold xn at h;simp only[CT.elt] at h;rw[hf] at h;obtain⟨A',n1,c1,B',c2,e1,e2,h3⟩:=h;cases e1;cases e2;obtain⟨b,off,b',off',q1,q2,-,-,h4⟩:=h3 j hj;cases q1;cases q2;obtain⟨b1,o1,e1,-,-,z1,c1',-⟩:=hx;obtain⟨b2,o2,e2,-,-,z2,c2',-⟩:=hy;cases e1;cases e2;refine⟨z1,z2,λk ct u u' hk hu hu'=>?_⟩;have hkl:k<f.length:=(al.1 hk).1;obtain⟨v,v',g1,g2,g3⟩:=h4 k ct hk;simp only[lj] at g1 g2;rw[c1' k hkl,hu] at g1;rw[c2' k hkl,hu'] at g2;cases g1;cases g2;exact g3
theorem jl{d e:Nat}(h:xn cx.tb W0 T w (d+1) (.sl m e lb) (ng A n c) (ng B n' c')):n'=n:=by
 unfold xn at h;simp only[CT.elt] at h;obtain⟨A',n1,c1,B',c2,e1,e2,h3⟩:=h;cases e1;cases e2;rfl
theorem q7y(hcx:yj P cx)(hk:kd cx t=.sl e)(hd:yx cx e=I d)(hf:cx.tb.flat e=I f)(hz:qqb d f=nr)
  (hby:d.bytes<=32768) (hlb:lb+lb2<=LM) (hw:WT cx.tb W0 T w) (hv:CV cx.tb W0 T w base (.sl m e lb) (ng A n n)) (hv2:CV cx.tb W0 T w base (.sl m2 e lb2) (ng B k c2)) (hk0:0<k) :
  ∃(c:Nat) (T':Nat->Prop) (w':nu),(fu #[t,t] ty #[ng A n n,ng B k c2]).run P w=.ok (ng (I ⟨w.heap.size,0,V⟩) (n+k) c) w'/\WT cx.tb W0 T' w'/\zg T w nr T' w'/\CV cx.tb W0 T' w' w.heap.size (.sl 2 e (lb+lb2)) (ng (I ⟨w.heap.size,0,V⟩) (n+k) c) /\
   (∀j xs,j<n->zo cx W0 T w f A j xs->zo cx W0 T' w' f (I ⟨w.heap.size,0,V⟩) j xs)/\(∀j xs,j<k->zo cx W0 T w f B j xs->zo cx W0 T' w' f (I ⟨w.heap.size,0,V⟩) (n+j) xs):=by
 obtain⟨u',g1,g2⟩:=xe hcx hk kq;obtain⟨e'',rfl⟩:∃e'',u'=.slice e'':=by cases u'<;>simp_all [KD.of]
 simp only[KD.of,KD.sl.injEq] at g2;subst g2;obtain⟨i,hi1,hi2,hi3,z,hz1,hz2⟩:=jg (hcx _ d hd);obtain⟨z1,z2,z3,-⟩:=qz4 (cx:=cx) (W0:=W0) (T:=T) (w:=w) (base:=base) hz;have hsz:i.size=f.length:=by rw[hi2,z2]
 have qae:cx.tb.sz e''=f.length:=by simp[yg.sz,hf]
 obtain⟨A',n',c',olds,e1,v1,v2,v3,o1,o2,o3,-⟩:=hv.src (P:=P) hw hf z3;cases e1;obtain⟨B',k',c3,news,e1,u1,u2,u3,n1,n2,n3,-⟩:=hv2.src (P:=P) hw hf z3;cases e1;obtain⟨bB,oB,rfl,bkB,hnews⟩:=n3 hk0;have hLM:LM=4294967296:=kj;have hml:mf=9223372036854775807:=kj;have hcapge:n+k<=grownCap w (n+k) n e'':=mq w _ _ _;have hcaple:grownCap w (n+k) n e''<=mf:=ib w _ _ _ kg
 have hbytes:(n+k)*i.bytes<=140737488355328:=by
  have h1:(n+k)*i.bytes<=4294967296*32768:=tn kg kg;omega
 have hnx:=rh (need:=n+k) (old:=n) (bytes:=i.bytes) kg hbytes;have hnews':∀j v,news[j]? = I v->w.cell? ((⟨bB,oB,V⟩:Addr).add j)=I v:=λj u hu=>by rw[uz];exact hnews j u hu
 have hrun:(fu #[t,t] ty #[ng A n n,ng (I ⟨bB,oB,V⟩) k c2]).run P w=.ok (ng (I ⟨w.heap.size,0,V⟩) (n+k) (grownCap w (n+k) n e'')) (w.drew.alloc (.cells (olds.toArray++news.toArray++gw z.cells (grownCap w (n+k) n e''-(n+k))) e'')):=by
  by_cases hn:n=0
  .subst hn;have ho:olds=[]:=List.length_eq_zero_iff.1 (by rw[o1,qv]);subst ho;cases A with
   | none=>
     have:=rf (P:=P) w t ty e'' i z g1 hi1 hz1 _ k c2 news (by rw[n1,hsz]) hnews' kg kg (by rw[bu] at hbytes;omega);simpa using this
   | some ad=>
     have:=oy (P:=P) w t ty e'' i z g1 hi1 hz1 ad 0 0 [] kq (λj u h=>by simp at h) ⟨bB,oB,V⟩ k c2 news (by rw[n1,hsz]) hnews' kg kg hnx;simpa using this
  .obtain⟨bA,oA,rfl,bkA,holds⟩:=o3 kg;have:=oy (P:=P) w t ty e'' i z g1 hi1 hz1 ⟨bA,oA,V⟩ n n olds (by rw[o1,hsz]) (λj u hu=>by rw[uz];exact holds j u hu) ⟨bB,oB,V⟩ k c2 news (by rw[n1,hsz]) hnews' kg kg hnx;exact this
 generalize hq:olds.toArray++news.toArray++gw z.cells (grownCap w (n+k) n e''-(n+k))=q at hrun;have hd1:=qdg (tb:=cx.tb) hw w.heap.size;have hzs:z.cells.size=f.length:=by rw[<-aw,hz2,z1]
 have hos:olds.toArray.size=n*f.length:=by simpa using o1
 have hns:news.toArray.size=k*f.length:=by simpa using n1
 have hqo:∀j,j<n*f.length->q[j]? = olds[j]?:=λj hj=>by
  rw[<-hq,Array.append_assoc,dz kg];simp
 have hqn:∀j,j<k*f.length->q[n*f.length+j]? = news[j]?:=λj hj=>by
  rw[<-hq,dz (by rw[fw];omega),fh kg,hos,dm];simp
 have qg8:∀j v,q[j]? = I v->∃ct,f[j%f.length]? = I ct/\CV cx.tb W0 T w.drew 0 ct v:=by
  intro j v hv';by_cases h1:j<n*f.length
  .rw[hqo j h1] at hv';obtain⟨ct,p1,p2⟩:=o2 j v hv';exact⟨ct,p1,p2.mono hd1.ext (af _)⟩
  .by_cases h2:j<n*f.length+k*f.length
   .obtain⟨j',rfl⟩:∃j',j=n*f.length+j':=⟨j-n*f.length,kg⟩;rw[hqn j' kg] at hv';obtain⟨ct,p1,p2⟩:=n2 j' v hv';refine⟨ct,?_,p2.mono hd1.ext (af _)⟩;rw[<-p1,acu,ev]
   .rw[<-hq,fh (by rw[fw];omega),fw,hos,hns] at hv';rw[qxt] at hv';obtain⟨ct,p1,p2⟩:=qcv (cx:=cx) (W0:=W0) (T:=T) (w:=w) (base:=0) hz hz2 _ _ v hv';refine⟨ct,?_,p2.mono hd1.ext (af _)⟩;rw[<-p1];congr 1
    conv=>lhs;rw[show j=(j-(n*f.length+k*f.length))+(n+k)*f.length by rw[eh];omega]
    rw[ev]
 have hd2:=qvy (base:=w.heap.size) (w:=w.drew) hd1.wt (af _) hf z3 (qj2 hz) qg8 nr
 have hqs:grownCap w (n+k) n e''*f.length<=q.size:=by
  rw[<-hq];simp only[fw,ei,o1,n1,pj,hzs];rw[<-eh,<-eh];exact dd _ kg
 have h:=hd1.trans hd2;have hwd:w.drew.heap.size=w.heap.size:=rfl;rw[hwd] at h;have hh:=qgx h (λg hg=>by cases hg)
 have hcell:∀o,(w.drew.alloc (.cells q e'')).cell? ⟨w.heap.size,o,V⟩=q[o]?:=λo=>by
  have:=qvq w.drew q e'' o
  rwa [hwd] at this
 have hbig:w.heap.size<(w.drew.alloc (.cells q e'')).heap.size:=by simp[hwd]
 refine⟨_,add T w.heap.size,_,hrun,h.wt,hh,qcy (cx:=cx) (W0:=W0) (T:=T) (w:=w.drew) (base:=w.heap.size) (cs:=q) hf z3 (af _) hcapge kg hcaple hqs,λj xs hj hx=>?_,λj xs hj hx=>?_⟩
 .obtain⟨b,off,rfl,h1,h2,h3,h4,h5⟩:=hx;refine⟨w.heap.size,0,rfl,.inl (.inr rfl),hbig,h3,λkk hkk=>?_,zx hh.ext h5⟩;obtain⟨bA,oA,e1,bkA,holds⟩:=o3 kg;cases e1
  have hjk:j*f.length+kk<n*f.length:=by
   have:=dd f.length (show j+1<=n by omega);rw[eh,lq] at this;omega
  rw[hcell,bu,hqo _ hjk,<-h4 kk hkk,ah kg,gi];exact(holds _ _ (ah kg)).symm
 .obtain⟨b,off,e1,h1,h2,h3,h4,h5⟩:=hx;cases e1;refine⟨w.heap.size,0,rfl,.inl (.inr rfl),hbig,h3,λkk hkk=>?_,zx hh.ext h5⟩
  have hjk:j*f.length+kk<k*f.length:=by
   have:=dd f.length (show j+1<=k by omega);rw[eh,lq] at this;omega
  rw[hcell,bu,eh,gi,hqn _ hjk,<-h4 kk hkk,ah kg,gi];exact(hnews _ _ (ah kg)).symm
theorem qx3{d:Tmp}(h:a.tmps[d]?.getD mc=v):a.eval (.tmp d)=v:=(au ..).trans h
theorem qzm{o:Oper}{a:Act}{ty:nz}{d:Tmp}(ho:o.op=.load ty (.tmp d)){g:Nat}(hx:a.tmps[d]?.getD mc=nj (I ⟨g,0,V⟩)){t:nz}{cs:Array ny}{ds:TypeDesc}(hg:mg w g t cs)
  (hu:P.underlying ty=I ds) (hd:(match ds with|.struct _|.array _ _=>nr|_=>ns)=nr) (hi:(P.info? ty).map (·.size)=I cs.size):(execOp a.eval o).run P w=.ok (.value (.agg cs)) w:=by
 have e:=qx3 hx;unfold execOp;simp only[ho,e,qq,mo,ai,eb,aq,run_loadVar_row w g t ty cs (0,0) ds hg hu hd hi]
theorem qop{o:Oper}{d:Tmp}(ho:o.op=.load ty (.tmp d))(hx:a.tmps[d]?.getD mc=nj (I ⟨b,off,V⟩)){cs:List ny}{ds:TypeDesc}(hg:w.rangeAt b off cs)
  (hu:P.underlying ty=I ds) (hd:ds.isRow=nr) (hi:(P.info? ty).map (·.size)=I cs.length):(execOp a.eval o).run P w=.ok (.value (.agg cs.toArray)) w:=by
 have e:=qx3 hx;unfold execOp;simp only[ho,e,qq,mo,ai,eb,aq,run_loadVar_mid w b off ty cs ds hg hu hd hi]
theorem qdh(hcx:yj P cx){o:Oper}{d:Tmp}(ho:o.op=.buildSlice t 1 #[(0,.tmp d)])(hx:a.tmps[d]?.getD mc=.agg cs){td:TD}(hk:kd cx t=.sl e)(hd:yx cx e=I td)(hrs:cs.size=td.size)(hs1:td.size<=1000)(hs0:0<td.size) :
  (execOp a.eval o).run P w=.ok (.value (ng (I ⟨w.heap.size,0,V⟩) 1 1)) (w.alloc (.cells cs e)):=by
 have ex:=qx3 hx;obtain⟨u',g1,g2⟩:=xe hcx hk kq;obtain⟨e'',rfl⟩:∃e'',u'=.slice e'':=by cases u'<;>simp_all [KD.of]
 simp only[KD.of,KD.sl.injEq] at g2;subst g2;obtain⟨i,hi1,hi2,hi3,z,hz1,hz2⟩:=jg (hcx _ td hd);have he:((#[(0,Operand.tmp d)]:Array (Nat×Operand)).map λ(i,x)=>(i,a.eval x)).toList=[(0,.agg cs)]:=by simp[ex]
 have hf:iv (λk=>I (k*i.size,i.size)) ((Array.range (1*i.size)).map (z.cells[·%z.cells.size]!)) ((#[(0,Operand.tmp d)]:Array (Nat×Operand)).map λ(i,x)=>(i,a.eval x)).toList=I cs:=by
  rw[he];exact qpd (by simp[hrs,hi2]) i.size (by rw[hi2,hrs])
 unfold execOp;simp only[ho,ai,run_buildSlice w t e'' 1 _ cs i z g1 hi1 hz1 (by rw[hi2];omega) (by rw[hi2];omega) hf,aq];rfl
theorem q0r(hcx:yj P cx){o:Oper}{s x:Tmp}(ho:o.op=.call { callee:=.builtin .append,args:=#[.tmp s,.tmp x],argTypes:=#[t,t] })(hs:a.tmps[s]?.getD mc=ng A n n)(hx:a.tmps[x]?.getD mc=ng B k c2)
  (hk:kd cx t=.sl e) (hd:yx cx e=I d) (hf:cx.tb.flat e=I f) (hz:qqb d f=nr) (hby:d.bytes<=32768) (hlb:lb+lb2<=LM) (hw:WT cx.tb W0 T w) (hv:CV cx.tb W0 T w base (.sl m e lb) (ng A n n)) (hv2:CV cx.tb W0 T w base (.sl m2 e lb2) (ng B k c2)) (hk0:0<k) :
  ∃(c:Nat) (T':Nat->Prop) (w':nu),(execOp a.eval o).run P w=.ok (.value (ng (I ⟨w.heap.size,0,V⟩) (n+k) c)) w'/\WT cx.tb W0 T' w'/\zg T w nr T' w'/\CV cx.tb W0 T' w' w.heap.size (.sl 2 e (lb+lb2)) (ng (I ⟨w.heap.size,0,V⟩) (n+k) c) /\
   (∀j xs,j<n->zo cx W0 T w f A j xs->zo cx W0 T' w' f (I ⟨w.heap.size,0,V⟩) j xs)/\(∀j xs,j<k->zo cx W0 T w f B j xs->zo cx W0 T' w' f (I ⟨w.heap.size,0,V⟩) (n+j) xs):=by
 obtain⟨c,T',w',h1,h2⟩:=q7y (ty:=o.type) hcx hk hd hf hz hby hlb hw hv hv2 hk0;refine⟨c,T',w',?_,h2⟩;rw[<-qx3 hs,<-qx3 hx] at h1;simp only[execOp,ho,resolve,invoke,builtin];simpa[ai] using qqp h1
theorem qcn(hw:WT cx.tb W0 T w)(hf:cx.tb.flat e=I f)(hl:0<f.length)(hno:qvf f=nr)(hlow:f.all qkj=nr)(hty:zq cx.tb W0 T w base (.agg f) (.agg cs))(lb:Nat)(hlb:1<=lb) :
  WT cx.tb W0 (add T w.heap.size) (w.alloc (.cells cs e))/\zg T w nr (add T w.heap.size) (w.alloc (.cells cs e))/\CV cx.tb W0 (add T w.heap.size) (w.alloc (.cells cs e)) w.heap.size (.sl 2 e lb) (ng (I ⟨w.heap.size,0,V⟩) 1 1) /\
   zo cx W0 (add T w.heap.size) (w.alloc (.cells cs e)) f (I ⟨w.heap.size,0,V⟩) 0 cs:=by
 have hsz:=zf hty
 have hcell:∀i v,cs[i]? = I v->∃ct,f[i%f.length]? = I ct/\CV cx.tb W0 T w 0 ct v:=λi v hv=>by
  obtain⟨cs',e1,h1,h2⟩:=hty;cases e1;have hi:i<f.length:=by have:=(cl.1 hv).1;omega
  refine⟨f[i],by rw[iw hi];exact ah hi,qzt (h2 i _ v (ah hi) hv) (ao.1 hlow _ (wv _)) 0⟩
 have h:=qvy (cx:=cx) (base:=w.heap.size) hw (af _) hf hl hno hcell nr;have hh:=qgx h (λg hg=>by cases hg);refine⟨h.wt,hh,qcy (cx:=cx) hf hl (af _) (af _) hlb (by unfold mf;omega) (by rw[lq,hsz];exact af _),w.heap.size,0,rfl,.inl (.inr rfl),kq,hsz,λk hk=>?_,zx hh.ext (qzz hty hlow 0)⟩;rw[qvq,bu,qv,bu]
end
open Go.RowKit
section
variable {W0:nu}{T:Nat->Prop}{w:nu}
def ElAt(W0:nu)(T:Nat->Prop)(w:nu)(A:Option Addr)(j:Nat)(f:List CT):Prop:=∃(b off:Nat) (r:List ny),A=I ⟨b,off,V⟩/\r.length=f.length/\(∀(k:Nat) (ct:CT) (u:ny),f[k]? = I ct->r[k]? = I u->CV cx.tb W0 T w 0 ct u) /\
 ∀W,Below w.heap.size w W->∀(o:Nat) (u:ny),r[o]? = I u->W.cell? ⟨b,off+j*f.length+o,V⟩=I u
theorem qtb{base:Nat}(hw:WT cx.tb W0 T w)(hfl:cx.tb.flat e=I f)(h:CV cx.tb W0 T w base (.sl m e lb) (ng A n c))(hj:j<n):ElAt W0 T w A j f:=by
 obtain⟨b,off,rfl⟩:∃b off,A=I ⟨b,off,V⟩:=by
  rcases h with h|⟨-,h⟩|⟨b,off,_,_,h,-⟩
  .injection h with h1 h2 h3;omega
  .cases h with
   | nil=>omega
   | emp=>omega
   | sl=>exact⟨_,_,rfl⟩
  .injection h with h1 h2 h3;exact⟨b,off,h1⟩
 have hel:=h.elem (i:=j) hj;have hsz:cx.tb.sz e=f.length:=by simp[yg.sz,hfl]
 rw[hsz] at hel
 obtain⟨r,hr,hq⟩:=qfr (Q:=λk v=>w.cell? ⟨b,off+j*f.length+k,V⟩=I v/\∀ct,f[k]? = I ct->CV cx.tb W0 T w 0 ct v) f.length (λk hk=>by
  obtain⟨v,h1,h2⟩:=hw.load hel (k:=k) (ct:=f[k]) (by rw[hfl];simp[hk])
  exact⟨v,h1,λct hct=>by rw[ah hk] at hct;cases hct;exact h2⟩)
 refine⟨b,off,r,rfl,hr,λk ct u hct hu=>(hq k u hu).2 ct hct,λW hb o u hu=>qls hb (hq o u hu).1⟩
theorem q2d{base:Nat}{r:List ny}(hl:r.length=11)(h:∀(k:Nat) (ct:CT) (u:ny),([.str mf,.str mf,qy O,.str mf,qy O,qy O,.sl 0 156 1024,qy O,qy O,.bool,.bool]:List CT)[k]? = I ct->r[k]? = I u->CV cx.tb W0 T w base ct u) :
  ∃(s0 s1:ByteArray) (n2:Int) (s3:ByteArray) (n4 n5:Int) (B:Option Addr) (m c:Nat) (n7 n8:Int) (b9 b10:Bool),r=[nh s0,nh s1,U O n2,nh s3,U O n4,U O n5,ng B m c,U O n7,U O n8,ni b9,ni b10]:=by
 rcases r with _|⟨a0,_|⟨a1,_|⟨a2,_|⟨a3,_|⟨a4,_|⟨a5,_|⟨a6,_|⟨a7,_|⟨a8,_|⟨a9,_|⟨a10,_|⟨a11,r⟩⟩⟩⟩⟩⟩⟩⟩⟩⟩⟩⟩<;>first|(simp at hl;done)|skip
 obtain⟨s0,rfl,-⟩:=h 0 _ _ rfl rfl;obtain⟨s1,rfl,-⟩:=h 1 _ _ rfl rfl;obtain⟨n2,rfl,-⟩:=h 2 _ _ rfl rfl;obtain⟨s3,rfl,-⟩:=h 3 _ _ rfl rfl;obtain⟨n4,rfl,-⟩:=h 4 _ _ rfl rfl;obtain⟨n5,rfl,-⟩:=h 5 _ _ rfl rfl;obtain⟨B,m,c,rfl,-⟩:=yc (h 6 _ _ rfl rfl);obtain⟨n7,rfl,-⟩:=h 7 _ _ rfl rfl;obtain⟨n8,rfl,-⟩:=h 8 _ _ rfl rfl;obtain⟨b9,rfl⟩:=h 9 _ _ rfl rfl;obtain⟨b10,rfl⟩:=h 10 _ _ rfl rfl;exact⟨s0,s1,n2,s3,n4,n5,B,m,c,n7,n8,b9,b10,rfl⟩
end
end Sy
namespace Reg5
open Go.RowKit qx
def qo3:Op->Bool
 | .call _=>ns
 | .defer _=>ns
 | _=>nr
def qwq(ops:Array Oper)(m:Nat):Bool:=(ay m).all (λk=>match ops[k]? with|some o=>qo3 o.op|none=>nr)
def qhi(R:ny->nu->Prop):Result Next->Prop
 | .ok (.value v) w'=>R v w'
 | .ok .skip w'=>R mc w'
 | _=>False
section
variable {F:Fence}{n:Nat}{P:ma}{ops:Array Oper}{Q:Exit->Act->nu->Prop}{m:Nat}{a0:Act}{G:nu->Prop}{Φ:Nat->ny->nu->Prop}
theorem seqIn:∀(l:List Oper) (k:Nat) (listed:Array Bool) (a:Act) (w:nu),(∀j,l[j]? = ops[k+j]?) ->
  tr .any ops l.length k listed=nr->wpListIn F n P ops Q l a w->wpAnyIn F n P .any ops Q l.length listed a w
 | [],_,_,_,_,_,hB,h=>⟨by simpa[tr] using hB,h⟩
 | o::l,k,listed,a,w,hl,hB,h=>by
   have h0:ops[k]? = I o:=by simpa using(hl 0).symm
   simp only[gp,tr,ag,decide_eq_true_eq] at hB;refine⟨λh1=>(by rw[hB.1] at h1;cases h1),λi hi=>?_⟩;rw[hB.1] at hi;have hik:i=k:=by simpa using hi
   subst hik;have hw:wpOpIn F n P ops Q i (wpListIn F n P ops Q l) a w:=by unfold wpOpIn;simp only[h0];exact h
   exact wpOpIn_mono (λa' w' h'=>seqIn l (i+1) _ a' w' (λj=>by have:=hl (j+1);simpa[gi,acu 1 j] using this) hB.2 h') hw
structure Inv(ops:Array Oper)(m:Nat)(a0:Act)(G:World->Prop)(Φ:Nat->Value->World->Prop)(vals:Nat->Value)(listed:Array Bool)(a:Act)(w:World):Prop where
 size:listed.size=ops.size
 tail:∀i,m<=i->i<ops.size->listed.getD i nr=ns
 act:a=puts ops vals (λk=>listed.getD k ns) (ay m) a0
 g:G w
 phi:∀k,k<m->listed.getD k ns=nr->Φ k (vals k) w
 down:∀(k:Nat) (o:Oper),ops[k]? = I o->listed.getD k ns=nr->∀e∈o.after,dy .any e=nr->listed.getD e.on ns=nr
theorem main(hH:qyf ops m=nr)(hnc:qwq ops m=nr)(hin:∀k d,k<m->zi ops k=I d->d<a0.tmps.size)
  (hstep:∀i o,i<m->ops[i]? = I o->∀(a:Act) (w:nu),G w->(∀d,Operand.tmp d∈o.op.operands->qkd ops m a0 Φ w d (a.tmps.getD d mc)) ->
    qhi (λv w'=>G w'/\Φ i v w'/\∀k u,k<m->k≠i->reaches ops ops.size k i=ns->Φ k u w->Φ k u w') ((execOp a.eval o).run P w))
  (hfin:∀(vals:Nat->ny) (w:nu),G w->(∀k,k<m->Φ k (vals k) w)->wpListIn F n P ops Q (ops.toList.drop m) (puts ops vals (λ_=>nr) (ay m) a0) w) :
  ∀(c:Nat) (vals:Nat->ny) (listed:Array Bool) (a:Act) (w:nu),Inv ops m a0 G Φ vals listed a w->left m listed=c->wpAnyIn F n P .any ops Q (c+(ops.size-m)) listed a w:=by
 simp only[qyf,ag,decide_eq_true_eq,ao,bj,cj] at hH;obtain⟨⟨⟨hmn,qh⟩,htail⟩,hseq⟩:=hH
 have qg2:∀i o,i<m->ops[i]? = I o->o.guard=V/\(∀e∈o.after,dy .any e=nr->e.on<i)/\(∀d,Operand.tmp d∈o.op.operands->∀k,k<m->zi ops k=I d->waits o k=nr)/\(∀k,k<m->k≠i->∀d,zi ops i=I d->zi ops k≠I d):=by
  intro i o hi ho;have h:=qh i hi;unfold opB at h;rw[ho] at h;simp only[ag,Option.isNone_iff_eq_none,ru,decide_eq_true_eq,ao,bj,cj,bne_iff_ne,beq_iff_eq] at h;obtain⟨⟨⟨h1,h2⟩,h3⟩,h4⟩:=h;refine⟨h1,λe he hb=>(h2 e he).resolve_left (by rw[hb];decide),λd hd k hk hkd=>?_,λk hk hne d hd hkd=>?_⟩
  .have:=h3 _ hd;simp only[ao,bj,cj,bne_iff_ne] at this;rcases this k hk with h|h
   .exact absurd hkd h
   .exact h
  .rcases h4 k hk with(h|h)|h
   .exact hne h
   .rw[h] at hd;cases hd
   .rw[hd,hkd] at h;exact h rfl
 intro c
 induction c with
 | zero=>
   intro vals listed a w inv hc
   have hall:∀k,k<m->listed.getD k ns=nr:=by
    intro k hk;unfold left at hc;have:=List.eq_nil_of_length_eq_zero hc;have h2:=List.filter_eq_nil_iff.1 this k (bj.2 hk);simpa using h2
   have hl:listed=qxp m ops.size:=by
    refine Array.ext (by simp[qxp,inv.size];omega) (λk h1 h2=>?_);by_cases hk:k<m
    .have e1:=hall k hk;rw[au,ak h1] at e1;have e2:(qxp m ops.size)[k]=nr:=by simp[qxp,hk]
     rw[e2];simpa using e1
    .have e1:=inv.tail k kg (by rw[<-inv.size];exact h1);rw[au,ak h1] at e1;have e2:(qxp m ops.size)[k]=ns:=by simp[qxp,Array.getElem_append,hk]
     rw[e2];simpa using e1
   have ha:a=puts ops vals (λ_=>nr) (ay m) a0:=by
    rw[inv.act];exact qxz _ _ (λk hk=>⟨hall k (bj.1 hk),rfl⟩)
   subst ha;have hlen:(ops.toList.drop m).length=ops.size-m:=kq;have:=seqIn (F:=F) (n:=n) (Q:=Q) (P:=P) (ops:=ops) (ops.toList.drop m) m listed _ w (λj=>kq) (by rw[hlen,hl];exact hseq) (hfin vals w inv.g (λk hk=>inv.phi k hk (hall k hk)));rw[hlen] at this;rw[bu];exact this
 | succ c ih=>
   intro vals listed a w inv hc;rw[show c+1+(ops.size-m)=(c+(ops.size-m))+1 by omega]
   have hex:∃i,i<m/\listed.getD i ns=ns:=by
    unfold left at hc;rcases hl:(ay m).filter (λk=>!listed.getD k ns) with _|⟨i,l⟩
    .rw[hl] at hc;simp at hc
    .have:i∈(ay m).filter (λk=>!listed.getD k ns):=by rw[hl];simp
     rw[List.mem_filter,bj] at this;exact⟨i,this.1,by simpa using this.2⟩
   refine⟨λhr=>?_,λi hi=>?_⟩
   ·
    exfalso
    obtain⟨i,⟨hi,hu⟩,hmin⟩:∃i,(i<m/\listed.getD i ns=ns)/\∀j,j<i->listed.getD j ns=nr:=by
     obtain⟨i,hi,hu⟩:=hex
     induction i using Nat.strongRecOn with
     | _ i ihs=>
       by_cases hb:∃j,j<i/\listed.getD j ns=ns
       .obtain⟨j,hj,hju⟩:=hb;exact ihs j hj kg hju
       .exact⟨i,⟨hi,hu⟩,λj hj=>by
         cases hv:listed.getD j ns with
         | true=>rfl
         | false=>exact absurd ⟨j,hj,hv⟩ hb⟩
    have ho:∃o,ops[i]? = I o:=⟨ops[i]' kg,ak _⟩;obtain⟨o,ho⟩:=ho;have:i∈Region.ready .any ops listed:=mem_ready.2 ⟨by rw[qfu _ _ (by rw[inv.size];omega)];exact hu,o,ho,λe he hb=>hmin _ ((qg2 i o hi ho).2.1 e he hb)⟩;rw[hr] at this;cases this
   .obtain⟨hu,o,ho,hed⟩:=mem_ready.1 hi;have hin':i<ops.size:=(cl.1 ho).1;have his:i<listed.size:=by rw[inv.size];exact hin'
    have hu':listed.getD i ns=ns:=by rw[<-qfu _ _ his];exact hu
    have him:i<m:=by
     rcases dw i m with h|h
     .exact h
     .exfalso;obtain⟨k,hk,hku⟩:=hex;have ht:=htail i hin';rcases ht with ht|ht
      .omega
      .unfold qm3 at ht;simp only[ao,bj] at ht;have:=qxw inv.down _ i o k ho hed (ht k hk);rw[hku] at this;cases this
    obtain⟨g1,g2,g3,g4⟩:=qg2 i o him ho
    have qv3:=hstep i o him ho a w inv.g (λd hx=>by
     unfold qkd;split
     .rename_i k hk;unfold idxOf at hk;have hkm:k<m:=bj.1 (List.mem_of_find?_eq_some hk);have hkd:zi ops k=I d:=by simpa using List.find?_some hk
      have hw:=g3 d hx k hkm hkd;unfold waits at hw;rw[Array.any_eq_true'] at hw;obtain⟨e,he,hb⟩:=hw;simp only[ag,beq_iff_eq] at hb;have hlk:=hed e he hb.1;rw[hb.2] at hlk
      have:a.tmps.getD d mc=vals k:=by
       rw[inv.act];refine qk3 hkd hlk (ay m) a0 pn (bj.2 hkm) (hin k d hkm hkd) (λj hj hne hjd=>?_);have hj':j<m:=bj.1 hj;have hoj:∃oj,ops[j]? = I oj:=⟨ops[j]' kg,ak _⟩;obtain⟨oj,hoj⟩:=hoj;exact(qg2 j oj hj' hoj).2.2.2 k hkm (λe=>hne e.symm) d hjd hkd
      rw[this];exact inv.phi k hkm hlk
     .rename_i hk;unfold idxOf at hk
      have hno:∀k∈ay m,zi ops k≠I d:=λk hk'=>by
       have:=List.find?_eq_none.1 hk k hk';simpa using this
      rw[inv.act]
      exact qy6 _ _ hno)
    have hK:∀(v:ny) (w':nu),(G w'/\Φ i v w'/\∀k u,k<m->k≠i->reaches ops ops.size k i=ns->Φ k u w->Φ k u w')->wpAnyIn F n P .any ops Q (c+(ops.size-m)) (listed.setIfInBounds i nr) (a.put o.dst v) w':=by
     rintro v w' ⟨hG,hΦ,hkeep⟩;refine ih (λk=>if k=i then v else vals k) _ _ _ ⟨by simp[inv.size],λj hj hjn=>?_,?_,hG,λk hk hlk=>?_,λk ok hok hlk e he hbe=>?_⟩ ?_
     .rw[qza _ _ _ _ his,if_neg kg];exact inv.tail j hj hjn
     .have hdst:o.dst=zi ops i:=by unfold zi;rw[ho];rfl
      rw[hdst,inv.act,<-qgf (ay m) a0 pn (bj.2 him) hu' (λk hk hne d h1=>g4 k (bj.1 hk) hne d h1)];refine qxz _ _ (λk hk=>⟨?_,rfl⟩);rw[qza _ _ _ _ his];by_cases e:k=i
      .simp[e]
      .simp[e]
     .by_cases e:k=i
      .subst e;simpa using hΦ
      .rw[qza _ _ _ _ his,if_neg e] at hlk;simp only[if_neg e];refine hkeep k _ hk e ?_ (inv.phi k hk hlk);cases hr:reaches ops ops.size k i with
       | false=>rfl
       | true=>
         have hok:∃ok,ops[k]? = I ok:=⟨ops[k]' kg,ak _⟩;obtain⟨ok,hok⟩:=hok;have:=qxw inv.down _ k ok i hok (λe he hb=>inv.down k ok hok hlk e he hb) hr;rw[hu'] at this;cases this
     .have hlo:listed.getD e.on ns=nr:=by
       by_cases ek:k=i
       .subst ek;rw[ho] at hok;injection hok with hok;subst hok;exact hed e he hbe
       .rw[qza _ _ _ _ his,if_neg ek] at hlk;exact inv.down k ok hok hlk e he hbe
      rw[qza _ _ _ _ his];split
      .rfl
      .exact hlo
     .have:=qn2 (m:=m) him his hu';omega
    unfold wpOpIn;rw[ho];have hwant:ee o (yielded ops a.tmps)=nr:=by simp[ee,g1]
    simp only[hwant,if_true];have hc:=ao.1 hnc i (bj.2 him);rw[ho] at hc;refine⟨λf hf=>?_,?_⟩
    .exfalso;unfold Oper.about at hf;cases hop':o.op<;>simp[hop',qo3] at hc hf
    rw[Oper.semAt_eq _ _ _ (λc h=>by simp[h,qo3] at hc)];generalize (execOp a.eval o).run P w=r at qv3;cases r with
    | ok nx w'=>
      cases nx<;>simp only[qhi] at qv3<;>simp only[Oper.uponIn]
      .exact hK _ _ qv3
      .exact hK _ _ qv3
    | halt x w'=>simp only[qhi] at qv3
theorem region{id:Nat}{w:nu}(m:Nat)(G:nu->Prop)(Φ:Nat->ny->nu->Prop)(hm:P.follows .mixedOrders=nr)(hH:qyf ops m=nr)(hnc:qwq ops m=nr)(hin:∀k d,k<m->zi ops k=I d->d<a0.tmps.size)(hG:G w.drew)
  (hstep:∀i o,i<m->ops[i]? = I o->∀(a:Act) (w:nu),G w->(∀d,Operand.tmp d∈o.op.operands->qkd ops m a0 Φ w d (a.tmps.getD d mc)) ->
    qhi (λv w'=>G w'/\Φ i v w'/\∀k u,k<m->k≠i->reaches ops ops.size k i=ns->Φ k u w->Φ k u w') ((execOp a.eval o).run P w))
  (hfin:∀(vals:Nat->ny) (w:nu),G w->(∀k,k<m->Φ k (vals k) w)->wpListIn F n P ops Q (ops.toList.drop m) (puts ops vals (λ_=>nr) (ay m) a0) w) :
  (Code.region id ops nr).wpIn F n P Q a0 w:=by
 refine wpIn_region_any hm ?_
 have hmn:m<=ops.size:=by
  simp only[qyf,ag,decide_eq_true_eq] at hH;exact hH.1.1.1
 have hz:∀k b,k<ops.size->(fy ops.size ns).getD k b=ns:=λk b hk=>by
  rw[au,Array.getElem?_replicate,if_pos hk];rfl
 have hl:left m (fy ops.size ns)=m:=by
  unfold left;rw[List.filter_eq_self.2 (λk hk=>by rw[hz k ns (by have:=bj.1 hk;omega)];rfl),List.length_range]
 have:=main (F:=F) (n:=n) (P:=P) (Q:=Q) (a0:=a0) (G:=G) (Φ:=Φ) hH hnc hin hstep hfin m (λ_=>mc) (fy ops.size ns) a0 w.drew ⟨kq,λi _ hi=>hz i nr hi,?_,hG,λk hk h=>?_,λk o ho h=>?_⟩ hl
 .rw[show m+(ops.size-m)=ops.size by omega] at this;exact this
 .have:∀(ks:List Nat) (a:Act),(∀k∈ks,k<ops.size)->puts ops (λ_=>mc) (λk=>(fy ops.size ns).getD k ns) ks a=a:=by
   intro ks
   induction ks with
   | nil=>intro a _;rfl
   | cons k ks ih=>
     intro a h;unfold puts;rw[hz k ns (h k kq)];exact ih a (λj hj=>h j (by simp[hj]))
  exact(this _ _ (λk hk=>by have:=bj.1 hk;omega)).symm
 .rw[hz k ns kg] at h;cases h
 .rw[hz k ns (cl.1 ho).1] at h;cases h
theorem quiet{id:Nat}{w:nu}(m:Nat)(tbl:Nat->ny)(hm:P.follows .mixedOrders=nr)(hH:qyf ops m=nr)(hnc:qwq ops m=nr)(hin:∀k d,k<m->zi ops k=I d->d<a0.tmps.size)
  (hstep:∀i o,i<m->ops[i]? = I o->∀(a:Act),(∀d,Operand.tmp d∈o.op.operands->a.tmps.getD d mc=(match idxOf ops m d with|some k=>tbl k|none=>a0.tmps.getD d mc))->(execOp a.eval o).run P w.drew=.ok (.value (tbl i)) w.drew)
  (hfin:wpListIn F n P ops Q (ops.toList.drop m) (puts ops tbl (λ_=>nr) (ay m) a0) w.drew) :
  (Code.region id ops nr).wpIn F n P Q a0 w:=by
 refine region m (λw'=>w'=w.drew) (λk v _=>v=tbl k) hm hH hnc hin rfl ?_ ?_
 .rintro i o hi ho a w' rfl qh
  rw[hstep i o hi ho a (λd hd=>by
   have:=qh d hd;unfold qkd at this;split at this
   .rename_i h;rw[h];exact this
   .rename_i h;rw[h];exact this)]
  exact⟨rfl,rfl,λ_ _ _ _ _ h=>h⟩
 .rintro vals w' rfl hΦ;rw[qxz (vals':=tbl) (L':=λ_=>nr) (ay m) a0 (λk hk=>⟨rfl,hΦ k (bj.1 hk)⟩)];exact hfin
end
end Reg5
end Go.Proofs.YtmadfhgiaonnlaaGreatDoor
