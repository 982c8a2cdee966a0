import Derived.Deep.CutBlock
import Derived.Shelf.Lay
import Derived.Shelf.LaysM
import Derived.Shelf.Strconv.Itoa3
import Derived.Lib.ItoaLen
import Derived.Shelf.Small.Strs
import Derived.Test.YtmadfhgiaonnlaaGreatDoorPk10
open Array renaming getElem?_toList->ax
open Go renaming wpList_load_row->bp,bodyPost_ret->du,results_tmp2->pk,wpList_store_mid->jj,wpList_store_rowTo->br
open Go.Act renaming put->ez
open Go.IntKind renaming wrap->di,bits->dj,signed->cz
open Go.Lib renaming hid->aa,run_eql_slice_nil->il,TabIs->aan,compareBytes->py
open Go.Proofs.Tryz renaming prog->ab,func151->adf,func37->aee,underlying34->gj,func147->adg,underlying200->aam,underlying29->rm,func88->ua,ntmps88->xj,underlying3->sb,isAgg3->ym,sizeOf3->xi,zeroValue3->abp,underlying9->abg,isAgg9->aef,sizeOf9->adh,zeroValue9->abq,f190->mi
open Go.RowKit.Below renaming refl->aj
open List renaming range->ay,drop_succ_cons->cq,drop_zero->df,mem_cons_self->ff,mem_cons_of_mem->js
open List.range renaming loop->dc
open Nat renaming zero_le->cr,le_refl->af,le_trans->cy,zero_add->bu,lt_trichotomy->pf,add_sub_cancel_left->dm
open Prod.mk renaming inj->fp
open Bool renaming false->ns,true->nr
open Go renaming Program->ma,Value->ny,World->nu,maxLen->mf,undef->mc
open Go.Ending renaming returned->np
open Go.IntKind renaming i64->O
open Go.Value renaming bool->ni,int->U,pointer->nj,slice->ng,string->nh,tuple->nq
open Option renaming none->V,some->I
open Go.Proofs.YtmadfhgiaonnlaaGreatDoor renaming Blk->mg
set_option maxRecDepth 100000
set_option maxHeartbeats 4000000
set_option linter.unusedVariables false
set_option linter.unusedSimpArgs false
namespace Go.Proofs.YtmadfhgiaonnlaaGreatDoor
namespace Sy
open Go.RowKit
variable {s0 s1:ByteArray}{b c g8 k lb n off p:Nat}{T1 T2:Nat->Prop}{A:Option Addr}{v:ny}{w1 w2:nu}
section
variable {W0:nu}{T:Nat->Prop}{w:nu}
abbrev qz0 (s0 s1:ByteArray) (n:Int):Array ny:=#[nh s0,nh s1,U O n]
def qf1(s0 s1:ByteArray)(n:Int):Prop:=s0.size<=mf/\s1.size<=mf/\IntKind.i64.min<=n/\n<=IntKind.i64.max
theorem q2h{n:Int}(h:qf1 s0 s1 n){base:Nat}:TyValc W0 T w base (.agg [.str mf,.str mf,qy O]) (.agg (qz0 s0 s1 n)):=by
 obtain⟨h1,h2,h3,h4⟩:=h;refine⟨_,rfl,rfl,λi ct u hc hu=>?_⟩
 match i,hc,hu with
 | 0,hc,hu=>cases hc;cases hu;exact⟨_,rfl,h1⟩
 | 1,hc,hu=>cases hc;cases hu;exact⟨_,rfl,h2⟩
 | 2,hc,hu=>cases hc;cases hu;exact⟨_,rfl,h3,h4⟩
 | i+3,hc,hu=>simp at hc
theorem qeg{n:Int}(h:qqf cx.tb W0 T w 250 (.agg (qz0 s0 s1 n))):qf1 s0 s1 n:=by
 have hfk:cx.tb.flat 250=I [.str mf,.str mf,qy O]:=rfl;rcases h with⟨cs,e,hs,hk⟩|⟨ct,h1,-⟩
 .cases e;rw[hfk] at hk;obtain⟨x0,e0,s,rfl,q0⟩:=hk 0 _ rfl;obtain⟨x1,e1,s,rfl,q1⟩:=hk 1 _ rfl;obtain⟨x2,e2,m,rfl,q2⟩:=hk 2 _ rfl;cases e0;cases e1;cases e2;exact⟨q0,q1,q2⟩
 .rw[hfk] at h1;cases h1
def qwb(W0:nu)(T:Nat->Prop)(w:nu):Prop:=∀(W:nu) (s0 s1:ByteArray) (n:Int) (r0 r1:ByteArray) (m:Int),Below w.heap.size w W->qf1 s0 s1 n->qf1 r0 r1 m ->
 Calls ab 172 #[.agg (qz0 s0 s1 n),.agg (qz0 r0 r1 m)] W λe w'=>∃q:Int,e=np (U O q)/\Hid (Below W.heap.size W w')
theorem qw5{w':nu}{T':Nat->Prop}(h:zg T w nr T' w'):Below w.heap.size w w':=⟨h.os,h.tape,h.output,h.size,λb hb=>h.keep b hb (.inl rfl)⟩
theorem cmp_ok(h:qm ab cx W0 172 c172)(hw:WTc W0 T w):qwb W0 T w:=by
 intro W s0 s1 n r0 r1 m hb h1 h2;have hW:=(zh hw hb).1;refine(h.2 T W #[.agg (qz0 s0 s1 n),.agg (qz0 r0 r1 m)] hW ⟨q2h h1,q2h h2,trivial⟩ (λl hl=>by cases hl)).mono ?_;rintro e w' ⟨v,vs,T',rfl,hr,hty,-,-,hh,-⟩;have hr:vs=[v]:=hr;subst hr;obtain⟨⟨q,rfl,-⟩,-⟩:=hty;exact⟨q,rfl,qw5 hh⟩
theorem qra(hn:n<=8192)(hE:qye W0 T w A n)(hC:qwb W0 T w)(B1 B2:Nat)(r0 r1:ByteArray)(hkey:qf1 r0 r1 0)(W:nu)(hb:Below w.heap.size w W)
  (k1:mg W B1 43 #[ng A n c]) (k2:mg W B2 250 (qz0 r0 r1 0)) (k:Nat) (hk:k<n) :
  Calls ab 171 #[U O k,nj (I ⟨B1,0,V⟩),nj (I ⟨B2,0,V⟩)] W λe w'=>∃q:Bool,e=np (ni q)/\Hid (Below W.heap.size W w'):=by
 obtain⟨b,off,rfl,s0,s1,n2,n3,n4,n5,s6,b7,n8,B,m,c9,-,hpk,hat⟩:=hE k hk;have HKY:=aa (qeg hpk);have HK1:=aa k1;have HK2:=aa k2;have HC:=aa hC;have HB:=aa hb;have HAT:=aa hat;have HRK:=aa hkey;have hkn:(k:Int)<(n:Int):=kg;clear hpk k1 k2 hC hb hat hE hkey;go_enter Tryz.func171,Tryz.ntmps171;go_wp2_with fail;refine RegM.region 8 (λkz v W=>match kz with|0=>v=ng (I ⟨b,off,V⟩) n c|1=>v=.int O k|2=>v=nj (I ⟨b,off+k*10,V⟩)|3=>v=.agg (qqc s0 s1 n2 n3 n4 n5 s6 b7 n8 (ng B m c9))|4=>v=.agg (qz0 s0 s1 n3)|5=>v=.agg (qz0 r0 r1 0)|6=>RegM.IsI v|7=>RegM.IsB v|_=>True) ki ki (qx.qqq (n:=13) ki rfl) (λ_ _ _ _ _ h=>h) ?_ ?_
 .intro idx o hj ho a' w' hG qh;have hj':idx=0\/idx=1\/idx=2\/idx=3\/idx=4\/idx=5\/idx=6\/idx=7:=kg;clear hj;rcases hj' with rfl|rfl|rfl|rfl|rfl|rfl|rfl|rfl
  .cases oi ho;have h1:=qx.gdt (qh 1 nd);have kc:=(HK1.out.call hG).cell;refine qx.qc.eq ?_ ⟨aj _ _,rfl⟩;go_simp
   all_goals(try exact⟨rfl,rfl⟩)
  .cases oi ho;have h0:=qx.gdt (qh 0 nd);refine qx.qc.eq ?_ ⟨aj _ _,rfl⟩;go_simp
   all_goals(try exact⟨rfl,rfl⟩)
  .cases oi ho;have h5:a'.tmps[5]?.getD mc=ng (I ⟨b,off,V⟩) n c:=qx.gdt (qh 5 nd);have h6:a'.tmps[6]?.getD mc=.int O k:=qx.gdt (qh 6 nd);refine qx.qc.eq ?_ ⟨aj _ _,rfl⟩;go_simp
   all_goals(try exact⟨rfl,rfl⟩)
  .cases oi ho;have h7:a'.tmps[7]?.getD mc=nj (I ⟨b,off+k*10,V⟩):=qx.gdt (qh 7 nd);obtain⟨h0,h1,h2,h3,h4,h5,h6,h7,h8,h9⟩:=HAT.out _ (qg HB.out hG);unfold qqc;refine qx.qc.eq ?_ ⟨aj _ _,rfl⟩;go_simp
   all_goals(try exact⟨rfl,rfl⟩)
  .cases oi ho;have h8:a'.tmps[8]?.getD mc=.agg (qqc s0 s1 n2 n3 n4 n5 s6 b7 n8 (ng B m c9)):=qx.gdt (qh 8 nd);refine qx.qc.mono (R:=λv W=>(v=.agg (qz0 s0 s1 n3))/\Hid (Below w'.heap.size w' W)) ?_ (λv W h=>⟨h.2.out,h.1⟩)
   .go_simp;refine(qch _ _ _ _ _ _ _ _ _ _ _ _ _).mono ?_;rintro e w5 ⟨rfl,hb⟩;exact⟨_,rfl,rfl,hb⟩
  .cases oi ho;have h2:=qx.gdt (qh 2 nd);have kc:=(HK2.out.call hG).cell;refine qx.qc.eq ?_ ⟨aj _ _,rfl⟩;go_simp
   all_goals(try exact⟨rfl,rfl⟩)
  .cases oi ho;have h9:a'.tmps[9]?.getD mc=.agg (qz0 s0 s1 n3):=qx.gdt (qh 9 nd);have h10:a'.tmps[10]?.getD mc=.agg (qz0 r0 r1 0):=qx.gdt (qh 10 nd);refine qx.qc.mono (R:=λv W=>(RegM.IsI v)/\Hid (Below w'.heap.size w' W)) ?_ (λv W h=>⟨h.2.out,h.1⟩)
   .go_simp;refine(HC.out _ _ _ _ _ _ _ (qg HB.out hG) HKY.out HRK.out).mono ?_;rintro e w5 ⟨q,rfl,hb⟩;exact⟨_,rfl,RegM.IsI.mk q,hb⟩
  .cases oi ho;obtain⟨n11,e11⟩:∃n:Int,a'.tmps.getD 11 mc=.int O n:=qh 11 nd;have h11:a'.tmps[11]?.getD mc=.int O n11:=gdq e11;clear e11;refine qx.qc.mono (R:=λv W=>(RegM.IsB v)/\W=w') ?_ (λv W h=>?_)
   .go_simp
    all_goals(first|exact⟨RegM.IsI.mk _,rfl⟩|exact⟨RegM.IsB.mk _,rfl⟩|exact⟨_,rfl⟩|skip)
   .obtain⟨h,rfl⟩:=h;exact⟨aj _ _,h⟩
 .intro vals w' hG hv;have hv0:vals 0=ng (I ⟨b,off,V⟩) n c:=hv 0 kg;have hv1:vals 1=.int O k:=hv 1 kg;have hv2:vals 2=nj (I ⟨b,off+k*10,V⟩):=hv 2 kg;have hv3:vals 3=.agg (qqc s0 s1 n2 n3 n4 n5 s6 b7 n8 (ng B m c9)):=hv 3 kg;have hv4:vals 4=.agg (qz0 s0 s1 n3):=hv 4 kg;have hv5:vals 5=.agg (qz0 r0 r1 0):=hv 5 kg;obtain⟨n6,hv6⟩:∃n:Int,vals 6=.int O n:=hv 6 kg;obtain⟨q7,hv7⟩:∃q:Bool,vals 7=ni q:=hv 7 kg;simp only[qx.puts,qx.zi,ay,dc,if_true,cq,df,hv0,hv1,hv2,hv3,hv4,hv5,hv6,hv7];clear hv hv0 hv1 hv2 hv3 hv4 hv5 hv6 hv7;simp[ez];go_wp2_with fail;go_ret;exact⟨_,rfl,hG⟩
theorem qsk(n:Nat)(hn:n<=8192)(B1 B2:Nat)(w:nu)(hf:∀(W:nu) (k:Nat),Below w.heap.size w W->k<n->Calls ab 171 #[U O k,nj (I ⟨B1,0,V⟩),nj (I ⟨B2,0,V⟩)] W λe w'=>∃q:Bool,e=np (ni q)/\Hid (Below W.heap.size W w')) :
  Calls ab 170 #[U O n,.func (.func 171) #[] #[nj (I ⟨B1,0,V⟩),nj (I ⟨B2,0,V⟩)]] w λe w'=>∃r:Nat,r<=n/\e=np (U O r)/\Hid (Below w.heap.size w w'):=by
 have HF:=aa hf;clear hf;go_enter Tryz.func170,Tryz.ntmps170;go_wp2_with fail;go_loopg [5,6] n (λgg s5 s6 wr=>∃p q:Nat,p<=q/\q<=n/\q-p<=gg/\s5=U O p/\s6=U O q/\Hid (Below w.heap.size w wr))
 case atStart=>exact⟨0,n,kg,kg,kg,rfl,rfl,aa (aj _ _)⟩
 case round=>
  obtain⟨p,q,h1,h2,hg,rfl,rfl,HB⟩:=hrel;by_cases hlt:p<q
  .have hltz:(p:Int)<(q:Int):=kg;have e1:IntKind.i64.wrap ((p:Int)+q)=((p+q:Nat):Int):=by simp[di,dj,cz];omega
   have e2:IntKind.u64.wrap ((p+q:Nat):Int)=((p+q:Nat):Int):=by simp[di,dj,cz];omega
   go_wp2_with fail;have e3:((p:Int)+q)/2=(((p+q)/2:Nat):Int):=kg;rw[e3];have g1:p<=(p+q)/2:=kg;have g2:(p+q)/2<q:=kg;clear e1 e2 e3;generalize (p+q)/2=mid at *;refine(HF.out wr mid HB.out kg).mono ?_;rintro e w5 ⟨b,rfl,hb⟩;have HB5:=aa (qg HB.out hb.out);have e4:IntKind.i64.wrap ((mid:Int)+1)=((mid+1:Nat):Int):=by simp[di,dj,cz];omega
   cases b with
   | true=>
     go_wp2_with fail;go_roundg (mid-p)
     case measure=>omega
     case rel=>exact⟨p,mid,kg,kg,kg,rfl,rfl,HB5⟩
   | false=>
     go_wp2_with fail;go_roundg (q-(mid+1))
     case measure=>omega
     case rel=>exact⟨mid+1,q,kg,kg,kg,kq,rfl,HB5⟩
  .have hltz:¬(p:Int)<(q:Int):=kg;go_wp2_with fail;go_ret;exact⟨p,kg,rfl,HB⟩
theorem qsv(hn:n<=8192)(hE:qye W0 T w A n)(hC:qwb W0 T w)(r0 r1:ByteArray)(z0:r0.size<=mf)(z1:r1.size<=mf) :
  Calls ab 151 #[ng A n c,nh r0,nh r1] w λe w'=>∃p q:Nat,p<=q/\q<=n/\e=np (nq #[U O p,U O q])/\Hid (Below w.heap.size w w'):=by
 have HK1:=aa (((mg.new w 43 #[ng A n c]).alloc (.cells (qz0 r0 r1 0) 250)));have HK2:=aa (mg.new (w.alloc (.cells #[ng A n c] 43)) 250 (qz0 r0 r1 0));have hs1:(w.alloc (.cells #[ng A n c] 43)).heap.size=w.heap.size+1:=kq;rw[hs1] at HK2;have HB:=aa (qp (zy w (.cells #[ng A n c] 43)) (.cells (qz0 r0 r1 0) 250));have HRK:Hid (qf1 r0 r1 0):=⟨z0,z1,kj,kj⟩;have HE:=aa hE;have HC:=aa hC;clear hE hC z0 z1;go_enter adf,Tryz.ntmps151;go_wp2_with fail;generalize (w.alloc (.cells #[ng A n c] 43)).alloc (.cells (qz0 r0 r1 0) 250)=w1 at *;clear hs1;have HS:=aa (qsk n hn w.heap.size (w.heap.size+1) w1 (λW k hb hk=>qra hn HE.out HC.out w.heap.size (w.heap.size+1) r0 r1 HRK.out W (qg HB.out hb) (HK1.out.call hb) (HK2.out.call hb) k hk));refine HS.out.mono ?_;rintro e w2 ⟨p,hp,rfl,hb⟩;have HB2:=aa (qg HB.out hb.out);have HK12:=aa (HK1.out.call hb.out);have HK22:=aa (HK2.out.call hb.out);clear HS HK1 HK2 HB hb;generalize hg1:w.heap.size=g1 at *;have HG1:=aa hg1;clear hg1;go_wp2_with fail;go_loopg [10] n (λgg s10 wr=>∃q:Nat,p<=q/\q<=n/\n-q<=gg/\s10=U O q/\Hid (Below w2.heap.size w2 wr))
 case atStart=>exact⟨p,kg,kg,kg,rfl,aa (aj _ _)⟩
 case round=>
  obtain⟨q,h1,h2,hg,rfl,HBR⟩:=hrel;have HB:=aa (qg (show Below w.heap.size w w2 by rw[HG1.out];exact HB2.out) HBR.out);have HKA:=aa (HK12.out.call HBR.out);have HKB:=aa (HK22.out.call HBR.out);by_cases hlt:q<n
  .have hltz:(q:Int)<(n:Int):=kg;obtain⟨b,off,rfl,s0,s1,n2,n3,n4,n5,s6,b7,n8,B,m,c9,-,hpk,hat⟩:=HE.out q hlt;have HKY:=aa (qeg hpk);have HAT:=aa hat;clear hpk hat;have e4:IntKind.i64.wrap ((q:Int)+1)=((q+1:Nat):Int):=by simp[di,dj,cz];omega
   go_wp2_with fail;refine RegM.qi0 14 (λkz v W=>match kz with|0=>v=.int O q|1=>v=ng (I ⟨b,off,V⟩) n c|2=>v=.int O n|3=>v=ni nr|4=>v=ni nr|5=>v=ng (I ⟨b,off,V⟩) n c|6=>v=.int O q|7=>v=nj (I ⟨b,off+q*10,V⟩)|8=>v=.agg (qqc s0 s1 n2 n3 n4 n5 s6 b7 n8 (ng B m c9))|9=>v=.agg (qz0 s0 s1 n3)|10=>v=.agg (qz0 r0 r1 0)|11=>RegM.IsI v|12=>RegM.IsB v|13=>RegM.IsB v|_=>True) ki ki (qx.qqq (n:=37) ki rfl) (λ_ _ _ _ _ h=>h) ?_ ?_ ?_
   .intro idx o hj ho a' w' hG hgd qh;have hj':idx=0\/idx=1\/idx=2\/idx=3\/idx=4\/idx=5\/idx=6\/idx=7\/idx=8\/idx=9\/idx=10\/idx=11\/idx=12\/idx=13:=kg;clear hj;rcases hj' with rfl|rfl|rfl|rfl|rfl|rfl|rfl|rfl|rfl|rfl|rfl|rfl|rfl|rfl
    .cases oi ho;clear hgd;have h10:=qx.gdt (qh 10 nd);refine qx.qc.eq ?_ ⟨aj _ _,rfl⟩;go_simp
     all_goals(try exact⟨rfl,rfl⟩)
    .cases oi ho;clear hgd;have h3:=qx.gdt (qh 3 nd);have kc:=(HKA.out.call hG).cell;refine qx.qc.eq ?_ ⟨aj _ _,rfl⟩;go_simp
     all_goals(try exact⟨rfl,rfl⟩)
    .cases oi ho;clear hgd;have qko:a'.tmps[20]?.getD mc=ng (I ⟨b,off,V⟩) n c:=qx.gdt (qh 20 nd);refine qx.qc.eq ?_ ⟨aj _ _,rfl⟩;go_simp
     all_goals(try exact⟨rfl,rfl⟩)
    .cases oi ho;clear hgd;have qbg:a'.tmps[19]?.getD mc=.int O q:=qx.gdt (qh 19 nd);have qcd:a'.tmps[21]?.getD mc=.int O n:=qx.gdt (qh 21 nd);refine qx.qc.eq ?_ ⟨aj _ _,rfl⟩;go_simp
     all_goals(try exact⟨rfl,rfl⟩)
    .cases oi ho;clear hgd;have qmm:a'.tmps[22]?.getD mc=ni nr:=qx.gdt (qh 22 nd);refine qx.qc.eq ?_ ⟨aj _ _,rfl⟩;go_simp
     all_goals(try exact⟨rfl,rfl⟩)
    .cases oi ho;clear hgd;have h3:=qx.gdt (qh 3 nd);have kc:=(HKA.out.call hG).cell;refine qx.qc.eq ?_ ⟨aj _ _,rfl⟩;go_simp
     all_goals(try exact⟨rfl,rfl⟩)
    .cases oi ho;clear hgd;have h10:=qx.gdt (qh 10 nd);refine qx.qc.eq ?_ ⟨aj _ _,rfl⟩;go_simp
     all_goals(try exact⟨rfl,rfl⟩)
    .cases oi ho;clear hgd;have qts:a'.tmps[24]?.getD mc=ng (I ⟨b,off,V⟩) n c:=qx.gdt (qh 24 nd);have q3r:a'.tmps[25]?.getD mc=.int O q:=qx.gdt (qh 25 nd);refine qx.qc.eq ?_ ⟨aj _ _,rfl⟩;go_simp
     all_goals(try exact⟨rfl,rfl⟩)
    .cases oi ho;clear hgd;have qmh:a'.tmps[26]?.getD mc=nj (I ⟨b,off+q*10,V⟩):=qx.gdt (qh 26 nd);obtain⟨h0,h1,h2,h3,h4,h5,h6,h7,h8,h9⟩:=HAT.out _ (qg HB.out hG);unfold qqc;refine qx.qc.eq ?_ ⟨aj _ _,rfl⟩;go_simp
     all_goals(try exact⟨rfl,rfl⟩)
    .cases oi ho;clear hgd;have qmi:a'.tmps[27]?.getD mc=.agg (qqc s0 s1 n2 n3 n4 n5 s6 b7 n8 (ng B m c9)):=qx.gdt (qh 27 nd);refine qx.qc.mono (R:=λv W=>(v=.agg (qz0 s0 s1 n3))/\Hid (Below w'.heap.size w' W)) ?_ (λv W h=>⟨h.2.out,h.1⟩)
     .go_simp;refine(qch _ _ _ _ _ _ _ _ _ _ _ _ _).mono ?_;rintro e w5 ⟨rfl,hb⟩;exact⟨_,rfl,rfl,hb⟩
    .cases oi ho;clear hgd;have h8:=qx.gdt (qh 8 nd);have kc:=(HKB.out.call hG).cell;refine qx.qc.eq ?_ ⟨aj _ _,rfl⟩;go_simp
     all_goals(try exact⟨rfl,rfl⟩)
    .cases oi ho;clear hgd;have q4j:a'.tmps[28]?.getD mc=.agg (qz0 s0 s1 n3):=qx.gdt (qh 28 nd);have qbe:a'.tmps[29]?.getD mc=.agg (qz0 r0 r1 0):=qx.gdt (qh 29 nd);refine qx.qc.mono (R:=λv W=>(RegM.IsI v)/\Hid (Below w'.heap.size w' W)) ?_ (λv W h=>⟨h.2.out,h.1⟩)
     .go_simp;refine(HC.out _ _ _ _ _ _ _ (qg HB.out hG) HKY.out HRK.out).mono ?_;rintro e w5 ⟨q,rfl,hb⟩;exact⟨_,rfl,RegM.IsI.mk q,hb⟩
    .cases oi ho;clear hgd;obtain⟨n30,e30⟩:∃n:Int,a'.tmps.getD 30 mc=.int O n:=qh 30 nd;have qmn:a'.tmps[30]?.getD mc=.int O n30:=gdq e30;clear e30;refine qx.qc.mono (R:=λv W=>(RegM.IsB v)/\W=w') ?_ (λv W h=>?_)
     .go_simp
      all_goals(first|exact⟨RegM.IsI.mk _,rfl⟩|exact⟨RegM.IsB.mk _,rfl⟩|exact⟨_,rfl⟩|skip)
     .obtain⟨h,rfl⟩:=h;exact⟨aj _ _,h⟩
    .cases oi ho;clear hgd;have qrg:a'.tmps[23]?.getD mc=ni nr:=qx.gdt (qh 23 nd);obtain⟨q31,e31⟩:∃q:Bool,a'.tmps.getD 31 mc=ni q:=qh 31 nd;have qif:a'.tmps[31]?.getD mc=ni q31:=gdq e31;clear e31;refine qx.qc.mono (R:=λv W=>(RegM.IsB v)/\W=w') ?_ (λv W h=>?_)
     .go_simp
      all_goals(first|exact⟨RegM.IsI.mk _,rfl⟩|exact⟨RegM.IsB.mk _,rfl⟩|exact⟨_,rfl⟩|skip)
     .obtain⟨h,rfl⟩:=h;exact⟨aj _ _,h⟩
   .intro idx o hj ho j b hg v W hv hne;have hj':idx=0\/idx=1\/idx=2\/idx=3\/idx=4\/idx=5\/idx=6\/idx=7\/idx=8\/idx=9\/idx=10\/idx=11\/idx=12\/idx=13:=kg;clear hj;rcases hj' with rfl|rfl|rfl|rfl|rfl|rfl|rfl|rfl|rfl|rfl|rfl|rfl|rfl|rfl
    .cases oi ho;cases hg
    .cases oi ho;cases hg
    .cases oi ho;cases hg
    .cases oi ho;cases hg
    .cases oi ho;cases hg
    .cases oi ho;obtain⟨rfl,rfl⟩:=fp (oi hg);have hv:v=ni nr:=hv;subst hv;exact absurd rfl hne
    .cases oi ho;obtain⟨rfl,rfl⟩:=fp (oi hg);have hv:v=ni nr:=hv;subst hv;exact absurd rfl hne
    .cases oi ho;obtain⟨rfl,rfl⟩:=fp (oi hg);have hv:v=ni nr:=hv;subst hv;exact absurd rfl hne
    .cases oi ho;obtain⟨rfl,rfl⟩:=fp (oi hg);have hv:v=ni nr:=hv;subst hv;exact absurd rfl hne
    .cases oi ho;obtain⟨rfl,rfl⟩:=fp (oi hg);have hv:v=ni nr:=hv;subst hv;exact absurd rfl hne
    .cases oi ho;obtain⟨rfl,rfl⟩:=fp (oi hg);have hv:v=ni nr:=hv;subst hv;exact absurd rfl hne
    .cases oi ho;obtain⟨rfl,rfl⟩:=fp (oi hg);have hv:v=ni nr:=hv;subst hv;exact absurd rfl hne
    .cases oi ho;obtain⟨rfl,rfl⟩:=fp (oi hg);have hv:v=ni nr:=hv;subst hv;exact absurd rfl hne
    .cases oi ho;cases hg
   .intro vals w' hG hv;have hv0:vals 0=.int O q:=hv 0 kg;have hv1:vals 1=ng (I ⟨b,off,V⟩) n c:=hv 1 kg;have hv2:vals 2=.int O n:=hv 2 kg;have hv3:vals 3=ni nr:=hv 3 kg;have hv4:vals 4=ni nr:=hv 4 kg;have hv5:vals 5=ng (I ⟨b,off,V⟩) n c:=hv 5 kg;have hv6:vals 6=.int O q:=hv 6 kg;have hv7:vals 7=nj (I ⟨b,off+q*10,V⟩):=hv 7 kg;have hv8:vals 8=.agg (qqc s0 s1 n2 n3 n4 n5 s6 b7 n8 (ng B m c9)):=hv 8 kg;have hv9:vals 9=.agg (qz0 s0 s1 n3):=hv 9 kg;have qxs:vals 10=.agg (qz0 r0 r1 0):=hv 10 kg;obtain⟨n11,qki⟩:∃n:Int,vals 11=.int O n:=hv 11 kg;obtain⟨q12,qkv⟩:∃q:Bool,vals 12=ni q:=hv 12 kg;obtain⟨q13,qkg⟩:∃q:Bool,vals 13=ni q:=hv 13 kg;simp only[qx.puts,qx.zi,ay,dc,if_true,cq,df,hv0,hv1,hv2,hv3,hv4,hv5,hv6,hv7,hv8,hv9,qxs,qki,qkv,qkg];clear hv hv0 hv1 hv2 hv3 hv4 hv5 hv6 hv7 hv8 hv9 qxs qki qkv qkg;simp[ez];have HB3:=aa (qg HBR.out hG);cases q13 with
    | true=>
      go_wp2_with fail;go_roundg (n-(q+1))
      case measure=>omega
      case rel=>exact⟨q+1,kg,kg,kg,kq,HB3⟩
    | false=>
      go_wp2_with fail
      go_ret2
      exact⟨p,q,kg,kg,rfl,by show Below _ _ _;exact qg (show Below w.heap.size w w2 by rw[HG1.out];exact HB2.out) HB3.out⟩
  .have hltz:¬(q:Int)<(n:Int):=kg;obtain rfl:q=n:=kg;go_wp2_with fail;refine RegM.qi0 14 (λkz v W=>match kz with|0=>v=.int O q|1=>v=ng A q c|2=>v=.int O q|3=>v=ni ns|4=>v=ni ns|5=>v=mc|6=>v=mc|7=>v=mc|8=>v=mc|9=>v=mc|10=>v=mc|11=>v=mc|12=>v=mc|13=>v=ni ns|_=>True) ki ki (qx.qqq (n:=37) ki rfl) (λ_ _ _ _ _ h=>h) ?_ ?_ ?_
   .intro idx o hj ho a' w' hG hgd qh;have hj':idx=0\/idx=1\/idx=2\/idx=3\/idx=4\/idx=5\/idx=6\/idx=7\/idx=8\/idx=9\/idx=10\/idx=11\/idx=12\/idx=13:=kg;clear hj;rcases hj' with rfl|rfl|rfl|rfl|rfl|rfl|rfl|rfl|rfl|rfl|rfl|rfl|rfl|rfl
    .cases oi ho;clear hgd;have h10:=qx.gdt (qh 10 nd);refine qx.qc.eq ?_ ⟨aj _ _,rfl⟩;go_simp
     all_goals(try exact⟨rfl,rfl⟩)
    .cases oi ho;clear hgd;have h3:=qx.gdt (qh 3 nd);have kc:=(HKA.out.call hG).cell;refine qx.qc.eq ?_ ⟨aj _ _,rfl⟩;go_simp
     all_goals(try exact⟨rfl,rfl⟩)
    .cases oi ho;clear hgd;have qko:a'.tmps[20]?.getD mc=ng A q c:=qx.gdt (qh 20 nd);refine qx.qc.eq ?_ ⟨aj _ _,rfl⟩;go_simp
     all_goals(try exact⟨rfl,rfl⟩)
    .cases oi ho;clear hgd;have qbg:a'.tmps[19]?.getD mc=.int O q:=qx.gdt (qh 19 nd);have qcd:a'.tmps[21]?.getD mc=.int O q:=qx.gdt (qh 21 nd);refine qx.qc.eq ?_ ⟨aj _ _,rfl⟩;go_simp
     all_goals(try exact⟨rfl,rfl⟩)
    .cases oi ho;clear hgd;have qmm:a'.tmps[22]?.getD mc=ni ns:=qx.gdt (qh 22 nd);refine qx.qc.eq ?_ ⟨aj _ _,rfl⟩;go_simp
     all_goals(try exact⟨rfl,rfl⟩)
    .cases oi ho;obtain⟨v,h1,h2⟩:=hgd 4 nr rfl;have h2:v=ni ns:=h2;subst h2;cases h1
    .cases oi ho;obtain⟨v,h1,h2⟩:=hgd 4 nr rfl;have h2:v=ni ns:=h2;subst h2;cases h1
    .cases oi ho;obtain⟨v,h1,h2⟩:=hgd 4 nr rfl;have h2:v=ni ns:=h2;subst h2;cases h1
    .cases oi ho;obtain⟨v,h1,h2⟩:=hgd 4 nr rfl;have h2:v=ni ns:=h2;subst h2;cases h1
    .cases oi ho;obtain⟨v,h1,h2⟩:=hgd 4 nr rfl;have h2:v=ni ns:=h2;subst h2;cases h1
    .cases oi ho;obtain⟨v,h1,h2⟩:=hgd 4 nr rfl;have h2:v=ni ns:=h2;subst h2;cases h1
    .cases oi ho;obtain⟨v,h1,h2⟩:=hgd 4 nr rfl;have h2:v=ni ns:=h2;subst h2;cases h1
    .cases oi ho;obtain⟨v,h1,h2⟩:=hgd 4 nr rfl;have h2:v=ni ns:=h2;subst h2;cases h1
    .cases oi ho;clear hgd;have qrg:a'.tmps[23]?.getD mc=ni ns:=qx.gdt (qh 23 nd);have qif:a'.tmps[31]?.getD mc=mc:=qx.gdt (qh 31 nd);refine qx.qc.eq ?_ ⟨aj _ _,rfl⟩;go_simp
     all_goals(try exact⟨rfl,rfl⟩)
   .intro idx o hj ho j b hg v W hv hne;have hj':idx=0\/idx=1\/idx=2\/idx=3\/idx=4\/idx=5\/idx=6\/idx=7\/idx=8\/idx=9\/idx=10\/idx=11\/idx=12\/idx=13:=kg;clear hj;rcases hj' with rfl|rfl|rfl|rfl|rfl|rfl|rfl|rfl|rfl|rfl|rfl|rfl|rfl|rfl
    .cases oi ho;cases hg
    .cases oi ho;cases hg
    .cases oi ho;cases hg
    .cases oi ho;cases hg
    .cases oi ho;cases hg
    .cases oi ho;exact rfl
    .cases oi ho;exact rfl
    .cases oi ho;exact rfl
    .cases oi ho;exact rfl
    .cases oi ho;exact rfl
    .cases oi ho;exact rfl
    .cases oi ho;exact rfl
    .cases oi ho;exact rfl
    .cases oi ho;cases hg
   .intro vals w' hG hv;have hv0:vals 0=.int O q:=hv 0 kg;have hv1:vals 1=ng A q c:=hv 1 kg;have hv2:vals 2=.int O q:=hv 2 kg;have hv3:vals 3=ni ns:=hv 3 kg;have hv4:vals 4=ni ns:=hv 4 kg;have hv5:vals 5=mc:=hv 5 kg;have hv6:vals 6=mc:=hv 6 kg;have hv7:vals 7=mc:=hv 7 kg;have hv8:vals 8=mc:=hv 8 kg;have hv9:vals 9=mc:=hv 9 kg;have qxs:vals 10=mc:=hv 10 kg;have qki:vals 11=mc:=hv 11 kg;have qkv:vals 12=mc:=hv 12 kg;have qkg:vals 13=ni ns:=hv 13 kg;simp only[qx.puts,qx.zi,ay,dc,if_true,cq,df,hv0,hv1,hv2,hv3,hv4,hv5,hv6,hv7,hv8,hv9,qxs,qki,qkv,qkg];clear hv hv0 hv1 hv2 hv3 hv4 hv5 hv6 hv7 hv8 hv9 qxs qki qkv qkg;simp[ez];have HB3:=aa (qg HBR.out hG);go_wp2_with fail
    go_ret2
    exact⟨p,q,kg,kg,rfl,by show Below _ _ _;exact qg (show Below w.heap.size w w2 by rw[HG1.out];exact HB2.out) HB3.out⟩
def qnj:zu:=⟨[.one (.sl 0 95 8192),.one (.str mf),.one (.str mf)],[],[.one (qy O),.one (qy O)],[o7 3,o0 3 4,l9 0 4],nr,V⟩
theorem qpr(h172:qm ab cx W0 172 c172):qm ab cx W0 151 qnj:=by
 refine⟨⟨_,adf,ki,ki⟩,λT w args hw hty _=>?_⟩;have hlen:=uk hty
 obtain⟨v,u1,u2,e⟩:∃v u1 u2,args=#[v,u1,u2]:=by
  obtain⟨l⟩:=args;rcases l with _|⟨a,_|⟨b,_|⟨c,_|⟨d,l⟩⟩⟩⟩<;>first|(simp[qnj] at hlen;done)|exact⟨_,_,_,rfl⟩
 subst e;obtain⟨hv,⟨r0,rfl,s1⟩,⟨r1,rfl,s2⟩,-⟩:=hty;have hv:CVc W0 T w w.heap.size (.sl 0 95 8192) v:=hv
 obtain⟨A,n,c,rfl,hn⟩:∃A n c,v=ng A n c/\n<=8192:=by
  rcases hv with h|⟨-,h⟩|⟨b,off,n,c,h,h1,h2,-⟩
  .exact⟨_,_,_,h,cr _⟩
  .cases h with
   | nil=>exact⟨_,_,_,rfl,cr _⟩
   | emp a=>exact⟨_,_,_,rfl,cr _⟩
   | sl f hb hn hl=>exact⟨_,_,_,rfl,hl⟩
  .exact⟨_,n,_,h,h2⟩
 refine(qsv hn (qo9 hw hv) (cmp_ok h172 hw) r0 r1 s1 s2).mono ?_;rintro e w' ⟨p,q,h1,h2,rfl,hb⟩;obtain⟨w1,w2⟩:=zh hw hb.out;refine⟨_,[U O p,U O q],T,rfl,rfl,⟨⟨p,rfl,by show(-9223372036854775808:Int)<=p;omega,by show(p:Int)<=9223372036854775807;omega⟩,⟨q,rfl,by show(-9223372036854775808:Int)<=q;omega,by show(q:Int)<=9223372036854775807;omega⟩,trivial⟩,(λl hl=>?_),(λe he=>by cases he),zk hw hb.out,w1⟩;simp only[qnj,List.mem_cons,List.not_mem_nil,or_false] at hl;rcases hl with rfl|rfl|rfl
 .show(0:Int)<=0+(1*(p:Int)+0);omega
 .show(0:Int)<=0+(-1*(p:Int)+(1*(q:Int)+0));omega
 .show(0:Int)<=0+(1*(n:Int)+(-1*(q:Int)+0));omega
end
open Go.RowKit Go.Great
section
variable {W0:nu}{T T':Nat->Prop}{w w':nu}{base:Nat}
abbrev qqj (s0 s1 s2:ByteArray) (n3 n4 n5:Int):Array ny:=#[nh s0,nh s1,nh s2,U O n3,U O n4,U O n5]
def qrw(W0:nu)(T:Nat->Prop)(w:nu)(E:Ending)(w':nu):Prop:=∃(T':Nat->Prop) (B:Option Addr) (m c:Nat) (k:Int),E=np (nq #[ng B m c,U O k])/\WTc W0 T' w'/\zg T w nr T' w'/\CVc W0 T' w' 0 (.cs 1 34 128) (ng B m c)/\0<=k/\k<=25
def LpSt(W0:nu)(T:Nat->Prop)(w:nu)(g:Nat)(ts:Array ny)(W:nu):Prop:=∃T':Nat->Prop,WTc W0 T' W/\zg T w nr T' W/\yh T' W g 34 ts
theorem q6y{q e:Nat}(h:CVc W0 T w base (.cs q e lb) (ng A n c))(hp:p<=n):CVc W0 T w base (.sl 0 e lb) (ng A p c):=by
 rcases h with h|⟨b,off,n',c',cs,fr,e1,h1,h2,h3,h4,h5,h6,h7,h8,h9,h10⟩
 .cases h;obtain rfl:p=0:=kg;exact .inl rfl
 .cases e1;exact .inr (.inr ⟨b,off,p,c,rfl,kg,kg,h3,h4,λh=>kg,h5,h6,cs,fr,h8,h9⟩)
theorem qs5(h:CVc W0 T w base (.cs 1 34 lb) (ng (I ⟨b,off,V⟩) n c))(hp:p<=n):CVc W0 T w base (.sl 0 34 lb) (ng (I ⟨b,off+p*6,V⟩) (n-p) (c-p)):=by
 have hsz:cx.tb.sz 34=6:=ki;rcases h with h|⟨b',off',n',c',cs,fr,e1,h1,h2,h3,h4,h5,h6,h7,h8,h9,h10⟩
 .cases h
 .cases e1;rw[hsz] at h6 h9;exact .inr (.inr ⟨b,off+p*6,n-p,c-p,rfl,kg,kg,kg,h4,λh=>kg,h5,by rw[hsz];omega,cs,fr,h8,by rw[hsz];omega⟩)
theorem q72{base':Nat}(h:CVc W0 T w base (.cs 1 34 lb) (ng (I ⟨b,off,V⟩) n c)):CVc W0 T w base' (.sl 0 34 lb) (ng (I ⟨b,off,V⟩) 0 0):=by
 rcases h with h|⟨b',off',n',c',cs,fr,e1,h1,h2,h3,h4,h5,h6,h7,h8,h9,h10⟩
 .cases h
 .cases e1;exact .inr (.inr ⟨b,off,0,0,rfl,af _,cr _,cr _,h4,λh=>kg,h5,h6,cs,fr,h8,kg⟩)
def qz2(W0:nu)(T:Nat->Prop)(w:nu)(g8:Nat)(L0:ny)(n p:Nat)(cur2:Array ny)(D E:ny)(rows:Array ny->Prop)(k:Nat)(v:ny)(T':Nat->Prop)(W:nu):Prop:=match k with
 | 0=>v=.slice (I ⟨g8,0,V⟩) (n+1) (n+1)
 | 1=>v=.int O (p:Int)
 | 2=>v=.int O ((p:Int)+1)
 | 3=>v=D
 | 4=>v=L0
 | 5=>v=.int O (p:Int)
 | 6=>v=E
 | _=>True
def StPt(W0:nu)(T:Nat->Prop)(w:nu)(g8:Nat)(L0:ny)(n p:Nat)(cur2:Array ny)(D E:ny)(rows:Array ny->Prop)(L:Nat->Bool)(vals:Nat->ny)(W:nu):Prop:=∃(T':Nat->Prop),(∃cur:Array ny,qzv cx W0 T w g8 34 T' W cur/\cur.size=(n+1)*6/\(L 7=ns->cur=cur2)/\(L 7=nr->rows cur))/\∀k,k<8->L k=nr->qz2 W0 T w g8 L0 n p cur2 D E rows k (vals k) T' W
theorem qbx{L0 D E:ny}{cur2:Array ny}{rows:Array ny->Prop}(h:qz2 W0 T w g8 L0 n p cur2 D E rows k v T1 w1):qz2 W0 T w g8 L0 n p cur2 D E rows k v T2 w2:=h
theorem put_walk(qkr:qm ab cx W0 76 qto)(qji:qm ab cx W0 77 c77)(hw:WTc W0 T w)(hv:CVc W0 T w base (.cs 1 34 128) (ng A n c))(s0 s1 s2:ByteArray)(n3 n4 n5:Int)(ht:TyValc W0 T w 0 (.agg FT) (.agg (qqj s0 s1 s2 n3 n4 n5)))(z0:s0.size<=mf)(z1:s1.size<=mf)(z2:s2.size<=mf) :
  Calls ab 37 #[ng A n c,.agg (qqj s0 s1 s2 n3 n4 n5)] w (qrw W0 T w):=by
 have hn:n<=128:=qjd hv.qxy;have HB:=aa (zy w (.cells (qqj s0 s1 s2 n3 n4 n5) 34));have HK:=aa (mg.new w 34 (qqj s0 s1 s2 n3 n4 n5));have HW:=aa hw;have HV:=aa hv;have HT:=aa ht;have HN:=aa hn;have HS:Hid ((ab.info? 34).map (·.size)=I (qqj s0 s1 s2 n3 n4 n5).size):=aa ki;clear hw hv ht hn;go_enter aee,Tryz.ntmps37;go_upto_region 1 with(fail);generalize w.alloc (.cells (qqj s0 s1 s2 n3 n4 n5) 34)=w1 at *;generalize hg:w.heap.size=g at HK ⊢;go_wp2_with (refine bp rfl 34 (.tmp 3) rfl g rfl 34 (qqj s0 s1 s2 n3 n4 n5) (0,0) _ HK.out gj rfl HS.out ?_);refine(Mv.tokJ_ s0 s1 s2 n3 n4 n5 z0 z1 z2 w1).mono ?_;rintro e w2 ⟨⟨k,rfl,hk,hk0,hk25⟩,hb2⟩;have HB2:=aa (qg HB.out hb2.out);have HK2:=aa (HK.out.call hb2.out);clear hb2 HB HK;by_cases hkz:k=0
 .subst hkz;have HQ:=aa (hk.1 rfl);clear hk hk0 hk25;have k0:=qzn HK2.out (k:=0) (v:=nh s0) rfl;go_wp2_with fail;have hh2:=zk (PU:=nr) HW.out HB2.out;refine(qkr.2 T w2 #[ng A n c,nh s0] (zh HW.out HB2.out).1 ⟨qzt ((HV.out.mono hh2.ext (af _)).qxy) kj _,⟨s0,rfl,z0⟩,trivial⟩ (λl hl=>by cases hl)).mono ?_;rintro e w3 ⟨v,vs,T3,rfl,hr,hty,hpost,-,hh3,hw3⟩;have hr:vs=[v]:=hr;subst hr;obtain⟨⟨ix,rfl,ix1,ix2⟩,-⟩:=hty;have hp1:=hpost _ (ff ..);have hp2:=hpost _ (js _ (ff ..))
  have hix:-1<=ix/\ix<n:=by
   have q1:(0:Int)<=1+(1*ix+0):=hp1;have q2:(0:Int)<=-1+(1*(n:Int)+(-1*ix+0)):=hp2;omega
  have HH3:=aa (hh2.trans hh3);have HW3:=aa hw3;have HK3:=aa ((⟨λh=>by have:=HW.out.lt h;omega,HK2.out⟩:yh T w2 g 34 (qqj s0 s1 s2 n3 n4 n5)).call hh3);have HIX:=aa hix;clear hpost hp1 hp2 hh2 hh3 hw3 HB2 HK2 k0 ix1 ix2;by_cases hneg:ix<0
  .have hngb:¬(0:Int)<=ix:=kg;by_cases h128:128<=n
   .have hx128:(128:Int)<=(n:Int):=kg;go_wp2_with fail;refine du (pk rfl _ _ _) rfl ?_;exact⟨T3,A,n,c,3,rfl,HW3.out,HH3.out,qzt (HV.out.mono HH3.out.ext (af _)) kj 0,kj,kj⟩
   .have hx128:¬(128:Int)<=(n:Int):=kg;have qlu:Hid (n<128):=aa kg;have k3:=qzn HK3.out.bk (k:=0) (v:=nh s0) rfl;go_wp2_with fail;refine(qji.2 T3 w3 #[nh s0] HW3.out ⟨⟨s0,rfl,z0⟩,trivial⟩ (λl hl=>by cases hl)).mono ?_;rintro e w4 ⟨v,vs,T4,rfl,hr,hty,-,-,hh4,hw4⟩;have hr:vs=[v]:=hr;subst hr;obtain⟨⟨ky,rfl,-⟩,-⟩:=hty;have HH4:=aa (HH3.out.trans hh4);have HW4:=aa hw4;have HK4:=aa (HK3.out.call hh4);clear hh4 hw4 k3 hx128 h128;go_upto_block 0 with fail;go_cut [9] (λs9 wd=>∃p:Nat,p<=n/\s9=U O p/\Hid (LpSt W0 T w g (qqj s0 s1 s2 n3 n4 n5) wd))
    case first=>
     go_wp2_with fail;go_loopg [9] n (λgg s9 wr=>∃p:Nat,p+gg=n/\s9=U O p/\Hid (LpSt W0 T w g (qqj s0 s1 s2 n3 n4 n5) wr))
     case atStart=>exact⟨0,kg,rfl,aa ⟨T4,HW4.out,HH4.out,HK4.out⟩⟩
     case round=>
      obtain⟨p,hp,rfl,HF⟩:=hrel;obtain⟨T5,hw5,hh5,hk5⟩:=HF.out;have HW5:=aa hw5;have HH5:=aa hh5;have HK5:=aa hk5;clear hw5 hh5 hk5;by_cases hpn:p<n
      .obtain⟨xs,hx,-⟩:=qvz HW.out HV.out hpn;have hx5:=hx.hist HH5.out;obtain⟨bb,off,rfl,-,-,hxs,hxc,hxt⟩:=id hx5;obtain⟨u,hu,⟨id0,rfl,hz⟩⟩:=jd hxt (k:=0) (ct:=.fz .str) ki
       have kid:wr.cell? ⟨bb,off+p*6,V⟩=I (nh id0):=by
        have:=hxc 0 kj;rw[hu] at this;exact this
       have hltz:(p:Int)<(n:Int):=kg;have hp0:(0:Int)<=(p:Int):=kg;have HPN:=aa hpn;clear hx hx5 hxs hxc hxt hu hpn;go_wp2_with fail;refine(qji.2 T5 wr #[nh id0] HW5.out ⟨⟨id0,rfl,hz⟩,trivial⟩ (λl hl=>by cases hl)).mono ?_;rintro e w6 ⟨v,vs,T6,rfl,hr,hty,-,-,hh6,hw6⟩;have hr:vs=[v]:=hr;subst hr;obtain⟨⟨kz,rfl,-⟩,-⟩:=hty;have HL:Hid (LpSt W0 T w g (qqj s0 s1 s2 n3 n4 n5) w6):=aa ⟨T6,hw6,HH5.out.trans hh6,HK5.out.call hh6⟩;clear hh6 hw6 kid hz;go_wp2_with fail
       .go_roundg (n-(p+1))
        case measure=>have:=HPN.out;omega
        case rel=>exact⟨p+1,by have:=HPN.out;omega,kq,HL⟩
       .go_meet;exact⟨p,by have:=HPN.out;omega,rfl,HL⟩
      .have hpn':n=p:=kg;have HL:Hid (LpSt W0 T w g (qqj s0 s1 s2 n3 n4 n5) wr):=HF;clear hpn;subst hpn';go_wp2_with fail;go_meet;exact⟨n,af _,rfl,HL⟩
    case rest=>
     obtain⟨p,hp,rfl,HF⟩:=hcut;obtain⟨T5,hw5,hh5,hk5⟩:=HF.out;have HW5:=aa hw5;have HH5:=aa hh5;have HK5:=aa hk5;have HP:=aa hp;clear hw5 hh5 hk5 HF;have hW5:Hid (w.heap.size<=wc.heap.size/\W0.heap.size<=w.heap.size):=aa ⟨HH5.out.size,HW.out.size⟩;have hnLM:Hid (n+1<=LM):=aa (cy (Nat.succ_le_of_lt qlu.out) kj);have hgl:Hid (g<wc.heap.size):=aa HK5.out.bk.lt;have hn128:n<128:=qlu.out;have ew:IntKind.i64.wrap ((n:Int)+1)=((n+1:Nat):Int):=by simp[di,dj,cz];omega
     go_wp2_with (at_make;refine qq4 (cx:=cx) (e:=34) (d:=(yx cx 34).getD ⟨.oth,0,0,[],ns⟩) (f:=FT) rfl 29 (.tmp 60) (.tmp 60) rfl cxOk ki ki ki ki ko (n+1) (n+1) rfl rfl (af _) hnLM.out ?_);intro cur0 hz0;have hs0:cur0.size=(n+1)*6:=by obtain⟨z,hz1,rfl⟩:=hz0;rw[size_madeCells];rfl
     have HC0:Hid (qzv cx W0 T w wc.heap.size 34 T5 (wc.alloc (.cells cur0 34)) cur0):=aa ⟨(zh HW5.out (zy wc _)).1,HH5.out.trans (zk HW5.out (zy wc _)),λh=>by have:=HW5.out.lt h;omega,mg.new wc 34 cur0,hW5.out.1,hW5.out.2⟩;have HX0:=aa ((HH5.out.trans (zk (PU:=nr) HW5.out (zy wc (.cells cur0 34)))));have HK0:=aa (HK5.out.call (zk (PU:=nr) HW5.out (zy wc (.cells cur0 34))));have HS0:=aa hs0;clear hz0 hs0 hn128 ew;generalize wc.alloc (.cells cur0 34)=wa at *;generalize wc.heap.size=g8 at *
     have hA:(A=V/\n=0/\c=0)\/∃bb off,A=I ⟨bb,off,V⟩:=by
      rcases HV.out with h|⟨b,off,n',c',cs,fr,e1,-⟩
      .cases h;exact .inl ⟨rfl,rfl,rfl⟩
      .cases e1;exact .inr ⟨_,_,rfl⟩
     rcases hA with⟨rfl,rfl,rfl⟩|⟨bb,off,rfl⟩
     .obtain rfl:p=0:=by have:=HP.out;omega
      have hf6:Hid (FT.length=6):=aa ki;have HTI:Hid ((qqj s0 s1 s2 n3 n4 n5).all (·.oneCell')=nr):=aa (xx HT.out);have hnil:Hid (CVc W0 T5 wa 0 (.sl 0 34 0) (ng V 0 0)):=aa (.inl rfl);go_upto_region 17 with(refine qdc (cx:=cx) rfl 62 65 29 34 rfl cxOk (d:=(yx cx 34).getD ⟨.oth,0,0,[],ns⟩) (f:=FT) (g:=g8) (p:=0) (k:=0) (c2:=0) (B:=V) (n:=1) (c:=1) (cur:=cur0) rfl rfl ki ki ki ki HC0.out.wt HC0.out.bk (cr _) hnil.out (by rw[HS0.out,hf6.out];omega) ?_);intro cur1 wb hb1 hs1 ho1 hk1 hz1 hos hta hou;have HC1:=aa (HC0.out.put (T1:=T) (w1:=w) hb1 hz1 hos hta hou hk1).1;have HK1:Hid (yh T5 wb g 34 (qqj s0 s1 s2 n3 n4 n5)):=aa ⟨HK0.out.nt,(hk1 g (by have:=hgl.out;omega)).trans HK0.out.bk⟩;have HS1:Hid (cur1.size=6):=aa (hs1.trans HS0.out);clear hb1 hs1 ho1 hk1 hz1 hos hta hou;have HTH:Hid (wb.there g8 0 (qqj s0 s1 s2 n3 n4 n5).size):=aa (qkw HC1.out.bk (by rw[HS1.out];show 0+6<=6;omega));go_upto_region 18 with(first|(refine bp rfl 34 (.tmp 3) rfl g rfl 34 (qqj s0 s1 s2 n3 n4 n5) (0,0) _ HK1.out.bk gj rfl HS.out ?_)|(refine jj rfl 34 (.tmp 70) (.tmp 69) rfl g8 0 (qqj s0 s1 s2 n3 n4 n5) rfl rfl HTH.out HS.out HTI.out ?_));obtain⟨cur2,b1,-,hs2,hq2⟩:=HC1.out.sets (o:=0) (rs:=(qqj s0 s1 s2 n3 n4 n5).toList) (by rw[HS1.out];show 0+6<=6;omega);have HC2:=aa b1;have HS2:Hid (cur2.size=(0+1)*6):=aa (hs2.trans HS1.out);have HQ2:Hid (∀q,q<6->cur2[q]? = (qqj s0 s1 s2 n3 n4 n5).toList[q]?):=aa (λq hq=>by rw[hq2,if_pos (by show 0<=q/\q<0+6;omega),Nat.sub_zero]);clear b1 hs2 hq2;generalize wb.setCells g8 0 (qqj s0 s1 s2 n3 n4 n5).toList=wz at *;have HP1:Hid ((0:Int)<=1):=aa kj;refine Reg9D.region 8 (StPt W0 T w g8 (ng V 0 0) 0 0 cur2 (ng (I ⟨g8,0,V⟩) 0 0) (ng V 0 0) (λ(cur:Array ny)=>∀q:Nat,cur[q]? = cur2[q]?)) mixed ki (qx.qqq (n:=80) ki rfl) ?_ ?_ ?_
      .exact⟨T5,⟨cur2,HC2.out.drew,HS2.out,λ_=>rfl,λh=>by cases h⟩,λk _ h=>by cases h⟩
      .intro idx o hj ho L vals a' W hLi hS hw' qh hdn;obtain⟨T',⟨cur,hC,hcs,hc0,hc1⟩,qi⟩:=hS;have HPS:=λ(i:Nat) {v:ny} {T2:Nat->Prop} {w2:nu} hm h=>yt (i:=i) (L:=L) (vals:=vals) (v:=v) (Ψ:=λk v=>qz2 W0 T w g8 (ng V 0 0) 0 0 cur2 (ng (I ⟨g8,0,V⟩) 0 0) (ng V 0 0) (λ(cur:Array ny)=>∀q:Nat,cur[q]? = cur2[q]?) k v T' W) (Ψ':=λk v=>qz2 W0 T w g8 (ng V 0 0) 0 0 cur2 (ng (I ⟨g8,0,V⟩) 0 0) (ng V 0 0) (λ(cur:Array ny)=>∀q:Nat,cur[q]? = cur2[q]?) k v T2 w2) qi hm h
       have HQ:=λ(i:Nat) {v:ny} h=>yt (i:=i) (L:=L) (vals:=vals) (v:=v) (Ψ:=λk v=>qz2 W0 T w g8 (ng V 0 0) 0 0 cur2 (ng (I ⟨g8,0,V⟩) 0 0) (ng V 0 0) (λ(cur:Array ny)=>∀q:Nat,cur[q]? = cur2[q]?) k v T' W) (Ψ':=λk v=>qz2 W0 T w g8 (ng V 0 0) 0 0 cur2 (ng (I ⟨g8,0,V⟩) 0 0) (ng V 0 0) (λ(cur:Array ny)=>∀q:Nat,cur[q]? = cur2[q]?) k v T' W) qi (λ_ _ h=>h) h
       have hj':idx=0\/idx=1\/idx=2\/idx=3\/idx=4\/idx=5\/idx=6\/idx=7:=kg;clear hj;rcases hj' with rfl|rfl|rfl|rfl|rfl|rfl|rfl|rfl
       .cases oi ho;have h11:=qx.gdt (qh 11 nd);refine qx.qc.eq ?_ ⟨T',⟨cur,hC,hcs,hc0,hc1⟩,HQ 0 rfl⟩;go_simp
        all_goals(try exact⟨rfl,rfl⟩)
       .cases oi ho;have h9:=qx.gdt (qh 9 nd);refine qx.qc.eq ?_ ⟨T',⟨cur,hC,hcs,hc0,hc1⟩,HQ 1 rfl⟩;go_simp
        all_goals(try exact⟨rfl,rfl⟩)
       .cases oi ho;have h72:=qx.gpk (qh 72 nd) (qi 1 kg);have e1:=HP1.out;refine qx.qc.eq ?_ ⟨T',⟨cur,hC,hcs,hc0,hc1⟩,HQ 2 rfl⟩;go_simp
        all_goals(try exact⟨rfl,rfl⟩)
       .cases oi ho;have q3o:=qx.gpk (qh 71 nd) (qi 0 kg);have h73:=qx.gpk (qh 73 nd) (qi 2 kg);have e5:=HP1.out;refine qx.qc.eq ?_ ⟨T',⟨cur,hC,hcs,hc0,hc1⟩,HQ 3 rfl⟩;go_simp
        all_goals(try exact⟨rfl,rfl⟩)
       .cases oi ho;have h0:=qx.gdt (qh 0 nd);refine qx.qc.eq ?_ ⟨T',⟨cur,hC,hcs,hc0,hc1⟩,HQ 4 rfl⟩;go_simp
        all_goals(try exact⟨rfl,rfl⟩)
       .cases oi ho;have h9:=qx.gdt (qh 9 nd);refine qx.qc.eq ?_ ⟨T',⟨cur,hC,hcs,hc0,hc1⟩,HQ 5 rfl⟩;go_simp
        all_goals(try exact⟨rfl,rfl⟩)
       .cases oi ho;have q3s:=qx.gpk (qh 75 nd) (qi 4 kg);have qkr:=qx.gpk (qh 76 nd) (qi 5 kg);have e5:=HP1.out;refine qx.qc.eq ?_ ⟨T',⟨cur,hC,hcs,hc0,hc1⟩,HQ 6 rfl⟩;go_simp
        all_goals(try exact⟨rfl,rfl⟩)
       .cases oi ho;have qih:=qx.gpk (qh 74 nd) (qi 3 kg);have qji:=qx.gpk (qh 77 nd) (qi 6 kg);refine qdj (cx:=cx) (e:=34) (m:=0) (lb:=128) (d:=(yx cx 34).getD ⟨.oth,0,0,[],ns⟩) (f:=FT) cxOk rfl qih qji ki ki ki ki hC.wt hC.bk (af _) (show CVc W0 T' W 0 (.sl 0 34 128) (ng V 0 0) from .inl rfl) (by rw[hcs,hf6.out];have:=HP.out;omega) ?_;intro cur' W' h1 h2 h3 h4 h5 h6 h7 h8 h9;obtain⟨b1,b2⟩:=hC.put (T1:=T) (w1:=w) h1 h6 h7 h8 h9 h5;exact⟨T',⟨cur',b1,h2.trans hcs,(λh=>by simp at h),λ_=>λq=>(h4 q (by rw[hf6.out];omega)).trans (by rw[hc0 hLi])⟩,HPS 7 (v:=U O ((0:Nat):Int)) (λ_ _ h=>qbx h) trivial⟩
      .intro L vals W zl hS;obtain⟨T',⟨cur,hC,hcs,hc0,hc1⟩,qi⟩:=hS;have hv0:vals 0=_:=qi 0 kg (zl 0 kg);have hv1:vals 1=_:=qi 1 kg (zl 1 kg);have hv2:vals 2=_:=qi 2 kg (zl 2 kg);have hv3:vals 3=_:=qi 3 kg (zl 3 kg);have hv4:vals 4=_:=qi 4 kg (zl 4 kg);have hv5:vals 5=_:=qi 5 kg (zl 5 kg);have hv6:vals 6=_:=qi 6 kg (zl 6 kg);have hr:=hc1 (zl 7 kg)
       have hrow:∀i,i<1->∃rs:Array ny,(∀o,o<6->cur[i*6+o]? = rs[o]?)/\TyValc W0 T' W 0 (.agg FT) (.agg rs)/\qew rs:=λi hi=>by
        obtain rfl:i=0:=kg;refine⟨qqj s0 s1 s2 n3 n4 n5,λo ho=>?_,zx hC.hi.ext HT.out,s1,n4,rfl,HQ.out.2.1,rfl,HQ.out.2.2.2.2.2.1,HQ.out.2.2.2.2.2.2.1⟩;rw[hr,HQ2.out _ kg,ax,Nat.zero_mul,bu]
       obtain⟨k1,k2,k3⟩:=qv6 hC.wt (cy hW5.out.2 hW5.out.1) hC.bk hcs kg hrow 0;have HX:Hid (qrw W0 T w (np (nq #[ng (I ⟨g8,0,V⟩) 1 1,zI])) W):=aa ⟨_,I ⟨g8,0,V⟩,1,1,0,rfl,k1,⟨hC.hi.ext.trans k2,λb hb=>hb.elim (hC.hi.new b) (λe=>.inr (by rw[e];exact hW5.out.1)),hC.hi.size,hC.hi.os,hC.hi.tape,hC.hi.output,hC.hi.keep,λh=>(Lv.nb h).elim⟩,k3,kj,kj⟩;clear hr hrow k1 k2 k3 hC hcs hc0 hc1 qi zl;simp only[qx.puts,qx.zi,ay,dc,if_true,cq,df,hv0,hv1,hv2,hv3,hv4,hv5,hv6];clear hv0 hv1 hv2 hv3 hv4 hv5 hv6;simp[ez];go_wp2_with fail;refine du (pk rfl _ _ _) rfl ?_;exact HX.out
     .have hp0:(0:Int)<=(p:Int):=kg;have hpn:(p:Int)<=(n:Int):=kg;have hpn1:(p:Int)<(n:Int)+1:=kg
      have hpc:p<=c:=by
       obtain⟨A',n',c',e1,q,-⟩:=HV.out.qxy.slc;cases e1;omega
      have hf6:Hid (FT.length=6):=aa ki;have HTI:Hid ((qqj s0 s1 s2 n3 n4 n5).all (·.oneCell')=nr):=aa (xx HT.out);go_upto_region 17 with(refine qdc (cx:=cx) rfl 62 65 29 34 rfl cxOk (d:=(yx cx 34).getD ⟨.oth,0,0,[],ns⟩) (f:=FT) (g:=g8) (p:=0) (k:=p) (c2:=c) (cur:=cur0) rfl rfl ki ki ki ki HC0.out.wt HC0.out.bk (Nat.le_succ_of_le HP.out) (q6y (HV.out.mono HX0.out.ext (af _)) HP.out) (by rw[HS0.out,hf6.out];have:=HP.out;omega) ?_);intro cur1 wb hb1 hs1 hr1 ho1 hk1 hz1 hos hta hou;have HC1:=aa (HC0.out.put (T1:=T) (w1:=w) hb1 hz1 hos hta hou hk1).1;have HK1:Hid (yh T5 wb g 34 (qqj s0 s1 s2 n3 n4 n5)):=aa ⟨HK0.out.nt,(hk1 g (by have:=hgl.out;omega)).trans HK0.out.bk⟩
      have HR1:Hid (∀i xs,i<p->zo cx W0 T w FT (I ⟨bb,off,V⟩) i xs->∀o,o<6->cur1[i*6+o]? = xs[o]?):=aa (λi xs hi hx o ho=>by
       have:=hr1 i xs hi (hx.hist HX0.out) o (by rw[hf6.out];exact ho);rw[hf6.out] at this
       first|exact this|(rw[bu] at this;exact this))
      have HS1:Hid (cur1.size=(n+1)*6):=aa (hs1.trans HS0.out);have HTH:Hid (wb.there g8 (p*6) (qqj s0 s1 s2 n3 n4 n5).size):=aa (qkw HC1.out.bk (by rw[HS1.out];show p*6+6<=(n+1)*6;have:=HP.out;omega));clear hb1 hs1 hr1 ho1 hk1 hz1 hos hta hou;go_upto_region 18 with(first|(refine bp rfl 34 (.tmp 3) rfl g rfl 34 (qqj s0 s1 s2 n3 n4 n5) (0,0) _ HK1.out.bk gj rfl HS.out ?_)|(refine jj rfl 34 (.tmp 70) (.tmp 69) rfl g8 (p*6) (qqj s0 s1 s2 n3 n4 n5) rfl rfl HTH.out HS.out HTI.out ?_));obtain⟨cur2,b1,-,hs2,hq2⟩:=HC1.out.sets (o:=p*6) (rs:=(qqj s0 s1 s2 n3 n4 n5).toList) (by rw[HS1.out];show p*6+6<=(n+1)*6;have:=HP.out;omega);have HC2:=aa b1;have HS2:Hid (cur2.size=(n+1)*6):=aa (hs2.trans HS1.out);have HQ2:Hid (∀q,cur2[q]? = if p*6<=q/\q<p*6+6 then(qqj s0 s1 s2 n3 n4 n5).toList[q-p*6]? else cur1[q]?):=aa hq2;clear b1 hs2 hq2;generalize wb.setCells g8 (p*6) (qqj s0 s1 s2 n3 n4 n5).toList=wz at *;have HPC:=aa hpc
      have HNC:Hid (n<=c):=aa (by
       obtain⟨A',n',c',e1,q,-⟩:=HV.out.qxy.slc;cases e1
       exact q)
      have HPI:=aa hp0;have hp1:IntKind.i64.wrap ((p:Int)+1)=(p:Int)+1:=by have:=qlu.out;have:=HP.out;simp[di,dj,cz];omega
      have HP1:=aa hp1;clear hpc hp0 hpn hpn1 hp1;by_cases hpe:p<n
      .have HPE:=aa hpe;clear hpe;refine Reg9D.region 8 (StPt W0 T w g8 (ng (I ⟨bb,off,V⟩) n c) n p cur2 (ng (I ⟨g8,(p+1)*6,V⟩) (n-p) (n-p)) (ng (I ⟨bb,off+p*6,V⟩) (n-p) (c-p)) (λcur=>(∀j xs,j<n-p->zo cx W0 T w FT (I ⟨bb,off+p*6,V⟩) j xs->∀o,o<6->cur[(p+1)*6+j*6+o]? = xs[o]?)/\∀q,q<(p+1)*6->cur[q]? = cur2[q]?)) mixed ki (qx.qqq (n:=80) ki rfl) ?_ ?_ ?_
       .exact⟨T5,⟨cur2,HC2.out.drew,HS2.out,λ_=>rfl,λh=>by cases h⟩,λk _ h=>by cases h⟩
       .intro idx o hj ho L vals a' W hLi hS hw' qh hdn;obtain⟨T',⟨cur,hC,hcs,hc0,hc1⟩,qi⟩:=hS;have HPS:=λ(i:Nat) {v:ny} {T2:Nat->Prop} {w2:nu} hm h=>yt (i:=i) (L:=L) (vals:=vals) (v:=v) (Ψ:=λk v=>qz2 W0 T w g8 (ng (I ⟨bb,off,V⟩) n c) n p cur2 (ng (I ⟨g8,(p+1)*6,V⟩) (n-p) (n-p)) (ng (I ⟨bb,off+p*6,V⟩) (n-p) (c-p)) (λcur=>(∀j xs,j<n-p->zo cx W0 T w FT (I ⟨bb,off+p*6,V⟩) j xs->∀o,o<6->cur[(p+1)*6+j*6+o]? = xs[o]?)/\∀q,q<(p+1)*6->cur[q]? = cur2[q]?) k v T' W) (Ψ':=λk v=>qz2 W0 T w g8 (ng (I ⟨bb,off,V⟩) n c) n p cur2 (ng (I ⟨g8,(p+1)*6,V⟩) (n-p) (n-p)) (ng (I ⟨bb,off+p*6,V⟩) (n-p) (c-p)) (λcur=>(∀j xs,j<n-p->zo cx W0 T w FT (I ⟨bb,off+p*6,V⟩) j xs->∀o,o<6->cur[(p+1)*6+j*6+o]? = xs[o]?)/\∀q,q<(p+1)*6->cur[q]? = cur2[q]?) k v T2 w2) qi hm h
        have HQ:=λ(i:Nat) {v:ny} h=>yt (i:=i) (L:=L) (vals:=vals) (v:=v) (Ψ:=λk v=>qz2 W0 T w g8 (ng (I ⟨bb,off,V⟩) n c) n p cur2 (ng (I ⟨g8,(p+1)*6,V⟩) (n-p) (n-p)) (ng (I ⟨bb,off+p*6,V⟩) (n-p) (c-p)) (λcur=>(∀j xs,j<n-p->zo cx W0 T w FT (I ⟨bb,off+p*6,V⟩) j xs->∀o,o<6->cur[(p+1)*6+j*6+o]? = xs[o]?)/\∀q,q<(p+1)*6->cur[q]? = cur2[q]?) k v T' W) (Ψ':=λk v=>qz2 W0 T w g8 (ng (I ⟨bb,off,V⟩) n c) n p cur2 (ng (I ⟨g8,(p+1)*6,V⟩) (n-p) (n-p)) (ng (I ⟨bb,off+p*6,V⟩) (n-p) (c-p)) (λcur=>(∀j xs,j<n-p->zo cx W0 T w FT (I ⟨bb,off+p*6,V⟩) j xs->∀o,o<6->cur[(p+1)*6+j*6+o]? = xs[o]?)/\∀q,q<(p+1)*6->cur[q]? = cur2[q]?) k v T' W) qi (λ_ _ h=>h) h
        have hj':idx=0\/idx=1\/idx=2\/idx=3\/idx=4\/idx=5\/idx=6\/idx=7:=kg;clear hj;rcases hj' with rfl|rfl|rfl|rfl|rfl|rfl|rfl|rfl
        .cases oi ho;have h11:=qx.gdt (qh 11 nd);refine qx.qc.eq ?_ ⟨T',⟨cur,hC,hcs,hc0,hc1⟩,HQ 0 rfl⟩;go_simp
         all_goals(try exact⟨rfl,rfl⟩)
        .cases oi ho;have h9:=qx.gdt (qh 9 nd);refine qx.qc.eq ?_ ⟨T',⟨cur,hC,hcs,hc0,hc1⟩,HQ 1 rfl⟩;go_simp
         all_goals(try exact⟨rfl,rfl⟩)
        .cases oi ho;have h72:=qx.gpk (qh 72 nd) (qi 1 kg);have e1:=HP1.out;refine qx.qc.eq ?_ ⟨T',⟨cur,hC,hcs,hc0,hc1⟩,HQ 2 rfl⟩;go_simp
         all_goals(try exact⟨rfl,rfl⟩)
        .cases oi ho;have q3o:=qx.gpk (qh 71 nd) (qi 0 kg);have h73:=qx.gpk (qh 73 nd) (qi 2 kg);have e1:=HPE.out;have e2:=HNC.out;have e3:¬n=p:=kg;have e4:¬c=p:=kg;have e5:(0:Int)<=(p:Int)+1:=kg;refine qx.qc.eq ?_ ⟨T',⟨cur,hC,hcs,hc0,hc1⟩,HQ 3 rfl⟩;go_simp
         all_goals(try exact⟨rfl,rfl⟩)
        .cases oi ho;have h0:=qx.gdt (qh 0 nd);refine qx.qc.eq ?_ ⟨T',⟨cur,hC,hcs,hc0,hc1⟩,HQ 4 rfl⟩;go_simp
         all_goals(try exact⟨rfl,rfl⟩)
        .cases oi ho;have h9:=qx.gdt (qh 9 nd);refine qx.qc.eq ?_ ⟨T',⟨cur,hC,hcs,hc0,hc1⟩,HQ 5 rfl⟩;go_simp
         all_goals(try exact⟨rfl,rfl⟩)
        .cases oi ho;have q3s:=qx.gpk (qh 75 nd) (qi 4 kg);have qkr:=qx.gpk (qh 76 nd) (qi 5 kg);have e1:=HPE.out;have e2:=HNC.out;have e3:¬n=p:=kg;have e4:¬c=p:=kg;have e5:(0:Int)<=(p:Int)+1:=kg;refine qx.qc.eq ?_ ⟨T',⟨cur,hC,hcs,hc0,hc1⟩,HQ 6 rfl⟩;go_simp
         all_goals(try exact⟨rfl,rfl⟩)
        .cases oi ho;have qih:=qx.gpk (qh 74 nd) (qi 3 kg);have qji:=qx.gpk (qh 77 nd) (qi 6 kg);refine qdj (cx:=cx) (e:=34) (m:=0) (lb:=128) (d:=(yx cx 34).getD ⟨.oth,0,0,[],ns⟩) (f:=FT) cxOk rfl qih qji ki ki ki ki hC.wt hC.bk (af _) (qs5 (HV.out.mono hC.hi.ext (af _)) HP.out) (by rw[hcs,hf6.out];have:=HP.out;omega) ?_;intro cur' W' h1 h2 h3 h4 h5 h6 h7 h8 h9;obtain⟨b1,b2⟩:=hC.put (T1:=T) (w1:=w) h1 h6 h7 h8 h9 h5
         exact⟨T',⟨cur',b1,h2.trans hcs,(λh=>by simp at h),λ_=>⟨λj xs hj hx o ho=>by
          have:=h3 j xs hj (hx.hist hC.hi) o (by rw[hf6.out];exact ho);rw[hf6.out] at this
          exact this,λq hq=>(h4 q (.inl hq)).trans (by rw[hc0 hLi])⟩⟩,HPS 7 (v:=U O ((n-p:Nat):Int)) (λ_ _ h=>qbx h) trivial⟩
       .intro L vals W zl hS;obtain⟨T',⟨cur,hC,hcs,hc0,hc1⟩,qi⟩:=hS;have hv0:vals 0=_:=qi 0 kg (zl 0 kg);have hv1:vals 1=_:=qi 1 kg (zl 1 kg);have hv2:vals 2=_:=qi 2 kg (zl 2 kg);have hv3:vals 3=_:=qi 3 kg (zl 3 kg);have hv4:vals 4=_:=qi 4 kg (zl 4 kg);have hv5:vals 5=_:=qi 5 kg (zl 5 kg);have hv6:vals 6=_:=qi 6 kg (zl 6 kg);have hr:=hc1 (zl 7 kg)
        have hrow:∀i,i<n+1->∃rs:Array ny,(∀o,o<6->cur[i*6+o]? = rs[o]?)/\TyValc W0 T' W 0 (.agg FT) (.agg rs)/\qew rs:=λi hi=>by
         rcases pf i p with hij|hij|hij
         .obtain⟨xs,hx,hxr⟩:=qvz HW.out HV.out (j:=i) (by have:=HP.out;omega);obtain⟨_,_,-,-,-,-,-,hty⟩:=id hx;refine⟨xs,λo ho=>?_,zx hC.hi.ext hty,hxr⟩;rw[hr.2 _ kg,HQ2.out,if_neg kg];exact HR1.out i xs hij hx o ho
         .subst hij;refine⟨qqj s0 s1 s2 n3 n4 n5,λo ho=>?_,zx hC.hi.ext HT.out,s1,n4,rfl,HQ.out.2.1,rfl,HQ.out.2.2.2.2.2.1,HQ.out.2.2.2.2.2.2.1⟩;rw[hr.2 _ kg,HQ2.out,if_pos kg,dm,ax]
         .obtain⟨xs,hx,hxr⟩:=qvz HW.out HV.out (j:=i-1) kg;obtain⟨_,_,-,-,-,-,-,hty⟩:=id hx;have hx':=zo.shiftN (k:=p) (j:=i-1-p) (by rw[show i-1-p+p=i-1 by omega];exact hx);rw[hf6.out] at hx';refine⟨xs,λo ho=>?_,zx hC.hi.ext hty,hxr⟩;rw[<-hr.1 (i-1-p) xs kg hx' o ho];congr 1;omega
        obtain⟨k1,k2,k3⟩:=qv6 hC.wt (cy hW5.out.2 hW5.out.1) hC.bk hcs (by have:=qlu.out;omega) hrow 0;have HX:Hid (qrw W0 T w (np (nq #[ng (I ⟨g8,0,V⟩) (n+1) (n+1),zI])) W):=aa ⟨_,I ⟨g8,0,V⟩,n+1,n+1,0,rfl,k1,⟨hC.hi.ext.trans k2,λb hb=>hb.elim (hC.hi.new b) (λe=>.inr (by rw[e];exact hW5.out.1)),hC.hi.size,hC.hi.os,hC.hi.tape,hC.hi.output,hC.hi.keep,λh=>(Lv.nb h).elim⟩,k3,kj,kj⟩;clear hr hrow k1 k2 k3 hC hcs hc0 hc1 qi zl;simp only[qx.puts,qx.zi,ay,dc,if_true,cq,df,hv0,hv1,hv2,hv3,hv4,hv5,hv6];clear hv0 hv1 hv2 hv3 hv4 hv5 hv6;simp[ez];go_wp2_with fail;refine du (pk rfl _ _ _) rfl ?_;exact HX.out
      .obtain rfl:n=p:=by have:=HP.out;omega
       clear hpe;by_cases hce:c=n
       .have HCE:=aa hce;have HCZ:Hid (CVc W0 T w 0 (.sl 0 34 128) (ng (I ⟨bb,off,V⟩) 0 0)):=aa (q72 HV.out);clear hce;refine Reg9D.region 8 (StPt W0 T w g8 (ng (I ⟨bb,off,V⟩) n c) n n cur2 (ng (I ⟨g8,0,V⟩) 0 0) (ng (I ⟨bb,off,V⟩) 0 0) (λ(cur:Array ny)=>∀q:Nat,cur[q]? = cur2[q]?)) mixed ki (qx.qqq (n:=80) ki rfl) ?_ ?_ ?_
        .exact⟨T5,⟨cur2,HC2.out.drew,HS2.out,λ_=>rfl,λh=>by cases h⟩,λk _ h=>by cases h⟩
        .intro idx o hj ho L vals a' W hLi hS hw' qh hdn;obtain⟨T',⟨cur,hC,hcs,hc0,hc1⟩,qi⟩:=hS;have HPS:=λ(i:Nat) {v:ny} {T2:Nat->Prop} {w2:nu} hm h=>yt (i:=i) (L:=L) (vals:=vals) (v:=v) (Ψ:=λk v=>qz2 W0 T w g8 (ng (I ⟨bb,off,V⟩) n c) n n cur2 (ng (I ⟨g8,0,V⟩) 0 0) (ng (I ⟨bb,off,V⟩) 0 0) (λ(cur:Array ny)=>∀q:Nat,cur[q]? = cur2[q]?) k v T' W) (Ψ':=λk v=>qz2 W0 T w g8 (ng (I ⟨bb,off,V⟩) n c) n n cur2 (ng (I ⟨g8,0,V⟩) 0 0) (ng (I ⟨bb,off,V⟩) 0 0) (λ(cur:Array ny)=>∀q:Nat,cur[q]? = cur2[q]?) k v T2 w2) qi hm h
         have HQ:=λ(i:Nat) {v:ny} h=>yt (i:=i) (L:=L) (vals:=vals) (v:=v) (Ψ:=λk v=>qz2 W0 T w g8 (ng (I ⟨bb,off,V⟩) n c) n n cur2 (ng (I ⟨g8,0,V⟩) 0 0) (ng (I ⟨bb,off,V⟩) 0 0) (λ(cur:Array ny)=>∀q:Nat,cur[q]? = cur2[q]?) k v T' W) (Ψ':=λk v=>qz2 W0 T w g8 (ng (I ⟨bb,off,V⟩) n c) n n cur2 (ng (I ⟨g8,0,V⟩) 0 0) (ng (I ⟨bb,off,V⟩) 0 0) (λ(cur:Array ny)=>∀q:Nat,cur[q]? = cur2[q]?) k v T' W) qi (λ_ _ h=>h) h
         have hj':idx=0\/idx=1\/idx=2\/idx=3\/idx=4\/idx=5\/idx=6\/idx=7:=kg;clear hj;rcases hj' with rfl|rfl|rfl|rfl|rfl|rfl|rfl|rfl
         .cases oi ho;have h11:=qx.gdt (qh 11 nd);refine qx.qc.eq ?_ ⟨T',⟨cur,hC,hcs,hc0,hc1⟩,HQ 0 rfl⟩;go_simp
          all_goals(try exact⟨rfl,rfl⟩)
         .cases oi ho;have h9:=qx.gdt (qh 9 nd);refine qx.qc.eq ?_ ⟨T',⟨cur,hC,hcs,hc0,hc1⟩,HQ 1 rfl⟩;go_simp
          all_goals(try exact⟨rfl,rfl⟩)
         .cases oi ho;have h72:=qx.gpk (qh 72 nd) (qi 1 kg);have e1:=HP1.out;refine qx.qc.eq ?_ ⟨T',⟨cur,hC,hcs,hc0,hc1⟩,HQ 2 rfl⟩;go_simp
          all_goals(try exact⟨rfl,rfl⟩)
         .cases oi ho;have q3o:=qx.gpk (qh 71 nd) (qi 0 kg);have h73:=qx.gpk (qh 73 nd) (qi 2 kg);have e2:=HNC.out;have e5:(0:Int)<=(n:Int)+1:=kg;have e6:=HCE.out;refine qx.qc.eq ?_ ⟨T',⟨cur,hC,hcs,hc0,hc1⟩,HQ 3 rfl⟩;go_simp
          all_goals(try exact⟨rfl,rfl⟩)
         .cases oi ho;have h0:=qx.gdt (qh 0 nd);refine qx.qc.eq ?_ ⟨T',⟨cur,hC,hcs,hc0,hc1⟩,HQ 4 rfl⟩;go_simp
          all_goals(try exact⟨rfl,rfl⟩)
         .cases oi ho;have h9:=qx.gdt (qh 9 nd);refine qx.qc.eq ?_ ⟨T',⟨cur,hC,hcs,hc0,hc1⟩,HQ 5 rfl⟩;go_simp
          all_goals(try exact⟨rfl,rfl⟩)
         .cases oi ho;have q3s:=qx.gpk (qh 75 nd) (qi 4 kg);have qkr:=qx.gpk (qh 76 nd) (qi 5 kg);have e2:=HNC.out;have e5:(0:Int)<=(n:Int)+1:=kg;have e6:=HCE.out;refine qx.qc.eq ?_ ⟨T',⟨cur,hC,hcs,hc0,hc1⟩,HQ 6 rfl⟩;go_simp
          all_goals(try exact⟨rfl,rfl⟩)
         .cases oi ho;have qih:=qx.gpk (qh 74 nd) (qi 3 kg);have qji:=qx.gpk (qh 77 nd) (qi 6 kg);refine qdj (cx:=cx) (e:=34) (m:=0) (lb:=128) (d:=(yx cx 34).getD ⟨.oth,0,0,[],ns⟩) (f:=FT) cxOk rfl qih qji ki ki ki ki hC.wt hC.bk (af _) (show CVc W0 T' W 0 (.sl 0 34 128) (ng (I ⟨bb,off,V⟩) 0 0) from HCZ.out.mono hC.hi.ext (af _)) (by rw[hcs,hf6.out];have:=HP.out;omega) ?_;intro cur' W' h1 h2 h3 h4 h5 h6 h7 h8 h9;obtain⟨b1,b2⟩:=hC.put (T1:=T) (w1:=w) h1 h6 h7 h8 h9 h5;exact⟨T',⟨cur',b1,h2.trans hcs,(λh=>by simp at h),λ_=>λq=>(h4 q (by rw[hf6.out];omega)).trans (by rw[hc0 hLi])⟩,HPS 7 (v:=U O ((0:Nat):Int)) (λ_ _ h=>qbx h) trivial⟩
        .intro L vals W zl hS;obtain⟨T',⟨cur,hC,hcs,hc0,hc1⟩,qi⟩:=hS;have hv0:vals 0=_:=qi 0 kg (zl 0 kg);have hv1:vals 1=_:=qi 1 kg (zl 1 kg);have hv2:vals 2=_:=qi 2 kg (zl 2 kg);have hv3:vals 3=_:=qi 3 kg (zl 3 kg);have hv4:vals 4=_:=qi 4 kg (zl 4 kg);have hv5:vals 5=_:=qi 5 kg (zl 5 kg);have hv6:vals 6=_:=qi 6 kg (zl 6 kg);have hr:=hc1 (zl 7 kg)
         have hrow:∀i,i<n+1->∃rs:Array ny,(∀o,o<6->cur[i*6+o]? = rs[o]?)/\TyValc W0 T' W 0 (.agg FT) (.agg rs)/\qew rs:=λi hi=>by
          rcases pf i n with hij|hij|hij
          .obtain⟨xs,hx,hxr⟩:=qvz HW.out HV.out (j:=i) (by have:=HP.out;omega);obtain⟨_,_,-,-,-,-,-,hty⟩:=id hx;refine⟨xs,λo ho=>?_,zx hC.hi.ext hty,hxr⟩;rw[hr,HQ2.out,if_neg kg];exact HR1.out i xs hij hx o ho
          .subst hij;refine⟨qqj s0 s1 s2 n3 n4 n5,λo ho=>?_,zx hC.hi.ext HT.out,s1,n4,rfl,HQ.out.2.1,rfl,HQ.out.2.2.2.2.2.1,HQ.out.2.2.2.2.2.2.1⟩;rw[hr,HQ2.out,if_pos kg,dm,ax]
          .exact absurd hi kg
         obtain⟨k1,k2,k3⟩:=qv6 hC.wt (cy hW5.out.2 hW5.out.1) hC.bk hcs (by have:=qlu.out;omega) hrow 0;have HX:Hid (qrw W0 T w (np (nq #[ng (I ⟨g8,0,V⟩) (n+1) (n+1),zI])) W):=aa ⟨_,I ⟨g8,0,V⟩,n+1,n+1,0,rfl,k1,⟨hC.hi.ext.trans k2,λb hb=>hb.elim (hC.hi.new b) (λe=>.inr (by rw[e];exact hW5.out.1)),hC.hi.size,hC.hi.os,hC.hi.tape,hC.hi.output,hC.hi.keep,λh=>(Lv.nb h).elim⟩,k3,kj,kj⟩;clear hr hrow k1 k2 k3 hC hcs hc0 hc1 qi zl;simp only[qx.puts,qx.zi,ay,dc,if_true,cq,df,hv0,hv1,hv2,hv3,hv4,hv5,hv6];clear hv0 hv1 hv2 hv3 hv4 hv5 hv6;simp[ez];go_wp2_with fail;refine du (pk rfl _ _ _) rfl ?_;exact HX.out
       .have HCE:=aa hce
        have HCZ:Hid (CVc W0 T w 0 (.sl 0 34 128) (ng (I ⟨bb,off+n*6,V⟩) 0 (c-n))):=aa (by
         have h:=qzt (qs5 HV.out (af _)) kj 0
         rwa [Nat.sub_self] at h)
        clear hce;refine Reg9D.region 8 (StPt W0 T w g8 (ng (I ⟨bb,off,V⟩) n c) n n cur2 (ng (I ⟨g8,0,V⟩) 0 0) (ng (I ⟨bb,off+n*6,V⟩) 0 (c-n)) (λ(cur:Array ny)=>∀q:Nat,cur[q]? = cur2[q]?)) mixed ki (qx.qqq (n:=80) ki rfl) ?_ ?_ ?_
        .exact⟨T5,⟨cur2,HC2.out.drew,HS2.out,λ_=>rfl,λh=>by cases h⟩,λk _ h=>by cases h⟩
        .intro idx o hj ho L vals a' W hLi hS hw' qh hdn;obtain⟨T',⟨cur,hC,hcs,hc0,hc1⟩,qi⟩:=hS;have HPS:=λ(i:Nat) {v:ny} {T2:Nat->Prop} {w2:nu} hm h=>yt (i:=i) (L:=L) (vals:=vals) (v:=v) (Ψ:=λk v=>qz2 W0 T w g8 (ng (I ⟨bb,off,V⟩) n c) n n cur2 (ng (I ⟨g8,0,V⟩) 0 0) (ng (I ⟨bb,off+n*6,V⟩) 0 (c-n)) (λ(cur:Array ny)=>∀q:Nat,cur[q]? = cur2[q]?) k v T' W) (Ψ':=λk v=>qz2 W0 T w g8 (ng (I ⟨bb,off,V⟩) n c) n n cur2 (ng (I ⟨g8,0,V⟩) 0 0) (ng (I ⟨bb,off+n*6,V⟩) 0 (c-n)) (λ(cur:Array ny)=>∀q:Nat,cur[q]? = cur2[q]?) k v T2 w2) qi hm h
         have HQ:=λ(i:Nat) {v:ny} h=>yt (i:=i) (L:=L) (vals:=vals) (v:=v) (Ψ:=λk v=>qz2 W0 T w g8 (ng (I ⟨bb,off,V⟩) n c) n n cur2 (ng (I ⟨g8,0,V⟩) 0 0) (ng (I ⟨bb,off+n*6,V⟩) 0 (c-n)) (λ(cur:Array ny)=>∀q:Nat,cur[q]? = cur2[q]?) k v T' W) (Ψ':=λk v=>qz2 W0 T w g8 (ng (I ⟨bb,off,V⟩) n c) n n cur2 (ng (I ⟨g8,0,V⟩) 0 0) (ng (I ⟨bb,off+n*6,V⟩) 0 (c-n)) (λ(cur:Array ny)=>∀q:Nat,cur[q]? = cur2[q]?) k v T' W) qi (λ_ _ h=>h) h
         have hj':idx=0\/idx=1\/idx=2\/idx=3\/idx=4\/idx=5\/idx=6\/idx=7:=kg;clear hj;rcases hj' with rfl|rfl|rfl|rfl|rfl|rfl|rfl|rfl
         .cases oi ho;have h11:=qx.gdt (qh 11 nd);refine qx.qc.eq ?_ ⟨T',⟨cur,hC,hcs,hc0,hc1⟩,HQ 0 rfl⟩;go_simp
          all_goals(try exact⟨rfl,rfl⟩)
         .cases oi ho;have h9:=qx.gdt (qh 9 nd);refine qx.qc.eq ?_ ⟨T',⟨cur,hC,hcs,hc0,hc1⟩,HQ 1 rfl⟩;go_simp
          all_goals(try exact⟨rfl,rfl⟩)
         .cases oi ho;have h72:=qx.gpk (qh 72 nd) (qi 1 kg);have e1:=HP1.out;refine qx.qc.eq ?_ ⟨T',⟨cur,hC,hcs,hc0,hc1⟩,HQ 2 rfl⟩;go_simp
          all_goals(try exact⟨rfl,rfl⟩)
         .cases oi ho;have q3o:=qx.gpk (qh 71 nd) (qi 0 kg);have h73:=qx.gpk (qh 73 nd) (qi 2 kg);have e2:=HNC.out;have e5:(0:Int)<=(n:Int)+1:=kg;have e6:=HCE.out;refine qx.qc.eq ?_ ⟨T',⟨cur,hC,hcs,hc0,hc1⟩,HQ 3 rfl⟩;go_simp
          all_goals(try exact⟨rfl,rfl⟩)
         .cases oi ho;have h0:=qx.gdt (qh 0 nd);refine qx.qc.eq ?_ ⟨T',⟨cur,hC,hcs,hc0,hc1⟩,HQ 4 rfl⟩;go_simp
          all_goals(try exact⟨rfl,rfl⟩)
         .cases oi ho;have h9:=qx.gdt (qh 9 nd);refine qx.qc.eq ?_ ⟨T',⟨cur,hC,hcs,hc0,hc1⟩,HQ 5 rfl⟩;go_simp
          all_goals(try exact⟨rfl,rfl⟩)
         .cases oi ho;have q3s:=qx.gpk (qh 75 nd) (qi 4 kg);have qkr:=qx.gpk (qh 76 nd) (qi 5 kg);have e2:=HNC.out;have e5:(0:Int)<=(n:Int)+1:=kg;have e6:=HCE.out;refine qx.qc.eq ?_ ⟨T',⟨cur,hC,hcs,hc0,hc1⟩,HQ 6 rfl⟩;go_simp
          all_goals(try exact⟨rfl,rfl⟩)
         .cases oi ho;have qih:=qx.gpk (qh 74 nd) (qi 3 kg);have qji:=qx.gpk (qh 77 nd) (qi 6 kg);refine qdj (cx:=cx) (e:=34) (m:=0) (lb:=128) (d:=(yx cx 34).getD ⟨.oth,0,0,[],ns⟩) (f:=FT) cxOk rfl qih qji ki ki ki ki hC.wt hC.bk (af _) (show CVc W0 T' W 0 (.sl 0 34 128) (ng (I ⟨bb,off+n*6,V⟩) 0 (c-n)) from HCZ.out.mono hC.hi.ext (af _)) (by rw[hcs,hf6.out];have:=HP.out;omega) ?_;intro cur' W' h1 h2 h3 h4 h5 h6 h7 h8 h9;obtain⟨b1,b2⟩:=hC.put (T1:=T) (w1:=w) h1 h6 h7 h8 h9 h5;exact⟨T',⟨cur',b1,h2.trans hcs,(λh=>by simp at h),λ_=>λq=>(h4 q (by rw[hf6.out];omega)).trans (by rw[hc0 hLi])⟩,HPS 7 (v:=U O ((0:Nat):Int)) (λ_ _ h=>qbx h) trivial⟩
        .intro L vals W zl hS;obtain⟨T',⟨cur,hC,hcs,hc0,hc1⟩,qi⟩:=hS;have hv0:vals 0=_:=qi 0 kg (zl 0 kg);have hv1:vals 1=_:=qi 1 kg (zl 1 kg);have hv2:vals 2=_:=qi 2 kg (zl 2 kg);have hv3:vals 3=_:=qi 3 kg (zl 3 kg);have hv4:vals 4=_:=qi 4 kg (zl 4 kg);have hv5:vals 5=_:=qi 5 kg (zl 5 kg);have hv6:vals 6=_:=qi 6 kg (zl 6 kg);have hr:=hc1 (zl 7 kg)
         have hrow:∀i,i<n+1->∃rs:Array ny,(∀o,o<6->cur[i*6+o]? = rs[o]?)/\TyValc W0 T' W 0 (.agg FT) (.agg rs)/\qew rs:=λi hi=>by
          rcases pf i n with hij|hij|hij
          .obtain⟨xs,hx,hxr⟩:=qvz HW.out HV.out (j:=i) (by have:=HP.out;omega);obtain⟨_,_,-,-,-,-,-,hty⟩:=id hx;refine⟨xs,λo ho=>?_,zx hC.hi.ext hty,hxr⟩;rw[hr,HQ2.out,if_neg kg];exact HR1.out i xs hij hx o ho
          .subst hij;refine⟨qqj s0 s1 s2 n3 n4 n5,λo ho=>?_,zx hC.hi.ext HT.out,s1,n4,rfl,HQ.out.2.1,rfl,HQ.out.2.2.2.2.2.1,HQ.out.2.2.2.2.2.2.1⟩;rw[hr,HQ2.out,if_pos kg,dm,ax]
          .exact absurd hi kg
         obtain⟨k1,k2,k3⟩:=qv6 hC.wt (cy hW5.out.2 hW5.out.1) hC.bk hcs (by have:=qlu.out;omega) hrow 0;have HX:Hid (qrw W0 T w (np (nq #[ng (I ⟨g8,0,V⟩) (n+1) (n+1),zI])) W):=aa ⟨_,I ⟨g8,0,V⟩,n+1,n+1,0,rfl,k1,⟨hC.hi.ext.trans k2,λb hb=>hb.elim (hC.hi.new b) (λe=>.inr (by rw[e];exact hW5.out.1)),hC.hi.size,hC.hi.os,hC.hi.tape,hC.hi.output,hC.hi.keep,λh=>(Lv.nb h).elim⟩,k3,kj,kj⟩;clear hr hrow k1 k2 k3 hC hcs hc0 hc1 qi zl;simp only[qx.puts,qx.zi,ay,dc,if_true,cq,df,hv0,hv1,hv2,hv3,hv4,hv5,hv6];clear hv0 hv1 hv2 hv3 hv4 hv5 hv6;simp[ez];go_wp2_with fail;refine du (pk rfl _ _ _) rfl ?_;exact HX.out
  .obtain⟨j,rfl⟩:∃j:Nat,ix=j:=⟨ix.toNat,kg⟩;have hjn:j<n:=by have:=HIX.out.2;omega
   have hge:(0:Int)<=(j:Int):=kg;have hji:(j:Int)<(n:Int):=kg;have HJ:=aa hjn;have hW3:Hid (w.heap.size<=w3.heap.size/\W0.heap.size<=w.heap.size):=aa ⟨HH3.out.size,HW.out.size⟩;have hnLM:Hid (n<=LM):=aa (cy HN.out kj);have hgl:Hid (g<w3.heap.size):=aa HK3.out.bk.lt;go_wp2_with (at_make;refine qq4 (cx:=cx) (e:=34) (d:=(yx cx 34).getD ⟨.oth,0,0,[],ns⟩) (f:=FT) rfl 29 (.tmp 25) (.tmp 25) rfl cxOk ki ki ki ki ko n n rfl rfl (af _) hnLM.out ?_);intro cur0 hz0;have hs0:cur0.size=n*6:=by obtain⟨z,hz1,rfl⟩:=hz0;rw[size_madeCells];rfl
   have HC0:Hid (qzv cx W0 T w w3.heap.size 34 T3 (w3.alloc (.cells cur0 34)) cur0):=aa ⟨(zh HW3.out (zy w3 _)).1,HH3.out.trans (zk HW3.out (zy w3 _)),λh=>by have:=HW3.out.lt h;omega,mg.new w3 34 cur0,hW3.out.1,hW3.out.2⟩;have HX0:=aa ((HH3.out.trans (zk (PU:=nr) HW3.out (zy w3 (.cells cur0 34)))));have HK0:=aa (HK3.out.call (zk (PU:=nr) HW3.out (zy w3 (.cells cur0 34))));have HS0:=aa hs0;clear hz0 hs0;generalize w3.alloc (.cells cur0 34)=wa at *;generalize w3.heap.size=g8 at *;go_wp2_with (refine qdc (cx:=cx) rfl 27 28 29 34 rfl cxOk (d:=(yx cx 34).getD ⟨.oth,0,0,[],ns⟩) (f:=FT) (g:=g8) (p:=0) (cur:=cur0) rfl rfl ki ki ki ki HC0.out.wt HC0.out.bk (af _) ((HV.out.mono HX0.out.ext (af _)).qxy) (by rw[HS0.out,bu];exact af _) ?_);intro cur1 wb hb1 hs1 hr1 ho1 hk1 hz1 hos hta hou;have HC1:=aa (HC0.out.put (T1:=T) (w1:=w) hb1 hz1 hos hta hou hk1).1;have HK1:Hid (yh T3 wb g 34 (qqj s0 s1 s2 n3 n4 n5)):=aa ⟨HK0.out.nt,(hk1 g (by have:=hgl.out;omega)).trans HK0.out.bk⟩
   have HR1:Hid (∀i xs,i<n->zo cx W0 T3 wa FT A i xs->∀o,o<6->cur1[i*6+o]? = xs[o]?):=aa (λi xs hi hx o ho=>by
    have hf6:FT.length=6:=ki;have:=hr1 i xs hi hx o (by rw[hf6];exact ho);rw[hf6] at this
    first|exact this|(rw[bu] at this;exact this))
   have HS1:Hid (cur1.size=n*6):=aa (hs1.trans HS0.out);have HTH:Hid (wb.there g8 (j*6) (qqj s0 s1 s2 n3 n4 n5).size):=aa (qkw HC1.out.bk (by rw[HS1.out];show j*6+6<=n*6;have:=HJ.out;omega));have HTI:Hid ((qqj s0 s1 s2 n3 n4 n5).all (·.oneCell')=nr):=aa (xx HT.out);clear hb1 hs1 hr1 ho1 hk1 hz1 hos hta hou;go_wp2_with (first|(refine bp rfl 34 (.tmp 3) rfl g rfl 34 (qqj s0 s1 s2 n3 n4 n5) (0,0) _ HK1.out.bk gj rfl HS.out ?_)|(refine jj rfl 34 (.tmp 33) (.tmp 32) rfl g8 (j*6) (qqj s0 s1 s2 n3 n4 n5) rfl rfl HTH.out HS.out HTI.out ?_));refine du (pk rfl _ _ _) rfl ?_;obtain⟨cur2,b1,-,hs2,hq2⟩:=HC1.out.sets (o:=j*6) (rs:=(qqj s0 s1 s2 n3 n4 n5).toList) (by rw[HS1.out];show j*6+6<=n*6;have:=HJ.out;omega)
   have hrow:∀i,i<n->∃rs:Array ny,(∀o,o<6->cur2[i*6+o]? = rs[o]?)/\TyValc W0 T3 _ 0 (.agg FT) (.agg rs)/\qew rs:=λi hi=>by
    by_cases hij:i=j
    .subst hij;refine⟨qqj s0 s1 s2 n3 n4 n5,λo ho=>?_,zx b1.hi.ext HT.out,s1,n4,rfl,HQ.out.2.1,rfl,HQ.out.2.2.2.2.2.1,HQ.out.2.2.2.2.2.2.1⟩;rw[hq2,if_pos (by show i*6<=i*6+o/\i*6+o<i*6+6;omega),dm,ax]
    .obtain⟨xs,hx,hxr⟩:=qvz HW.out HV.out hi;have hx2:=hx.hist HX0.out;obtain⟨b,off,-,-,-,-,-,hty⟩:=id hx;refine⟨xs,λo ho=>?_,zx b1.hi.ext hty,hxr⟩;rw[hq2,if_neg (by show ¬(j*6<=i*6+o/\i*6+o<j*6+6);omega)];exact HR1.out i xs hi hx2 o ho
   obtain⟨k1,k2,k3⟩:=qv6 b1.wt (cy hW3.out.2 hW3.out.1) b1.bk (hs2.trans HS1.out) HN.out hrow 0;exact⟨_,I ⟨g8,0,V⟩,n,n,0,rfl,k1,⟨b1.hi.ext.trans k2,λb hb=>hb.elim (b1.hi.new b) (λe=>.inr (by rw[e];exact hW3.out.1)),b1.hi.size,b1.hi.os,b1.hi.tape,b1.hi.output,b1.hi.keep,λh=>(Lv.nb h).elim⟩,k3,kj,kj⟩
 .have hkb:(k != 0)=nr:=by simpa using hkz
  have hkc:(k == 0)=ns:=by simpa using hkz
  go_wp2_with fail;refine du (pk rfl _ _ _) rfl ?_;have hh:=zk (PU:=nr) HW.out HB2.out;exact⟨T,A,n,c,k,rfl,(zh HW.out HB2.out).1,hh,qzt (HV.out.mono hh.ext (af _)) kj 0,hk0,hk25⟩
def c37':zu:=⟨[.one (.cs 1 34 128),.agg [.str mf,.str mf,.str mf,qy O,qy O,qy O]],[],[.one (.cs 1 34 128),.one (qy O)],[],nr,V⟩
theorem put_holds(qkr:qm ab cx W0 76 qto)(qji:qm ab cx W0 77 c77):qm ab cx W0 37 c37':=by
 refine⟨⟨_,aee,ki,ki⟩,λT w args hw hty _=>?_⟩;have hlen:=uk hty
 obtain⟨v,x,e⟩:∃v x,args=#[v,x]:=by
  obtain⟨l⟩:=args;rcases l with _|⟨a,_|⟨b,_|⟨c,l⟩⟩⟩<;>first|(simp[c37'] at hlen;done)|exact⟨_,_,rfl⟩
 subst e;obtain⟨hv,⟨ts,rfl,hsz,hc⟩,-⟩:=hty
 obtain⟨u0,u1,u2,u3,u4,u5,rfl⟩:∃u0 u1 u2 u3 u4 u5,ts=#[u0,u1,u2,u3,u4,u5]:=by
  obtain⟨l⟩:=ts;rcases l with _|⟨a,_|⟨b,_|⟨c,_|⟨d,_|⟨e,_|⟨f,_|⟨g,l⟩⟩⟩⟩⟩⟩⟩<;>first|(simp at hsz;done)|exact⟨_,_,_,_,_,_,rfl⟩
 obtain⟨s0,rfl,z0⟩:=hc 0 _ _ rfl rfl;obtain⟨s1,rfl,z1⟩:=hc 1 _ _ rfl rfl;obtain⟨s2,rfl,z2⟩:=hc 2 _ _ rfl rfl;obtain⟨n3,rfl,a3⟩:=hc 3 _ _ rfl rfl;obtain⟨n4,rfl,a4⟩:=hc 4 _ _ rfl rfl;obtain⟨n5,rfl,a5⟩:=hc 5 _ _ rfl rfl;have hft:FT=[.fz .str,.fz .str,.fz .str,.fz (.int O),.fz (.int O),.fz (.int O)]:=ki
 have ht:TyValc W0 T w 0 (.agg FT) (.agg (qqj s0 s1 s2 n3 n4 n5)):=by
  rw[hft];refine⟨_,rfl,rfl,λi ct u hi hu=>?_⟩;have hi6:i<6:=(List.getElem?_eq_some_iff.1 hi).1;have:i=0\/i=1\/i=2\/i=3\/i=4\/i=5:=kg;rcases this with rfl|rfl|rfl|rfl|rfl|rfl<;>(cases hi;cases hu)
  .exact⟨s0,rfl,z0⟩
  .exact⟨s1,rfl,z1⟩
  .exact⟨s2,rfl,z2⟩
  .exact⟨n3,rfl,a3⟩
  .exact⟨n4,rfl,a4⟩
  .exact⟨n5,rfl,a5⟩
 have hv':CVc W0 T w w.heap.size (.cs 1 34 128) v:=hv
 obtain⟨A,n,c,rfl⟩:∃A n c,v=ng A n c:=by
  rcases hv' with h|⟨b,off,n,c,cs,fr,h,-⟩
  .exact⟨_,_,_,h⟩
  .exact⟨_,_,_,h⟩
 refine(put_walk qkr qji hw hv' s0 s1 s2 n3 n4 n5 ht z0 z1 z2).mono ?_;rintro e w' ⟨T',B,m,c',k,rfl,h1,h2,h3,h4,h5⟩;exact⟨_,[ng B m c',U O k],T',rfl,rfl,⟨(show CVc W0 T' w' w.heap.size (.cs 1 34 128) (ng B m c') from h3),⟨k,rfl,by show(-9223372036854775808:Int)<=k;omega,by show k<=(9223372036854775807:Int);omega⟩,trivial⟩,(λl hl=>by cases hl),(λe he=>by cases he),h2,h1⟩
end
open Go.RowKit Go.Great
section
variable {W0:nu}{T T':Nat->Prop}{w w':nu}{base:Nat}
def StP(e:Ending):Prop:=∃k:Int,e=np (U O k)/\1<=k/\k<=3
theorem q7d(s0 s1 s2:ByteArray)(n3 n4 n5 now:Int)(h1:1<=n4)(h3:n4<=3)(w:nu):Calls ab 167 #[.agg (qqj s0 s1 s2 n3 n4 n5),U O now] w λe w'=>StP e/\Hid (Below w.heap.size w w'):=by
 have HB:=aa (zy w (.cells (qqj s0 s1 s2 n3 n4 n5) 34));have HK:=aa (mg.new w 34 (qqj s0 s1 s2 n3 n4 n5));have H1:=aa (And.intro h1 h3);clear h1 h3;go_enter Tryz.func167,Tryz.ntmps167;go_upto_region 1 with(fail);have k4:=qzn HK.out (k:=4) (v:=U O n4) rfl;have k5:=qzn HK.out (k:=5) (v:=U O n5) rfl;generalize w.alloc (.cells (qqj s0 s1 s2 n3 n4 n5) 34)=w1 at *;by_cases a:n4=1
 .subst a;by_cases b:n5=-1
  .subst b;go_wp2_with fail
   all_goals(go_ret;exact⟨⟨_,rfl,kj,kj⟩,HB⟩)
  .have b1:(n5 != -1)=nr:=by simpa using b
   have b2:(n5 == -1)=ns:=by simpa using b
   by_cases c:n5<=now
   .go_wp2_with fail
    all_goals(go_ret;exact⟨⟨_,rfl,kj,kj⟩,HB⟩)
   .go_wp2_with fail
    all_goals(go_ret;exact⟨⟨_,rfl,kj,kj⟩,HB⟩)
 .have a1:(n4 == 1)=ns:=by simpa using a
  go_wp2_with fail
  all_goals(go_ret;exact⟨⟨_,rfl,H1.out.1,H1.out.2⟩,HB⟩)
def FdP(W0:nu)(T:Nat->Prop)(w:nu)(E:Ending)(w':nu):Prop:=∃(T':Nat->Prop) (xs:Array ny) (ok:Bool),E=np (nq #[.agg xs,ni ok])/\WTc W0 T' w'/\zg T w nr T' w'/\xs.size=6/\xs.all (·.oneCell')=nr/\(ok=nr->TyValc W0 T' w' 0 (.agg FT) (.agg xs)/\qew xs)
theorem find_(qkr:qm ab cx W0 76 qto)(hw:WTc W0 T w)(hv:CVc W0 T w base (.cs 1 34 128) (ng A n c))(s:ByteArray)(hs:s.size<=mf) :
  Calls ab 166 #[ng A n c,nh s] w (FdP W0 T w):=by
 have HB:=aa (zy w (.cells (zG:Array ny) 34));have HK:=aa (mg.new w 34 zG);have HW:=aa hw;have HV:=aa hv;clear hw hv;go_enter Tryz.func166,Tryz.ntmps166;go_upto_region 1 with(fail);generalize w.alloc (.cells zG 34)=w1 at *;generalize hg:w.heap.size=g at HK ⊢;go_wp2_with fail;have hh1:=zk (PU:=nr) HW.out HB.out;refine(qkr.2 T w1 #[ng A n c,nh s] (zh HW.out HB.out).1 ⟨qzt ((HV.out.mono hh1.ext (af _)).qxy) kj _,⟨s,rfl,hs⟩,trivial⟩ (λl hl=>by cases hl)).mono ?_;rintro e w3 ⟨v,vs,T3,rfl,hr,hty,hpost,-,hh3,hw3⟩;have hr:vs=[v]:=hr;subst hr;obtain⟨⟨ix,rfl,ix1,ix2⟩,-⟩:=hty;have hp1:=hpost _ (ff ..);have hp2:=hpost _ (js _ (ff ..))
 have hix:-1<=ix/\ix<n:=by
  have q1:(0:Int)<=1+(1*ix+0):=hp1;have q2:(0:Int)<=-1+(1*(n:Int)+(-1*ix+0)):=hp2;omega
 have HH3:=aa (hh1.trans hh3);have HW3:=aa hw3;have HK3:=aa ((⟨λh=>by have:=HW.out.lt h;omega,HK.out⟩:yh T w1 g 34 zG).call hh3);have HIX:=aa hix;have HG:Hid (W0.heap.size<=g/\w.heap.size<=g):=aa (by have:=HW.out.size;omega);clear hpost hp1 hp2 hh1 hh3 hw3 HB HK ix1 ix2 hix;by_cases hneg:ix<0
 .have hngb:¬(0:Int)<=ix:=kg;have HSZ:Hid ((ab.info? 34).map (·.size)=I (zG:Array ny).size):=aa ki;have HX:=aa (qx8 zG HW3.out HK3.out HG.out.1 HH3.out HG.out.2);go_wp2_with (refine br rfl 34 (.tmp 4) (.tmp 16) rfl rfl g zG rfl rfl 34 _ HK3.out.bk ki rfl ki ?_);refine du (qze rfl _ _ g 34 zG (0,0) _ rfl HX.out.2.2.2.2 gj rfl ki) rfl ?_;exact⟨T3,_,ns,rfl,HX.out.1,HX.out.2.2.1,rfl,ki,λh=>by cases h⟩
 .obtain⟨j,rfl⟩:∃j:Nat,ix=j:=⟨ix.toNat,kg⟩;have hjn:j<n:=by have:=HIX.out.2;omega
  obtain⟨xs,hx,hxr⟩:=qvz HW.out HV.out hjn;have hx3:=hx.hist HH3.out;obtain⟨bb,off,rfl,-,-,hxs,-,hxt⟩:=id hx3;have HXS:Hid ((ab.info? 34).map (·.size)=I xs.toList.length):=aa (by rw[Array.length_toList,hxs];kernel_rfl);have HXQ:Hid ((zG:Array ny).size=xs.size):=aa (by rw[hxs];kernel_rfl);have HXO:=aa (xx hxt);have HXR:Hid (w3.rangeAt bb (off+j*6) xs.toList):=aa (hx.range HH3.out.qbv);have HXT:=aa hxt;have HTR:=aa hxr;have HS6:Hid (xs.size=6):=aa (hxs.trans ki);have hge:(0:Int)<=(j:Int):=kg;have hji:(j:Int)<(n:Int):=kg;have HX:=aa (qx8 xs HW3.out HK3.out HG.out.1 HH3.out HG.out.2);clear hx hx3 hxr hxs hxt hjn hneg;go_wp2_with (first|(refine wpList_load_mid rfl 34 (.tmp 14) rfl bb (off+j*6) rfl xs.toList _ HXR.out gj rfl HXS.out ?_)|(refine br rfl 34 (.tmp 4) (.tmp 15) rfl rfl g xs rfl rfl 34 _ HK3.out.bk HXS.out HXQ.out HXO.out ?_));refine du (qze rfl _ _ g 34 xs (0,0) _ rfl HX.out.2.2.2.2 gj rfl HXS.out) rfl ?_;exact⟨T3,xs,nr,rfl,HX.out.1,HX.out.2.2.1,HS6.out,HXO.out,λ_=>⟨zx HX.out.2.1 HXT.out,HTR.out⟩⟩
end
open Go.RowKit Go.Great
section
variable {W0:nu}{T T':Nat->Prop}{w w':nu}{base:Nat}
theorem tka_of{xs:Array ny}{W:nu}(h:TyValc W0 T W 0 (.agg FT) (.agg xs)):∃s0 s1 s2 n3 n4 n5,xs=qqj s0 s1 s2 n3 n4 n5/\s0.size<=mf/\s1.size<=mf/\s2.size<=mf:=by
 have hft:FT=[.fz .str,.fz .str,.fz .str,.fz (.int O),.fz (.int O),.fz (.int O)]:=ki;rw[hft] at h;obtain⟨ts,e,hsz,hc⟩:=h;cases e
 obtain⟨u0,u1,u2,u3,u4,u5,rfl⟩:∃u0 u1 u2 u3 u4 u5,xs=#[u0,u1,u2,u3,u4,u5]:=by
  obtain⟨l⟩:=xs;rcases l with _|⟨a,_|⟨b,_|⟨c,_|⟨d,_|⟨e,_|⟨f,_|⟨g,l⟩⟩⟩⟩⟩⟩⟩<;>first|(simp at hsz;done)|exact⟨_,_,_,_,_,_,rfl⟩
 obtain⟨s0,rfl,z0⟩:=hc 0 _ _ rfl rfl;obtain⟨s1,rfl,z1⟩:=hc 1 _ _ rfl rfl;obtain⟨s2,rfl,z2⟩:=hc 2 _ _ rfl rfl;obtain⟨n3,rfl,a3⟩:=hc 3 _ _ rfl rfl;obtain⟨n4,rfl,a4⟩:=hc 4 _ _ rfl rfl;obtain⟨n5,rfl,a5⟩:=hc 5 _ _ rfl rfl;exact⟨s0,s1,s2,n3,n4,n5,rfl,z0,z1,z2⟩
def R64b(n:Int):Prop:=-9223372036854775808<=n/\n<=9223372036854775807
def DcP(W0:nu)(T:Nat->Prop)(w:nu)(E:Ending)(w':nu):Prop:=∃(T':Nat->Prop) (st so:Int) (grp:ByteArray) (ok:Bool),E=np (nq #[.agg #[U O st,U O so,nh grp],ni ok])/\WTc W0 T' w'/\zg T w nr T' w'/\grp.size<=mf/\0<=st/\st<=6/\R64b so/\Sq grp
def qvh(W0:nu)(T:Nat->Prop)(w:nu)(g3 g6 g8:Nat)(v0 v1 v2 v3:ny)(id0:ByteArray)(now src:Int)(s0 s1 s2:ByteArray)(n3 n4 n5:Int)(k:Nat)(v:ny)(T':Nat->Prop)(W:nu):Prop:=match k with
 | 0=>v=.agg (qqj s0 s1 s2 n3 n4 n5)
 | 1=>v=.pointer (I ⟨g3,5,V⟩)
 | 2=>v=.int O now
 | 3=>∃k:Int,v=.int O k/\1<=k/\k<=3
 | 4=>v=.int O src
 | 5=>v=.pointer (I ⟨g8,1,V⟩)
 | 6=>v=.string s1
 | 7=>∃k:Int,v=.agg #[.int O k,.int O src,.string s1]/\1<=k/\k<=3
 | 9=>v=.bool nr
 | _=>True
def qrd(W0:nu)(T:Nat->Prop)(w:nu)(g3 g6 g8:Nat)(v0 v1 v2 v3:ny)(id0:ByteArray)(now src:Int)(s0 s1 s2:ByteArray)(n3 n4 n5:Int)(L:Nat->Bool)(vals:Nat->ny)(W:nu):Prop:=∃(T':Nat->Prop),(∃cur:Array ny,qzv cx W0 T w g6 200 T' W cur/\yh T' W g3 219 #[v0,v1,v2,v3,nh id0,U O now]/\yh T' W g8 34 (qqj s0 s1 s2 n3 n4 n5)/\cur.size=3/\(L 8=nr->∃k:Int,cur=#[U O k,U O src,nh s1]/\1<=k/\k<=3))/\∀k,k<10->L k=nr->qvh W0 T w g3 g6 g8 v0 v1 v2 v3 id0 now src s0 s1 s2 n3 n4 n5 k (vals k) T' W
theorem qmq{g3 g6:Nat}{v0 v1 v2 v3:ny}{id0:ByteArray}{now src:Int}{s2:ByteArray}{n3 n4 n5:Int}(h:qvh W0 T w g3 g6 g8 v0 v1 v2 v3 id0 now src s0 s1 s2 n3 n4 n5 k v T1 w1):qvh W0 T w g3 g6 g8 v0 v1 v2 v3 id0 now src s0 s1 s2 n3 n4 n5 k v T2 w2:=h
theorem in_(qkr:qm ab cx W0 76 qto)(hw:WTc W0 T w)(hv:CVc W0 T w base (.cs 1 34 128) (ng A n c))(v0 v1 v2 v3:ny)(id0:ByteArray)(now src:Int)(hone:(#[v0,v1,v2,v3,nh id0,U O now]:Array ny).all (·.oneCell')=nr)(hs:id0.size<=mf)(hsrc:R64b src) :
  Calls ab 147 #[.agg #[v0,v1,v2,v3,nh id0,U O now],ng A n c,U O src] w (DcP W0 T w):=by
 have HB:=aa (qp (zy w (.cells #[v0,v1,v2,v3,nh id0,U O now] 219)) (.cells zK 200));have HK3:Hid (mg ((w.alloc (.cells #[v0,v1,v2,v3,nh id0,U O now] 219)).alloc (.cells zK 200)) w.heap.size 219 #[v0,v1,v2,v3,nh id0,U O now]):=aa ((mg.new w 219 #[v0,v1,v2,v3,nh id0,U O now]).alloc _)
 have HK6:Hid (mg ((w.alloc (.cells #[v0,v1,v2,v3,nh id0,U O now] 219)).alloc (.cells zK 200)) (w.heap.size+1) 200 zK):=aa (by
  have:=mg.new (w.alloc (.cells #[v0,v1,v2,v3,nh id0,U O now] 219)) 200 zK
  rwa [show(w.alloc (.cells #[v0,v1,v2,v3,nh id0,U O now] 219)).heap.size=w.heap.size+1 by simp] at this)
 have HW:=aa hw;have HV:=aa hv;have qaf:=aa hsrc;clear hw hv hsrc;go_enter adg,Tryz.ntmps147;go_upto_region 1 with(fail);clear hone;have k4:=qzn HK3.out (k:=4) (v:=nh id0) rfl;generalize (w.alloc (.cells #[v0,v1,v2,v3,nh id0,U O now] 219)).alloc (.cells zK 200)=w1 at *;go_wp2_with fail;have hh1:=zk (PU:=nr) HW.out HB.out;refine(find_ qkr (zh HW.out HB.out).1 (HV.out.mono hh1.ext (af _)) id0 hs).mono ?_;rintro e w3 ⟨T3,xs,ok,rfl,hw3,hh3,hx6,hxo,hok⟩;have HH3:=aa (hh1.trans hh3);have HW3:=aa hw3;have hnT:∀g,w.heap.size<=g->¬T g:=λg hg h=>by have:=HW.out.lt h;omega
 have HZ3:=aa ((⟨hnT _ (af _),HK3.out⟩:yh T w1 w.heap.size 219 #[v0,v1,v2,v3,nh id0,U O now]).call hh3);have HZ6:=aa ((⟨hnT _ kg,HK6.out⟩:yh T w1 (w.heap.size+1) 200 zK).call hh3);have HXS:Hid ((ab.info? 34).map (·.size)=I xs.size):=aa (by rw[hx6];kernel_rfl);have HXQ:Hid ((zG:Array ny).size=xs.size):=aa hx6.symm;have HXO:=aa hxo;have HZT:=aa (mg.new w3 34 zG);have HOK:=aa hok;have HL:=aa HW.out.size;have HL3:Hid (w.heap.size+1<w3.heap.size):=aa HZ6.out.bk.lt;clear hh1 hh3 hw3 hnT hx6 hxo hok k4 HB HK3 HK6;go_upto_region 2 with(refine br rfl 34 (.tmp 8) (.tmp 15) rfl rfl w3.heap.size xs rfl rfl 34 zG HZT.out HXS.out HXQ.out HXO.out ?_);rw[World.setRow_alloc_new];have HB4:=aa (zy w3 (.cells xs 34));have HW4:=aa (zh HW3.out HB4.out);have HH4:=aa (zk (PU:=nr) HW3.out HB4.out);have HY3:=aa (HZ3.out.call HH4.out);have HY6:=aa (HZ6.out.call HH4.out);have HY8:Hid (yh T3 (w3.alloc (.cells xs 34)) w3.heap.size 34 xs):=aa ⟨λh=>by have:=HW3.out.lt h;omega,mg.new w3 34 xs⟩;have HHA:=aa (HH3.out.trans HH4.out);clear HZT HB4 HZ3 HZ6;generalize w3.alloc (.cells xs 34)=w4 at *;generalize w3.heap.size=g8 at *;cases ok with
 | false=>
   have HX:=aa (qx8 zK HW4.out.1 HY6.out (by have:=HL.out;omega) HHA.out kg);have HSD:Hid ((ab.info? 200).map (·.size)=I (zK:Array ny).size):=aa ki;go_wp2_with (refine br rfl 200 (.tmp 6) (.tmp 19) rfl rfl (w.heap.size+1) zK rfl rfl 200 _ HY6.out.bk ki rfl ki ?_);refine du (qze rfl _ _ (w.heap.size+1) 200 zK (0,0) _ rfl HX.out.2.2.2.2 aam rfl ki) rfl ?_;exact⟨T3,0,0,⟨#[]⟩,ns,rfl,HX.out.1,HX.out.2.2.1,kj,kj,kj,⟨kj,kj⟩,Sq.nil rfl⟩
 | true=>
   obtain⟨hxt,sg,st,q1,q2,q3,q4,q5⟩:=HOK.out rfl;obtain⟨s0,s1,s2,n3,n4,n5,rfl,z0,z1,z2⟩:=tka_of hxt;have e1:sg=s1:=by cases q1;rfl
   have e2:st=n4:=by cases q3;rfl
   rw[e1] at q2;rw[e2] at q4 q5;clear q1 q3 e1 e2;have HG:=aa q2;have HST:=aa (And.intro q4 q5);have HZ1:=aa z1;have HC6:Hid (qzv cx W0 T w (w.heap.size+1) 200 T3 w4 zK):=aa ⟨HW4.out.1,HHA.out,HY6.out.nt,HY6.out.bk,kg,HL.out⟩;have HN3:Hid (w.heap.size≠w.heap.size+1):=aa kg;have HN8:Hid (g8≠w.heap.size+1):=aa (by have:=HL3.out;omega);clear q2 q4 q5 z0 z1 z2 hxt HOK;go_upto_region 4 with(fail);generalize hg6:w.heap.size+1=g6 at *;generalize hg3:w.heap.size=g3 at HY3 HN3 ⊢;refine Reg9D.region 10 (qrd W0 T w g3 g6 g8 v0 v1 v2 v3 id0 now src s0 s1 s2 n3 n4 n5) mixed ki (qx.qqq (n:=28) ki rfl) ?_ ?_ ?_
   .exact⟨T3,⟨_,HC6.out.drew,⟨HY3.out.nt,HY3.out.bk⟩,⟨HY8.out.nt,HY8.out.bk⟩,rfl,λh=>by cases h⟩,λk _ h=>by cases h⟩
   .intro idx o hj ho L vals a' W hLi hS hw' qh hdn;obtain⟨T',⟨cur,hC,hZ3,hZ8,hcs,hc1⟩,qi⟩:=hS;have HPS:=λ(i:Nat) {v:ny} {T2:Nat->Prop} {w2:nu} hm h=>yt (i:=i) (L:=L) (vals:=vals) (v:=v) (Ψ:=λk v=>qvh W0 T w g3 g6 g8 v0 v1 v2 v3 id0 now src s0 s1 s2 n3 n4 n5 k v T' W) (Ψ':=λk v=>qvh W0 T w g3 g6 g8 v0 v1 v2 v3 id0 now src s0 s1 s2 n3 n4 n5 k v T2 w2) qi hm h
    have HQ:=λ(i:Nat) {v:ny} h=>yt (i:=i) (L:=L) (vals:=vals) (v:=v) (Ψ:=λk v=>qvh W0 T w g3 g6 g8 v0 v1 v2 v3 id0 now src s0 s1 s2 n3 n4 n5 k v T' W) (Ψ':=λk v=>qvh W0 T w g3 g6 g8 v0 v1 v2 v3 id0 now src s0 s1 s2 n3 n4 n5 k v T' W) qi (λ_ _ h=>h) h
    have hj':idx=0\/idx=1\/idx=2\/idx=3\/idx=4\/idx=5\/idx=6\/idx=7\/idx=8\/idx=9:=kg;clear hj;rcases hj' with rfl|rfl|rfl|rfl|rfl|rfl|rfl|rfl|rfl|rfl
    .cases oi ho;have h8:=qx.gdt (qh 8 nd);refine uw (qzm rfl h8 hZ8.bk gj rfl ki) ?_;exact⟨T',⟨cur,hC,hZ3,hZ8,hcs,hc1⟩,HPS 0 (v:=.agg (qqj s0 s1 s2 n3 n4 n5)) (λ_ _ h=>h) rfl⟩
    .cases oi ho;have h3:=qx.gdt (qh 3 nd);refine qx.qc.eq ?_ ⟨T',⟨cur,hC,hZ3,hZ8,hcs,hc1⟩,HQ 1 rfl⟩;go_simp
     all_goals(try exact⟨rfl,rfl⟩)
    .cases oi ho;have qcd:=qx.gpk (qh 21 nd) (qi 1 kg);have kc:=qzn hZ3.bk (k:=5) (v:=U O now) rfl;refine qx.qc.eq ?_ ⟨T',⟨cur,hC,hZ3,hZ8,hcs,hc1⟩,HQ 2 rfl⟩;go_simp
     all_goals(try exact⟨rfl,rfl⟩)
    .cases oi ho;have qko:=qx.gpk (qh 20 nd) (qi 0 kg);have qmm:=qx.gpk (qh 22 nd) (qi 2 kg);refine qx.qc.mono (R:=λv W'=>Below W.heap.size W W'/\qvh W0 T w g3 g6 g8 v0 v1 v2 v3 id0 now src s0 s1 s2 n3 n4 n5 3 v T' W') ?_ (λv W' h=>?_)
     .go_simp;refine(q7d s0 s1 s2 n3 n4 n5 now HST.out.1 HST.out.2 W).mono ?_;rintro e w5 ⟨⟨k,rfl,a1,a2⟩,hb⟩;exact⟨_,rfl,hb.out,k,rfl,a1,a2⟩
     .obtain⟨hb,hp⟩:=h;have hh:=zk (PU:=nr) hC.wt hb;exact⟨T',⟨cur,hC.call (zh hC.wt hb).1 hh,hZ3.call hh,hZ8.call hh,hcs,hc1⟩,HPS 3 (λ_ _ h=>qmq h) hp⟩
    .cases oi ho;have h2:=qx.gdt (qh 2 nd);refine qx.qc.eq ?_ ⟨T',⟨cur,hC,hZ3,hZ8,hcs,hc1⟩,HQ 4 rfl⟩;go_simp
     all_goals(try exact⟨rfl,rfl⟩)
    .cases oi ho;have h8:=qx.gdt (qh 8 nd);refine qx.qc.eq ?_ ⟨T',⟨cur,hC,hZ3,hZ8,hcs,hc1⟩,HQ 5 rfl⟩;go_simp
     all_goals(try exact⟨rfl,rfl⟩)
    .cases oi ho;have q3r:=qx.gpk (qh 25 nd) (qi 5 kg);have kc:=qzn hZ8.bk (k:=1) (v:=nh s1) rfl;refine qx.qc.eq ?_ ⟨T',⟨cur,hC,hZ3,hZ8,hcs,hc1⟩,HQ 6 rfl⟩;go_simp
     all_goals(try exact⟨rfl,rfl⟩)
    .cases oi ho;obtain⟨lo23,eo23⟩:=qh 23 nd;have p23:=qi 3 kg lo23;have qts:=qx.gpk (qh 24 nd) (qi 4 kg);have qmh:=qx.gpk (qh 26 nd) (qi 6 kg);obtain⟨k,hk,a1,a2⟩:=p23;have qrg:a'.tmps[23]?.getD mc=.int O k:=gdq (eo23.trans hk);clear eo23;refine qx.qc.mono (R:=λv W'=>(v=.agg #[U O k,U O src,nh s1])/\W'=W) ?_ (λv W' h=>?_)
     .go_simp
      all_goals(first|exact⟨rfl,rfl⟩|skip)
     .obtain⟨hv,rfl⟩:=h;exact⟨T',⟨cur,hC,hZ3,hZ8,hcs,hc1⟩,yt (i:=7) (L:=L) (vals:=vals) (v:=v) (Ψ:=λk v=>qvh W0 T w g3 g6 g8 v0 v1 v2 v3 id0 now src s0 s1 s2 n3 n4 n5 k v T' W') (Ψ':=λk v=>qvh W0 T w g3 g6 g8 v0 v1 v2 v3 id0 now src s0 s1 s2 n3 n4 n5 k v T' W') qi (λ_ _ h=>h) ⟨k,hv,a1,a2⟩⟩
    .cases oi ho;have h6:=qx.gdt (qh 6 nd);obtain⟨lo27,eo27⟩:=qh 27 nd;have p27:=qi 7 kg lo27;obtain⟨k,hk,a1,a2⟩:=p27;have qmi:a'.tmps[27]?.getD mc=.agg #[U O k,U O src,nh s1]:=gdq (eo27.trans hk);clear eo27;obtain⟨b1,b2,x⟩:=hC.row #[U O k,U O src,nh s1];refine qzw rfl h6 qmi hC.bk ki hcs (by simp[Value.oneCell']) ?_;exact⟨T',⟨_,b1,hZ3.row _ HN3.out,hZ8.row _ HN8.out,rfl,λ_=>⟨k,rfl,a1,a2⟩⟩,HPS 8 (v:=mc) (λ_ _ h=>qmq h) trivial⟩
    .cases oi ho;refine qx.qc.eq ?_ ⟨T',⟨cur,hC,hZ3,hZ8,hcs,hc1⟩,HQ 9 rfl⟩;go_simp
     all_goals(try exact⟨rfl,rfl⟩)
   .intro L vals W zl hS;obtain⟨T',⟨cur,hC,hZ3,hZ8,hcs,hc1⟩,qi⟩:=hS;have hv0:vals 0=_:=qi 0 kg (zl 0 kg);have hv1:vals 1=_:=qi 1 kg (zl 1 kg);have hv2:vals 2=_:=qi 2 kg (zl 2 kg);have hv4:vals 4=_:=qi 4 kg (zl 4 kg);have hv5:vals 5=_:=qi 5 kg (zl 5 kg);have hv6:vals 6=_:=qi 6 kg (zl 6 kg);have hv9:vals 9=_:=qi 9 kg (zl 9 kg);have hp3:=aa (qi 3 kg (zl 3 kg));have hp7:=aa (qi 7 kg (zl 7 kg));obtain⟨k,rfl,a1,a2⟩:=hc1 (zl 8 kg);have HX:Hid (DcP W0 T w (np (nq #[.agg #[U O k,U O src,nh s1],ni nr])) W):=aa ⟨_,k,src,s1,nr,rfl,hC.wt,hC.hi,HZ1.out,kg,kg,qaf.out,HG.out⟩;have HCB:=aa hC;clear hC hZ3 hZ8 hcs hc1 qi zl a1 a2 hp3 hp7;simp only[qx.puts,qx.zi,ay,dc,if_true,cq,df,hv0,hv1,hv2,hv4,hv5,hv6,hv9];clear hv0 hv1 hv2 hv4 hv5 hv6 hv9;simp[ez];go_wp2_with fail;refine du (qze rfl _ _ g6 200 #[U O k,U O src,nh s1] (0,0) _ rfl HCB.out.bk aam rfl ki) rfl ?_;exact HX.out
def qwv:zu:=⟨[.agg [.cs 1 34 128,.cs 1 34 128,.cs 1 34 128,.sl 0 9 1048576,.str mf,qy O],.one (.cs 1 34 128),.one (qy O)],[],[.agg [.int O 0 6,qy O,.sq],.one .bool],[],.pure,V⟩
theorem q54(qkr:qm ab cx W0 76 qto):qm ab cx W0 147 qwv:=by
 refine⟨⟨_,adg,ki,ki⟩,λT w args hw hty hpre=>?_⟩;obtain⟨l⟩:=args;have hl:=uk hty
 obtain⟨q,v,x,rfl⟩:∃q v x,l=[q,v,x]:=by
  rcases l with _|⟨a,_|⟨b,_|⟨c,_|⟨d,l⟩⟩⟩⟩<;>first|(simp[qwv] at hl;done)|exact⟨_,_,_,rfl⟩
 obtain⟨⟨cs,rfl,hsz,hq⟩,hv,⟨src,rfl,s1,s2⟩,-⟩:=hty
 obtain⟨u0,u1,u2,u3,u4,u5,rfl⟩:∃u0 u1 u2 u3 u4 u5,cs=#[u0,u1,u2,u3,u4,u5]:=by
  obtain⟨l⟩:=cs;rcases l with _|⟨a,_|⟨b,_|⟨c,_|⟨d,_|⟨e,_|⟨f,_|⟨g,l⟩⟩⟩⟩⟩⟩⟩<;>first|(simp at hsz;done)|exact⟨_,_,_,_,_,_,rfl⟩
 have g0:u0.oneCell'=nr:=(hq 0 _ _ rfl rfl).one;have g1:u1.oneCell'=nr:=(hq 1 _ _ rfl rfl).one;have g2:u2.oneCell'=nr:=(hq 2 _ _ rfl rfl).one;have g3:u3.oneCell'=nr:=(hq 3 _ _ rfl rfl).one;obtain⟨id0,rfl,z4⟩:=hq 4 _ _ rfl rfl;obtain⟨now,rfl,-,-⟩:=hq 5 _ _ rfl rfl;have hv:CVc W0 T w w.heap.size (.cs 1 34 128) v:=hv
 obtain⟨A,n,c,rfl⟩:∃A n c,v=ng A n c:=by
  rcases hv with h|⟨b,off,n,c,cs,fr,h,-⟩<;>exact⟨_,_,_,h⟩
 refine(in_ qkr hw hv u0 u1 u2 u3 id0 now src (by rw[<-Array.all_toList];show([u0,u1,u2,u3,nh id0,U O now]:List ny).all (·.oneCell')=nr;simp only[List.all_cons,List.all_nil,g0,g1,g2,g3,Bool.and_true,Bool.true_and];rfl) z4 ⟨s1,s2⟩).mono ?_;rintro E w' ⟨T',st,so,grp,ok,rfl,h1,h2,h3,h4,h5,h6,h7⟩;refine⟨_,[.agg #[U O st,U O so,nh grp],ni ok],T',rfl,rfl,⟨⟨_,rfl,rfl,λi ct u hi hu=>?_⟩,⟨ok,rfl⟩,trivial⟩,(λl hl=>by cases hl),(λe he=>by cases he),h2,h1⟩
 match i,hi,hu with
 | 0,hi,hu=>cases hi;cases hu;exact⟨_,rfl,h4,h5⟩
 | 1,hi,hu=>cases hi;cases hu;exact⟨_,rfl,h6.1,h6.2⟩
 | 2,hi,hu=>cases hi;cases hu;exact⟨_,rfl,h3,h7⟩
end
open Go.RowKit Go.Great
section
variable {W0:nu}{T:Nat->Prop}{w:nu}{base:Nat}
def CkP(W0:nu)(T:Nat->Prop)(w:nu)(E:Ending)(w':nu):Prop:=∃(r:ny) (T':Nat->Prop),E=np r/\WT cx.tb W0 T' w'/\zg T w nr T' w'/\CV cx.tb W0 T' w' 0 (.sl 1 34 128) r
theorem q3y(hw:WT cx.tb W0 T w)(hv:CV cx.tb W0 T w base (.sl 0 34 128) v) :
  Calls ab 88 #[v] w (CkP W0 T w):=by
 obtain⟨B,n,c,rfl,v1,v2,v3,v4⟩:=hv.slc;cases B with
 | none=>
   obtain⟨rfl,rfl⟩:=v3 rfl;have hq:=λ(W:nu)=>il (P:=ab) W 29 34 V 0 0 0 0 rm
   go_enter ua,xj;go_wp2_with fail;go_ret;exact⟨_,T,rfl,hw,zg.refl _ _ _,.inl rfl⟩
 | some ad=>
   have hq:=λ(W:nu)=>il (P:=ab) W 29 34 (I ad) n c 0 0 rm
   obtain⟨hw1,hx1⟩:=zh hw (zy w (.cells #[] 34));have HW1:=aa hw1;have HV1:=aa (hv.mono hx1 (af _));have HH1:=aa (zk (PU:=nr) hw (zy w (.cells #[] 34)));have HL:=aa hw.size;clear hv hw hw1 hx1 v1 v2 v3 v4;go_enter ua,xj;go_upto_region 3 with(fail);go_wp2_with (at_builtin;refine um (cx:=cx) (d:=(yx cx 34).getD ⟨.oth,0,0,[],ns⟩) (f:=(cx.tb.flat 34).getD []) rfl (.tmp 5) (.tmp 6) 29 rfl cxOk (I ⟨w.heap.size,0,V⟩) rfl rfl (λad h=>by cases h;exact⟨_,rfl⟩) ki ki ki ki ki ko ko HW1.out HV1.out ?_);intro r T' w' h1 h2 h3 h4;go_wp2_with fail;go_ret;rcases h3 with rfl|h3
   .have hb:w'.heap[w.heap.size]? = I (.cells #[] 34 (0,0)):=(h2.keep w.heap.size kq (.inl rfl)).trans (heap_alloc_new w _);obtain⟨j1,j2⟩:=h1.join (tb:=cx.tb) (g:=w.heap.size) HL.out hb (.inl rfl) (l:=(cx.tb.flat 34).getD []) ki kj (λi v h=>by simp at h) (qdp ki _);have hh:=HH1.out.trans h2;have hsz:cx.tb.sz 34=6:=ki;exact⟨_,add T' w.heap.size,rfl,j1,⟨hh.ext.trans j2,λb hb=>hb.elim (hh.new b) (λe=>.inr (by rw[e];exact af _)),hh.size,hh.os,hh.tape,hh.output,hh.keep,λh=>(Lv.nb h).elim⟩,.inr (.inr ⟨w.heap.size,0,0,0,rfl,af _,cr _,cr _,.inr rfl,λh=>kg,by rw[hsz];decide,Nat.zero_mod _,#[],(0,0),hb,kq⟩)⟩
   .exact⟨r,T',rfl,h1,HH1.out.trans h2,qzt (h3.le (by simp[CT.le])) kj 0⟩
def c88':zu:=⟨[.one (.sl 0 34 128)],[],[.one (.sl 1 34 128)],[],ns,V⟩
theorem clone_holds:qm ab cx W0 88 c88':=by
 refine⟨⟨_,ua,ki,ki⟩,λT w args hw hty _=>?_⟩;have hlen:=uk hty
 obtain⟨v,e⟩:∃v,args=#[v]:=by
  obtain⟨l⟩:=args;rcases l with _|⟨a,_|⟨b,l⟩⟩<;>first|(simp[c88'] at hlen;done)|exact⟨_,rfl⟩
 subst e;obtain⟨hv,-⟩:=hty;refine(q3y hw (show CV cx.tb W0 T w w.heap.size (.sl 0 34 128) v from hv)).mono ?_;rintro e w' ⟨r,T',rfl,h1,h2,h3⟩;exact⟨r,[r],T',rfl,rfl,⟨qzt h3 kj _,trivial⟩,(λl hl=>by cases hl),(λe he=>by cases he),⟨h2.ext,h2.new,h2.size,h2.os,h2.tape,h2.output,λb hb _=>h2.keep b hb (.inl rfl),λ_ b hb _=>.same (h2.keep b hb (.inl rfl))⟩,h1⟩
end
end Sy
end Go.Proofs.YtmadfhgiaonnlaaGreatDoor
namespace Go.Proofs
open YtmadfhgiaonnlaaGreatDoor (ki)
def Tryz.laysM171_ren:Go.Shelf.Ren:=⟨fun|171=>32|243=>72|246=>101|283=>119|284=>120|285=>121|286=>122|129=>141|317=>140|318=>142|319=>143|320=>144|337=>162|338=>163|n=>n,fun|3=>3|9=>9|2=>2|4=>4|171=>210|0=>0|53=>67|37=>183|5=>5|173=>213|212=>235|51=>236|20=>20|213=>237|46=>228|232=>280|233=>281|n=>n,fun|17=>0|18=>1|19=>2|n=>n⟩
theorem Tryz.laysM171:LaysM.n171 ab Tryz.laysM171_ren:={ mixed:=ki,f129:=Tryz.func141.trans (congrArg I ki),f171:=Tryz.func32.trans (congrArg I ki),f243:=Tryz.func72.trans (congrArg I ki),f246:=Tryz.func101.trans (congrArg I ki),f283:=Tryz.func119.trans (congrArg I ki),f284:=Tryz.func120.trans (congrArg I ki),f285:=Tryz.func121.trans (congrArg I ki),f286:=Tryz.func122.trans (congrArg I ki),f317:=Tryz.func140.trans (congrArg I ki),f318:=Tryz.func142.trans (congrArg I ki),f319:=Tryz.func143.trans (congrArg I ki),f320:=Tryz.func144.trans (congrArg I ki),f337:=Tryz.func162.trans (congrArg I ki),f338:=Tryz.func163.trans (congrArg I ki),t0:=Tryz.underlying0,a0:=Tryz.isAgg0,z0:=Tryz.sizeOf0,v0:=Tryz.zeroValue0,t2:=Tryz.underlying2,a2:=Tryz.isAgg2,z2:=Tryz.sizeOf2,v2:=Tryz.zeroValue2,t3:=sb,a3:=ym,z3:=xi,v3:=abp,t4:=Tryz.underlying4,a4:=Tryz.isAgg4,z4:=Tryz.sizeOf4,v4:=Tryz.zeroValue4,t5:=Tryz.underlying5,a5:=Tryz.isAgg5,z5:=Tryz.sizeOf5,v5:=Tryz.zeroValue5,t9:=abg,a9:=aef,z9:=adh,v9:=abq,t20:=Tryz.underlying20,a20:=Tryz.isAgg20,z20:=Tryz.sizeOf20,v20:=Tryz.zeroValue20,t37:=Tryz.underlying183,a37:=Tryz.isAgg183,z37:=Tryz.sizeOf183,v37:=Tryz.zeroValue183,t46:=Tryz.underlying228,a46:=Tryz.isAgg228,z46:=Tryz.sizeOf228,v46:=Tryz.zeroValue228,t51:=Tryz.underlying236,a51:=Tryz.isAgg236,z51:=Tryz.sizeOf236,v51:=Tryz.zeroValue236,t53:=Tryz.underlying67,a53:=Tryz.isAgg67,z53:=Tryz.sizeOf67,v53:=Tryz.zeroValue67,t171:=Tryz.underlying210,a171:=Tryz.isAgg210,z171:=Tryz.sizeOf210,v171:=Tryz.zeroValue210,t173:=Tryz.underlying213,a173:=Tryz.isAgg213,z173:=Tryz.sizeOf213,v173:=Tryz.zeroValue213,t212:=Tryz.underlying235,a212:=Tryz.isAgg235,z212:=Tryz.sizeOf235,v212:=Tryz.zeroValue235,t213:=Tryz.underlying237,a213:=Tryz.isAgg237,z213:=Tryz.sizeOf237,t232:=Tryz.underlying280,a232:=Tryz.isAgg280,z232:=Tryz.sizeOf280,v232:=Tryz.zeroValue280,t233:=Tryz.underlying281,a233:=Tryz.isAgg281,z233:=Tryz.sizeOf281,v233:=Tryz.zeroValue281,g17:=ki,g18:=ki,g19:=ki,i0:=ki,i2:=ki,i3:=ki,i4:=ki,i5:=ki,i9:=ki,i20:=ki,i37:=ki,i46:=ki,i51:=ki,i53:=ki,i171:=ki,i173:=ki,i212:=ki,i232:=ki,i233:=ki,m17:=ki,m18:=ki,m19:=by kernel_rfl }
def Tryz.lays106_ren:Go.Shelf.Ren:=⟨fun|106=>184|213=>188|265=>191|n=>n,fun|9=>9|3=>3|n=>n,fun|n=>n⟩
theorem Tryz.lays106:Lays.n106 ab Tryz.lays106_ren:={ mixed:=ki,f106:=Tryz.func184.trans (congrArg I ki),f213:=Tryz.func188.trans (congrArg I ki),f265:=Tryz.func191.trans (congrArg I ki),t3:=sb,a3:=ym,z3:=xi,v3:=abp,t9:=abg,a9:=aef,z9:=adh,v9:=abq }
end Go.Proofs
namespace Go.Proofs.YtmadfhgiaonnlaaGreatDoor
namespace Sy
open Go.RowKit
def Tab10(W0:nu):Prop:=aan ab W0 "internal/strconv.uint64pow10" .u64 Lib.pow10Tab
section
variable {W0:nu}{T:Nat->Prop}{w:nu}
theorem q2s{P:ma}{tb:yg}{nm:String}{k:IntKind}{zs:List Int}(h:aan P W0 nm k zs)(hw:WT tb W0 T w):aan P w nm k zs:=by
 unfold aan World.var? at h ⊢;cases hg:P.globalNamed nm with
 | none=>rw[hg] at h;cases h
 | some g=>
   rw[hg] at h;simp only[Option.bind_some] at h ⊢
   have hlt:g<W0.heap.size:=by
    rcases Nat.lt_or_ge g W0.heap.size with h1|h1
    .exact h1
    .rw[Array.getElem?_eq_none h1] at h;cases h
   rw[hw.alien g hlt];exact h
theorem below_grow(w:nu)(k:Nat)(os:Array Obj):Below w.heap.size w (Sort.grow (w.drewN k) os):=by
 refine⟨rfl,rfl,rfl,?_,λb hb=>?_⟩
 .rw[Sort.size_grow];show w.heap.size<=w.heap.size+_;omega
 .show(w.heap++os)[b]? = _;rw[Array.getElem?_append_left hb]
theorem qmu:∀(a b:List UInt8),-1<=py a b/\py a b<=1
 | [],[]=>kj
 | [],_::_=>by simp[py]
 | _::_,[]=>by simp[py]
 | x::a,y::b=>by
   have:=qmu a b;unfold py;split
   .omega
   .split<;>omega
theorem hand29:qm ab cx W0 29 c29:=by
 refine⟨⟨Tryz.f29,ki,ki,ki⟩,λT w args hw hty hpre=>?_⟩;obtain⟨l⟩:=args;rcases l with _|⟨v,_|⟨u,l⟩⟩
 .exact hty.elim
 .obtain⟨⟨s,rfl,hs⟩,-⟩:=hty;refine(IdW.uj s w hs).mono ?_;rintro e w' ⟨rfl,hb⟩;refine⟨_,[ni (IdW.xy s)],T,rfl,rfl,⟨⟨_,rfl⟩,trivial⟩,λl hl=>?_,(λe he=>by cases he),zk hw hb,(zh hw hb).1⟩;have hl:=List.mem_singleton.1 hl;subst hl;have hm:mf=9223372036854775807:=kj;have hz:IdW.xy s=nr->s.size<=36:=λh=>by simp only[IdW.xy,Bool.and_eq_true,decide_eq_true_eq] at h;exact h.1.2
  show(0:Int)<=9223372036854775843+(-1*(s.size:Int)+(-9223372036854775807*(bif IdW.xy s then 1 else 0)+0));cases hq:IdW.xy s with
  | true=>have:=hz hq;simp only[cond_true];omega
  | false=>simp only[cond_false];omega
 .exact hty.2.elim
theorem q60:qm ab cx W0 184 c184:=by
 refine holds_one (ct:=.int O (-1) 1) ⟨Tryz.f184,ki,ki,ki⟩ rfl rfl rfl ?_;intro T w args hw hty hpre;rcases args with _|⟨v,_|⟨u,_|⟨u2,l⟩⟩⟩
 .exact hty.elim
 .exact hty.2.elim
 .obtain⟨⟨a,rfl,ha⟩,⟨b,rfl,hb⟩,-⟩:=hty;refine(Any.strings_Compare Tryz.lays106 a b w).mono ?_;rintro e w' ⟨rfl,hw'⟩;refine⟨_,rfl,⟨_,rfl,?_⟩,Below.of_eq hw'.symm⟩;exact qmu _ _
 .exact hty.2.2.elim
theorem hand32(hT:Tab10 W0):qm ab cx W0 32 c32:=by
 refine holds_one (ct:=.str 21) ⟨Tryz.f32,ki,ki,ki⟩ rfl rfl rfl ?_;intro T w args hw hty hpre;rcases args with _|⟨v,_|⟨u,l⟩⟩
 .exact hty.elim
 .obtain⟨⟨n,rfl,h0,h1⟩,-⟩:=hty;refine(Any.strconv_Itoa Tryz.laysM171 n h0 h1 w (q2s hT hw)).mono ?_;rintro e w' ⟨rfl,k,os,rfl⟩;refine⟨_,rfl,⟨_,rfl,?_⟩,below_grow w k os⟩;have:=Lib.itoa_length_le n h0 h1;show((Lib.itoa n).toArray).size<=21;simpa using this
 .exact hty.2.elim
end
section
variable {W0:nu}
theorem qxv(hT:Tab10 W0):qm ab cx W0 176 c176:=ql cxOk (qo) mixed (fn:=Tryz.f176) [] ki ki
theorem h193(hT:Tab10 W0):qm ab cx W0 193 c193:=ql cxOk (qj (qxv hT) ki <| qo) mixed (fn:=Tryz.f193) [⟨[(10,qy O)],[],[o7 10],⟨0,[(1,3),(-1,10)]⟩⟩] ki ki
theorem qk9(hT:Tab10 W0):qm ab cx W0 192 c192:=qou cxOk (qj (qxv hT) ki <| qj (h193 hT) ki <| qo) mixed (fn:=Tryz.f192) [⟨[(10,qy O),(11,qy O)],[],[⟨-1,[(1,10)]⟩,⟨-1,[(1,11)]⟩,⟨0,[(-1,1),(1,2),(-1,10)]⟩,⟨0,[(-1,2),(1,3),(-1,11)]⟩],⟨0,[(1,10),(1,11)]⟩⟩] ki ki
end
section
variable {W0:nu}
theorem r190_0(hT:Tab10 W0):qm ab cx W0 190 qp6:=ql cxOk (qj (qxv hT) ki <| qj (qk9 hT) ki <| qo) mixed (fn:=mi) [⟨[(11,qy O),(10,qy O)],[],[o0 2 10,l9 3 11,o0 10 11,o0 2 11],⟨0,[(-1,10),(1,11)]⟩⟩,⟨[(13,qy O)],[],[o0 1 13],⟨0,[(1,10),(-1,13)]⟩⟩,⟨[(15,qy O),(14,qy O)],[],[o0 1 14,l9 2 15,o0 14 15,o0 1 15],⟨0,[(-1,14),(1,15)]⟩⟩,⟨[(17,qy O)],[],[l9 2 17,o0 14 17],⟨0,[(-1,14),(1,17)]⟩⟩,⟨[(21,qy O),(20,qy O)],[],[o0 1 20,l9 2 21,⟨-1,[(1,3),(1,20),(-1,22)]⟩,⟨1,[(-1,21),(1,22)]⟩,o0 20 21,o0 1 21,⟨-1,[(1,3),(1,21),(-1,22)]⟩],⟨0,[(-1,20),(1,21)]⟩⟩] ki ki
theorem r190_1(hT:Tab10 W0)(hp:qm ab cx W0 190 qp6):qm ab cx W0 190 qpl:=ql cxOk (qj hp ki <| qj (qxv hT) ki <| qj (qk9 hT) ki <| qo) mixed (fn:=mi) [⟨[(11,qy O),(10,qy O)],[],[o0 2 10,l9 3 11,o0 10 11,o0 2 11],⟨0,[(-1,10),(1,11)]⟩⟩,⟨[(13,qy O)],[],[o0 1 13],⟨0,[(1,10),(-1,13)]⟩⟩,⟨[(15,qy O),(14,qy O)],[],[o0 1 14,l9 2 15,o0 14 15,o0 1 15],⟨0,[(-1,14),(1,15)]⟩⟩,⟨[(17,qy O)],[],[l9 2 17,o0 14 17],⟨0,[(-1,14),(1,17)]⟩⟩,⟨[(21,qy O),(20,qy O)],[],[o0 1 20,l9 2 21,⟨-1,[(1,3),(1,20),(-1,22)]⟩,⟨1,[(-1,21),(1,22)]⟩,o0 20 21,o0 1 21,⟨-1,[(1,3),(1,21),(-1,22)]⟩],⟨0,[(-1,20),(1,21)]⟩⟩] ki ki
theorem r190_2(hT:Tab10 W0)(hp:qm ab cx W0 190 qpl):qm ab cx W0 190 qov:=ql cxOk (qj hp ki <| qj (qxv hT) ki <| qj (qk9 hT) ki <| qo) mixed (fn:=mi) [⟨[(11,qy O),(10,qy O)],[],[o0 2 10,l9 3 11,o0 10 11,o0 2 11],⟨0,[(-1,10),(1,11)]⟩⟩,⟨[(13,qy O)],[],[o0 1 13],⟨0,[(1,10),(-1,13)]⟩⟩,⟨[(15,qy O),(14,qy O)],[],[o0 1 14,l9 2 15,o0 14 15,o0 1 15],⟨0,[(-1,14),(1,15)]⟩⟩,⟨[(17,qy O)],[],[l9 2 17,o0 14 17],⟨0,[(-1,14),(1,17)]⟩⟩,⟨[(21,qy O),(20,qy O)],[],[o0 1 20,l9 2 21,⟨-1,[(1,3),(1,20),(-1,22)]⟩,⟨1,[(-1,21),(1,22)]⟩,o0 20 21,o0 1 21,⟨-1,[(1,3),(1,21),(-1,22)]⟩],⟨0,[(-1,20),(1,21)]⟩⟩] ki ki
theorem r190_3(hT:Tab10 W0)(hp:qm ab cx W0 190 qov):qm ab cx W0 190 qpn:=ql cxOk (qj hp ki <| qj (qxv hT) ki <| qj (qk9 hT) ki <| qo) mixed (fn:=mi) [⟨[(11,qy O),(10,qy O)],[],[o0 2 10,l9 3 11,o0 10 11,o0 2 11],⟨0,[(-1,10),(1,11)]⟩⟩,⟨[(13,qy O)],[],[o0 1 13],⟨0,[(1,10),(-1,13)]⟩⟩,⟨[(15,qy O),(14,qy O)],[],[o0 1 14,l9 2 15,o0 14 15,o0 1 15],⟨0,[(-1,14),(1,15)]⟩⟩,⟨[(17,qy O)],[],[l9 2 17,o0 14 17],⟨0,[(-1,14),(1,17)]⟩⟩,⟨[(21,qy O),(20,qy O)],[],[o0 1 20,l9 2 21,⟨-1,[(1,3),(1,20),(-1,22)]⟩,⟨1,[(-1,21),(1,22)]⟩,o0 20 21,o0 1 21,⟨-1,[(1,3),(1,21),(-1,22)]⟩],⟨0,[(-1,20),(1,21)]⟩⟩] ki ki
end
section
variable {W0:nu}
theorem r190_4(hT:Tab10 W0)(hp:qm ab cx W0 190 qpn):qm ab cx W0 190 qo7:=ql cxOk (qj hp ki <| qj (qxv hT) ki <| qj (qk9 hT) ki <| qo) mixed (fn:=mi) [⟨[(11,qy O),(10,qy O)],[],[o0 2 10,l9 3 11,o0 10 11,o0 2 11],⟨0,[(-1,10),(1,11)]⟩⟩,⟨[(13,qy O)],[],[o0 1 13],⟨0,[(1,10),(-1,13)]⟩⟩,⟨[(15,qy O),(14,qy O)],[],[o0 1 14,l9 2 15,o0 14 15,o0 1 15],⟨0,[(-1,14),(1,15)]⟩⟩,⟨[(17,qy O)],[],[l9 2 17,o0 14 17],⟨0,[(-1,14),(1,17)]⟩⟩,⟨[(21,qy O),(20,qy O)],[],[o0 1 20,l9 2 21,⟨-1,[(1,3),(1,20),(-1,22)]⟩,⟨1,[(-1,21),(1,22)]⟩,o0 20 21,o0 1 21,⟨-1,[(1,3),(1,21),(-1,22)]⟩],⟨0,[(-1,20),(1,21)]⟩⟩] ki ki
theorem r190_5(hT:Tab10 W0)(hp:qm ab cx W0 190 qo7):qm ab cx W0 190 qp0:=ql cxOk (qj hp ki <| qj (qxv hT) ki <| qj (qk9 hT) ki <| qo) mixed (fn:=mi) [⟨[(11,qy O),(10,qy O)],[],[o0 2 10,l9 3 11,o0 10 11,o0 2 11],⟨0,[(-1,10),(1,11)]⟩⟩,⟨[(13,qy O)],[],[o0 1 13],⟨0,[(1,10),(-1,13)]⟩⟩,⟨[(15,qy O),(14,qy O)],[],[o0 1 14,l9 2 15,o0 14 15,o0 1 15],⟨0,[(-1,14),(1,15)]⟩⟩,⟨[(17,qy O)],[],[l9 2 17,o0 14 17],⟨0,[(-1,14),(1,17)]⟩⟩,⟨[(21,qy O),(20,qy O)],[],[o0 1 20,l9 2 21,⟨-1,[(1,3),(1,20),(-1,22)]⟩,⟨1,[(-1,21),(1,22)]⟩,o0 20 21,o0 1 21,⟨-1,[(1,3),(1,21),(-1,22)]⟩],⟨0,[(-1,20),(1,21)]⟩⟩] ki ki
theorem r190_6(hT:Tab10 W0)(hp:qm ab cx W0 190 qp0):qm ab cx W0 190 qon:=ql cxOk (qj hp ki <| qj (qxv hT) ki <| qj (qk9 hT) ki <| qo) mixed (fn:=mi) [⟨[(11,qy O),(10,qy O)],[],[o0 2 10,l9 3 11,o0 10 11,o0 2 11],⟨0,[(-1,10),(1,11)]⟩⟩,⟨[(13,qy O)],[],[o0 1 13],⟨0,[(1,10),(-1,13)]⟩⟩,⟨[(15,qy O),(14,qy O)],[],[o0 1 14,l9 2 15,o0 14 15,o0 1 15],⟨0,[(-1,14),(1,15)]⟩⟩,⟨[(17,qy O)],[],[l9 2 17,o0 14 17],⟨0,[(-1,14),(1,17)]⟩⟩,⟨[(21,qy O),(20,qy O)],[],[o0 1 20,l9 2 21,⟨-1,[(1,3),(1,20),(-1,22)]⟩,⟨1,[(-1,21),(1,22)]⟩,o0 20 21,o0 1 21,⟨-1,[(1,3),(1,21),(-1,22)]⟩],⟨0,[(-1,20),(1,21)]⟩⟩] ki ki
theorem r190_7(hT:Tab10 W0)(hp:qm ab cx W0 190 qon):qm ab cx W0 190 qnt:=ql cxOk (qj hp ki <| qj (qxv hT) ki <| qj (qk9 hT) ki <| qo) mixed (fn:=mi) [⟨[(11,qy O),(10,qy O)],[],[o0 2 10,l9 3 11,o0 10 11,o0 2 11],⟨0,[(-1,10),(1,11)]⟩⟩,⟨[(13,qy O)],[],[o0 1 13],⟨0,[(1,10),(-1,13)]⟩⟩,⟨[(15,qy O),(14,qy O)],[],[o0 1 14,l9 2 15,o0 14 15,o0 1 15],⟨0,[(-1,14),(1,15)]⟩⟩,⟨[(17,qy O)],[],[l9 2 17,o0 14 17],⟨0,[(-1,14),(1,17)]⟩⟩,⟨[(21,qy O),(20,qy O)],[],[o0 1 20,l9 2 21,⟨-1,[(1,3),(1,20),(-1,22)]⟩,⟨1,[(-1,21),(1,22)]⟩,o0 20 21,o0 1 21,⟨-1,[(1,3),(1,21),(-1,22)]⟩],⟨0,[(-1,20),(1,21)]⟩⟩] ki ki
end
section
variable {W0:nu}
theorem r190_8(hT:Tab10 W0)(hp:qm ab cx W0 190 qnt):qm ab cx W0 190 qrk:=ql cxOk (qj hp ki <| qj (qxv hT) ki <| qj (qk9 hT) ki <| qo) mixed (fn:=mi) [⟨[(11,qy O),(10,qy O)],[],[o0 2 10,l9 3 11,o0 10 11,o0 2 11],⟨0,[(-1,10),(1,11)]⟩⟩,⟨[(13,qy O)],[],[o0 1 13],⟨0,[(1,10),(-1,13)]⟩⟩,⟨[(15,qy O),(14,qy O)],[],[o0 1 14,l9 2 15,o0 14 15,o0 1 15],⟨0,[(-1,14),(1,15)]⟩⟩,⟨[(17,qy O)],[],[l9 2 17,o0 14 17],⟨0,[(-1,14),(1,17)]⟩⟩,⟨[(21,qy O),(20,qy O)],[],[o0 1 20,l9 2 21,⟨-1,[(1,3),(1,20),(-1,22)]⟩,⟨1,[(-1,21),(1,22)]⟩,o0 20 21,o0 1 21,⟨-1,[(1,3),(1,21),(-1,22)]⟩],⟨0,[(-1,20),(1,21)]⟩⟩] ki ki
theorem r190_9(hT:Tab10 W0)(hp:qm ab cx W0 190 qrk):qm ab cx W0 190 qoc:=ql cxOk (qj hp ki <| qj (qxv hT) ki <| qj (qk9 hT) ki <| qo) mixed (fn:=mi) [⟨[(11,qy O),(10,qy O)],[],[o0 2 10,l9 3 11,o0 10 11,o0 2 11],⟨0,[(-1,10),(1,11)]⟩⟩,⟨[(13,qy O)],[],[o0 1 13],⟨0,[(1,10),(-1,13)]⟩⟩,⟨[(15,qy O),(14,qy O)],[],[o0 1 14,l9 2 15,o0 14 15,o0 1 15],⟨0,[(-1,14),(1,15)]⟩⟩,⟨[(17,qy O)],[],[l9 2 17,o0 14 17],⟨0,[(-1,14),(1,17)]⟩⟩,⟨[(21,qy O),(20,qy O)],[],[o0 1 20,l9 2 21,⟨-1,[(1,3),(1,20),(-1,22)]⟩,⟨1,[(-1,21),(1,22)]⟩,o0 20 21,o0 1 21,⟨-1,[(1,3),(1,21),(-1,22)]⟩],⟨0,[(-1,20),(1,21)]⟩⟩] ki ki
theorem q71(hT:Tab10 W0)(hp:qm ab cx W0 190 qoc):qm ab cx W0 190 qlm:=ql cxOk (qj hp ki <| qj (qxv hT) ki <| qj (qk9 hT) ki <| qo) mixed (fn:=mi) [⟨[(11,qy O),(10,qy O)],[],[o0 2 10,l9 3 11,o0 10 11,o0 2 11],⟨0,[(-1,10),(1,11)]⟩⟩,⟨[(13,qy O)],[],[o0 1 13],⟨0,[(1,10),(-1,13)]⟩⟩,⟨[(15,qy O),(14,qy O)],[],[o0 1 14,l9 2 15,o0 14 15,o0 1 15],⟨0,[(-1,14),(1,15)]⟩⟩,⟨[(17,qy O)],[],[l9 2 17,o0 14 17],⟨0,[(-1,14),(1,17)]⟩⟩,⟨[(21,qy O),(20,qy O)],[],[o0 1 20,l9 2 21,⟨-1,[(1,3),(1,20),(-1,22)]⟩,⟨1,[(-1,21),(1,22)]⟩,o0 20 21,o0 1 21,⟨-1,[(1,3),(1,21),(-1,22)]⟩],⟨0,[(-1,20),(1,21)]⟩⟩] ki ki
theorem q6m(hT:Tab10 W0)(hp:qm ab cx W0 190 qlm):qm ab cx W0 190 qlc:=ql cxOk (qj hp ki <| qj (qxv hT) ki <| qj (qk9 hT) ki <| qo) mixed (fn:=mi) [⟨[(11,qy O),(10,qy O)],[],[o0 2 10,l9 3 11,o0 10 11,o0 2 11],⟨0,[(-1,10),(1,11)]⟩⟩,⟨[(13,qy O)],[],[o0 1 13],⟨0,[(1,10),(-1,13)]⟩⟩,⟨[(15,qy O),(14,qy O)],[],[o0 1 14,l9 2 15,o0 14 15,o0 1 15],⟨0,[(-1,14),(1,15)]⟩⟩,⟨[(17,qy O)],[],[l9 2 17,o0 14 17],⟨0,[(-1,14),(1,17)]⟩⟩,⟨[(21,qy O),(20,qy O)],[],[o0 1 20,l9 2 21,⟨-1,[(1,3),(1,20),(-1,22)]⟩,⟨1,[(-1,21),(1,22)]⟩,o0 20 21,o0 1 21,⟨-1,[(1,3),(1,21),(-1,22)]⟩],⟨0,[(-1,20),(1,21)]⟩⟩] ki ki
end
section
variable {W0:nu}
theorem q7u(hT:Tab10 W0)(hp:qm ab cx W0 190 qlc):qm ab cx W0 190 qs2:=ql cxOk (qj hp ki <| qj (qxv hT) ki <| qj (qk9 hT) ki <| qo) mixed (fn:=mi) [⟨[(11,qy O),(10,qy O)],[],[o0 2 10,l9 3 11,o0 10 11,o0 2 11],⟨0,[(-1,10),(1,11)]⟩⟩,⟨[(13,qy O)],[],[o0 1 13],⟨0,[(1,10),(-1,13)]⟩⟩,⟨[(15,qy O),(14,qy O)],[],[o0 1 14,l9 2 15,o0 14 15,o0 1 15],⟨0,[(-1,14),(1,15)]⟩⟩,⟨[(17,qy O)],[],[l9 2 17,o0 14 17],⟨0,[(-1,14),(1,17)]⟩⟩,⟨[(21,qy O),(20,qy O)],[],[o0 1 20,l9 2 21,⟨-1,[(1,3),(1,20),(-1,22)]⟩,⟨1,[(-1,21),(1,22)]⟩,o0 20 21,o0 1 21,⟨-1,[(1,3),(1,21),(-1,22)]⟩],⟨0,[(-1,20),(1,21)]⟩⟩] ki ki
end
section
variable {W0:nu}
theorem h190_0(hT:Tab10 W0):qm ab cx W0 190 qp6:=r190_0 hT
theorem h190_1(hT:Tab10 W0):qm ab cx W0 190 qpl:=r190_1 hT (h190_0 hT)
theorem h190_2(hT:Tab10 W0):qm ab cx W0 190 qov:=r190_2 hT (h190_1 hT)
theorem h190_3(hT:Tab10 W0):qm ab cx W0 190 qpn:=r190_3 hT (h190_2 hT)
theorem h190_4(hT:Tab10 W0):qm ab cx W0 190 qo7:=r190_4 hT (h190_3 hT)
theorem h190_5(hT:Tab10 W0):qm ab cx W0 190 qp0:=r190_5 hT (h190_4 hT)
theorem h190_6(hT:Tab10 W0):qm ab cx W0 190 qon:=r190_6 hT (h190_5 hT)
theorem h190_7(hT:Tab10 W0):qm ab cx W0 190 qnt:=r190_7 hT (h190_6 hT)
theorem h190_8(hT:Tab10 W0):qm ab cx W0 190 qrk:=r190_8 hT (h190_7 hT)
theorem h190_9(hT:Tab10 W0):qm ab cx W0 190 qoc:=r190_9 hT (h190_8 hT)
theorem q7o(hT:Tab10 W0):qm ab cx W0 190 qlm:=q71 hT (h190_9 hT)
theorem q73(hT:Tab10 W0):qm ab cx W0 190 qlc:=q6m hT (q7o hT)
theorem q6d(hT:Tab10 W0):qm ab cx W0 190 qs2:=q7u hT (q73 hT)
theorem h190(hT:Tab10 W0):qm ab cx W0 190 c190:=q6d hT
end
end Sy
end Go.Proofs.YtmadfhgiaonnlaaGreatDoor
