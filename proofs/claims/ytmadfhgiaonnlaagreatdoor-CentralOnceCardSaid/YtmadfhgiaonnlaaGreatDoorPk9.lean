import Derived.Lib.SliceRun
import Derived.Test.YtmadfhgiaonnlaaGreatDoorPk8
open Array renaming length_toList->aw,getElem?_setIfInBounds_ne->dk,getElem?_setIfInBounds->bt
open ByteArray renaming size->za,toList->abf
open ByteArray.toList renaming loop->zb
open Classical renaming em->cf
open Go renaming wpList_load_mid->gd,wpList_store_rowTo->br,wpList_load_row->bp,bodyPost_ret->du,results_cell_row->ll,wpList_store_mid->jj
open Go.Ending.returned renaming inj->jz
open Go.IntKind renaming wrap->di,bits->dj,signed->cz
open Go.Lib renaming hid->aa,run_eql_slice_nil->il
open Go.Proofs.Tryz renaming prog->ab,underlying34->gj,underlying31->bz,underlying28->vp,func45->aea,ntmps45->acz,underlying82->dt,underlying84->pe,underlying95->ly,underlying98->lz,underlying51->ej,underlying23->aar,func86->aeb,ntmps86->ada,underlying26->aas,func87->aec,ntmps87->adb,underlying29->rm,func88->ua,ntmps88->xj
open Go.World renaming setRow_alloc_new->fx
open List.range renaming loop->dc
open Nat renaming lt_succ_iff_lt_or_eq->gr,le_refl->af,le_trans->cy,zero_le->cr
open Bool renaming false->ns,true->nr
open Go renaming Program->ma,TypeId->nz,Value->ny,World->nu,maxLen->mf,undef->mc
open Go.Ending renaming returned->np
open Go.IntKind renaming i64->O
open Go.Value renaming bool->ni,int->U,pointer->nj,slice->ng,string->nh
open Option renaming none->V,some->I
open Go.Proofs.YtmadfhgiaonnlaaGreatDoor renaming Blk->mg
set_option maxRecDepth 100000
set_option maxHeartbeats 8000000
set_option linter.unusedVariables false
set_option linter.unusedSimpArgs false
namespace Go.Proofs.YtmadfhgiaonnlaaGreatDoor
namespace Mv
open Go.RowKit IdW
def Tks(w0:nu)(A:Option Addr)(n:Nat)(g:Nat->Cen.Tk):Prop:=∀j,j<n->∃b off,A=I ⟨b,off,V⟩/\b<w0.heap.size/\w0.rangeAt b (off+j*6) (Cen.tkA (g j)).toList/\(g j).id.size<=mf/\(g j).grp.size<=mf/\(g j).con.size<=mf
theorem Tks.at_{w0 W:nu}{A:Option Addr}{n:Nat}{g:Nat->Cen.Tk}(h:Tks w0 A n g)(ha:yw w0 W){j:Nat}(hj:j<n):∃b off,A=I ⟨b,off,V⟩/\W.rangeAt b (off+j*6) (Cen.tkA (g j)).toList/\(g j).id.size<=mf/\(g j).grp.size<=mf/\(g j).con.size<=mf:=by
 obtain⟨b,off,e,hb,h0,h1⟩:=h j hj;exact⟨b,off,e,λk v hv=>ha.cell (h0 k v hv),h1⟩
def qll(f:Nat->Int×Int)(j:Nat):Prop:=0<=(f j).1/\(f j).1<=268435456/\0<=(f j).2/\(f j).2<=1099511627775
def qr6(g:Nat->Cen.Tk)(j:Nat):Prop:=qbn (g j).id (g j).grp (g j).con (g j).kind (g j).st (g j).ex
def qrn(f1:Nat->Int×Int)(n1:Nat)(p0 p1 p2 p3 p4:Int)(p5:ByteArray)(p6 p7 p8 p9:Int)(n:Nat)(f:Nat->Int×Int)(g:Nat->Cen.Tk)(n3:Nat)(u:Int):Prop:=(∀j,j<n1->qll f1 j)/\(bits .and O u 1024≠0->qny p0 p1 p2 p3 p4 p5 p6 p7 p8 p9 n f)/\∀j,j<n3->qr6 g j
theorem lis_(m0 m1 m2 m3 m4 m5 m6 m7:Int)(m8 m9 m10:ByteArray)(m11:Bool)(A1:Option Addr)(n1 c1:Nat)(p0 p1 p2 p3 p4:Int)(p5:ByteArray)(p6 p7 p8 p9:Int)(A:Option Addr)(n c:Nat)(A3:Option Addr)(n3 c3:Nat)(u:Int)(f1 f:Nat->Int×Int)(g:Nat->Cen.Tk)(w0:nu)(hR1:Prs w0 A1 n1 f1)(hR:Prs w0 A n f)(hT:Tks w0 A3 n3 g)(hn1:n1<=1048576)(hn:n<=1048576)(hn3:n3<=1048576)(zp5:p5.size<=mf)(w:nu)(hA:yw w0 w) :
  Calls ab 42 #[.agg #[U O m0,U O m1,U O m2,U O m3,U O m4,U O m5,U O m6,U O m7,nh m8,nh m9,nh m10,ni m11,ng A1 n1 c1,U O p0,U O p1,U O p2,U O p3,U O p4,nh p5,U O p6,U O p7,U O p8,U O p9,ng A n c,ng A3 n3 c3],U O u] w λe w'=>II (qrn f1 n1 p0 p1 p2 p3 p4 p5 p6 p7 p8 p9 n f g n3 u) e/\Hid (Below w.heap.size w w'):=by
 have HR1:=aa hR1;have HR:=aa hR;have HT:=aa hT;have HA:=aa hA;have HB0:=aa (zy w (.cells #[U O m0,U O m1,U O m2,U O m3,U O m4,U O m5,U O m6,U O m7,nh m8,nh m9,nh m10,ni m11,ng A1 n1 c1,U O p0,U O p1,U O p2,U O p3,U O p4,nh p5,U O p6,U O p7,U O p8,U O p9,ng A n c,ng A3 n3 c3] 31));have HK0:=aa (mg.new w 31 #[U O m0,U O m1,U O m2,U O m3,U O m4,U O m5,U O m6,U O m7,nh m8,nh m9,nh m10,ni m11,ng A1 n1 c1,U O p0,U O p1,U O p2,U O p3,U O p4,nh p5,U O p6,U O p7,U O p8,U O p9,ng A n c,ng A3 n3 c3]);clear hR1 hR hT hA;go_enter Tryz.func42,Tryz.ntmps42;go_upto_region 1 with(fail);have k0:=HK0.out.cell;generalize w.alloc (.cells #[U O m0,U O m1,U O m2,U O m3,U O m4,U O m5,U O m6,U O m7,nh m8,nh m9,nh m10,ni m11,ng A1 n1 c1,U O p0,U O p1,U O p2,U O p3,U O p4,nh p5,U O p6,U O p7,U O p8,U O p9,ng A n c,ng A3 n3 c3] 31)=wbx at *;go_wp2_with fail;go_loopg [14] n1 (λgg s14 wr=>∃j:Nat,j+gg=n1/\s14=U O j/\Hid (Below w.heap.size w wr/\mg wr w.heap.size 31 #[U O m0,U O m1,U O m2,U O m3,U O m4,U O m5,U O m6,U O m7,nh m8,nh m9,nh m10,ni m11,ng A1 n1 c1,U O p0,U O p1,U O p2,U O p3,U O p4,nh p5,U O p6,U O p7,U O p8,U O p9,ng A n c,ng A3 n3 c3]/\∀i,i<j->qll f1 i))
 case atStart=>exact⟨0,kg,rfl,aa ⟨HB0.out,HK0.out,λi hi=>kg⟩⟩
 case round=>
  obtain⟨j,hj,rfl,HF⟩:=hrel;have HB:=aa HF.out.1;have HKr:=aa HF.out.2.1;have HQ:=aa HF.out.2.2;clear HF;by_cases hjn:j<n1
  .obtain⟨b,off,rfl,hb,h0,h1⟩:=HR1.out.at_ (HA.out.below HB.out HA.out.size) hjn;have hltz:(j:Int)<(n1:Int):=kg;have hjz:(0:Int)<=(j:Int):=kg;have e4:IntKind.i64.wrap ((j:Int)+1)=((j+1:Nat):Int):=by simp[di,dj,cz];omega
   have LF:Hid (∀k:Int,(k=0->False)->¬qll f1 j->(k=0↔qrn f1 n1 p0 p1 p2 p3 p4 p5 p6 p7 p8 p9 n f g n3 u)):=aa (λk hk hp=>⟨λe=>(hk e).elim,λh=>(hp (h.1 j hjn)).elim⟩);generalize hx:(f1 j).1=x at *;generalize hy:(f1 j).2=y at *;have HX:=aa hx;have HY:=aa hy;clear hx hy;have e0:qll f1 j↔(0<=x/\x<=268435456/\0<=y/\y<=1099511627775):=by unfold qll;rw[HX.out,HY.out]
   have HE:=aa e0;clear e0;rcases cf (0<=x/\x<=268435456/\0<=y/\y<=1099511627775) with hq|hq
   .obtain⟨hq1,hq2,hq3,hq4⟩:=hq;have HP:Hid (qll f1 j):=aa (HE.out.2 ⟨hq1,hq2,hq3,hq4⟩);go_wp2_with fail;go_roundg (n1-(j+1))
    case measure=>omega
    case rel=>exact⟨j+1,kg,kq,aa ⟨qp HB.out _,HKr.out.alloc _,λi hi=>(gr.1 hi).elim (HQ.out i) (λe=>e ▸ HP.out)⟩⟩
   .have HN:=aa (λh=>hq (HE.out.1 h));have hq':x<0\/268435456<x\/y<0\/1099511627775<y:=kg;clear hq;have HBa:=aa (qp HB.out (.cells #[U O x,U O y] 156));go_wp2_with fail
    all_goals first|(go_ret;exact⟨⟨_,rfl,LF.out _ kj HN.out⟩,HBa⟩)|(exfalso;omega)
  .have xm:n1=j:=kg;subst xm;have k1:=HKr.out.cell;rcases cf (bits .and O u 1024=0) with g1|g1
   .have HP:Hid (bits .and O u 1024≠0->qny p0 p1 p2 p3 p4 p5 p6 p7 p8 p9 n f):=aa (λh=>absurd g1 h);go_wp2_with fail;go_loopg [49] n3 (λgg s49 wr=>∃j:Nat,j+gg=n3/\s49=U O j/\Hid (Below w.heap.size w wr/\∀i,i<j->qr6 g i))
    case atStart=>exact⟨0,kg,rfl,aa ⟨HB.out,λi hi=>kg⟩⟩
    case round=>
     obtain⟨j,hj,rfl,HF⟩:=hrel;by_cases hjn:j<n3
     .obtain⟨b,off,rfl,hrow,zs0,zs1,zs2⟩:=HT.out.at_ (HA.out.below HF.out.1 HA.out.size) hjn;have HRW:=aa hrow;have hltz:(j:Int)<(n3:Int):=kg;have hjz:(0:Int)<=(j:Int):=kg;have e4:IntKind.i64.wrap ((j:Int)+1)=((j+1:Nat):Int):=by simp[di,dj,cz];omega
      have LF:Hid (∀k:Int,(k=0->False)->¬qr6 g j->(k=0↔qrn f1 n1 p0 p1 p2 p3 p4 p5 p6 p7 p8 p9 n f g n3 u)):=aa (λk hk hp=>⟨λe=>(hk e).elim,λh=>(hp (h.2.2 j hjn)).elim⟩);have HE:=aa (λW=>ent_ (g j).id (g j).grp (g j).con (g j).kind (g j).st (g j).ex zs0 zs1 zs2 W);have HZ:=aa (mg.new wr 34 zG);clear hrow;go_upto_region 14 with(first|(refine gd rfl 34 (.tmp 51) rfl b (off+j*6) rfl (Cen.tkA (g j)).toList _ HRW.out gj rfl ki ?_)|(refine br rfl 34 (.tmp 9) (.tmp 52) rfl rfl wr.heap.size (Cen.tkA (g j)) ki ki 34 _ HZ.out ki ki ki ?_));rw[fx];have HB4:=aa (qp HF.out.1 (.cells (Cen.tkA (g j)) 34));have HK4:=aa (mg.new wr 34 (Cen.tkA (g j)));clear HZ HRW;generalize wr.alloc (.cells (Cen.tkA (g j)) 34)=wy at *;generalize wr.heap.size=gB at *;go_wp2_with (refine bp rfl 34 (.tmp 9) rfl gB rfl 34 (Cen.tkA (g j)) (0,0) _ HK4.out gj rfl ki ?_);refine(HE.out _).mono ?_;rintro e w5 ⟨⟨ke,rfl,hke⟩,hb5⟩;have HKE:=aa hke;have HB5:=aa (qg HB4.out (show Below _ _ _ from hb5));clear hke;rcases cf (ke=0) with rfl|ke0
      .go_wp2_with fail;go_roundg (n3-(j+1))
       case measure=>omega
       case rel=>exact⟨j+1,kg,kq,aa ⟨HB5.out,λi hi=>(gr.1 hi).elim (HF.out.2 i) (λe=>e ▸ HKE.out.1 (by first|trivial|rfl))⟩⟩
      .have keb:(ke == 0)=ns:=by simpa using ke0
       have kec:(ke != 0)=nr:=by simpa using ke0
       go_wp2_with fail;go_ret;exact⟨⟨_,rfl,LF.out _ ke0 (λh=>ke0 (HKE.out.2 h))⟩,aa HB5.out⟩
     .have xm:n3=j:=kg;subst xm;go_wp2_with fail;go_ret;exact⟨⟨_,rfl,λ_=>⟨HQ.out,HP.out,HF.out.2⟩,λ_=>rfl⟩,aa HF.out.1⟩
   .have g1b:(bits .and O u 1024 != 0)=nr:=by simpa using g1
    have G1:=aa g1;clear g1;go_wp2_with fail;refine(prof_ p0 p1 p2 p3 p4 p5 p6 p7 p8 p9 A n c f w0 HR.out hn zp5 _ (HA.out.below HB.out HA.out.size)).mono ?_;rintro e w3 ⟨⟨kp,rfl,hkp⟩,hb3⟩;have HKP:=aa hkp;have HB3:=aa (qg HB.out (show Below _ _ _ from hb3));have HK3:=aa (HKr.out.call (show Below _ _ _ from hb3));clear k1 hkp HB HKr;have HB:=aa HB3.out;have HKr:=aa HK3.out;have k1:=HKr.out.cell;clear HB3 HK3;rcases cf (kp=0) with rfl|kp0
    .have HP:Hid (bits .and O u 1024≠0->qny p0 p1 p2 p3 p4 p5 p6 p7 p8 p9 n f):=aa (λ_=>HKP.out.1 (by first|trivial|rfl));go_wp2_with fail;go_loopg [49] n3 (λgg s49 wr=>∃j:Nat,j+gg=n3/\s49=U O j/\Hid (Below w.heap.size w wr/\∀i,i<j->qr6 g i))
     case atStart=>exact⟨0,kg,rfl,aa ⟨HB.out,λi hi=>kg⟩⟩
     case round=>
      obtain⟨j,hj,rfl,HF⟩:=hrel;by_cases hjn:j<n3
      .obtain⟨b,off,rfl,hrow,zs0,zs1,zs2⟩:=HT.out.at_ (HA.out.below HF.out.1 HA.out.size) hjn;have HRW:=aa hrow;have hltz:(j:Int)<(n3:Int):=kg;have hjz:(0:Int)<=(j:Int):=kg;have e4:IntKind.i64.wrap ((j:Int)+1)=((j+1:Nat):Int):=by simp[di,dj,cz];omega
       have LF:Hid (∀k:Int,(k=0->False)->¬qr6 g j->(k=0↔qrn f1 n1 p0 p1 p2 p3 p4 p5 p6 p7 p8 p9 n f g n3 u)):=aa (λk hk hp=>⟨λe=>(hk e).elim,λh=>(hp (h.2.2 j hjn)).elim⟩);have HE:=aa (λW=>ent_ (g j).id (g j).grp (g j).con (g j).kind (g j).st (g j).ex zs0 zs1 zs2 W);have HZ:=aa (mg.new wr 34 zG);clear hrow;go_upto_region 14 with(first|(refine gd rfl 34 (.tmp 51) rfl b (off+j*6) rfl (Cen.tkA (g j)).toList _ HRW.out gj rfl ki ?_)|(refine br rfl 34 (.tmp 9) (.tmp 52) rfl rfl wr.heap.size (Cen.tkA (g j)) ki ki 34 _ HZ.out ki ki ki ?_));rw[fx];have HB4:=aa (qp HF.out.1 (.cells (Cen.tkA (g j)) 34));have HK4:=aa (mg.new wr 34 (Cen.tkA (g j)));clear HZ HRW;generalize wr.alloc (.cells (Cen.tkA (g j)) 34)=wy at *;generalize wr.heap.size=gB at *;go_wp2_with (refine bp rfl 34 (.tmp 9) rfl gB rfl 34 (Cen.tkA (g j)) (0,0) _ HK4.out gj rfl ki ?_);refine(HE.out _).mono ?_;rintro e w5 ⟨⟨ke,rfl,hke⟩,hb5⟩;have HKE:=aa hke;have HB5:=aa (qg HB4.out (show Below _ _ _ from hb5));clear hke;rcases cf (ke=0) with rfl|ke0
       .go_wp2_with fail;go_roundg (n3-(j+1))
        case measure=>omega
        case rel=>exact⟨j+1,kg,kq,aa ⟨HB5.out,λi hi=>(gr.1 hi).elim (HF.out.2 i) (λe=>e ▸ HKE.out.1 (by first|trivial|rfl))⟩⟩
       .have keb:(ke == 0)=ns:=by simpa using ke0
        have kec:(ke != 0)=nr:=by simpa using ke0
        go_wp2_with fail;go_ret;exact⟨⟨_,rfl,LF.out _ ke0 (λh=>ke0 (HKE.out.2 h))⟩,aa HB5.out⟩
      .have xm:n3=j:=kg;subst xm;go_wp2_with fail;go_ret;exact⟨⟨_,rfl,λ_=>⟨HQ.out,HP.out,HF.out.2⟩,λ_=>rfl⟩,aa HF.out.1⟩
    .have kpb:(kp == 0)=ns:=by simpa using kp0
     have kpc:(kp != 0)=nr:=by simpa using kp0
     go_wp2_with fail;go_ret;exact⟨⟨_,rfl,λe=>absurd e kp0,λh=>(kp0 (HKP.out.2 (h.2.1 G1.out))).elim⟩,aa HB.out⟩
end Mv
namespace Mv
open Go.RowKit IdW
noncomputable def bitsOf(m0 m1 m2 m3 m4 m5 m6 m7:Int)(m8 m9 m10:ByteArray)(m11:Bool)(n1:Nat)(p0 p1 p2 p3 p4:Int)(p5:ByteArray)(p6 p7 p8 p9:Int)(n n3:Nat)(f1 f:Nat->Int×Int)(g:Nat->Cen.Tk):Int:=uq [m3 != 0,m4 != 0,m5 != 0,m6 != 0,m7 != 0,!m8.toList.isEmpty,!m9.toList.isEmpty,!m10.toList.isEmpty,m11,decide (0<n1),qbc p0 p1 p2 p3 p4 p5 p6 p7 p8 p9 n,decide (0<n3)] 12
def valQ(m0 m1 m2 m3 m4 m5 m6 m7:Int)(m8 m9 m10:ByteArray)(m11:Bool)(n1:Nat)(p0 p1 p2 p3 p4:Int)(p5:ByteArray)(p6 p7 p8 p9:Int)(n n3:Nat)(f1 f:Nat->Int×Int)(g:Nat->Cen.Tk):Prop:=1<=m0/\m0<=3/\1<=m1/\m1<=2147483647/\(qk0 m0 m2).2=nr/\n1<=64/\n3<=64/\bits .andNot O (bitsOf m0 m1 m2 m3 m4 m5 m6 m7 m8 m9 m10 m11 n1 p0 p1 p2 p3 p4 p5 p6 p7 p8 p9 n n3 f1 f g) (qk0 m0 m2).1=0/\numQ m0 m3 m4 m5 m6 m7 (qk0 m0 m2).1/\qqh m0 m2 m8 m9 m10 (qk0 m0 m2).1/\qrn f1 n1 p0 p1 p2 p3 p4 p5 p6 p7 p8 p9 n f g n3 (qk0 m0 m2).1
theorem val_(m0 m1 m2 m3 m4 m5 m6 m7:Int)(m8 m9 m10:ByteArray)(m11:Bool)(A1:Option Addr)(n1 c1:Nat)(p0 p1 p2 p3 p4:Int)(p5:ByteArray)(p6 p7 p8 p9:Int)(A:Option Addr)(n c:Nat)(A3:Option Addr)(n3 c3:Nat)(f1 f:Nat->Int×Int)(g:Nat->Cen.Tk)(w0:nu)(hR1:Prs w0 A1 n1 f1)(hR:Prs w0 A n f)(hT:Tks w0 A3 n3 g)(hn1:n1<=1048576)(hn:n<=1048576)(hn3:n3<=1048576)(zm8:m8.size<=mf)(zm9:m9.size<=mf)(zm10:m10.size<=mf)(zp5:p5.size<=mf)(w:nu)(hA:yw w0 w) :
  Calls ab 19 #[.agg #[U O m0,U O m1,U O m2,U O m3,U O m4,U O m5,U O m6,U O m7,nh m8,nh m9,nh m10,ni m11,ng A1 n1 c1,U O p0,U O p1,U O p2,U O p3,U O p4,nh p5,U O p6,U O p7,U O p8,U O p9,ng A n c,ng A3 n3 c3]] w λe w'=>II (valQ m0 m1 m2 m3 m4 m5 m6 m7 m8 m9 m10 m11 n1 p0 p1 p2 p3 p4 p5 p6 p7 p8 p9 n n3 f1 f g) e/\Hid (Below w.heap.size w w'):=by
 have HR1:=aa hR1;have HR:=aa hR;have HT:=aa hT;have HA:=aa hA;have HU:=aa (λW=>useM_ m0 m2 W);have HP:=aa (λW=>pres_ m0 m1 m2 m3 m4 m5 m6 m7 m8 m9 m10 m11 A1 n1 c1 p0 p1 p2 p3 p4 p5 p6 p7 p8 p9 A n c A3 n3 c3 W);have HN:=aa (λu W=>num_ m0 m1 m2 m3 m4 m5 m6 m7 m8 m9 m10 m11 A1 n1 c1 p0 p1 p2 p3 p4 p5 p6 p7 p8 p9 A n c A3 n3 c3 u W);have HM:=aa (λu W=>nam_ m0 m1 m2 m3 m4 m5 m6 m7 m8 m9 m10 m11 A1 n1 c1 p0 p1 p2 p3 p4 p5 p6 p7 p8 p9 A n c A3 n3 c3 u zm8 zm9 zm10 W);have HL:=aa (λu W hW=>lis_ m0 m1 m2 m3 m4 m5 m6 m7 m8 m9 m10 m11 A1 n1 c1 p0 p1 p2 p3 p4 p5 p6 p7 p8 p9 A n c A3 n3 c3 u f1 f g w0 HR1.out HR.out HT.out hn1 hn hn3 zp5 W hW);have eQ:valQ m0 m1 m2 m3 m4 m5 m6 m7 m8 m9 m10 m11 n1 p0 p1 p2 p3 p4 p5 p6 p7 p8 p9 n n3 f1 f g=valQ m0 m1 m2 m3 m4 m5 m6 m7 m8 m9 m10 m11 n1 p0 p1 p2 p3 p4 p5 p6 p7 p8 p9 n n3 f1 f g:=rfl;have HB0:=aa (zy w (.cells #[U O m0,U O m1,U O m2,U O m3,U O m4,U O m5,U O m6,U O m7,nh m8,nh m9,nh m10,ni m11,ng A1 n1 c1,U O p0,U O p1,U O p2,U O p3,U O p4,nh p5,U O p6,U O p7,U O p8,U O p9,ng A n c,ng A3 n3 c3] 31));have HK0:=aa (mg.new w 31 #[U O m0,U O m1,U O m2,U O m3,U O m4,U O m5,U O m6,U O m7,nh m8,nh m9,nh m10,ni m11,ng A1 n1 c1,U O p0,U O p1,U O p2,U O p3,U O p4,nh p5,U O p6,U O p7,U O p8,U O p9,ng A n c,ng A3 n3 c3]);have HSZ:=aa (show(ab.info? 31).map (·.size)=I (#[U O m0,U O m1,U O m2,U O m3,U O m4,U O m5,U O m6,U O m7,nh m8,nh m9,nh m10,ni m11,ng A1 n1 c1,U O p0,U O p1,U O p2,U O p3,U O p4,nh p5,U O p6,U O p7,U O p8,U O p9,ng A n c,ng A3 n3 c3]:Array ny).size by kernel_rfl);have hQ:∃Q,Q=valQ m0 m1 m2 m3 m4 m5 m6 m7 m8 m9 m10 m11 n1 p0 p1 p2 p3 p4 p5 p6 p7 p8 p9 n n3 f1 f g:=⟨_,rfl⟩;obtain⟨Q,hQ⟩:=hQ;rw[<-hQ];have HQ:=aa hQ;have hb:∃B,B=uq [m3 != 0,m4 != 0,m5 != 0,m6 != 0,m7 != 0,!m8.toList.isEmpty,!m9.toList.isEmpty,!m10.toList.isEmpty,m11,decide (0<n1),qbc p0 p1 p2 p3 p4 p5 p6 p7 p8 p9 n,decide (0<n3)] 12:=⟨_,rfl⟩;obtain⟨B,hb⟩:=hb;rw[<-hb] at HP;have HBB:=aa hb;clear hR1 hR hT hA eQ hQ hb;go_enter Tryz.func19,Tryz.ntmps19;go_upto_region 1 with(fail);have k0:=HK0.out.cell;generalize w.alloc (.cells #[U O m0,U O m1,U O m2,U O m3,U O m4,U O m5,U O m6,U O m7,nh m8,nh m9,nh m10,ni m11,ng A1 n1 c1,U O p0,U O p1,U O p2,U O p3,U O p4,nh p5,U O p6,U O p7,U O p8,U O p9,ng A n c,ng A3 n3 c3] 31)=wbx at *;rcases cf (1<=m0/\m0<=3) with⟨h1,h2⟩|h1
 .rcases cf (1<=m1/\m1<=2147483647) with⟨h3,h4⟩|h3
  .go_wp2_with fail;refine(HU.out _).mono ?_;rintro e w2 ⟨rfl,hw2⟩;subst hw2;generalize hu:(qk0 m0 m2).1=u at *;generalize hk:(qk0 m0 m2).2=ok at *;have HU1:=aa hu;have HK1:=aa hk;clear hu hk HU;cases ok with
   | false=>
     go_wp2_with fail;go_ret;exact⟨⟨_,rfl,λe=>absurd e kj,λh=>by rw[HQ.out] at h;have:=h.2.2.2.2.1;rw[HK1.out] at this;cases this⟩,HB0⟩
   | true=>
     rcases cf (n1<=64/\n3<=64) with⟨l1,l3⟩|l1
     .have l1':¬(64:Int)<(n1:Int):=kg;have l3':¬(64:Int)<(n3:Int):=kg;go_wp2_with (refine bp rfl 31 (.tmp 1) rfl w.heap.size rfl 31 #[U O m0,U O m1,U O m2,U O m3,U O m4,U O m5,U O m6,U O m7,nh m8,nh m9,nh m10,ni m11,ng A1 n1 c1,U O p0,U O p1,U O p2,U O p3,U O p4,nh p5,U O p6,U O p7,U O p8,U O p9,ng A n c,ng A3 n3 c3] (0,0) _ HK0.out bz rfl HSZ.out ?_);refine(HP.out _).mono ?_;rintro e w3 ⟨rfl,hb3⟩;have HB3:=aa (qg HB0.out (show Below _ _ _ from hb3));have HK3:=aa (HK0.out.call (show Below _ _ _ from hb3));clear k0 hb3 HP;rcases cf (bits .andNot O B u=0) with z0|z0
      .have z1:(bits .andNot O B u != 0)=ns:=by simp[z0]
       have HZ0:=aa z0;clear z0;go_wp2_with (refine bp rfl 31 (.tmp 1) rfl w.heap.size rfl 31 #[U O m0,U O m1,U O m2,U O m3,U O m4,U O m5,U O m6,U O m7,nh m8,nh m9,nh m10,ni m11,ng A1 n1 c1,U O p0,U O p1,U O p2,U O p3,U O p4,nh p5,U O p6,U O p7,U O p8,U O p9,ng A n c,ng A3 n3 c3] (0,0) _ HK3.out bz rfl HSZ.out ?_);refine(HN.out u _).mono ?_;rintro e w4 ⟨⟨b4,rfl,q4⟩,hb4⟩;have HB4:=aa (qg HB3.out (show Below _ _ _ from hb4));have HK4:=aa (HK3.out.call (show Below _ _ _ from hb4));have HQ4:=aa q4;clear hb4 q4 HN;cases b4 with
       | false=>
         go_wp2_with fail;go_ret;exact⟨⟨_,rfl,λe=>absurd e kj,λh=>by rw[HQ.out] at h;have:=h.2.2.2.2.2.2.2.2.1;rw[HU1.out] at this;cases HQ4.out.2 this⟩,HB4⟩
       | true=>
         go_wp2_with (refine bp rfl 31 (.tmp 1) rfl w.heap.size rfl 31 #[U O m0,U O m1,U O m2,U O m3,U O m4,U O m5,U O m6,U O m7,nh m8,nh m9,nh m10,ni m11,ng A1 n1 c1,U O p0,U O p1,U O p2,U O p3,U O p4,nh p5,U O p6,U O p7,U O p8,U O p9,ng A n c,ng A3 n3 c3] (0,0) _ HK4.out bz rfl HSZ.out ?_);refine(HM.out u _).mono ?_;rintro e w5 ⟨⟨b5,rfl,q5⟩,hb5⟩;have HB5:=aa (qg HB4.out (show Below _ _ _ from hb5));have HK5:=aa (HK4.out.call (show Below _ _ _ from hb5));have HQ5:=aa q5;clear hb5 q5 HM;cases b5 with
         | false=>
           go_wp2_with fail;go_ret;exact⟨⟨_,rfl,λe=>absurd e kj,λh=>by rw[HQ.out] at h;have:=h.2.2.2.2.2.2.2.2.2.1;rw[HU1.out] at this;cases HQ5.out.2 this⟩,HB5⟩
         | true=>
           go_wp2_with (refine bp rfl 31 (.tmp 1) rfl w.heap.size rfl 31 #[U O m0,U O m1,U O m2,U O m3,U O m4,U O m5,U O m6,U O m7,nh m8,nh m9,nh m10,ni m11,ng A1 n1 c1,U O p0,U O p1,U O p2,U O p3,U O p4,nh p5,U O p6,U O p7,U O p8,U O p9,ng A n c,ng A3 n3 c3] (0,0) _ HK5.out bz rfl HSZ.out ?_);refine(HL.out u _ (HA.out.below HB5.out HA.out.size)).mono ?_;rintro e w6 ⟨⟨k6,rfl,q6⟩,hb6⟩;have HB6:=aa (qg HB5.out (show Below _ _ _ from hb6));have HQ6:=aa q6;clear hb6 q6 HL;go_wp2_with fail;go_ret;refine⟨⟨_,rfl,λe=>?_,λh=>?_⟩,HB6⟩
           .rw[HQ.out];refine⟨h1,h2,h3,h4,HK1.out,l1,l3,?_,?_,?_,?_⟩
            .rw[HU1.out];show bits _ _ (uq _ _) _=0;rw[<-HBB.out];exact HZ0.out
            .rw[HU1.out];exact HQ4.out.1 (by first|trivial|rfl)
            .rw[HU1.out];exact HQ5.out.1 (by first|trivial|rfl)
            .rw[HU1.out];exact HQ6.out.1 e
           .rw[HQ.out] at h;have:=h.2.2.2.2.2.2.2.2.2.2;rw[HU1.out] at this;exact HQ6.out.2 this
      .have z1:(bits .andNot O B u != 0)=nr:=by simpa using z0
       have HZ0:=aa z0;clear z0;go_wp2_with fail;go_ret
       exact⟨⟨_,rfl,λe=>absurd e kj,λh=>by
        rw[HQ.out] at h;have:=h.2.2.2.2.2.2.2.1;rw[HU1.out] at this
        exact(HZ0.out (by rw[HBB.out];exact this)).elim⟩,HB3⟩
     .have l1':64<n1\/64<n3:=kg;have HH:=aa l1;clear l1;go_wp2_with fail
      all_goals first|(go_ret;exact⟨⟨_,rfl,λe=>absurd e kj,λh=>by rw[HQ.out] at h;exact(HH.out ⟨h.2.2.2.2.2.1,h.2.2.2.2.2.2.1⟩).elim⟩,HB0⟩)|(exfalso;omega)
  .have h3':m1<1\/2147483647<m1:=kg;have HH:=aa h3;clear h3;go_wp2_with fail
   all_goals first|(go_ret;exact⟨⟨_,rfl,λe=>absurd e kj,λh=>by rw[HQ.out] at h;exact(HH.out ⟨h.2.2.1,h.2.2.2.1⟩).elim⟩,HB0⟩)|(exfalso;omega)
 .have h1':m0<1\/3<m0:=kg;have HH:=aa h1;clear h1;go_wp2_with fail
  all_goals first|(go_ret;exact⟨⟨_,rfl,λe=>absurd e kj,λh=>by rw[HQ.out] at h;exact(HH.out ⟨h.1,h.2.1⟩).elim⟩,HB0⟩)|(exfalso;omega)
end Mv
namespace Sy
open Go.RowKit Go.Great Mv
variable {cs:Array ny}{lb m:Nat}{v:ny}
section
variable {W0:nu}{T T':Nat->Prop}{w w':nu}{base:Nat}
def rsA(k id act st tm val:Int)(txt:ByteArray)(A1 A2 A3:Option Addr)(c1 c2 c3:Nat):Array ny:=#[U O k,U O id,U O act,zI,U O st,zI,U O tm,U O val,zS,zS,nh txt,ni ns,ng A1 0 c1,zI,zI,zI,zI,zI,zS,zI,zI,zI,zI,ng A2 0 c2,ng A3 0 c3]
theorem qfb{s:ByteArray}(h:s.size<=0):s=⟨#[]⟩:=by
 obtain⟨⟨l⟩⟩:=s;cases l with
 | nil=>rfl
 | cons a l=>simp[za] at h
theorem qru{e:nz}(h:CVc W0 T w base (.sl m e lb) v)(hl:lb=0):∃A c,v=ng A 0 c:=by
 subst hl;obtain⟨A,n,c,rfl,-⟩:=h.slc;have hn:((n:Nat):Int)<=((0:Nat):Int):=(CV.rng h rfl).2;obtain rfl:n=0:=kg;exact⟨A,c,rfl⟩
theorem rsp_of{k0 k1:Int}{rs:Array ny}(h:TyValc W0 T w base (qkt k0 k1) (.agg rs)):∃k id act st tm val txt A1 A2 A3 c1 c2 c3,rs=rsA k id act st tm val txt A1 A2 A3 c1 c2 c3/\k0<=k/\k<=k1/\0<=st/\st<=100/\0<=tm/\tm<=268435456/\0<=val/\val<=2147483647/\txt.size<=mf/\Sq txt:=by
 obtain⟨rs',e,hsz,ha⟩:=h;cases e;obtain⟨l⟩:=rs;have hsz:l.length=25:=hsz
 obtain⟨u0,u1,u2,u3,u4,u5,u6,u7,u8,u9,u10,u11,u12,u13,u14,u15,u16,u17,u18,u19,u20,u21,u22,u23,u24,rfl⟩:∃u0 u1 u2 u3 u4 u5 u6 u7 u8 u9 u10 u11 u12 u13 u14 u15 u16 u17 u18 u19 u20 u21 u22 u23 u24,l=[u0,u1,u2,u3,u4,u5,u6,u7,u8,u9,u10,u11,u12,u13,u14,u15,u16,u17,u18,u19,u20,u21,u22,u23,u24]:=by
  rcases l with _|⟨a0,_|⟨a1,_|⟨a2,_|⟨a3,_|⟨a4,_|⟨a5,_|⟨a6,_|⟨a7,_|⟨a8,_|⟨a9,_|⟨a10,_|⟨a11,_|⟨a12,_|⟨a13,_|⟨a14,_|⟨a15,_|⟨a16,_|⟨a17,_|⟨a18,_|⟨a19,_|⟨a20,_|⟨a21,_|⟨a22,_|⟨a23,_|⟨a24,_|⟨a25,l⟩⟩⟩⟩⟩⟩⟩⟩⟩⟩⟩⟩⟩⟩⟩⟩⟩⟩⟩⟩⟩⟩⟩⟩⟩⟩<;>first|(simp at hsz;done)|exact⟨_,_,_,_,_,_,_,_,_,_,_,_,_,_,_,_,_,_,_,_,_,_,_,_,_,rfl⟩
 obtain⟨k,rfl,y0,x0⟩:=ha 0 _ _ rfl rfl;obtain⟨id,rfl,y1,x1⟩:=ha 1 _ _ rfl rfl;obtain⟨act,rfl,y2,x2⟩:=ha 2 _ _ rfl rfl;obtain⟨z3,rfl,y3,x3⟩:=ha 3 _ _ rfl rfl;obtain rfl:z3=0:=kg;obtain⟨st,rfl,y4,x4⟩:=ha 4 _ _ rfl rfl;obtain⟨z5,rfl,y5,x5⟩:=ha 5 _ _ rfl rfl;obtain rfl:z5=0:=kg;obtain⟨tm,rfl,y6,x6⟩:=ha 6 _ _ rfl rfl;obtain⟨val,rfl,y7,x7⟩:=ha 7 _ _ rfl rfl;obtain⟨z8,rfl,y8⟩:=ha 8 _ _ rfl rfl;obtain rfl:=qfb y8;obtain⟨z9,rfl,y9⟩:=ha 9 _ _ rfl rfl;obtain rfl:=qfb y9;obtain⟨txt,rfl,y10,x10⟩:=ha 10 _ _ rfl rfl;obtain rfl:u11=ni ns:=ha 11 _ _ rfl rfl;obtain⟨A1,c1,rfl⟩:=qru (ha 12 _ _ rfl rfl) rfl;obtain⟨z13,rfl,y13,x13⟩:=ha 13 _ _ rfl rfl;obtain rfl:z13=0:=kg;obtain⟨z14,rfl,y14,x14⟩:=ha 14 _ _ rfl rfl;obtain rfl:z14=0:=kg;obtain⟨z15,rfl,y15,x15⟩:=ha 15 _ _ rfl rfl;obtain rfl:z15=0:=kg;obtain⟨z16,rfl,y16,x16⟩:=ha 16 _ _ rfl rfl;obtain rfl:z16=0:=kg;obtain⟨z17,rfl,y17,x17⟩:=ha 17 _ _ rfl rfl;obtain rfl:z17=0:=kg;obtain⟨z18,rfl,y18⟩:=ha 18 _ _ rfl rfl;obtain rfl:=qfb y18;obtain⟨z19,rfl,y19,x19⟩:=ha 19 _ _ rfl rfl;obtain rfl:z19=0:=kg;obtain⟨z20,rfl,y20,x20⟩:=ha 20 _ _ rfl rfl;obtain rfl:z20=0:=kg;obtain⟨z21,rfl,y21,x21⟩:=ha 21 _ _ rfl rfl;obtain rfl:z21=0:=kg;obtain⟨z22,rfl,y22,x22⟩:=ha 22 _ _ rfl rfl;obtain rfl:z22=0:=kg;obtain⟨A2,c2,rfl⟩:=qru (ha 23 _ _ rfl rfl) rfl;obtain⟨A3,c3,rfl⟩:=qru (ha 24 _ _ rfl rfl) rfl;exact⟨k,id,act,st,tm,val,txt,A1,A2,A3,c1,c2,c3,rfl,y0,x0,y4,x4,y6,x6,y7,x7,y10,x10⟩
theorem q02(b4 b6 b7 b10:Bool):bits .andNot O (uq [ns,b4,ns,b6,b7,ns,ns,b10,ns,ns,ns,ns] 12) 154=0:=by
 cases b4<;>cases b6<;>cases b7<;>cases b10<;>decide
theorem q0t(b4:Bool):bits .andNot O (uq [ns,b4,ns,ns,ns,ns,ns,ns,ns,ns,ns,ns] 12) 2=0:=by
 cases b4<;>decide
theorem q7b:qbc 0 0 0 0 0 ⟨#[]⟩ 0 0 0 0 0=ns:=(qpa ns (by unfold qm5;simp[abf,zb,za])).symm
theorem qry:(⟨#[]⟩:ByteArray).toList=[]:=by simp[abf,zb,za]
theorem q64{k id act st tm val:Int}{txt:ByteArray}{A1 A2 A3:Option Addr}{c1 c2 c3:Nat}(hk:k=2\/k=3)(hid:1<=id/\id<=2147483647)(hact:(qjr act).2=nr)(hst:0<=st/\st<=100)(htm:0<=tm/\tm<=268435456)(hval:0<=val/\val<=2147483647)
  (htx:txt.size<=mf/\Sq txt) (he:k=3->1<=st/\st<=25/\tm=0/\val=0/\txt.size=0) (W:nu):Calls ab 19 #[.agg (rsA k id act st tm val txt A1 A2 A3 c1 c2 c3)] W λe w'=>e=np (U O 0)/\Hid (Below W.heap.size W w'):=by
 have h0:∀j,¬j<0:=λj=>Nat.not_lt_zero j
 refine(val_ k id act 0 st 0 tm val ⟨#[]⟩ ⟨#[]⟩ txt ns A1 0 c1 0 0 0 0 0 ⟨#[]⟩ 0 0 0 0 A2 0 c2 A3 0 c3 (λ_=>(0,0)) (λ_=>(0,0)) (λ_=>⟨⟨#[]⟩,⟨#[]⟩,⟨#[]⟩,0,0,0⟩) W (λj hj=>(h0 j hj).elim) (λj hj=>(h0 j hj).elim) (λj hj=>(h0 j hj).elim) kj kj kj kj kj htx.1 kj W ⟨af _,λ_ _=>rfl⟩).mono ?_;rintro e w' ⟨⟨q,rfl,hq⟩,hb⟩;refine⟨congrArg (λx=>Ending.returned (U O x)) (hq.2 ?_),hb⟩
 have hu:(qk0 k act).2=nr:=by
  unfold qk0;rcases hk with rfl|rfl
  .simpa using hact
  .simpa using hact
 refine⟨kg,kg,hid.1,hid.2,hu,kj,kj,?_,?_,?_,?_⟩
 .unfold bitsOf;rw[q7b,qry];rcases hk with rfl|rfl
  .exact q02 _ _ _ _
  .obtain⟨a1,a2,rfl,rfl,a5⟩:=he rfl;rw[qfb (Nat.le_of_eq a5),qry];exact q0t _
 .rcases hk with rfl|rfl
  .exact⟨λh=>absurd (show bits .and O 154 1=0 by decide) h,λ_=>⟨λh=>kg,λ_=>hst⟩,kg,kg,htm.1,htm.2,hval.1,hval.2⟩
  .obtain⟨a1,a2,-⟩:=he rfl;exact⟨λh=>absurd (show bits .and O 2 1=0 by decide) h,λ_=>⟨λ_=>⟨a1,a2⟩,λh=>absurd rfl h⟩,kg,kg,htm.1,htm.2,hval.1,hval.2⟩
 .rcases hk with rfl|rfl
  .refine⟨λh=>absurd (show bits .and O 154 32=0 by decide) h,λh=>absurd (show bits .and O 154 64=0 by decide) h,λ_=>?_⟩;rcases htx.2 with h|h
   .exact .inr ⟨h,.inl kj⟩
   .exact .inl h
  .exact⟨λh=>absurd (show bits .and O 2 32=0 by decide) h,λh=>absurd (show bits .and O 2 64=0 by decide) h,λh=>absurd (show bits .and O 2 128=0 by decide) h⟩
 .refine⟨λj hj=>(h0 j hj).elim,λh=>?_,λj hj=>(h0 j hj).elim⟩;rcases hk with rfl|rfl
  .exact absurd (show bits .and O 154 1024=0 by decide) h
  .exact absurd (show bits .and O 2 1024=0 by decide) h
end
open Go.RowKit Go.Great
section
variable {W0:nu}{T:Nat->Prop}{w:nu}{base:Nat}
theorem q2y(hw:WTc W0 T w)(hv:CVc W0 T w base (.sl m 3 lb) v)(hlb:lb<=LM) :
  Calls ab 47 #[v] w (qzj cx W0 T w (.sl 2 3 lb) 1 (.sl m 3 lb) v):=by
 go_enter Tryz.func47,Tryz.ntmps47;go_wp2_with (at_builtin;refine um (cx:=cx) (d:=(yx cx 3).getD ⟨.oth,0,0,[],ns⟩) (f:=(cx.tb.flat 3).getD []) rfl (.const (ng V 0 0)) (.tmp 3) 40 rfl cxOk V rfl rfl (λad h=>by cases h) ki ki ki ki ki ko hlb hw hv ?_);intro r T' w' h1 h2 h3 h4;go_wp2_with fail;go_ret;exact⟨r,T',rfl,h1,h2,h3.elim (λh=>.inl h) id,h4⟩
theorem qph(hw:WTc W0 T w)(hv:CVc W0 T w base (.sl m 156 lb) v)(hlb:lb<=LM) :
  Calls ab 82 #[v] w (qzj cx W0 T w (.sl 2 156 lb) 1 (.sl m 156 lb) v):=by
 go_enter Tryz.func82,Tryz.ntmps82;go_wp2_with (at_builtin;refine um (cx:=cx) (d:=(yx cx 156).getD ⟨.oth,0,0,[],ns⟩) (f:=(cx.tb.flat 156).getD []) rfl (.const (ng V 0 0)) (.tmp 3) 23 rfl cxOk V rfl rfl (λad h=>by cases h) ki ki ki ki ki ko hlb hw hv ?_);intro r T' w' h1 h2 h3 h4;go_wp2_with fail;go_ret;exact⟨r,T',rfl,h1,h2,h3.elim (λh=>.inl h) id,h4⟩
theorem q65(hw:WTc W0 T w)(hv:CVc W0 T w base (.sl m 181 lb) v)(hlb:lb<=LM) :
  Calls ab 146 #[v] w (qzj cx W0 T w (.sl 2 181 lb) 1 (.sl m 181 lb) v):=by
 go_enter Tryz.func146,Tryz.ntmps146;go_wp2_with (at_builtin;refine um (cx:=cx) (d:=(yx cx 181).getD ⟨.oth,0,0,[],ns⟩) (f:=(cx.tb.flat 181).getD []) rfl (.const (ng V 0 0)) (.tmp 3) 26 rfl cxOk V rfl rfl (λad h=>by cases h) ki ki ki ki ki ko hlb hw hv ?_);intro r T' w' h1 h2 h3 h4;go_wp2_with fail;go_ret;exact⟨r,T',rfl,h1,h2,h3.elim (λh=>.inl h) id,h4⟩
theorem q61(hw:WTc W0 T w)(hv:TyValc W0 T w base (.agg ((cx.tb.flat 28).getD [])) (.agg cs)):Calls ab 128 #[.agg cs] w (qvt cx W0 T w 1 ((cx.tb.flat 28).getD []) cs):=by
 have H0:=qzp.start (t:=28) (tz:=28) (z:=zM) hw hv ki 1;have HC0:=aa H0.1;have HZ0:=aa H0.2;have HN:=aa (zf hv);have hone:=xx hv;obtain⟨v0,hv0,ht0⟩:=jd hv (k:=10) (ct:=((cx.tb.flat 28).getD []).getD 10 .any) ki;have HV0:=aa hv0;have HT0:=aa ht0;clear hv0 ht0;clear H0;go_enter Tryz.func128,Tryz.ntmps128;go_upto_region 1 with(fail);clear hone;generalize (w.alloc (.cells cs 28)).alloc (.cells zM 28)=w0 at *;have HU0:Hid (Un 0 cs cs):=aa (λ_ _=>rfl);have hc0:=(HU0.out 10 kg).trans HV0.out;have kc0:w0.cell? ⟨w.heap.size,10,V⟩=I v0:=by rw[HC0.out.b.bk.cell];exact hc0
 go_wp2_with fail;refine(q65 HC0.out.b.wt (HT0.out.mono HC0.out.b.hi.ext (af _)) kj).mono ?_;rintro e w1a ⟨r0,T1,rfl,hw0,hh0,hr0,he0⟩;obtain⟨a0,n0,c0,rfl,-⟩:=hr0.slc;obtain⟨kd0,kf0,HC1,HZ1,HU1⟩:=HC0.out.fld (lim:=0) HZ0.out HU0.out (k:=10) kj ki ki HV0.out hw0 hh0 hr0 ki (λdp=>he0 (dp+0));clear hw0 hh0 hr0 he0 kc0 hc0;go_upto_region 2 with(fail);clear kd0 kf0;generalize w1a.setCell ⟨w.heap.size,10,V⟩ (ng a0 n0 c0)=w1 at *;generalize (cs).setIfInBounds 10 (ng a0 n0 c0)=cs1 at *;have HS:Hid ((ab.info? 28).map (·.size)=I (cs1).size):=aa (by rw[zf HC1.out.ty];kernel_rfl);have HO:=aa (xx HC1.out.ty);have HQ:Hid ((zM:Array ny).size=(cs1).size):=aa (by rw[zf HC1.out.ty];kernel_rfl);have HD:=aa (HC1.out.done ki HZ1.out kg);go_wp2_with (first|(refine bp rfl 28 (.tmp 1) rfl w.heap.size rfl 28 cs1 (0,0) _ HC1.out.b.bk vp rfl HS.out ?_)|(refine br rfl 28 (.tmp 2) (.tmp 7) rfl rfl (w.heap.size+1) cs1 rfl rfl 28 _ HZ1.out.bk HS.out HQ.out HO.out ?_));refine du (ll rfl _ _ (w.heap.size+1) 28 cs1 (0,0) _ rfl HD.out.2 vp rfl HS.out) rfl ?_;exact HD.out.1
theorem list45(hw:WTc W0 T w)(hv:CVc W0 T w base (.sl m 34 lb) v)(hlb:lb<=LM) :
  Calls ab 45 #[v] w (qzj cx W0 T w (.sl 2 34 lb) 1 (.sl m 34 lb) v):=by
 go_enter aea,acz;go_wp2_with (at_builtin;refine um (cx:=cx) (d:=(yx cx 34).getD ⟨.oth,0,0,[],ns⟩) (f:=(cx.tb.flat 34).getD []) rfl (.const (ng V 0 0)) (.tmp 3) 29 rfl cxOk V rfl rfl (λad h=>by cases h) ki ki ki ki ki ko hlb hw hv ?_);intro r T' w' h1 h2 h3 h4;go_wp2_with fail;go_ret;exact⟨r,T',rfl,h1,h2,h3.elim (λh=>.inl h) id,h4⟩
theorem q6f{q:Nat}(hw:WTc W0 T w)(hv:CVc W0 T w base (.cs q 34 lb) v)(hlb:lb<=LM:=by decide) :
  Calls ab 45 #[v] w (qzj cx W0 T w (.cs q 34 lb) 1 (.cs q 34 lb) v):=by
 go_enter aea,acz;go_wp2_with (at_builtin;refine qgj (cx:=cx) (d:=(yx cx 34).getD ⟨.oth,0,0,[],ns⟩) (f:=(cx.tb.flat 34).getD []) rfl (.const (ng V 0 0)) (.tmp 3) 29 rfl cxOk rfl rfl ki ki ki ki ki ko hlb hw hv ?_);intro r T' w' h1 h2 h3 h4;go_wp2_with fail;go_ret;exact⟨r,T',rfl,h1,h2,h3,h4⟩
theorem q6x(hw:WTc W0 T w)(hv:TyValc W0 T w base (.agg ((cx.tb.flat 31).getD [])) (.agg cs)):Calls ab 109 #[.agg cs] w (qvt cx W0 T w 1 ((cx.tb.flat 31).getD []) cs):=by
 have H0:=qzp.start (t:=31) (tz:=31) (z:=zA) hw hv ki 1;have HC0:=aa H0.1;have HZ0:=aa H0.2;have HN:=aa (zf hv);have hone:=xx hv;obtain⟨v0,hv0,ht0⟩:=jd hv (k:=12) (ct:=((cx.tb.flat 31).getD []).getD 12 .any) ki;have HV0:=aa hv0;have HT0:=aa ht0;clear hv0 ht0;obtain⟨xs1,hx1,hy1⟩:=qwp hv (o:=13) (m:=(cx.tb.flat 28).getD []) (qx5 ki) kj;have HX1:Hid (Ptc cs 13 11 xs1):=hx1;have HT1:=aa hy1;have HS1:Hid ((ab.info? 28).map (·.size)=I xs1.toList.length):=aa (by rw[aw,zf HT1.out];kernel_rfl);clear hx1 hy1;obtain⟨v2,hv2,ht2⟩:=jd hv (k:=24) (ct:=((cx.tb.flat 31).getD []).getD 24 .any) ki;have HV2:=aa hv2;have HT2:=aa ht2;clear hv2 ht2;clear H0;go_enter Tryz.func109,Tryz.ntmps109;go_upto_region 1 with(fail);clear hone;generalize (w.alloc (.cells cs 31)).alloc (.cells zA 31)=w0 at *;have HU0:Hid (Un 0 cs cs):=aa (λ_ _=>rfl);have hc0:=(HU0.out 12 kg).trans HV0.out;have kc0:w0.cell? ⟨w.heap.size,12,V⟩=I v0:=by rw[HC0.out.b.bk.cell];exact hc0
 go_wp2_with fail;refine(qph HC0.out.b.wt (HT0.out.mono HC0.out.b.hi.ext (af _)) kj).mono ?_;rintro e w1a ⟨r0,T1,rfl,hw0,hh0,hr0,he0⟩;obtain⟨a0,n0,c0,rfl,-⟩:=hr0.slc;obtain⟨kd0,kf0,HC1,HZ1,HU1⟩:=HC0.out.fld (lim:=0) HZ0.out HU0.out (k:=12) kj ki ki HV0.out hw0 hh0 hr0 ki (λdp=>he0 (dp+0));clear hw0 hh0 hr0 he0 kc0 hc0;go_upto_region 2 with(fail);clear kd0 kf0;generalize w1a.setCell ⟨w.heap.size,12,V⟩ (ng a0 n0 c0)=w1 at *;generalize (cs).setIfInBounds 12 (ng a0 n0 c0)=cs1 at *;go_wp2_with (refine gd rfl 28 (.tmp 7) rfl w.heap.size 13 rfl xs1.toList _ (qpv (lim:=(12+1)) HC1.out.b.bk HU1.out kg HX1.out) vp rfl HS1.out ?_);refine(q61 HC1.out.b.wt (zx HC1.out.b.hi.ext HT1.out)).mono ?_;rintro e w2a ⟨r1,T2,rfl,hw1,hh1,hr1,he1⟩;have qbt:=aa (HC1.out.b.call hw1 hh1);have HG1:Hid (w2a.there w.heap.size 13 r1.size):=aa (qkw qbt.out.bk (by rw[zf hr1,zf HC1.out.ty];decide));have HI1:Hid ((ab.info? 28).map (·.size)=I r1.size):=aa (by rw[zf hr1];kernel_rfl);have HO1:=aa (xx hr1);obtain⟨cs2,hC1,hu1⟩:=HC1.out.qxk (o:=13) (m:=(cx.tb.flat 28).getD []) (xs:=xs1) (qx5 ki) ki HX1.out.2 kj hw1 hh1 hr1 (λdp=>he1 (dp+0));have HC2:=aa hC1;have HZ2:=aa ((HZ1.out.call hh1).sets (p:=w.heap.size) (o:=13) (rs:=r1.toList) kg);have HU2:Hid (Un (13+11) cs cs2):=aa (qta (lim:=(12+1)) HU1.out hu1 kg);clear hw1 hh1 hr1 he1 qbt hC1 hu1;go_upto_region 3 with(refine jj rfl 28 (.tmp 10) (.tmp 9) rfl w.heap.size 13 r1 rfl rfl HG1.out HI1.out HO1.out ?_);generalize w2a.setCells w.heap.size 13 r1.toList=w2 at *;have hc2:=(HU2.out 24 kg).trans HV2.out;have kc2:w2.cell? ⟨w.heap.size,24,V⟩=I v2:=by rw[HC2.out.b.bk.cell];exact hc2
 go_wp2_with fail;refine(list45 HC2.out.b.wt (HT2.out.mono HC2.out.b.hi.ext (af _)) kj).mono ?_;rintro e w3a ⟨r2,T3,rfl,hw2,hh2,hr2,he2⟩;obtain⟨a2,n2,c2,rfl,-⟩:=hr2.slc;obtain⟨kd2,kf2,HC3,HZ3,HU3⟩:=HC2.out.fld (lim:=(13+11)) HZ2.out HU2.out (k:=24) kj ki ki HV2.out hw2 hh2 hr2 ki (λdp=>he2 (dp+0));clear hw2 hh2 hr2 he2 kc2 hc2;go_upto_region 4 with(fail);clear kd2 kf2;generalize w3a.setCell ⟨w.heap.size,24,V⟩ (ng a2 n2 c2)=w3 at *;generalize (cs2).setIfInBounds 24 (ng a2 n2 c2)=cs3 at *;have HS:Hid ((ab.info? 31).map (·.size)=I (cs3).size):=aa (by rw[zf HC3.out.ty];kernel_rfl);have HO:=aa (xx HC3.out.ty);have HQ:Hid ((zA:Array ny).size=(cs3).size):=aa (by rw[zf HC3.out.ty];kernel_rfl);have HD:=aa (HC3.out.done ki HZ3.out kg);go_wp2_with (first|(refine bp rfl 31 (.tmp 1) rfl w.heap.size rfl 31 cs3 (0,0) _ HC3.out.b.bk bz rfl HS.out ?_)|(refine br rfl 31 (.tmp 2) (.tmp 15) rfl rfl (w.heap.size+1) cs3 rfl rfl 31 _ HZ3.out.bk HS.out HQ.out HO.out ?_));refine du (ll rfl _ _ (w.heap.size+1) 31 cs3 (0,0) _ rfl HD.out.2 bz rfl HS.out) rfl ?_;exact HD.out.1
def q2q(W0:nu)(T:Nat->Prop)(w:nu)(A:Option Addr)(n j:Nat)(W:nu):Prop:=∃(T':Nat->Prop) (cur:Array ny),qyk cx W0 T w w.heap.size 31 ((cx.tb.flat 31).getD []) 1 n A j T' W cur
theorem qlz(hw:WTc W0 T w)(hv:CVc W0 T w base (.sl m 31 lb) v)(hlb:lb<=1048576) :
  Calls ab 108 #[v,.func (.func 109) #[] #[]] w (qzj cx W0 T w (.sl 2 31 lb) 2 (.sl m 31 lb) v):=by
 obtain⟨A,n,c,rfl,v1,v2,v3,v4⟩:=hv.slc;have hn:=qjd hv;have qaf:=aa (λj (hj:j<n)=>jr (cx:=cx) hw (f:=((cx.tb.flat 31).getD [])) ki hv hj);have HW:=aa hw;have HLB:=aa hlb;have HNL:=aa hn;have hml:mf=9223372036854775807:=kj;have hn1:n<=1048576:=kg;have HLM:Hid (n<=LM):=aa (cy hn1 kj);clear hv v3 v4;go_enter Tryz.func108,Tryz.ntmps108;go_wp2_with (at_make;go_loud (refine qq4 (cx:=cx) (e:=31) (d:=(yx cx 31).getD ⟨.oth,0,0,[],ns⟩) (f:=((cx.tb.flat 31).getD [])) rfl 58 (.tmp 9) (.tmp 9) rfl cxOk ki ki ki ki ko n n rfl rfl (af _) HLM.out ?_));intro cur0 hz;have HE0:=aa (qyk.start (cx:=cx) (e:=31) (f:=((cx.tb.flat 31).getD [])) (d:=(yx cx 31).getD ⟨.oth,0,0,[],ns⟩) HW.out ki ki ki hz 1 A 0 rfl);clear hz;generalize w.alloc (.cells cur0 31)=w1 at *;go_wp2_with fail;go_loopg [13] n (λgg s13 wr=>∃j:Nat,j+gg=n/\s13=U O j/\Hid (q2q W0 T w A n j wr))
 case atStart=>exact⟨0,kg,rfl,aa ⟨T,cur0,HE0.out⟩⟩
 case round=>
  obtain⟨j,hj,rfl,HEE⟩:=hrel;obtain⟨T',cur,hE⟩:=HEE.out;have HE:=aa hE;clear HEE hE;by_cases hjn:j<n
  .obtain⟨xs,hx⟩:=qaf.out j hjn;obtain⟨b,off,rfl,-,-,hxs,-,hxt⟩:=id hx;have hxz:xs.toList.length=25:=by rw[aw,hxs];kernel_rfl
   have HX:=aa hx;have HXT:=aa hxt;have HXS:Hid ((ab.info? 31).map (·.size)=I xs.toList.length):=aa (by rw[aw,hxs];kernel_rfl);have HXQ:Hid ((zA:Array ny).size=xs.size):=aa (by rw[hxs];kernel_rfl);have HXO:=aa (xx hxt);have HXR:Hid (wr.rangeAt b (off+j*25) xs.toList):=aa (hx.range HE.out.b.hi.qbv);have HZ:=aa (mg.new wr 31 zA);have hltz:(j:Int)<(n:Int):=kg;have hj0:(0:Int)<=(j:Int):=kg;have e4:IntKind.i64.wrap ((j:Int)+1)=((j+1:Nat):Int):=by simp[di,dj,cz];omega
   clear hx hxs hxt;go_upto_region 5 with(first|(refine gd rfl 31 (.tmp 16) rfl b (off+j*25) rfl xs.toList _ HXR.out bz rfl HXS.out ?_)|(refine br rfl 31 (.tmp 7) (.tmp 17) rfl rfl wr.heap.size xs rfl rfl 31 zA HZ.out HXS.out HXQ.out HXO.out ?_));rw[fx];have HB:=aa (zy wr (.cells xs 31));have HK:=aa (mg.new wr 31 xs);have HE2:=aa (HE.out.call (zh HE.out.b.wt HB.out).1 (zk HE.out.b.wt HB.out));clear HB HZ HXR;generalize wr.alloc (.cells xs 31)=wy at *;generalize wr.heap.size=gB at *;go_upto_region 5 with(refine bp rfl 31 (.tmp 7) rfl gB rfl 31 xs (0,0) _ HK.out bz rfl HXS.out ?_);go_wp2_with (refine bp rfl 31 (.tmp 7) rfl gB rfl 31 xs (0,0) _ HK.out bz rfl HXS.out ?_);refine(q6x HE2.out.b.wt (zx HE2.out.b.hi.ext HXT.out)).mono ?_;rintro e w5 ⟨rs,T5,rfl,hw5,hh5,hr5,he5⟩;obtain⟨cur6,HE6,HRI,HRO,HTH⟩:=HE2.out.rnd (z:=25) ki kj ki hjn HX.out hw5 hh5 hr5 he5 HXS.out hxz;clear hw5 hh5 hr5 he5 HE2 HE HK;go_upto_region 6 with(refine jj rfl 31 (.tmp 23) (.tmp 22) rfl w.heap.size (j*25) rs rfl rfl HTH.out HRI.out HRO.out ?_);generalize w5.setCells w.heap.size (j*25) rs.toList=w6 at *;go_wp2_with fail;go_roundg (n-(j+1))
   case measure=>omega
   case rel=>exact⟨j+1,kg,kq,aa ⟨T5,cur6,HE6.out⟩⟩
  .have xm:n=j:=kg;have HD:=aa (HE.out.done (c:=c) (m:=m) (lb:=lb) xm.symm ki kj ki HW.out HNL.out kg);subst xm;go_wp2_with fail;go_ret;exact HD.out
theorem copy81(hw:WTc W0 T w)(hv:TyValc W0 T w base (.agg ((cx.tb.flat 82).getD [])) (.agg cs)):Calls ab 81 #[.agg cs] w (qvt cx W0 T w 2 ((cx.tb.flat 82).getD []) cs):=by
 have H0:=qzp.start (t:=82) (tz:=82) (z:=zB) hw hv ki 2;have HC0:=aa H0.1;have HZ0:=aa H0.2;have HN:=aa (zf hv);have hone:=xx hv;obtain⟨v0,hv0,ht0⟩:=jd hv (k:=3) (ct:=((cx.tb.flat 82).getD []).getD 3 .any) ki;have HV0:=aa hv0;have HT0:=aa ht0;clear hv0 ht0;obtain⟨v1,hv1,ht1⟩:=jd hv (k:=4) (ct:=((cx.tb.flat 82).getD []).getD 4 .any) ki;have HV1:=aa hv1;have HT1:=aa ht1;clear hv1 ht1;obtain⟨v2,hv2,ht2⟩:=jd hv (k:=7) (ct:=((cx.tb.flat 82).getD []).getD 7 .any) ki;have HV2:=aa hv2;have HT2:=aa ht2;clear hv2 ht2;clear H0;go_enter Tryz.func81,Tryz.ntmps81;go_upto_region 1 with(fail);clear hone;generalize (w.alloc (.cells cs 82)).alloc (.cells zB 82)=w0 at *;have HU0:Hid (Un 0 cs cs):=aa (λ_ _=>rfl);have hc0:=(HU0.out 3 kg).trans HV0.out;have kc0:w0.cell? ⟨w.heap.size,3,V⟩=I v0:=by rw[HC0.out.b.bk.cell];exact hc0
 go_wp2_with fail;refine(qlz HC0.out.b.wt (HT0.out.mono HC0.out.b.hi.ext (af _)) kj).mono ?_;rintro e w1a ⟨r0,T1,rfl,hw0,hh0,hr0,he0⟩;obtain⟨a0,n0,c0,rfl,-⟩:=hr0.slc;obtain⟨kd0,kf0,HC1,HZ1,HU1⟩:=HC0.out.fld (lim:=0) HZ0.out HU0.out (k:=3) kj ki ki HV0.out hw0 hh0 hr0 ki (λdp=>he0 (dp+0));clear hw0 hh0 hr0 he0 kc0 hc0;go_upto_region 2 with(fail);clear kd0 kf0;generalize w1a.setCell ⟨w.heap.size,3,V⟩ (ng a0 n0 c0)=w1 at *;generalize (cs).setIfInBounds 3 (ng a0 n0 c0)=cs1 at *;have hc1:=(HU1.out 4 kg).trans HV1.out;have kc1:w1.cell? ⟨w.heap.size,4,V⟩=I v1:=by rw[HC1.out.b.bk.cell];exact hc1
 go_wp2_with fail;refine(qlz HC1.out.b.wt (HT1.out.mono HC1.out.b.hi.ext (af _)) kj).mono ?_;rintro e w2a ⟨r1,T2,rfl,hw1,hh1,hr1,he1⟩;obtain⟨a1,n1,c1,rfl,-⟩:=hr1.slc;obtain⟨kd1,kf1,HC2,HZ2,HU2⟩:=HC1.out.fld (lim:=(3+1)) HZ1.out HU1.out (k:=4) kj ki ki HV1.out hw1 hh1 hr1 ki (λdp=>he1 (dp+0));clear hw1 hh1 hr1 he1 kc1 hc1;go_upto_region 3 with(fail);clear kd1 kf1;generalize w2a.setCell ⟨w.heap.size,4,V⟩ (ng a1 n1 c1)=w2 at *;generalize (cs1).setIfInBounds 4 (ng a1 n1 c1)=cs2 at *;have hc2:=(HU2.out 7 kg).trans HV2.out;have kc2:w2.cell? ⟨w.heap.size,7,V⟩=I v2:=by rw[HC2.out.b.bk.cell];exact hc2
 go_wp2_with fail;refine(qlz HC2.out.b.wt (HT2.out.mono HC2.out.b.hi.ext (af _)) kj).mono ?_;rintro e w3a ⟨r2,T3,rfl,hw2,hh2,hr2,he2⟩;obtain⟨a2,n2,c2,rfl,-⟩:=hr2.slc;obtain⟨kd2,kf2,HC3,HZ3,HU3⟩:=HC2.out.fld (lim:=(4+1)) HZ2.out HU2.out (k:=7) kj ki ki HV2.out hw2 hh2 hr2 ki (λdp=>he2 (dp+0));clear hw2 hh2 hr2 he2 kc2 hc2;go_upto_region 4 with(fail);clear kd2 kf2;generalize w3a.setCell ⟨w.heap.size,7,V⟩ (ng a2 n2 c2)=w3 at *;generalize (cs2).setIfInBounds 7 (ng a2 n2 c2)=cs3 at *;have HS:Hid ((ab.info? 82).map (·.size)=I (cs3).size):=aa (by rw[zf HC3.out.ty];kernel_rfl);have HO:=aa (xx HC3.out.ty);have HQ:Hid ((zB:Array ny).size=(cs3).size):=aa (by rw[zf HC3.out.ty];kernel_rfl);have HD:=aa (HC3.out.done ki HZ3.out kg);go_wp2_with (first|(refine bp rfl 82 (.tmp 1) rfl w.heap.size rfl 82 cs3 (0,0) _ HC3.out.b.bk dt rfl HS.out ?_)|(refine br rfl 82 (.tmp 2) (.tmp 15) rfl rfl (w.heap.size+1) cs3 rfl rfl 82 _ HZ3.out.bk HS.out HQ.out HO.out ?_));refine du (ll rfl _ _ (w.heap.size+1) 82 cs3 (0,0) _ rfl HD.out.2 dt rfl HS.out) rfl ?_;exact HD.out.1
theorem copy44(hw:WTc W0 T w)(hv:TyValc W0 T w base (.agg ((cx.tb.flat 84).getD [])) (.agg cs)):Calls ab 44 #[.agg cs] w (qvt cx W0 T w 2 ((cx.tb.flat 84).getD []) cs):=by
 have H0:=qzp.start (t:=84) (tz:=84) (z:=zE) hw hv ki 2;have HC0:=aa H0.1;have HZ0:=aa H0.2;have HN:=aa (zf hv);have hone:=xx hv;obtain⟨v0,hv0,ht0⟩:=jd hv (k:=3) (ct:=((cx.tb.flat 84).getD []).getD 3 .any) ki;have HV0:=aa hv0;have HT0:=aa ht0;clear hv0 ht0;obtain⟨xs1,hx1,hy1⟩:=qwp hv (o:=5) (m:=(cx.tb.flat 82).getD []) (qx5 ki) kj;have HX1:Hid (Ptc cs 5 8 xs1):=hx1;have HT1:=aa hy1;have HS1:Hid ((ab.info? 82).map (·.size)=I xs1.toList.length):=aa (by rw[aw,zf HT1.out];kernel_rfl);clear hx1 hy1;clear H0;go_enter Tryz.func44,Tryz.ntmps44;go_upto_region 1 with(fail);clear hone;generalize (w.alloc (.cells cs 84)).alloc (.cells zE 84)=w0 at *;have HU0:Hid (Un 0 cs cs):=aa (λ_ _=>rfl);have hc0:=(HU0.out 3 kg).trans HV0.out;have kc0:w0.cell? ⟨w.heap.size,3,V⟩=I v0:=by rw[HC0.out.b.bk.cell];exact hc0
 go_wp2_with fail;refine(q2y HC0.out.b.wt (HT0.out.mono HC0.out.b.hi.ext (af _)) kj).mono ?_;rintro e w1a ⟨r0,T1,rfl,hw0,hh0,hr0,he0⟩;obtain⟨a0,n0,c0,rfl,-⟩:=hr0.slc;obtain⟨kd0,kf0,HC1,HZ1,HU1⟩:=HC0.out.fld (lim:=0) HZ0.out HU0.out (k:=3) kj ki ki HV0.out hw0 hh0 hr0 ki (λdp=>he0 (dp+1));clear hw0 hh0 hr0 he0 kc0 hc0;go_upto_region 2 with(fail);clear kd0 kf0;generalize w1a.setCell ⟨w.heap.size,3,V⟩ (ng a0 n0 c0)=w1 at *;generalize (cs).setIfInBounds 3 (ng a0 n0 c0)=cs1 at *;go_wp2_with (refine gd rfl 82 (.tmp 7) rfl w.heap.size 5 rfl xs1.toList _ (qpv (lim:=(3+1)) HC1.out.b.bk HU1.out kg HX1.out) dt rfl HS1.out ?_);refine(copy81 HC1.out.b.wt (zx HC1.out.b.hi.ext HT1.out)).mono ?_;rintro e w2a ⟨r1,T2,rfl,hw1,hh1,hr1,he1⟩;have qbt:=aa (HC1.out.b.call hw1 hh1);have HG1:Hid (w2a.there w.heap.size 5 r1.size):=aa (qkw qbt.out.bk (by rw[zf hr1,zf HC1.out.ty];decide));have HI1:Hid ((ab.info? 82).map (·.size)=I r1.size):=aa (by rw[zf hr1];kernel_rfl);have HO1:=aa (xx hr1);obtain⟨cs2,hC1,hu1⟩:=HC1.out.qxk (o:=5) (m:=(cx.tb.flat 82).getD []) (xs:=xs1) (qx5 ki) ki HX1.out.2 kj hw1 hh1 hr1 (λdp=>he1 (dp+0));have HC2:=aa hC1;have HZ2:=aa ((HZ1.out.call hh1).sets (p:=w.heap.size) (o:=5) (rs:=r1.toList) kg);have HU2:Hid (Un (5+8) cs cs2):=aa (qta (lim:=(3+1)) HU1.out hu1 kg);clear hw1 hh1 hr1 he1 qbt hC1 hu1;go_upto_region 3 with(refine jj rfl 82 (.tmp 10) (.tmp 9) rfl w.heap.size 5 r1 rfl rfl HG1.out HI1.out HO1.out ?_);generalize w2a.setCells w.heap.size 5 r1.toList=w2 at *;have HS:Hid ((ab.info? 84).map (·.size)=I (cs2).size):=aa (by rw[zf HC2.out.ty];kernel_rfl);have HO:=aa (xx HC2.out.ty);have HQ:Hid ((zE:Array ny).size=(cs2).size):=aa (by rw[zf HC2.out.ty];kernel_rfl);have HD:=aa (HC2.out.done ki HZ2.out kg);go_wp2_with (first|(refine bp rfl 84 (.tmp 1) rfl w.heap.size rfl 84 cs2 (0,0) _ HC2.out.b.bk pe rfl HS.out ?_)|(refine br rfl 84 (.tmp 2) (.tmp 11) rfl rfl (w.heap.size+1) cs2 rfl rfl 84 _ HZ2.out.bk HS.out HQ.out HO.out ?_));refine du (ll rfl _ _ (w.heap.size+1) 84 cs2 (0,0) _ rfl HD.out.2 pe rfl HS.out) rfl ?_;exact HD.out.1
def q5h(W0:nu)(T:Nat->Prop)(w:nu)(A:Option Addr)(n j:Nat)(W:nu):Prop:=∃(T':Nat->Prop) (cur:Array ny),qyk cx W0 T w w.heap.size 84 ((cx.tb.flat 84).getD []) 2 n A j T' W cur
theorem each43(hw:WTc W0 T w)(hv:CVc W0 T w base (.sl m 84 lb) v)(hlb:lb<=1048576) :
  Calls ab 43 #[v,.func (.func 44) #[] #[]] w (qzj cx W0 T w (.sl 2 84 lb) 3 (.sl m 84 lb) v):=by
 obtain⟨A,n,c,rfl,v1,v2,v3,v4⟩:=hv.slc;have hn:=qjd hv;have qaf:=aa (λj (hj:j<n)=>jr (cx:=cx) hw (f:=((cx.tb.flat 84).getD [])) ki hv hj);have HW:=aa hw;have HLB:=aa hlb;have HNL:=aa hn;have hml:mf=9223372036854775807:=kj;have hn1:n<=1048576:=kg;have HLM:Hid (n<=LM):=aa (cy hn1 kj);clear hv v3 v4;go_enter Tryz.func43,Tryz.ntmps43;go_wp2_with (at_make;go_loud (refine qq4 (cx:=cx) (e:=84) (d:=(yx cx 84).getD ⟨.oth,0,0,[],ns⟩) (f:=((cx.tb.flat 84).getD [])) rfl 38 (.tmp 9) (.tmp 9) rfl cxOk ki ki ki ki ko n n rfl rfl (af _) HLM.out ?_));intro cur0 hz;have HE0:=aa (qyk.start (cx:=cx) (e:=84) (f:=((cx.tb.flat 84).getD [])) (d:=(yx cx 84).getD ⟨.oth,0,0,[],ns⟩) HW.out ki ki ki hz 2 A 0 rfl);clear hz;generalize w.alloc (.cells cur0 84)=w1 at *;go_wp2_with fail;go_loopg [13] n (λgg s13 wr=>∃j:Nat,j+gg=n/\s13=U O j/\Hid (q5h W0 T w A n j wr))
 case atStart=>exact⟨0,kg,rfl,aa ⟨T,cur0,HE0.out⟩⟩
 case round=>
  obtain⟨j,hj,rfl,HEE⟩:=hrel;obtain⟨T',cur,hE⟩:=HEE.out;have HE:=aa hE;clear HEE hE;by_cases hjn:j<n
  .obtain⟨xs,hx⟩:=qaf.out j hjn;obtain⟨b,off,rfl,-,-,hxs,-,hxt⟩:=id hx;have hxz:xs.toList.length=13:=by rw[aw,hxs];kernel_rfl
   have HX:=aa hx;have HXT:=aa hxt;have HXS:Hid ((ab.info? 84).map (·.size)=I xs.toList.length):=aa (by rw[aw,hxs];kernel_rfl);have HXQ:Hid ((zE:Array ny).size=xs.size):=aa (by rw[hxs];kernel_rfl);have HXO:=aa (xx hxt);have HXR:Hid (wr.rangeAt b (off+j*13) xs.toList):=aa (hx.range HE.out.b.hi.qbv);have HZ:=aa (mg.new wr 84 zE);have hltz:(j:Int)<(n:Int):=kg;have hj0:(0:Int)<=(j:Int):=kg;have e4:IntKind.i64.wrap ((j:Int)+1)=((j+1:Nat):Int):=by simp[di,dj,cz];omega
   clear hx hxs hxt;go_upto_region 5 with(first|(refine gd rfl 84 (.tmp 16) rfl b (off+j*13) rfl xs.toList _ HXR.out pe rfl HXS.out ?_)|(refine br rfl 84 (.tmp 7) (.tmp 17) rfl rfl wr.heap.size xs rfl rfl 84 zE HZ.out HXS.out HXQ.out HXO.out ?_));rw[fx];have HB:=aa (zy wr (.cells xs 84));have HK:=aa (mg.new wr 84 xs);have HE2:=aa (HE.out.call (zh HE.out.b.wt HB.out).1 (zk HE.out.b.wt HB.out));clear HB HZ HXR;generalize wr.alloc (.cells xs 84)=wy at *;generalize wr.heap.size=gB at *;go_upto_region 5 with(refine bp rfl 84 (.tmp 7) rfl gB rfl 84 xs (0,0) _ HK.out pe rfl HXS.out ?_);go_wp2_with (refine bp rfl 84 (.tmp 7) rfl gB rfl 84 xs (0,0) _ HK.out pe rfl HXS.out ?_);refine(copy44 HE2.out.b.wt (zx HE2.out.b.hi.ext HXT.out)).mono ?_;rintro e w5 ⟨rs,T5,rfl,hw5,hh5,hr5,he5⟩;obtain⟨cur6,HE6,HRI,HRO,HTH⟩:=HE2.out.rnd (z:=13) ki kj ki hjn HX.out hw5 hh5 hr5 he5 HXS.out hxz;clear hw5 hh5 hr5 he5 HE2 HE HK;go_upto_region 6 with(refine jj rfl 84 (.tmp 23) (.tmp 22) rfl w.heap.size (j*13) rs rfl rfl HTH.out HRI.out HRO.out ?_);generalize w5.setCells w.heap.size (j*13) rs.toList=w6 at *;go_wp2_with fail;go_roundg (n-(j+1))
   case measure=>omega
   case rel=>exact⟨j+1,kg,kq,aa ⟨T5,cur6,HE6.out⟩⟩
  .have xm:n=j:=kg;have HD:=aa (HE.out.done (c:=c) (m:=m) (lb:=lb) xm.symm ki kj ki HW.out HNL.out kg);subst xm;go_wp2_with fail;go_ret;exact HD.out
theorem list46(hw:WTc W0 T w)(hv:CVc W0 T w base (.sl m 123 lb) v)(hlb:lb<=LM) :
  Calls ab 46 #[v] w (qzj cx W0 T w (.sl 2 123 lb) 1 (.sl m 123 lb) v):=by
 go_enter Tryz.func46,Tryz.ntmps46;go_wp2_with (at_builtin;refine um (cx:=cx) (d:=(yx cx 123).getD ⟨.oth,0,0,[],ns⟩) (f:=(cx.tb.flat 123).getD []) rfl (.const (ng V 0 0)) (.tmp 3) 39 rfl cxOk V rfl rfl (λad h=>by cases h) ki ki ki ki ki ko hlb hw hv ?_);intro r T' w' h1 h2 h3 h4;go_wp2_with fail;go_ret;exact⟨r,T',rfl,h1,h2,h3.elim (λh=>.inl h) id,h4⟩
theorem copy49(hw:WTc W0 T w)(hv:TyValc W0 T w base (.agg ((cx.tb.flat 95).getD [])) (.agg cs)):Calls ab 49 #[.agg cs] w (qvt cx W0 T w 1 ((cx.tb.flat 95).getD []) cs):=by
 have H0:=qzp.start (t:=95) (tz:=95) (z:=zH) hw hv ki 1;have HC0:=aa H0.1;have HZ0:=aa H0.2;have HN:=aa (zf hv);have hone:=xx hv;obtain⟨v0,hv0,ht0⟩:=jd hv (k:=9) (ct:=((cx.tb.flat 95).getD []).getD 9 .any) ki;have HV0:=aa hv0;have HT0:=aa ht0;clear hv0 ht0;clear H0;go_enter Tryz.func49,Tryz.ntmps49;go_upto_region 1 with(fail);clear hone;generalize (w.alloc (.cells cs 95)).alloc (.cells zH 95)=w0 at *;have HU0:Hid (Un 0 cs cs):=aa (λ_ _=>rfl);have hc0:=(HU0.out 9 kg).trans HV0.out;have kc0:w0.cell? ⟨w.heap.size,9,V⟩=I v0:=by rw[HC0.out.b.bk.cell];exact hc0
 go_wp2_with fail;refine(qph HC0.out.b.wt (HT0.out.mono HC0.out.b.hi.ext (af _)) kj).mono ?_;rintro e w1a ⟨r0,T1,rfl,hw0,hh0,hr0,he0⟩;obtain⟨a0,n0,c0,rfl,-⟩:=hr0.slc;obtain⟨kd0,kf0,HC1,HZ1,HU1⟩:=HC0.out.fld (lim:=0) HZ0.out HU0.out (k:=9) kj ki ki HV0.out hw0 hh0 hr0 ki (λdp=>he0 (dp+0));clear hw0 hh0 hr0 he0 kc0 hc0;go_upto_region 2 with(fail);clear kd0 kf0;generalize w1a.setCell ⟨w.heap.size,9,V⟩ (ng a0 n0 c0)=w1 at *;generalize (cs).setIfInBounds 9 (ng a0 n0 c0)=cs1 at *;have HS:Hid ((ab.info? 95).map (·.size)=I (cs1).size):=aa (by rw[zf HC1.out.ty];kernel_rfl);have HO:=aa (xx HC1.out.ty);have HQ:Hid ((zH:Array ny).size=(cs1).size):=aa (by rw[zf HC1.out.ty];kernel_rfl);have HD:=aa (HC1.out.done ki HZ1.out kg);go_wp2_with (first|(refine bp rfl 95 (.tmp 1) rfl w.heap.size rfl 95 cs1 (0,0) _ HC1.out.b.bk ly rfl HS.out ?_)|(refine br rfl 95 (.tmp 2) (.tmp 7) rfl rfl (w.heap.size+1) cs1 rfl rfl 95 _ HZ1.out.bk HS.out HQ.out HO.out ?_));refine du (ll rfl _ _ (w.heap.size+1) 95 cs1 (0,0) _ rfl HD.out.2 ly rfl HS.out) rfl ?_;exact HD.out.1
def q4f(W0:nu)(T:Nat->Prop)(w:nu)(A:Option Addr)(n j:Nat)(W:nu):Prop:=∃(T':Nat->Prop) (cur:Array ny),qyk cx W0 T w w.heap.size 95 ((cx.tb.flat 95).getD []) 1 n A j T' W cur
theorem each48(hw:WTc W0 T w)(hv:CVc W0 T w base (.sl m 95 lb) v)(hlb:lb<=1048576) :
  Calls ab 48 #[v,.func (.func 49) #[] #[]] w (qzj cx W0 T w (.sl 2 95 lb) 2 (.sl m 95 lb) v):=by
 obtain⟨A,n,c,rfl,v1,v2,v3,v4⟩:=hv.slc;have hn:=qjd hv;have qaf:=aa (λj (hj:j<n)=>jr (cx:=cx) hw (f:=((cx.tb.flat 95).getD [])) ki hv hj);have HW:=aa hw;have HLB:=aa hlb;have HNL:=aa hn;have hml:mf=9223372036854775807:=kj;have hn1:n<=1048576:=kg;have HLM:Hid (n<=LM):=aa (cy hn1 kj);clear hv v3 v4;go_enter Tryz.func48,Tryz.ntmps48;go_wp2_with (at_make;go_loud (refine qq4 (cx:=cx) (e:=95) (d:=(yx cx 95).getD ⟨.oth,0,0,[],ns⟩) (f:=((cx.tb.flat 95).getD [])) rfl 43 (.tmp 9) (.tmp 9) rfl cxOk ki ki ki ki ko n n rfl rfl (af _) HLM.out ?_));intro cur0 hz;have HE0:=aa (qyk.start (cx:=cx) (e:=95) (f:=((cx.tb.flat 95).getD [])) (d:=(yx cx 95).getD ⟨.oth,0,0,[],ns⟩) HW.out ki ki ki hz 1 A 0 rfl);clear hz;generalize w.alloc (.cells cur0 95)=w1 at *;go_wp2_with fail;go_loopg [13] n (λgg s13 wr=>∃j:Nat,j+gg=n/\s13=U O j/\Hid (q4f W0 T w A n j wr))
 case atStart=>exact⟨0,kg,rfl,aa ⟨T,cur0,HE0.out⟩⟩
 case round=>
  obtain⟨j,hj,rfl,HEE⟩:=hrel;obtain⟨T',cur,hE⟩:=HEE.out;have HE:=aa hE;clear HEE hE;by_cases hjn:j<n
  .obtain⟨xs,hx⟩:=qaf.out j hjn;obtain⟨b,off,rfl,-,-,hxs,-,hxt⟩:=id hx;have hxz:xs.toList.length=10:=by rw[aw,hxs];kernel_rfl
   have HX:=aa hx;have HXT:=aa hxt;have HXS:Hid ((ab.info? 95).map (·.size)=I xs.toList.length):=aa (by rw[aw,hxs];kernel_rfl);have HXQ:Hid ((zH:Array ny).size=xs.size):=aa (by rw[hxs];kernel_rfl);have HXO:=aa (xx hxt);have HXR:Hid (wr.rangeAt b (off+j*10) xs.toList):=aa (hx.range HE.out.b.hi.qbv);have HZ:=aa (mg.new wr 95 zH);have hltz:(j:Int)<(n:Int):=kg;have hj0:(0:Int)<=(j:Int):=kg;have e4:IntKind.i64.wrap ((j:Int)+1)=((j+1:Nat):Int):=by simp[di,dj,cz];omega
   clear hx hxs hxt;go_upto_region 5 with(first|(refine gd rfl 95 (.tmp 16) rfl b (off+j*10) rfl xs.toList _ HXR.out ly rfl HXS.out ?_)|(refine br rfl 95 (.tmp 7) (.tmp 17) rfl rfl wr.heap.size xs rfl rfl 95 zH HZ.out HXS.out HXQ.out HXO.out ?_));rw[fx];have HB:=aa (zy wr (.cells xs 95));have HK:=aa (mg.new wr 95 xs);have HE2:=aa (HE.out.call (zh HE.out.b.wt HB.out).1 (zk HE.out.b.wt HB.out));clear HB HZ HXR;generalize wr.alloc (.cells xs 95)=wy at *;generalize wr.heap.size=gB at *;go_upto_region 5 with(refine bp rfl 95 (.tmp 7) rfl gB rfl 95 xs (0,0) _ HK.out ly rfl HXS.out ?_);go_wp2_with (refine bp rfl 95 (.tmp 7) rfl gB rfl 95 xs (0,0) _ HK.out ly rfl HXS.out ?_);refine(copy49 HE2.out.b.wt (zx HE2.out.b.hi.ext HXT.out)).mono ?_;rintro e w5 ⟨rs,T5,rfl,hw5,hh5,hr5,he5⟩;obtain⟨cur6,HE6,HRI,HRO,HTH⟩:=HE2.out.rnd (z:=10) ki kj ki hjn HX.out hw5 hh5 hr5 he5 HXS.out hxz;clear hw5 hh5 hr5 he5 HE2 HE HK;go_upto_region 6 with(refine jj rfl 95 (.tmp 23) (.tmp 22) rfl w.heap.size (j*10) rs rfl rfl HTH.out HRI.out HRO.out ?_);generalize w5.setCells w.heap.size (j*10) rs.toList=w6 at *;go_wp2_with fail;go_roundg (n-(j+1))
   case measure=>omega
   case rel=>exact⟨j+1,kg,kq,aa ⟨T5,cur6,HE6.out⟩⟩
  .have xm:n=j:=kg;have HD:=aa (HE.out.done (c:=c) (m:=m) (lb:=lb) xm.symm ki kj ki HW.out HNL.out kg);subst xm;go_wp2_with fail;go_ret;exact HD.out
theorem copy51(hw:WTc W0 T w)(hv:TyValc W0 T w base (.agg ((cx.tb.flat 98).getD [])) (.agg cs)):Calls ab 51 #[.agg cs] w (qvt cx W0 T w 1 ((cx.tb.flat 98).getD []) cs):=by
 have H0:=qzp.start (t:=98) (tz:=98) (z:=zF) hw hv ki 1;have HC0:=aa H0.1;have HZ0:=aa H0.2;have HN:=aa (zf hv);have hone:=xx hv;obtain⟨v0,hv0,ht0⟩:=jd hv (k:=6) (ct:=((cx.tb.flat 98).getD []).getD 6 .any) ki;have HV0:=aa hv0;have HT0:=aa ht0;clear hv0 ht0;clear H0;go_enter Tryz.func51,Tryz.ntmps51;go_upto_region 1 with(fail);clear hone;generalize (w.alloc (.cells cs 98)).alloc (.cells zF 98)=w0 at *;have HU0:Hid (Un 0 cs cs):=aa (λ_ _=>rfl);have hc0:=(HU0.out 6 kg).trans HV0.out;have kc0:w0.cell? ⟨w.heap.size,6,V⟩=I v0:=by rw[HC0.out.b.bk.cell];exact hc0
 go_wp2_with fail;refine(qph HC0.out.b.wt (HT0.out.mono HC0.out.b.hi.ext (af _)) kj).mono ?_;rintro e w1a ⟨r0,T1,rfl,hw0,hh0,hr0,he0⟩;obtain⟨a0,n0,c0,rfl,-⟩:=hr0.slc;obtain⟨kd0,kf0,HC1,HZ1,HU1⟩:=HC0.out.fld (lim:=0) HZ0.out HU0.out (k:=6) kj ki ki HV0.out hw0 hh0 hr0 ki (λdp=>he0 (dp+0));clear hw0 hh0 hr0 he0 kc0 hc0;go_upto_region 2 with(fail);clear kd0 kf0;generalize w1a.setCell ⟨w.heap.size,6,V⟩ (ng a0 n0 c0)=w1 at *;generalize (cs).setIfInBounds 6 (ng a0 n0 c0)=cs1 at *;have HS:Hid ((ab.info? 98).map (·.size)=I (cs1).size):=aa (by rw[zf HC1.out.ty];kernel_rfl);have HO:=aa (xx HC1.out.ty);have HQ:Hid ((zF:Array ny).size=(cs1).size):=aa (by rw[zf HC1.out.ty];kernel_rfl);have HD:=aa (HC1.out.done ki HZ1.out kg);go_wp2_with (first|(refine bp rfl 98 (.tmp 1) rfl w.heap.size rfl 98 cs1 (0,0) _ HC1.out.b.bk lz rfl HS.out ?_)|(refine br rfl 98 (.tmp 2) (.tmp 7) rfl rfl (w.heap.size+1) cs1 rfl rfl 98 _ HZ1.out.bk HS.out HQ.out HO.out ?_));refine du (ll rfl _ _ (w.heap.size+1) 98 cs1 (0,0) _ rfl HD.out.2 lz rfl HS.out) rfl ?_;exact HD.out.1
def q59(W0:nu)(T:Nat->Prop)(w:nu)(A:Option Addr)(n j:Nat)(W:nu):Prop:=∃(T':Nat->Prop) (cur:Array ny),qyk cx W0 T w w.heap.size 98 ((cx.tb.flat 98).getD []) 1 n A j T' W cur
theorem each50(hw:WTc W0 T w)(hv:CVc W0 T w base (.sl m 98 lb) v)(hlb:lb<=1048576) :
  Calls ab 50 #[v,.func (.func 51) #[] #[]] w (qzj cx W0 T w (.sl 2 98 lb) 2 (.sl m 98 lb) v):=by
 obtain⟨A,n,c,rfl,v1,v2,v3,v4⟩:=hv.slc;have hn:=qjd hv;have qaf:=aa (λj (hj:j<n)=>jr (cx:=cx) hw (f:=((cx.tb.flat 98).getD [])) ki hv hj);have HW:=aa hw;have HLB:=aa hlb;have HNL:=aa hn;have hml:mf=9223372036854775807:=kj;have hn1:n<=1048576:=kg;have HLM:Hid (n<=LM):=aa (cy hn1 kj);clear hv v3 v4;go_enter Tryz.func50,Tryz.ntmps50;go_wp2_with (at_make;go_loud (refine qq4 (cx:=cx) (e:=98) (d:=(yx cx 98).getD ⟨.oth,0,0,[],ns⟩) (f:=((cx.tb.flat 98).getD [])) rfl 44 (.tmp 9) (.tmp 9) rfl cxOk ki ki ki ki ko n n rfl rfl (af _) HLM.out ?_));intro cur0 hz;have HE0:=aa (qyk.start (cx:=cx) (e:=98) (f:=((cx.tb.flat 98).getD [])) (d:=(yx cx 98).getD ⟨.oth,0,0,[],ns⟩) HW.out ki ki ki hz 1 A 0 rfl);clear hz;generalize w.alloc (.cells cur0 98)=w1 at *;go_wp2_with fail;go_loopg [13] n (λgg s13 wr=>∃j:Nat,j+gg=n/\s13=U O j/\Hid (q59 W0 T w A n j wr))
 case atStart=>exact⟨0,kg,rfl,aa ⟨T,cur0,HE0.out⟩⟩
 case round=>
  obtain⟨j,hj,rfl,HEE⟩:=hrel;obtain⟨T',cur,hE⟩:=HEE.out;have HE:=aa hE;clear HEE hE;by_cases hjn:j<n
  .obtain⟨xs,hx⟩:=qaf.out j hjn;obtain⟨b,off,rfl,-,-,hxs,-,hxt⟩:=id hx;have hxz:xs.toList.length=11:=by rw[aw,hxs];kernel_rfl
   have HX:=aa hx;have HXT:=aa hxt;have HXS:Hid ((ab.info? 98).map (·.size)=I xs.toList.length):=aa (by rw[aw,hxs];kernel_rfl);have HXQ:Hid ((zF:Array ny).size=xs.size):=aa (by rw[hxs];kernel_rfl);have HXO:=aa (xx hxt);have HXR:Hid (wr.rangeAt b (off+j*11) xs.toList):=aa (hx.range HE.out.b.hi.qbv);have HZ:=aa (mg.new wr 98 zF);have hltz:(j:Int)<(n:Int):=kg;have hj0:(0:Int)<=(j:Int):=kg;have e4:IntKind.i64.wrap ((j:Int)+1)=((j+1:Nat):Int):=by simp[di,dj,cz];omega
   clear hx hxs hxt;go_upto_region 5 with(first|(refine gd rfl 98 (.tmp 16) rfl b (off+j*11) rfl xs.toList _ HXR.out lz rfl HXS.out ?_)|(refine br rfl 98 (.tmp 7) (.tmp 17) rfl rfl wr.heap.size xs rfl rfl 98 zF HZ.out HXS.out HXQ.out HXO.out ?_));rw[fx];have HB:=aa (zy wr (.cells xs 98));have HK:=aa (mg.new wr 98 xs);have HE2:=aa (HE.out.call (zh HE.out.b.wt HB.out).1 (zk HE.out.b.wt HB.out));clear HB HZ HXR;generalize wr.alloc (.cells xs 98)=wy at *;generalize wr.heap.size=gB at *;go_upto_region 5 with(refine bp rfl 98 (.tmp 7) rfl gB rfl 98 xs (0,0) _ HK.out lz rfl HXS.out ?_);go_wp2_with (refine bp rfl 98 (.tmp 7) rfl gB rfl 98 xs (0,0) _ HK.out lz rfl HXS.out ?_);refine(copy51 HE2.out.b.wt (zx HE2.out.b.hi.ext HXT.out)).mono ?_;rintro e w5 ⟨rs,T5,rfl,hw5,hh5,hr5,he5⟩;obtain⟨cur6,HE6,HRI,HRO,HTH⟩:=HE2.out.rnd (z:=11) ki kj ki hjn HX.out hw5 hh5 hr5 he5 HXS.out hxz;clear hw5 hh5 hr5 he5 HE2 HE HK;go_upto_region 6 with(refine jj rfl 98 (.tmp 23) (.tmp 22) rfl w.heap.size (j*11) rs rfl rfl HTH.out HRI.out HRO.out ?_);generalize w5.setCells w.heap.size (j*11) rs.toList=w6 at *;go_wp2_with fail;go_roundg (n-(j+1))
   case measure=>omega
   case rel=>exact⟨j+1,kg,kq,aa ⟨T5,cur6,HE6.out⟩⟩
  .have xm:n=j:=kg;have HD:=aa (HE.out.done (c:=c) (m:=m) (lb:=lb) xm.symm ki kj ki HW.out HNL.out kg);subst xm;go_wp2_with fail;go_ret;exact HD.out
theorem list52(hw:WTc W0 T w)(hv:CVc W0 T w base (.sl m 69 lb) v)(hlb:lb<=LM) :
  Calls ab 52 #[v] w (qzj cx W0 T w (.sl 2 69 lb) 1 (.sl m 69 lb) v):=by
 go_enter Tryz.func52,Tryz.ntmps52;go_wp2_with (at_builtin;refine um (cx:=cx) (d:=(yx cx 69).getD ⟨.oth,0,0,[],ns⟩) (f:=(cx.tb.flat 69).getD []) rfl (.const (ng V 0 0)) (.tmp 3) 45 rfl cxOk V rfl rfl (λad h=>by cases h) ki ki ki ki ki ko hlb hw hv ?_);intro r T' w' h1 h2 h3 h4;go_wp2_with fail;go_ret;exact⟨r,T',rfl,h1,h2,h3.elim (λh=>.inl h) id,h4⟩
def q57(W0:nu)(T:Nat->Prop)(w:nu)(A:Option Addr)(n j:Nat)(W:nu):Prop:=∃(T':Nat->Prop) (cur:Array ny),qyk cx W0 T w w.heap.size 133 ((cx.tb.flat 133).getD []) 1 n A j T' W cur
theorem each53(hw:WTc W0 T w)(hv:CVc W0 T w base (.sl m 133 lb) v)(hlb:lb<=0) :
  Calls ab 53 #[v,.func (.func 54) #[] #[]] w (qzj cx W0 T w (.sl 2 133 lb) 2 (.sl m 133 lb) v):=by
 obtain⟨A,n,c,rfl,v1,v2,v3,v4⟩:=hv.slc;have hn:=qjd hv;have HW:=aa hw;have HLB:=aa hlb;have HNL:=aa hn;have hml:mf=9223372036854775807:=kj;have hn1:n<=1048576:=kg;have HLM:Hid (n<=LM):=aa (cy hn1 kj);clear hv v3 v4;go_enter Tryz.func53,Tryz.ntmps53;go_wp2_with (at_make;go_loud (refine qq4 (cx:=cx) (e:=133) (d:=(yx cx 133).getD ⟨.oth,0,0,[],ns⟩) (f:=((cx.tb.flat 133).getD [])) rfl 46 (.tmp 9) (.tmp 9) rfl cxOk ki ki ki ki ko n n rfl rfl (af _) HLM.out ?_));intro cur0 hz;have HE0:=aa (qyk.start (cx:=cx) (e:=133) (f:=((cx.tb.flat 133).getD [])) (d:=(yx cx 133).getD ⟨.oth,0,0,[],ns⟩) HW.out ki ki ki hz 1 A 0 rfl);clear hz;generalize w.alloc (.cells cur0 133)=w1 at *;go_wp2_with fail;go_loopg [13] n (λgg s13 wr=>∃j:Nat,j+gg=n/\s13=U O j/\Hid (q57 W0 T w A n j wr))
 case atStart=>exact⟨0,kg,rfl,aa ⟨T,cur0,HE0.out⟩⟩
 case round=>
  obtain⟨j,hj,rfl,HEE⟩:=hrel;obtain⟨T',cur,hE⟩:=HEE.out;have HE:=aa hE;clear HEE hE;by_cases hjn:j<n
  .exact absurd hjn (by have:=HNL.out;have:=HLB.out;omega)
  .have xm:n=j:=kg;have HD:=aa (HE.out.done (c:=c) (m:=m) (lb:=lb) xm.symm ki kj ki HW.out HNL.out kg);subst xm;go_wp2_with fail;go_ret;exact HD.out
def q4h(W0:nu)(T:Nat->Prop)(w:nu)(A:Option Addr)(n j:Nat)(W:nu):Prop:=∃(T':Nat->Prop) (cur:Array ny),qyk cx W0 T w w.heap.size 138 ((cx.tb.flat 138).getD []) 1 n A j T' W cur
theorem each55(hw:WTc W0 T w)(hv:CVc W0 T w base (.sl m 138 lb) v)(hlb:lb<=0) :
  Calls ab 55 #[v,.func (.func 56) #[] #[]] w (qzj cx W0 T w (.sl 2 138 lb) 2 (.sl m 138 lb) v):=by
 obtain⟨A,n,c,rfl,v1,v2,v3,v4⟩:=hv.slc;have hn:=qjd hv;have HW:=aa hw;have HLB:=aa hlb;have HNL:=aa hn;have hml:mf=9223372036854775807:=kj;have hn1:n<=1048576:=kg;have HLM:Hid (n<=LM):=aa (cy hn1 kj);clear hv v3 v4;go_enter Tryz.func55,Tryz.ntmps55;go_wp2_with (at_make;go_loud (refine qq4 (cx:=cx) (e:=138) (d:=(yx cx 138).getD ⟨.oth,0,0,[],ns⟩) (f:=((cx.tb.flat 138).getD [])) rfl 47 (.tmp 9) (.tmp 9) rfl cxOk ki ki ki ki ko n n rfl rfl (af _) HLM.out ?_));intro cur0 hz;have HE0:=aa (qyk.start (cx:=cx) (e:=138) (f:=((cx.tb.flat 138).getD [])) (d:=(yx cx 138).getD ⟨.oth,0,0,[],ns⟩) HW.out ki ki ki hz 1 A 0 rfl);clear hz;generalize w.alloc (.cells cur0 138)=w1 at *;go_wp2_with fail;go_loopg [13] n (λgg s13 wr=>∃j:Nat,j+gg=n/\s13=U O j/\Hid (q4h W0 T w A n j wr))
 case atStart=>exact⟨0,kg,rfl,aa ⟨T,cur0,HE0.out⟩⟩
 case round=>
  obtain⟨j,hj,rfl,HEE⟩:=hrel;obtain⟨T',cur,hE⟩:=HEE.out;have HE:=aa hE;clear HEE hE;by_cases hjn:j<n
  .exact absurd hjn (by have:=HNL.out;have:=HLB.out;omega)
  .have xm:n=j:=kg;have HD:=aa (HE.out.done (c:=c) (m:=m) (lb:=lb) xm.symm ki kj ki HW.out HNL.out kg);subst xm;go_wp2_with fail;go_ret;exact HD.out
theorem copy20(hw:WTc W0 T w)(hv:TyValc W0 T w base (.agg ((cx.tb.flat 51).getD [])) (.agg cs)):Calls ab 20 #[.agg cs] w (qvt cx W0 T w 3 ((cx.tb.flat 51).getD []) cs):=by
 have H0:=qzp.start (t:=51) (tz:=51) (z:=zC) hw hv ki 3;have HC0:=aa H0.1;have HZ0:=aa H0.2;have HN:=aa (zf hv);have hone:=xx hv;obtain⟨v0,hv0,ht0⟩:=jd hv (k:=1) (ct:=((cx.tb.flat 51).getD []).getD 1 .any) ki;have HV0:=aa hv0;have HT0:=aa ht0;clear hv0 ht0;obtain⟨v1,hv1,ht1⟩:=jd hv (k:=2) (ct:=((cx.tb.flat 51).getD []).getD 2 .any) ki;have HV1:=aa hv1;have HT1:=aa ht1;clear hv1 ht1;obtain⟨v2,hv2,ht2⟩:=jd hv (k:=3) (ct:=((cx.tb.flat 51).getD []).getD 3 .any) ki;have HV2:=aa hv2;have HT2:=aa ht2;clear hv2 ht2;obtain⟨v3,hv3,ht3⟩:=jd hv (k:=4) (ct:=((cx.tb.flat 51).getD []).getD 4 .any) ki;have HV3:=aa hv3;have HT3:=aa ht3;clear hv3 ht3;obtain⟨v4,hv4,ht4⟩:=jd hv (k:=6) (ct:=((cx.tb.flat 51).getD []).getD 6 .any) ki;have HV4:=aa hv4;have HT4:=aa ht4;clear hv4 ht4;obtain⟨v5,hv5,ht5⟩:=jd hv (k:=7) (ct:=((cx.tb.flat 51).getD []).getD 7 .any) ki;have HV5:=aa hv5;have HT5:=aa ht5;clear hv5 ht5;obtain⟨v6,hv6,ht6⟩:=jd hv (k:=8) (ct:=((cx.tb.flat 51).getD []).getD 8 .any) ki;have HV6:=aa hv6;have HT6:=aa ht6;clear hv6 ht6;obtain⟨v7,hv7,ht7⟩:=jd hv (k:=9) (ct:=((cx.tb.flat 51).getD []).getD 9 .any) ki;have HV7:=aa hv7;have HT7:=aa ht7;clear hv7 ht7;obtain⟨v8,hv8,ht8⟩:=jd hv (k:=10) (ct:=((cx.tb.flat 51).getD []).getD 10 .any) ki;have HV8:=aa hv8;have HT8:=aa ht8;clear hv8 ht8;clear H0;go_enter Tryz.func20,Tryz.ntmps20;go_upto_region 1 with(fail);clear hone;generalize (w.alloc (.cells cs 51)).alloc (.cells zC 51)=w0 at *;have HU0:Hid (Un 0 cs cs):=aa (λ_ _=>rfl);have hc0:=(HU0.out 1 kg).trans HV0.out;have kc0:w0.cell? ⟨w.heap.size,1,V⟩=I v0:=by rw[HC0.out.b.bk.cell];exact hc0
 go_wp2_with fail;refine(each43 HC0.out.b.wt (HT0.out.mono HC0.out.b.hi.ext (af _)) kj).mono ?_;rintro e w1a ⟨r0,T1,rfl,hw0,hh0,hr0,he0⟩;obtain⟨a0,n0,c0,rfl,-⟩:=hr0.slc;obtain⟨kd0,kf0,HC1,HZ1,HU1⟩:=HC0.out.fld (lim:=0) HZ0.out HU0.out (k:=1) kj ki ki HV0.out hw0 hh0 hr0 ki (λdp=>he0 (dp+0));clear hw0 hh0 hr0 he0 kc0 hc0;go_upto_region 2 with(fail);clear kd0 kf0;generalize w1a.setCell ⟨w.heap.size,1,V⟩ (ng a0 n0 c0)=w1 at *;generalize (cs).setIfInBounds 1 (ng a0 n0 c0)=cs1 at *;have hc1:=(HU1.out 2 kg).trans HV1.out;have kc1:w1.cell? ⟨w.heap.size,2,V⟩=I v1:=by rw[HC1.out.b.bk.cell];exact hc1
 go_wp2_with fail;refine(q6f HC1.out.b.wt (HT1.out.mono HC1.out.b.hi.ext (af _))).mono ?_;rintro e w2a ⟨r1,T2,rfl,hw1,hh1,hr1,he1⟩;obtain⟨a1,n1,c1,rfl,-⟩:=hr1.qxy.slc;obtain⟨kd1,kf1,HC2,HZ2,HU2⟩:=HC1.out.fld (lim:=(1+1)) HZ1.out HU1.out (k:=2) kj ki ki HV1.out hw1 hh1 hr1 ki (λdp=>he1 (dp+2));clear hw1 hh1 hr1 he1 kc1 hc1;go_upto_region 3 with(fail);clear kd1 kf1;generalize w2a.setCell ⟨w.heap.size,2,V⟩ (ng a1 n1 c1)=w2 at *;generalize (cs1).setIfInBounds 2 (ng a1 n1 c1)=cs2 at *;have hc2:=(HU2.out 3 kg).trans HV2.out;have kc2:w2.cell? ⟨w.heap.size,3,V⟩=I v2:=by rw[HC2.out.b.bk.cell];exact hc2
 go_wp2_with fail;refine(list46 HC2.out.b.wt (HT2.out.mono HC2.out.b.hi.ext (af _)) kj).mono ?_;rintro e w3a ⟨r2,T3,rfl,hw2,hh2,hr2,he2⟩;obtain⟨a2,n2,c2,rfl,-⟩:=hr2.slc;obtain⟨kd2,kf2,HC3,HZ3,HU3⟩:=HC2.out.fld (lim:=(2+1)) HZ2.out HU2.out (k:=3) kj ki ki HV2.out hw2 hh2 hr2 ki (λdp=>he2 (dp+2));clear hw2 hh2 hr2 he2 kc2 hc2;go_upto_region 4 with(fail);clear kd2 kf2;generalize w3a.setCell ⟨w.heap.size,3,V⟩ (ng a2 n2 c2)=w3 at *;generalize (cs2).setIfInBounds 3 (ng a2 n2 c2)=cs3 at *;have hc3:=(HU3.out 4 kg).trans HV3.out;have kc3:w3.cell? ⟨w.heap.size,4,V⟩=I v3:=by rw[HC3.out.b.bk.cell];exact hc3
 go_wp2_with fail;refine(q2y HC3.out.b.wt (HT3.out.mono HC3.out.b.hi.ext (af _)) kj).mono ?_;rintro e w4a ⟨r3,T4,rfl,hw3,hh3,hr3,he3⟩;obtain⟨a3,n3,c3,rfl,-⟩:=hr3.slc;obtain⟨kd3,kf3,HC4,HZ4,HU4⟩:=HC3.out.fld (lim:=(3+1)) HZ3.out HU3.out (k:=4) kj ki ki HV3.out hw3 hh3 hr3 ki (λdp=>he3 (dp+2));clear hw3 hh3 hr3 he3 kc3 hc3;go_upto_region 5 with(fail);clear kd3 kf3;generalize w4a.setCell ⟨w.heap.size,4,V⟩ (ng a3 n3 c3)=w4 at *;generalize (cs3).setIfInBounds 4 (ng a3 n3 c3)=cs4 at *;have hc4:=(HU4.out 6 kg).trans HV4.out;have kc4:w4.cell? ⟨w.heap.size,6,V⟩=I v4:=by rw[HC4.out.b.bk.cell];exact hc4
 go_wp2_with fail;refine(each48 HC4.out.b.wt (HT4.out.mono HC4.out.b.hi.ext (af _)) kj).mono ?_;rintro e w5a ⟨r4,T5,rfl,hw4,hh4,hr4,he4⟩;obtain⟨a4,n4,c4,rfl,-⟩:=hr4.slc;obtain⟨kd4,kf4,HC5,HZ5,HU5⟩:=HC4.out.fld (lim:=(4+1)) HZ4.out HU4.out (k:=6) kj ki ki HV4.out hw4 hh4 hr4 ki (λdp=>he4 (dp+1));clear hw4 hh4 hr4 he4 kc4 hc4;go_upto_region 6 with(fail);clear kd4 kf4;generalize w5a.setCell ⟨w.heap.size,6,V⟩ (ng a4 n4 c4)=w5 at *;generalize (cs4).setIfInBounds 6 (ng a4 n4 c4)=cs5 at *;have hc5:=(HU5.out 7 kg).trans HV5.out;have kc5:w5.cell? ⟨w.heap.size,7,V⟩=I v5:=by rw[HC5.out.b.bk.cell];exact hc5
 go_wp2_with fail;refine(each50 HC5.out.b.wt (HT5.out.mono HC5.out.b.hi.ext (af _)) kj).mono ?_;rintro e w6a ⟨r5,T6,rfl,hw5,hh5,hr5,he5⟩;obtain⟨a5,n5,c5,rfl,-⟩:=hr5.slc;obtain⟨kd5,kf5,HC6,HZ6,HU6⟩:=HC5.out.fld (lim:=(6+1)) HZ5.out HU5.out (k:=7) kj ki ki HV5.out hw5 hh5 hr5 ki (λdp=>he5 (dp+1));clear hw5 hh5 hr5 he5 kc5 hc5;go_upto_region 7 with(fail);clear kd5 kf5;generalize w6a.setCell ⟨w.heap.size,7,V⟩ (ng a5 n5 c5)=w6 at *;generalize (cs5).setIfInBounds 7 (ng a5 n5 c5)=cs6 at *;have hc6:=(HU6.out 8 kg).trans HV6.out;have kc6:w6.cell? ⟨w.heap.size,8,V⟩=I v6:=by rw[HC6.out.b.bk.cell];exact hc6
 go_wp2_with fail;refine(list52 HC6.out.b.wt (HT6.out.mono HC6.out.b.hi.ext (af _)) kj).mono ?_;rintro e w7a ⟨r6,T7,rfl,hw6,hh6,hr6,he6⟩;obtain⟨a6,n6,c6,rfl,-⟩:=hr6.slc;obtain⟨kd6,kf6,HC7,HZ7,HU7⟩:=HC6.out.fld (lim:=(7+1)) HZ6.out HU6.out (k:=8) kj ki ki HV6.out hw6 hh6 hr6 ki (λdp=>he6 (dp+2));clear hw6 hh6 hr6 he6 kc6 hc6;go_upto_region 8 with(fail);clear kd6 kf6;generalize w7a.setCell ⟨w.heap.size,8,V⟩ (ng a6 n6 c6)=w7 at *;generalize (cs6).setIfInBounds 8 (ng a6 n6 c6)=cs7 at *;have hc7:=(HU7.out 9 kg).trans HV7.out;have kc7:w7.cell? ⟨w.heap.size,9,V⟩=I v7:=by rw[HC7.out.b.bk.cell];exact hc7
 go_wp2_with fail;refine(each53 HC7.out.b.wt (HT7.out.mono HC7.out.b.hi.ext (af _)) kj).mono ?_;rintro e w8a ⟨r7,T8,rfl,hw7,hh7,hr7,he7⟩;obtain⟨a7,n7,c7,rfl,-⟩:=hr7.slc;obtain⟨kd7,kf7,HC8,HZ8,HU8⟩:=HC7.out.fld (lim:=(8+1)) HZ7.out HU7.out (k:=9) kj ki ki HV7.out hw7 hh7 hr7 ki (λdp=>he7 (dp+1));clear hw7 hh7 hr7 he7 kc7 hc7;go_upto_region 9 with(fail);clear kd7 kf7;generalize w8a.setCell ⟨w.heap.size,9,V⟩ (ng a7 n7 c7)=w8 at *;generalize (cs7).setIfInBounds 9 (ng a7 n7 c7)=cs8 at *;have hc8:=(HU8.out 10 kg).trans HV8.out;have kc8:w8.cell? ⟨w.heap.size,10,V⟩=I v8:=by rw[HC8.out.b.bk.cell];exact hc8
 go_wp2_with fail;refine(each55 HC8.out.b.wt (HT8.out.mono HC8.out.b.hi.ext (af _)) kj).mono ?_;rintro e w9a ⟨r8,T9,rfl,hw8,hh8,hr8,he8⟩;obtain⟨a8,n8,c8,rfl,-⟩:=hr8.slc;obtain⟨kd8,kf8,HC9,HZ9,HU9⟩:=HC8.out.fld (lim:=(9+1)) HZ8.out HU8.out (k:=10) kj ki ki HV8.out hw8 hh8 hr8 ki (λdp=>he8 (dp+1));clear hw8 hh8 hr8 he8 kc8 hc8;go_upto_region 10 with(fail);clear kd8 kf8;generalize w9a.setCell ⟨w.heap.size,10,V⟩ (ng a8 n8 c8)=w9 at *;generalize (cs8).setIfInBounds 10 (ng a8 n8 c8)=cs9 at *;have HS:Hid ((ab.info? 51).map (·.size)=I (cs9).size):=aa (by rw[zf HC9.out.ty];kernel_rfl);have HO:=aa (xx HC9.out.ty);have HQ:Hid ((zC:Array ny).size=(cs9).size):=aa (by rw[zf HC9.out.ty];kernel_rfl);have HD:=aa (HC9.out.done ki HZ9.out kg);go_wp2_with (first|(refine bp rfl 51 (.tmp 1) rfl w.heap.size rfl 51 cs9 (0,0) _ HC9.out.b.bk ej rfl HS.out ?_)|(refine br rfl 51 (.tmp 2) (.tmp 45) rfl rfl (w.heap.size+1) cs9 rfl rfl 51 _ HZ9.out.bk HS.out HQ.out HO.out ?_));refine du (ll rfl _ _ (w.heap.size+1) 51 cs9 (0,0) _ rfl HD.out.2 ej rfl HS.out) rfl ?_;exact HD.out.1
theorem q7e(hw:WTc W0 T w)(hv:CVc W0 T w base (.sl m 156 lb) v)(hlb:lb<=LM) :
  Calls ab 86 #[v] w (qzj cx W0 T w (.sl 0 156 lb) 1 (.sl m 156 lb) v):=by
 obtain⟨B,n,c,rfl,v1,v2,v3,v4⟩:=hv.slc;cases B with
 | none=>
   obtain⟨rfl,rfl⟩:=v3 rfl;have hq:=λ(W:nu)=>il (P:=ab) W 23 156 V 0 0 0 0 aar
   go_enter aeb,ada;go_wp2_with fail;go_ret;refine⟨_,T,rfl,hw,zg.refl _ _ _,.inl rfl,λdp=>?_⟩;unfold xn;exact⟨V,0,0,V,0,rfl,rfl,λj hj=>kg⟩
 | some ad=>
   have hq:=λ(W:nu)=>il (P:=ab) W 23 156 (I ad) n c 0 0 aar
   obtain⟨hw1,hx1⟩:=zh hw (zy w (.cells #[] 156));have HW1:=aa hw1;have HV1:=aa (hv.mono hx1 (af _));have HH1:=aa (zk (PU:=nr) hw (zy w (.cells #[] 156)));clear hv hw hw1 hx1 v1 v2 v3 v4;go_enter aeb,ada;go_upto_region 3 with(fail);go_wp2_with (at_builtin;refine um (cx:=cx) (d:=(yx cx 156).getD ⟨.oth,0,0,[],ns⟩) (f:=(cx.tb.flat 156).getD []) rfl (.tmp 5) (.tmp 6) 23 rfl cxOk (I ⟨w.heap.size,0,V⟩) rfl rfl (λad h=>by cases h;exact⟨_,rfl⟩) ki ki ki ki ki ko hlb HW1.out HV1.out ?_);intro r T' w' h1 h2 h3 h4;go_wp2_with fail;go_ret;refine⟨r,T',rfl,h1,HH1.out.trans h2,?_,h4⟩;rcases h3 with rfl|h3
   .exact .inr (.inl ⟨rfl,.emp _⟩)
   .exact(h3.mono (xq.refl _ _) kq).le (by simp[CT.le])
theorem q7j(hw:WTc W0 T w)(hv:CVc W0 T w base (.sl m 181 lb) v)(hlb:lb<=LM) :
  Calls ab 87 #[v] w (qzj cx W0 T w (.sl 0 181 lb) 1 (.sl m 181 lb) v):=by
 obtain⟨B,n,c,rfl,v1,v2,v3,v4⟩:=hv.slc;cases B with
 | none=>
   obtain⟨rfl,rfl⟩:=v3 rfl;have hq:=λ(W:nu)=>il (P:=ab) W 26 181 V 0 0 0 0 aas
   go_enter aec,adb;go_wp2_with fail;go_ret;refine⟨_,T,rfl,hw,zg.refl _ _ _,.inl rfl,λdp=>?_⟩;unfold xn;exact⟨V,0,0,V,0,rfl,rfl,λj hj=>kg⟩
 | some ad=>
   have hq:=λ(W:nu)=>il (P:=ab) W 26 181 (I ad) n c 0 0 aas
   obtain⟨hw1,hx1⟩:=zh hw (zy w (.cells #[] 181));have HW1:=aa hw1;have HV1:=aa (hv.mono hx1 (af _));have HH1:=aa (zk (PU:=nr) hw (zy w (.cells #[] 181)));clear hv hw hw1 hx1 v1 v2 v3 v4;go_enter aec,adb;go_upto_region 3 with(fail);go_wp2_with (at_builtin;refine um (cx:=cx) (d:=(yx cx 181).getD ⟨.oth,0,0,[],ns⟩) (f:=(cx.tb.flat 181).getD []) rfl (.tmp 5) (.tmp 6) 26 rfl cxOk (I ⟨w.heap.size,0,V⟩) rfl rfl (λad h=>by cases h;exact⟨_,rfl⟩) ki ki ki ki ki ko hlb HW1.out HV1.out ?_);intro r T' w' h1 h2 h3 h4;go_wp2_with fail;go_ret;refine⟨r,T',rfl,h1,HH1.out.trans h2,?_,h4⟩;rcases h3 with rfl|h3
   .exact .inr (.inl ⟨rfl,.emp _⟩)
   .exact(h3.mono (xq.refl _ _) kq).le (by simp[CT.le])
theorem q62(hw:WTc W0 T w)(hv:CVc W0 T w base (.sl m 34 lb) v)(hlb:lb<=LM) :
  Calls ab 88 #[v] w (qzj cx W0 T w (.sl 0 34 lb) 1 (.sl m 34 lb) v):=by
 obtain⟨B,n,c,rfl,v1,v2,v3,v4⟩:=hv.slc;cases B with
 | none=>
   obtain⟨rfl,rfl⟩:=v3 rfl;have hq:=λ(W:nu)=>il (P:=ab) W 29 34 V 0 0 0 0 rm
   go_enter ua,xj;go_wp2_with fail;go_ret;refine⟨_,T,rfl,hw,zg.refl _ _ _,.inl rfl,λdp=>?_⟩;unfold xn;exact⟨V,0,0,V,0,rfl,rfl,λj hj=>kg⟩
 | some ad=>
   have hq:=λ(W:nu)=>il (P:=ab) W 29 34 (I ad) n c 0 0 rm
   obtain⟨hw1,hx1⟩:=zh hw (zy w (.cells #[] 34));have HW1:=aa hw1;have HV1:=aa (hv.mono hx1 (af _));have HH1:=aa (zk (PU:=nr) hw (zy w (.cells #[] 34)));clear hv hw hw1 hx1 v1 v2 v3 v4;go_enter ua,xj;go_upto_region 3 with(fail);go_wp2_with (at_builtin;refine um (cx:=cx) (d:=(yx cx 34).getD ⟨.oth,0,0,[],ns⟩) (f:=(cx.tb.flat 34).getD []) rfl (.tmp 5) (.tmp 6) 29 rfl cxOk (I ⟨w.heap.size,0,V⟩) rfl rfl (λad h=>by cases h;exact⟨_,rfl⟩) ki ki ki ki ki ko hlb HW1.out HV1.out ?_);intro r T' w' h1 h2 h3 h4;go_wp2_with fail;go_ret;refine⟨r,T',rfl,h1,HH1.out.trans h2,?_,h4⟩;rcases h3 with rfl|h3
   .exact .inr (.inl ⟨rfl,.emp _⟩)
   .exact(h3.mono (xq.refl _ _) kq).le (by simp[CT.le])
end
end Sy
namespace RegB
open Go.RowKit qx
section
variable {P:ma}{ops:Array Oper}{Q:Exit->Act->nu->Prop}{a0:Act}
end
end RegB
namespace Sy
open Go.RowKit Go.Great
variable {ms:Array ny}{b:Int}{c g k lb m n:Nat}{ids:Nat->Int}{A:Option Addr}{v x0 x1 x2:ny}{W:nu}
section
variable {W0:nu}{T:Nat->Prop}{w:nu}{base:Nat}
def q4p(W0:nu)(T:Nat->Prop)(w:nu)(A:Option Addr)(n j:Nat)(W:nu):Prop:=∃(T':Nat->Prop) (cur:Array ny),qyk cx W0 T w w.heap.size 31 ((cx.tb.flat 31).getD []) 1 n A j T' W cur
theorem qx1(hw:WTc W0 T w)(hv:CVc W0 T w base (.sl m 31 lb) v)(hlb:lb<=1048576) :
  Calls ab 60 #[v] w λe w'=>qzj cx W0 T w (.sl 2 31 lb) 2 (.sl m 31 lb) v e w'/\NoRoom e:=by
 obtain⟨A,n,c,rfl,v1,v2,v3,v4⟩:=hv.slc;have hn:=qjd hv;have qaf:=aa (λj (hj:j<n)=>jr (cx:=cx) hw (f:=((cx.tb.flat 31).getD [])) ki hv hj);have HW:=aa hw;have HLB:=aa hlb;have HNL:=aa hn;have hml:mf=9223372036854775807:=kj;have hn1:n<=1048576:=kg;have HLM:Hid (n<=LM):=aa (cy hn1 kj);clear hv v3 v4;go_enter Tryz.func60,Tryz.ntmps60;go_wp2_with (at_make;refine qq4 (cx:=cx) (e:=31) (d:=(yx cx 31).getD ⟨.oth,0,0,[],ns⟩) (f:=((cx.tb.flat 31).getD [])) rfl 58 (.const (U O 0)) (.tmp 7) rfl cxOk ki ki ki ki ko 0 n rfl rfl (cr _) HLM.out ?_);intro cur0 hz;have HE0:=aa (qyk.start (cx:=cx) (e:=31) (f:=((cx.tb.flat 31).getD [])) (d:=(yx cx 31).getD ⟨.oth,0,0,[],ns⟩) HW.out ki ki ki hz 1 A 0 rfl);clear hz;generalize w.alloc (.cells cur0 31)=w1 at *;go_wp2_with fail;go_loopg [3,11] n (λgg s3 s11 wr=>∃j:Nat,j+gg=n/\s3=ng (I ⟨w.heap.size,0,V⟩) j n/\s11=U O j/\Hid (q4p W0 T w A n j wr))
 case atStart=>exact⟨0,kg,rfl,rfl,aa ⟨T,cur0,HE0.out⟩⟩
 case round=>
  obtain⟨j,hj,rfl,rfl,HEE⟩:=hrel;obtain⟨T0,cur,hE⟩:=HEE.out;have HE:=aa hE;clear HEE hE;by_cases hjn:j<n
  .obtain⟨xs,hx⟩:=qaf.out j hjn;obtain⟨b,off,rfl,-,-,hxs,-,hxt⟩:=id hx;have hxz:xs.toList.length=25:=by rw[aw,hxs];kernel_rfl
   have HX:=aa hx;have HXT:=aa hxt;have HXS:Hid ((ab.info? 31).map (·.size)=I xs.toList.length):=aa (by rw[aw,hxs];kernel_rfl);have HXQ:Hid ((zA:Array ny).size=xs.size):=aa (by rw[hxs];kernel_rfl);have HXO:=aa (xx hxt);have HXR:Hid (wr.rangeAt b (off+j*25) xs.toList):=aa (hx.range HE.out.b.hi.qbv);have HZ:=aa (mg.new wr 31 zA);have hltz:(j:Int)<(n:Int):=kg;have hj0:(0:Int)<=(j:Int):=kg;have e4:IntKind.i64.wrap ((j:Int)+1)=((j+1:Nat):Int):=by simp[di,dj,cz];omega
   clear hxs hxt;go_upto_region 5 with(first|(refine gd rfl 31 (.tmp 13) rfl b (off+j*25) rfl xs.toList _ HXR.out bz rfl HXS.out ?_)|(refine br rfl 31 (.tmp 5) (.tmp 14) rfl rfl wr.heap.size xs rfl rfl 31 zA HZ.out HXS.out HXQ.out HXO.out ?_));rw[fx];have HB:=aa (zy wr (.cells xs 31));have HC0:=aa (qzp.row (t:=31) (D:=1) HW.out HE.out.b.wt HE.out.b.hi HX.out);have HEs0:=aa (HE.out.call (zh HE.out.b.wt HB.out).1 (zk HE.out.b.wt HB.out));have hgb:w.heap.size≠wr.heap.size:=λe=>by have:=HE.out.b.bk.lt;omega
   have HGB:=aa hgb;have HU0:Hid (Un 0 xs xs):=aa (λ_ _=>rfl);clear HB HZ HXR HE hx hgb;generalize wr.alloc (.cells xs 31)=wy0 at *;generalize wr.heap.size=gB at *;obtain⟨v0,hv0,ht0⟩:=jd HXT.out (k:=12) (ct:=((cx.tb.flat 31).getD []).getD 12 .any) ki;have HV0:=aa hv0;have HT0:=aa ht0;have hc0:Hid (xs[12]? = I v0):=aa ((HU0.out 12 kg).trans HV0.out);have kc0:wy0.cell? ⟨gB,12,V⟩=I v0:=by rw[HC0.out.b.bk.cell];exact hc0.out
   clear hv0 ht0;go_wp2_with fail;refine(q7e HC0.out.b.wt (HT0.out.mono HC0.out.b.hi.ext (af _)) kj).mono ?_;rintro e w1a ⟨r0,T1,rfl,hw0,hh0,hr0,he0⟩;obtain⟨a0,n0,c0,rfl,-⟩:=hr0.slc;have HBa0:=aa (HC0.out.b.call hw0 hh0);have kd0:w1a.cell? ⟨gB,12,V⟩=I v0:=by rw[HBa0.out.bk.cell];exact hc0.out
   have kf0:w1a.frozen? ⟨gB,12,V⟩=ns:=HBa0.out.bk.frozen _;have HC1:=aa (HC0.out.step (k:=12) ki ki HV0.out hw0 hh0 hr0 ki he0);have HEs1:=aa ((HEs0.out.call hw0 hh0).far (k:=12) (r:=ng a0 n0 c0) HBa0.out HGB.out);have HU1:=aa (qhg (r:=ng a0 n0 c0) (cs0:=xs) (cs:=xs) (lim:=0) HU0.out (c:=12) kg);clear hw0 hh0 hr0 he0 kc0 HBa0 hc0;go_upto_region 6 with(fail);clear kd0 kf0;generalize w1a.setCell ⟨gB,12,V⟩ (ng a0 n0 c0)=wy1 at *;generalize (xs).setIfInBounds 12 (ng a0 n0 c0)=xs1 at *;obtain⟨v1,hv1,ht1⟩:=jd HXT.out (k:=23) (ct:=((cx.tb.flat 31).getD []).getD 23 .any) ki;have HV1:=aa hv1;have HT1:=aa ht1;have hc1:Hid (xs1[23]? = I v1):=aa ((HU1.out 23 kg).trans HV1.out);have kc1:wy1.cell? ⟨gB,23,V⟩=I v1:=by rw[HC1.out.b.bk.cell];exact hc1.out
   clear hv1 ht1;go_wp2_with fail;refine(q7j HC1.out.b.wt (HT1.out.mono HC1.out.b.hi.ext (af _)) kj).mono ?_;rintro e w2a ⟨r1,T2,rfl,hw1,hh1,hr1,he1⟩;obtain⟨a1,n1,c1,rfl,-⟩:=hr1.slc;have qbt:=aa (HC1.out.b.call hw1 hh1);have kd1:w2a.cell? ⟨gB,23,V⟩=I v1:=by rw[qbt.out.bk.cell];exact hc1.out
   have kf1:w2a.frozen? ⟨gB,23,V⟩=ns:=qbt.out.bk.frozen _;have HC2:=aa (HC1.out.step (k:=23) ki ki HV1.out hw1 hh1 hr1 ki he1);have HEs2:=aa ((HEs1.out.call hw1 hh1).far (k:=23) (r:=ng a1 n1 c1) qbt.out HGB.out);have HU2:=aa (qhg (r:=ng a1 n1 c1) (cs0:=xs) (cs:=xs1) (lim:=(12+1)) HU1.out (c:=23) kg);clear hw1 hh1 hr1 he1 kc1 qbt hc1;go_upto_region 7 with(fail);clear kd1 kf1;generalize w2a.setCell ⟨gB,23,V⟩ (ng a1 n1 c1)=wy2 at *;generalize (xs1).setIfInBounds 23 (ng a1 n1 c1)=xs2 at *;obtain⟨v2,hv2,ht2⟩:=jd HXT.out (k:=24) (ct:=((cx.tb.flat 31).getD []).getD 24 .any) ki;have HV2:=aa hv2;have HT2:=aa ht2;have hc2:Hid (xs2[24]? = I v2):=aa ((HU2.out 24 kg).trans HV2.out);have kc2:wy2.cell? ⟨gB,24,V⟩=I v2:=by rw[HC2.out.b.bk.cell];exact hc2.out
   clear hv2 ht2;go_wp2_with fail;refine(q62 HC2.out.b.wt (HT2.out.mono HC2.out.b.hi.ext (af _)) kj).mono ?_;rintro e w3a ⟨r2,T3,rfl,hw2,hh2,hr2,he2⟩;obtain⟨a2,n2,c2,rfl,-⟩:=hr2.slc;have HBa2:=aa (HC2.out.b.call hw2 hh2);have kd2:w3a.cell? ⟨gB,24,V⟩=I v2:=by rw[HBa2.out.bk.cell];exact hc2.out
   have kf2:w3a.frozen? ⟨gB,24,V⟩=ns:=HBa2.out.bk.frozen _;have HC3:=aa (HC2.out.step (k:=24) ki ki HV2.out hw2 hh2 hr2 ki he2);have HEs3:=aa ((HEs2.out.call hw2 hh2).far (k:=24) (r:=ng a2 n2 c2) HBa2.out HGB.out);have HU3:=aa (qhg (r:=ng a2 n2 c2) (cs0:=xs) (cs:=xs2) (lim:=(23+1)) HU2.out (c:=24) kg);clear hw2 hh2 hr2 he2 kc2 HBa2 hc2;go_upto_region 8 with(fail);clear kd2 kf2;generalize w3a.setCell ⟨gB,24,V⟩ (ng a2 n2 c2)=wy3 at *;generalize (xs2).setIfInBounds 24 (ng a2 n2 c2)=xs3 at *;have HS:Hid ((ab.info? 31).map (·.size)=I xs3.size):=aa (by rw[zf HC3.out.ty];kernel_rfl);have HO:=aa (xx HC3.out.ty);have HQ:=aa (zf HC3.out.ty);have HB2:=aa (zy wy3 (.cells xs3 31));have HE9:=aa (HEs3.out.call (zh HEs3.out.b.wt HB2.out).1 (zk HEs3.out.b.wt HB2.out));obtain⟨cur9,hE9⟩:=HE9.out.step kj ki hjn HX.out (zx (zh HEs3.out.b.wt HB2.out).2 HC3.out.ty) (λdp=>(HC3.out.eq dp).hist HC3.out.b.wt (zk HEs3.out.b.wt HB2.out));have HEn:=aa hE9;have HBq:=aa (mg.new wy3 31 xs3);have HSZ:=aa HE9.out.sz;clear hE9 HB2
   go_wp2_with (first
    | (refine bp rfl 31 (.tmp 5) rfl gB rfl 31 xs3 (0,0) _ HC3.out.b.bk bz rfl HS.out ?_)
    | (refine qnp (cx:=cx) (d:=(yx cx 31).getD ⟨.oth,0,0,[],ns⟩) rfl 58 31 (.tmp 30) rfl xs3 rfl cxOk ki ki HQ.out ko ko ?_)
    | (at_builtin;refine qmr (cx:=cx) (e:=31) (d:=(yx cx 31).getD ⟨.oth,0,0,[],ns⟩) rfl (.tmp 29) (.tmp 31) 58 rfl cxOk ki ki w.heap.size j n wy3.heap.size cur xs3 31 rfl rfl HE9.out.b.bk HBq.out HQ.out HSZ.out hjn HO.out ?_))
   go_roundg (n-(j+1))
   case measure=>omega
   case rel=>exact⟨j+1,kg,rfl,kq,aa ⟨T3,cur9,HEn.out⟩⟩
  .have xm:n=j:=kg;have HD:=aa (HE.out.done (c:=c) (m:=m) (lb:=lb) xm.symm ki kj ki HW.out HNL.out kg);subst xm;go_wp2_with fail;go_ret;exact⟨HD.out,_,_,rfl⟩
def qur(W0:nu)(g:Nat)(x0 x1 x2:ny)(k:Nat)(v:ny)(T':Nat->Prop)(W:nu):Prop:=match k with
 | 0=>v=.pointer (I ⟨g,3,V⟩)
 | 3=>v=.pointer (I ⟨g,4,V⟩)
 | 6=>v=.pointer (I ⟨g,7,V⟩)
 | 9=>v=.pointer (I ⟨g,3,V⟩)
 | 11=>v=.pointer (I ⟨g,4,V⟩)
 | 13=>v=.pointer (I ⟨g,7,V⟩)
 | 1=>v=x0
 | 4=>v=x1
 | 7=>v=x2
 | 2=>quy cx W0 2 (((cx.tb.flat 82).getD []).getD 3 .any) (.sl 2 31 1024) x0 v T' W
 | 5=>quy cx W0 2 (((cx.tb.flat 82).getD []).getD 4 .any) (.sl 2 31 1024) x1 v T' W
 | 8=>quy cx W0 2 (((cx.tb.flat 82).getD []).getD 7 .any) (.sl 2 31 1024) x2 v T' W
 | _=>True
def Cpd59(W0:nu)(T:Nat->Prop)(w:nu)(cs:Array ny)(x0 x1 x2:ny)(L:Nat->Bool)(vals:Nat->ny)(W:nu):Prop:=∃(T':Nat->Prop) (cur:Array ny),qzp cx W0 T w w.heap.size 82 ((cx.tb.flat 82).getD []) 2 cs T' W cur/\yh T' W (w.heap.size+1) 82 zB /\
 ((L 10=ns->cur[3]? = I x0)/\(L 12=ns->cur[4]? = I x1)/\(L 14=ns->cur[7]? = I x2))/\((L 10=nr->∃A n,cur[3]? = I (ng A n n))/\(L 12=nr->∃A n,cur[4]? = I (ng A n n))/\(L 14=nr->∃A n,cur[7]? = I (ng A n n)))/\∀k,k<15->L k=nr->qur W0 w.heap.size x0 x1 x2 k (vals k) T' W
theorem qco{T' T2:Nat->Prop}{W2:nu}(hw:WTc W0 T' W)(hh:zg T' W nr T2 W2)(h:qur W0 g x0 x1 x2 k v T' W):qur W0 g x0 x1 x2 k v T2 W2:=by
 unfold qur at h ⊢;split at h<;>first|exact h|exact quy.call h hw hh|trivial
theorem qez{T':Nat->Prop}{p o:Nat}{r:ny}{tp:nz}{cp:Array ny}(hb:qzv cx W0 T w p tp T' W cp)(h:qur W0 g x0 x1 x2 k v T' W):qur W0 g x0 x1 x2 k v T' (W.setCell ⟨p,o,V⟩ r):=by
 unfold qur at h ⊢;split at h<;>first|exact h|exact quy.far h hb|trivial
theorem q4t(hw:WTc W0 T w){cs:Array ny}(hv:TyValc W0 T w base (.agg ((cx.tb.flat 82).getD [])) (.agg cs)):Calls ab 59 #[.agg cs] w (qs0 cx W0 T w 2 ((cx.tb.flat 82).getD []) cs (qb9 [3,4,7])):=by
 have H0:=qzp.start (t:=82) (tz:=82) (z:=zB) hw hv ki 2;have HC0:=aa H0.1;have HZ0:=aa H0.2;have hone:=xx hv;obtain⟨x0,hx0,ht0⟩:=jd hv (k:=3) (ct:=((cx.tb.flat 82).getD []).getD 3 .any) ki;have HX0:=aa hx0;have HT0:=aa ht0;have ho0:=ht0.one;have HO0:=aa ho0;clear hx0 ht0 ho0;obtain⟨x1,hx1,ht1⟩:=jd hv (k:=4) (ct:=((cx.tb.flat 82).getD []).getD 4 .any) ki;have HX1:=aa hx1;have HT1:=aa ht1;have ho1:=ht1.one;have HO1:=aa ho1;clear hx1 ht1 ho1;obtain⟨x2,hx2,ht2⟩:=jd hv (k:=7) (ct:=((cx.tb.flat 82).getD []).getD 7 .any) ki;have HX2:=aa hx2;have HT2:=aa ht2;have ho2:=ht2.one;have HO2:=aa ho2;clear hx2 ht2 ho2;clear H0;go_enter Tryz.func59,Tryz.ntmps59;go_upto_region 1 with(fail);clear hone;generalize (w.alloc (.cells cs 82)).alloc (.cells zB 82)=w0 at *;go_cut [] (λwd=>Hid (∃(T':Nat->Prop) (cur:Array ny),qzp cx W0 T w w.heap.size 82 ((cx.tb.flat 82).getD []) 2 cs T' wd cur/\yh T' wd (w.heap.size+1) 82 zB/\qb9 [3,4,7] cur))
 case first=>
  refine Reg9D.region 15 (Cpd59 W0 T w cs x0 x1 x2) mixed ki (qx.qqq (n:=16) ki rfl) ?_ ?_ ?_
  .exact⟨T,cs,HC0.out.drew,⟨HZ0.out.nt,HZ0.out.bk⟩,⟨λ_=>HX0.out,λ_=>HX1.out,λ_=>HX2.out⟩,⟨(λh=>by cases h),(λh=>by cases h),(λh=>by cases h)⟩,λk _ h=>by cases h⟩
  .intro idx o hj ho L vals a' W hLi hS hw' qh hdn;obtain⟨T',cur,hC,hZ,hun,hnr,qi⟩:=hS;have HPS:=λ(i:Nat) {v:ny} {T2:Nat->Prop} {w2:nu} hm h=>yt (i:=i) (L:=L) (vals:=vals) (v:=v) (Ψ:=λk v=>qur W0 w.heap.size x0 x1 x2 k v T' W) (Ψ':=λk v=>qur W0 w.heap.size x0 x1 x2 k v T2 w2) qi hm h
   have HPQ:=λ(i:Nat) {v:ny} h=>HPS i (v:=v) (T2:=T') (w2:=W) (λ_ _ h=>h) h
   have hj':idx=0\/idx=1\/idx=2\/idx=3\/idx=4\/idx=5\/idx=6\/idx=7\/idx=8\/idx=9\/idx=10\/idx=11\/idx=12\/idx=13\/idx=14:=kg;clear hj;rcases hj' with rfl|rfl|rfl|rfl|rfl|rfl|rfl|rfl|rfl|rfl|rfl|rfl|rfl|rfl|rfl
   .cases oi ho;obtain⟨hu0,hu1,hu2⟩:=hun;have h1:=qx.gdt (qh 1 nd);refine qx.qc.eq ?_ ⟨T',cur,hC,hZ,⟨hu0,hu1,hu2⟩,hnr,HPQ 0 rfl⟩;go_simp
    all_goals(try exact⟨rfl,rfl⟩)
   .cases oi ho;obtain⟨hu0,hu1,hu2⟩:=hun;obtain⟨lo,eo⟩:=qh 3 nd;have h1:a'.tmps[3]?.getD mc=nj (I ⟨w.heap.size,3,V⟩):=gdq (eo.trans (qi 0 kg lo));clear eo
    have nl:L 10=ns:=by
     cases h:L 10
     .rfl
     .exact absurd (hdn 10 1 _ rfl h ki) (by rw[hLi];decide)
    have kc:W.cell? ⟨w.heap.size,3,V⟩=I x0:=by rw[hC.b.bk.cell];exact hu0 nl
    refine qx.qc.eq ?_ ⟨T',cur,hC,hZ,⟨hu0,hu1,hu2⟩,hnr,HPQ 1 rfl⟩;go_simp
    all_goals(try exact⟨rfl,rfl⟩)
   .cases oi ho;obtain⟨hu0,hu1,hu2⟩:=hun;obtain⟨lo,eo⟩:=qh 4 nd;have h1:a'.tmps[4]?.getD mc=x0:=gdq (eo.trans (qi 1 kg lo));clear eo;refine qx.qc.mono (R:=λv W'=>∃(T2:Nat->Prop),WTc W0 T2 W'/\zg T' W nr T2 W'/\quy cx W0 2 (((cx.tb.flat 82).getD []).getD 3 .any) (.sl 2 31 1024) x0 v T2 W') ?_ (λv W' h=>?_)
    .go_simp;refine(qx1 (lb:=1024) (m:=1) hC.b.wt (HT0.out.mono hC.b.hi.ext (af _)) kj).mono ?_;rintro e w5 ⟨⟨r,T2,rfl,hw2,hh2,hr,he⟩,A0,n0,hnr0⟩;exact⟨r,rfl,T2,hw2,hh2,⟨A0,n0,jz hnr0⟩,hr.mono (xq.refl _ _) (cr _),he⟩
    .obtain⟨T2,hw2,hh2,hcp⟩:=h;exact⟨T2,cur,hC.call hw2 hh2,hZ.call hh2,⟨hu0,hu1,hu2⟩,hnr,HPS 2 (λ_ _ h=>qco hC.b.wt hh2 h) hcp⟩
   .cases oi ho;obtain⟨hu0,hu1,hu2⟩:=hun;have h1:=qx.gdt (qh 1 nd);refine qx.qc.eq ?_ ⟨T',cur,hC,hZ,⟨hu0,hu1,hu2⟩,hnr,HPQ 3 rfl⟩;go_simp
    all_goals(try exact⟨rfl,rfl⟩)
   .cases oi ho;obtain⟨hu0,hu1,hu2⟩:=hun;obtain⟨lo,eo⟩:=qh 6 nd;have h1:a'.tmps[6]?.getD mc=nj (I ⟨w.heap.size,4,V⟩):=gdq (eo.trans (qi 3 kg lo));clear eo
    have nl:L 12=ns:=by
     cases h:L 12
     .rfl
     .exact absurd (hdn 12 4 _ rfl h ki) (by rw[hLi];decide)
    have kc:W.cell? ⟨w.heap.size,4,V⟩=I x1:=by rw[hC.b.bk.cell];exact hu1 nl
    refine qx.qc.eq ?_ ⟨T',cur,hC,hZ,⟨hu0,hu1,hu2⟩,hnr,HPQ 4 rfl⟩;go_simp
    all_goals(try exact⟨rfl,rfl⟩)
   .cases oi ho;obtain⟨hu0,hu1,hu2⟩:=hun;obtain⟨lo,eo⟩:=qh 7 nd;have h1:a'.tmps[7]?.getD mc=x1:=gdq (eo.trans (qi 4 kg lo));clear eo;refine qx.qc.mono (R:=λv W'=>∃(T2:Nat->Prop),WTc W0 T2 W'/\zg T' W nr T2 W'/\quy cx W0 2 (((cx.tb.flat 82).getD []).getD 4 .any) (.sl 2 31 1024) x1 v T2 W') ?_ (λv W' h=>?_)
    .go_simp;refine(qx1 (lb:=1024) (m:=1) hC.b.wt (HT1.out.mono hC.b.hi.ext (af _)) kj).mono ?_;rintro e w5 ⟨⟨r,T2,rfl,hw2,hh2,hr,he⟩,A0,n0,hnr0⟩;exact⟨r,rfl,T2,hw2,hh2,⟨A0,n0,jz hnr0⟩,hr.mono (xq.refl _ _) (cr _),he⟩
    .obtain⟨T2,hw2,hh2,hcp⟩:=h;exact⟨T2,cur,hC.call hw2 hh2,hZ.call hh2,⟨hu0,hu1,hu2⟩,hnr,HPS 5 (λ_ _ h=>qco hC.b.wt hh2 h) hcp⟩
   .cases oi ho;obtain⟨hu0,hu1,hu2⟩:=hun;have h1:=qx.gdt (qh 1 nd);refine qx.qc.eq ?_ ⟨T',cur,hC,hZ,⟨hu0,hu1,hu2⟩,hnr,HPQ 6 rfl⟩;go_simp
    all_goals(try exact⟨rfl,rfl⟩)
   .cases oi ho;obtain⟨hu0,hu1,hu2⟩:=hun;obtain⟨lo,eo⟩:=qh 9 nd;have h1:a'.tmps[9]?.getD mc=nj (I ⟨w.heap.size,7,V⟩):=gdq (eo.trans (qi 6 kg lo));clear eo
    have nl:L 14=ns:=by
     cases h:L 14
     .rfl
     .exact absurd (hdn 14 7 _ rfl h ki) (by rw[hLi];decide)
    have kc:W.cell? ⟨w.heap.size,7,V⟩=I x2:=by rw[hC.b.bk.cell];exact hu2 nl
    refine qx.qc.eq ?_ ⟨T',cur,hC,hZ,⟨hu0,hu1,hu2⟩,hnr,HPQ 7 rfl⟩;go_simp
    all_goals(try exact⟨rfl,rfl⟩)
   .cases oi ho;obtain⟨hu0,hu1,hu2⟩:=hun;obtain⟨lo,eo⟩:=qh 10 nd;have h1:a'.tmps[10]?.getD mc=x2:=gdq (eo.trans (qi 7 kg lo));clear eo;refine qx.qc.mono (R:=λv W'=>∃(T2:Nat->Prop),WTc W0 T2 W'/\zg T' W nr T2 W'/\quy cx W0 2 (((cx.tb.flat 82).getD []).getD 7 .any) (.sl 2 31 1024) x2 v T2 W') ?_ (λv W' h=>?_)
    .go_simp;refine(qx1 (lb:=1024) (m:=1) hC.b.wt (HT2.out.mono hC.b.hi.ext (af _)) kj).mono ?_;rintro e w5 ⟨⟨r,T2,rfl,hw2,hh2,hr,he⟩,A0,n0,hnr0⟩;exact⟨r,rfl,T2,hw2,hh2,⟨A0,n0,jz hnr0⟩,hr.mono (xq.refl _ _) (cr _),he⟩
    .obtain⟨T2,hw2,hh2,hcp⟩:=h;exact⟨T2,cur,hC.call hw2 hh2,hZ.call hh2,⟨hu0,hu1,hu2⟩,hnr,HPS 8 (λ_ _ h=>qco hC.b.wt hh2 h) hcp⟩
   .cases oi ho;obtain⟨hu0,hu1,hu2⟩:=hun;have h1:=qx.gdt (qh 1 nd);refine qx.qc.eq ?_ ⟨T',cur,hC,hZ,⟨hu0,hu1,hu2⟩,hnr,HPQ 9 rfl⟩;go_simp
    all_goals(try exact⟨rfl,rfl⟩)
   .cases oi ho;obtain⟨hu0,hu1,hu2⟩:=hun;obtain⟨hr0,hr1,hr2⟩:=hnr;obtain⟨lo,eo⟩:=qh 5 nd;have hcp:quy cx W0 2 (((cx.tb.flat 82).getD []).getD 3 .any) (.sl 2 31 1024) x0 (vals 2) T' W:=qi 2 kg lo;obtain⟨⟨A,n,hq⟩,hcv,heq⟩:=id hcp;have h1:a'.tmps[5]?.getD mc=ng A n n:=gdq (eo.trans hq);clear eo;obtain⟨lo2,eo2⟩:=qh 12 nd;have h2:a'.tmps[12]?.getD mc=nj (I ⟨w.heap.size,3,V⟩):=gdq (eo2.trans (qi 9 kg lo2));clear eo2;have kc:W.cell? ⟨w.heap.size,3,V⟩=I x0:=by rw[hC.b.bk.cell];exact hu0 hLi
    have kf:W.frozen? ⟨w.heap.size,3,V⟩=ns:=hC.b.bk.frozen _;refine qx.qc.mono (R:=λv W'=>W'=W.setCell ⟨w.heap.size,3,V⟩ (ng A n n)) ?_ (λv W' h=>?_)
    .go_simp
     all_goals(try simp only[qx.qc])
    .subst h;exact⟨T',_,hC.step (k:=3) ki ki HX0.out hC.b.wt (zg.refl _ _ _) (r:=ng A n n) (ct':=.sl 2 31 1024) (hq ▸ hcv) ki (λdp=>hq ▸ heq dp),hZ.set kg,⟨λh=>by simp at h,λh=>by rw[dk kj];exact hu1 h,λh=>by rw[dk kj];exact hu2 h⟩,⟨(λ_=>⟨A,n,by rw[bt];simp;have:=zf hC.ty;rw[this];decide⟩),(λh=>by obtain⟨A1,n1,h1⟩:=hr1 h;exact⟨A1,n1,by rw[dk kj];exact h1⟩),(λh=>by obtain⟨A1,n1,h1⟩:=hr2 h;exact⟨A1,n1,by rw[dk kj];exact h1⟩)⟩,HPS 10 (λ_ _ h=>qez hC.b h) trivial⟩
   .cases oi ho;obtain⟨hu0,hu1,hu2⟩:=hun;have h1:=qx.gdt (qh 1 nd);refine qx.qc.eq ?_ ⟨T',cur,hC,hZ,⟨hu0,hu1,hu2⟩,hnr,HPQ 11 rfl⟩;go_simp
    all_goals(try exact⟨rfl,rfl⟩)
   .cases oi ho;obtain⟨hu0,hu1,hu2⟩:=hun;obtain⟨hr0,hr1,hr2⟩:=hnr;obtain⟨lo,eo⟩:=qh 8 nd;have hcp:quy cx W0 2 (((cx.tb.flat 82).getD []).getD 4 .any) (.sl 2 31 1024) x1 (vals 5) T' W:=qi 5 kg lo;obtain⟨⟨A,n,hq⟩,hcv,heq⟩:=id hcp;have h1:a'.tmps[8]?.getD mc=ng A n n:=gdq (eo.trans hq);clear eo;obtain⟨lo2,eo2⟩:=qh 13 nd;have h2:a'.tmps[13]?.getD mc=nj (I ⟨w.heap.size,4,V⟩):=gdq (eo2.trans (qi 11 kg lo2));clear eo2;have kc:W.cell? ⟨w.heap.size,4,V⟩=I x1:=by rw[hC.b.bk.cell];exact hu1 hLi
    have kf:W.frozen? ⟨w.heap.size,4,V⟩=ns:=hC.b.bk.frozen _;refine qx.qc.mono (R:=λv W'=>W'=W.setCell ⟨w.heap.size,4,V⟩ (ng A n n)) ?_ (λv W' h=>?_)
    .go_simp
     all_goals(try simp only[qx.qc])
    .subst h;exact⟨T',_,hC.step (k:=4) ki ki HX1.out hC.b.wt (zg.refl _ _ _) (r:=ng A n n) (ct':=.sl 2 31 1024) (hq ▸ hcv) ki (λdp=>hq ▸ heq dp),hZ.set kg,⟨λh=>by rw[dk kj];exact hu0 h,λh=>by simp at h,λh=>by rw[dk kj];exact hu2 h⟩,⟨(λh=>by obtain⟨A1,n1,h1⟩:=hr0 h;exact⟨A1,n1,by rw[dk kj];exact h1⟩),(λ_=>⟨A,n,by rw[bt];simp;have:=zf hC.ty;rw[this];decide⟩),(λh=>by obtain⟨A1,n1,h1⟩:=hr2 h;exact⟨A1,n1,by rw[dk kj];exact h1⟩)⟩,HPS 12 (λ_ _ h=>qez hC.b h) trivial⟩
   .cases oi ho;obtain⟨hu0,hu1,hu2⟩:=hun;have h1:=qx.gdt (qh 1 nd);refine qx.qc.eq ?_ ⟨T',cur,hC,hZ,⟨hu0,hu1,hu2⟩,hnr,HPQ 13 rfl⟩;go_simp
    all_goals(try exact⟨rfl,rfl⟩)
   .cases oi ho;obtain⟨hu0,hu1,hu2⟩:=hun;obtain⟨hr0,hr1,hr2⟩:=hnr;obtain⟨lo,eo⟩:=qh 11 nd;have hcp:quy cx W0 2 (((cx.tb.flat 82).getD []).getD 7 .any) (.sl 2 31 1024) x2 (vals 8) T' W:=qi 8 kg lo;obtain⟨⟨A,n,hq⟩,hcv,heq⟩:=id hcp;have h1:a'.tmps[11]?.getD mc=ng A n n:=gdq (eo.trans hq);clear eo;obtain⟨lo2,eo2⟩:=qh 14 nd;have h2:a'.tmps[14]?.getD mc=nj (I ⟨w.heap.size,7,V⟩):=gdq (eo2.trans (qi 13 kg lo2));clear eo2;have kc:W.cell? ⟨w.heap.size,7,V⟩=I x2:=by rw[hC.b.bk.cell];exact hu2 hLi
    have kf:W.frozen? ⟨w.heap.size,7,V⟩=ns:=hC.b.bk.frozen _;refine qx.qc.mono (R:=λv W'=>W'=W.setCell ⟨w.heap.size,7,V⟩ (ng A n n)) ?_ (λv W' h=>?_)
    .go_simp
     all_goals(try simp only[qx.qc])
    .subst h;exact⟨T',_,hC.step (k:=7) ki ki HX2.out hC.b.wt (zg.refl _ _ _) (r:=ng A n n) (ct':=.sl 2 31 1024) (hq ▸ hcv) ki (λdp=>hq ▸ heq dp),hZ.set kg,⟨λh=>by rw[dk kj];exact hu0 h,λh=>by rw[dk kj];exact hu1 h,λh=>by simp at h⟩,⟨(λh=>by obtain⟨A1,n1,h1⟩:=hr0 h;exact⟨A1,n1,by rw[dk kj];exact h1⟩),(λh=>by obtain⟨A1,n1,h1⟩:=hr1 h;exact⟨A1,n1,by rw[dk kj];exact h1⟩),(λ_=>⟨A,n,by rw[bt];simp;have:=zf hC.ty;rw[this];decide⟩)⟩,HPS 14 (λ_ _ h=>qez hC.b h) trivial⟩
  .intro L vals W zl hS;obtain⟨T',cur,hC,hZ,hun,hnr,qi⟩:=hS
   have hnn:qb9 [3,4,7] cur:=by
    obtain⟨hr0,hr1,hr2⟩:=hnr;intro k hk;simp only[List.mem_cons,List.not_mem_nil,or_false] at hk;rcases hk with rfl|rfl|rfl
    .exact hr0 (zl 10 kg)
    .exact hr1 (zl 12 kg)
    .exact hr2 (zl 14 kg)
   clear hun qi zl hnr;have HR:Hid (∃(T':Nat->Prop) (cur:Array ny),qzp cx W0 T w w.heap.size 82 ((cx.tb.flat 82).getD []) 2 cs T' W cur/\yh T' W (w.heap.size+1) 82 zB/\qb9 [3,4,7] cur):=aa ⟨T',cur,hC,hZ,hnn⟩;clear hC hZ hnn;simp only[qx.puts,qx.zi,List.range,dc,if_true,List.drop_succ_cons,List.drop_zero];simp[Act.put];go_wp2_with fail;go_meet;exact HR.out
 case rest=>
  obtain⟨T',cur,hC,hZ,hnn⟩:=hcut.out;clear hcut;have HC:=aa hC;have HZ:=aa hZ;have HS:Hid ((ab.info? 82).map (·.size)=I cur.size):=aa (by rw[zf hC.ty];kernel_rfl);have HO:=aa (xx hC.ty);have HQ:Hid ((zB:Array ny).size=cur.size):=aa (by rw[zf hC.ty];kernel_rfl);have HD:=aa (hC.doneQ ki hZ kg (qb9 [3,4,7]) hnn);clear hC hZ;go_wp2_with (first|(refine bp rfl 82 (.tmp 1) rfl w.heap.size rfl 82 cur (0,0) _ HC.out.b.bk dt rfl HS.out ?_)|(refine br rfl 82 (.tmp 2) (.tmp 15) rfl rfl (w.heap.size+1) cur rfl rfl 82 _ HZ.out.bk HS.out HQ.out HO.out ?_));refine du (ll rfl _ _ (w.heap.size+1) 82 cur (0,0) _ rfl HD.out.2 dt rfl HS.out) rfl ?_;exact HD.out.1
end
open Go.RowKit Go.Great
section
variable {W0:nu}{T T':Nat->Prop}{w w':nu}{base:Nat}
noncomputable abbrev FM:List CT:=((cx.tb.flat 31).getD [])
theorem isres{k:Int}(hone:ms.all (·.oneCell')=nr)(h0:ms[0]? = I (U O k))(w:nu):Calls ab 58 #[.agg ms] w λe w'=>e=.returned (ni (decide (k=2\/k=3)))/\Hid (Below w.heap.size w w'):=by
 have HB:=aa (zy w (.cells ms 31));have k0:(w.alloc (.cells ms 31)).cell? ⟨w.heap.size,0,V⟩=I (U O k):=by rw[(mg.new w 31 ms).cell];exact h0
 have K0:=aa k0;clear h0 k0;go_enter Tryz.func58,Tryz.ntmps58;go_upto_region 1 with(fail);have k0:=K0.out;generalize w.alloc (.cells ms 31)=w1 at *;clear K0;go_wp2_with fail
 all_goals(go_ret;refine⟨?_,HB⟩;first|(simp[*];done)|(rcases cf (k=3) with h3|h3<;>simp[*]))
def IdxP(n:Nat)(ids:Nat->Int)(b:Int)(e:Ending):Prop:=∃k:Int,e=np (U O k)/\(k<0↔∀j,j<n->ids j<b)
def ConP(n:Nat)(ids:Nat->Int)(b:Int)(e:Ending):Prop:=∃d,e=np (ni d)/\(d=ns↔∀j,j<n->ids j<b)
def qyx(W0:nu)(T:Nat->Prop)(w:nu)(A:Option Addr)(n:Nat)(ids:Nat->Int):Prop:=∀j,j<n->∃xs,zo cx W0 T w FM A j xs/\xs[1]? = I (U O (ids j))
theorem ids_of(hw:WTc W0 T w)(h:CVc W0 T w base (.sl m 31 lb) (ng A n c)):∃ids,qyx W0 T w A n ids:=by
 have:∀j,∃i:Int,j<n->∃xs,zo cx W0 T w FM A j xs/\xs[1]? = I (U O i):=λj=>by
  by_cases hj:j<n
  .obtain⟨xs,hx⟩:=jr (f:=FM) hw ki h hj;obtain⟨b,off,-,-,-,-,-,hty⟩:=id hx;obtain⟨u,hu,⟨i,rfl,-⟩⟩:=jd hty (k:=1) (ct:=vw) ki;exact⟨i,λ_=>⟨xs,hx,hu⟩⟩
  .exact⟨0,λh=>absurd h hj⟩
 exact⟨λj=>Classical.choose (this j),λj hj=>Classical.choose_spec (this j) hj⟩
theorem newer1{os:Array ny}{a:Int}(hone:os.all (·.oneCell')=nr)(ho:os[1]? = I (U O a))(w:nu)(hg:mg w g 31 ms)(hm:ms[1]? = I (U O b)) :
  Calls ab 90 #[.agg os,nj (I ⟨g,0,V⟩)] w λe w'=>e=.returned (ni (decide (b<=a)))/\Hid (Below w.heap.size w w'):=by
 have HB:=aa (zy w (.cells os 31));have k0:(w.alloc (.cells os 31)).cell? ⟨w.heap.size,1,V⟩=I (U O a):=by rw[(mg.new w 31 os).cell];exact ho
 have k1:(w.alloc (.cells os 31)).cell? ⟨g,1,V⟩=I (U O b):=by rw[(hg.alloc _).cell];exact hm
 have K0:=aa k0;have K1:=aa k1;clear ho hm hg k0 k1;go_enter Tryz.func90,Tryz.ntmps90;go_upto_region 1 with(fail);have k0:=K0.out;have k1:=K1.out;generalize w.alloc (.cells os 31)=w1 at *;clear K0 K1;go_wp2_with fail;go_ret;exact⟨rfl,HB⟩
theorem idxf(hw:WTc W0 T w)(hi:qyx W0 T w A n ids)(hn:n<=1048576)(hg:mg w g 31 ms)(hm:ms[1]? = I (U O b)) :
  Calls ab 110 #[ng A n c,.func (.func 90) #[] #[nj (I ⟨g,0,V⟩)]] w λe w'=>IdxP n ids b e/\Hid (Below w.heap.size w w'):=by
 have HI:=aa hi;have HG:=aa hg;have HM:=aa hm;clear hi hg hm;go_enter Tryz.func110,Tryz.ntmps110;go_wp2_with fail;go_loopg [8] n (λgg s8 wr=>∃j:Nat,j+gg=n/\s8=U O j/\Hid (Below w.heap.size w wr/\∀i,i<j->ids i<b))
 case atStart=>exact⟨0,kg,rfl,aa ⟨Below.refl _ _,λi hi=>kg⟩⟩
 case round=>
  obtain⟨j,hj,rfl,HF⟩:=hrel;by_cases hjn:j<n
  .obtain⟨xs,hx,hx1⟩:=HI.out j hjn;obtain⟨bb,off,rfl,-,-,hxs,-,hxt⟩:=id hx;have HXS:Hid ((ab.info? 31).map (·.size)=I xs.toList.length):=aa (by rw[aw,hxs];kernel_rfl);have HXR:Hid (wr.rangeAt bb (off+j*25) xs.toList):=aa (hx.range (λb hb=>HF.out.1.block b hb));have HN:=aa (newer1 (xx hxt) hx1 wr (HG.out.call HF.out.1) HM.out);have hltz:(j:Int)<(n:Int):=kg;have hj0:(0:Int)<=(j:Int):=kg;have e4:IntKind.i64.wrap ((j:Int)+1)=((j+1:Nat):Int):=by simp[di,dj,cz];omega
   generalize hd:decide (b<=ids j)=d at HN;have HD:=aa hd;clear hx hx1 hxs hxt hd;go_wp2_with (refine gd rfl 31 (.tmp 14) rfl bb (off+j*25) rfl xs.toList _ HXR.out bz rfl HXS.out ?_);refine HN.out.mono ?_;rintro e w3 ⟨rfl,hb3⟩;have HB3:=aa (qg HF.out.1 hb3.out);cases d with
   | true=>
     go_wp2_with fail;go_ret;refine⟨⟨_,rfl,?_⟩,HB3⟩;have:=HD.out;rw[decide_eq_true_eq] at this;exact⟨λh=>kg,λh=>by have:=h j hjn;omega⟩
   | false=>
     have h5:ids j<b:=by
      have:=HD.out;rw[decide_eq_false_iff_not] at this;omega
     have H5:=aa h5;clear h5;go_wp2_with fail;go_roundg (n-(j+1))
     case measure=>omega
     case rel=>exact⟨j+1,kg,kq,aa ⟨HB3.out,λi hi=>(gr.1 hi).elim (HF.out.2 i) (λe=>e ▸ H5.out)⟩⟩
  .have xm:n=j:=kg;subst xm;go_wp2_with fail;go_ret;exact⟨⟨_,rfl,λ_=>HF.out.2,λ_=>kg⟩,aa HF.out.1⟩
theorem contf(hw:WTc W0 T w)(hi:qyx W0 T w A n ids)(hn:n<=1048576)(hg:mg w g 31 ms)(hm:ms[1]? = I (U O b)) :
  Calls ab 89 #[ng A n c,.func (.func 90) #[] #[nj (I ⟨g,0,V⟩)]] w λe w'=>ConP n ids b e/\Hid (Below w.heap.size w w'):=by
 have HX:=aa (idxf (c:=c) hw hi hn hg hm);clear hi hg hm;go_enter Tryz.func89,Tryz.ntmps89;go_wp2_with fail;refine HX.out.mono ?_;rintro e w3 ⟨⟨k,rfl,hk⟩,hb3⟩;have HK:=aa hk;clear hk;go_wp2_with fail;go_ret;exact⟨⟨_,rfl,by have:=HK.out;simp;exact this⟩,hb3⟩
def NewP(n:Nat)(ids:Nat->Int)(b:Int)(e:Ending):Prop:=∃d,e=np (ni d)/\(d=nr↔∀j,j<n->ids j<b)
theorem q2p(hw:WTc W0 T w)(hi:qyx W0 T w A n ids)(hn:n<=1048576)(hone:ms.all (·.oneCell')=nr)(hm:ms[1]? = I (U O b)) :
  Calls ab 61 #[.agg ms,ng A n c] w λe w'=>NewP n ids b e/\Hid (Below w.heap.size w w'):=by
 have HB:=aa (zy w (.cells ms 31));obtain⟨hw1,hx1⟩:=zh hw HB.out
 have hi1:qyx W0 T (w.alloc (.cells ms 31)) A n ids:=λj hj=>by
  obtain⟨xs,⟨b,off,e,h1,h2,h3,h4,h5⟩,h6⟩:=hi j hj;exact⟨xs,⟨b,off,e,h1,Nat.lt_of_lt_of_le h2 HB.out.size,h3,λk hk=>by rw[World.cell?_of_block (HB.out.block b h2)];exact h4 k hk,zx hx1 h5⟩,h6⟩
 have HC:=aa (contf (c:=c) hw1 hi1 hn (mg.new w 31 ms) hm);have hmf:∀(fn:Fn) (first cap:Array ny) (w:nu),(Instr.makeFunc fn first cap).run ab w=.ok (.func fn first cap) w:=λ_ _ _ _=>rfl
 clear hi hm hw1 hx1 hi1;go_enter Tryz.func61,Tryz.ntmps61;go_upto_region 1 with(fail);generalize w.alloc (.cells ms 31)=w1 at *;go_wp2_with fail;refine HC.out.mono ?_;rintro e w3 ⟨⟨d,rfl,hd⟩,hb3⟩;have HD:=aa hd;have HB3:=aa (qg HB.out hb3.out);clear hd;go_wp2_with fail;go_ret;exact⟨⟨_,rfl,by have:=HD.out;simp;exact this⟩,HB3⟩
end
end Sy
end Go.Proofs.YtmadfhgiaonnlaaGreatDoor
