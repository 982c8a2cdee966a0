import Derived.Test.YtmadfhgiaonnlaaGreatDoorPk27
set_option linter.unusedVariables false
set_option linter.unusedSimpArgs false
namespace Go.Proofs.YtmadfhgiaonnlaaGreatDoor
namespace SipW
open Go.RowKit
theorem row_size{w:World}{g:Nat}{cs:Array Value}{n:Nat}(h:n<w.heap.size):n<(w.setRow g cs).heap.size:=by rw[size_setRow];exact h
set_option maxRecDepth 100000 in
set_option maxHeartbeats 2000000 in
theorem rpair(k l:Int)(A:Option Addr)(n c:Nat)(xs:List Int)(w:World)(h:EncW.Data w (.slice A n c) xs)(hlen:xs.length≤1000000000):Calls Tryz.prog 145 #[.int .u64 k,.int .u64 l,.slice A n c] w fun e w'=>e=.returned (.int .u64 (Sip.fin (Sip.from_ xs 0 (Sip.start k l))))∧Hid (Below w.heap.size w w'):=by
 obtain⟨A',c',e,h0⟩:=id h
 injection e with e1 e2 e3
 subst e2
 have HD:=Lib.hid h
 clear h0 e1 e3 h
 go_enter Tryz.func145,Tryz.ntmps145
 go_wp2_with fail
 have HK0:=Lib.hid (Blk.new w 262 (sC (Sip.start k l)))
 have HB0:=Lib.hid (below_alloc (Below.refl w.heap.size w) (.cells (sC (Sip.start k l)) 262))
 have e1:w.alloc (.cells (sC (Sip.start k l)) 262)=w.alloc (.cells #[.int .u64 (bits .xor .u64 k 8317987319222330741),.int .u64 (bits .xor .u64 l 7237128888997146477),.int .u64 (bits .xor .u64 k 7816392313619706465),.int .u64 (bits .xor .u64 l 8387220255154660723)] 262):=rfl
 rw[←e1]
 clear e1
 have HS0:Hid (w.heap.size<(w.alloc (.cells (sC (Sip.start k l)) 262)).heap.size):=Lib.hid (by simp)
 generalize w.alloc (.cells (sC (Sip.start k l)) 262)=w1 at *
 go_loopg [8,9] (xs.length+9) (fun gg s8 s9 wr=>∃(q:Nat) (t:Sip.S4),q+gg=xs.length+9∧q≤xs.length+8∧s8=.int .i64 q∧Hid (Sip.from_ xs q t=Sip.from_ xs 0 (Sip.start k l))∧Hid (Blk wr w.heap.size 262 (sC t))∧Hid (Below w.heap.size w wr)∧Hid (w.heap.size<wr.heap.size))
 case atStart=>exact⟨0,_,by omega,by omega,rfl,rfl,HK0,HB0,HS0⟩
 case round=>
  obtain⟨q,t,hq,hq8,rfl,HF,HK,HB,HS⟩:=hrel
  by_cases hql:q≤xs.length
  ·have hqz:(q:Int)≤xs.length:=by omega
   have HD1:=Lib.hid (EncW.Data.call HD.out HB.out)
   have HL:=Lib.hid (rword A xs.length c xs wr HD1.out q hql hlen)
   have HF2:Hid (Sip.from_ xs (q+8) (Sip.word t (Sip.wordAt xs q))=Sip.from_ xs 0 (Sip.start k l)):=Lib.hid (by rw[←HF.out,Sip.from_more hql])
   clear HF
   go_wp2_with fail
   refine HL.out.mono ?_
   rintro e w2 ⟨rfl,rfl⟩
   clear HL HD1
   have HW:Hid (Sip.word t (Sip.wordAt xs q)={ Sip.rnds 2 { t with d:=Sip.xor t.d (Sip.wordAt xs q) } with a:=Sip.xor (Sip.rnds 2 { t with d:=Sip.xor t.d (Sip.wordAt xs q) }).a (Sip.wordAt xs q) }):=Lib.hid rfl
   generalize Sip.wordAt xs q=m at *
   obtain⟨ta,tb,tc,td⟩:=t
   have kc:=HK.out.cell
   have kf:=HK.out.frozen
   simp only[sC] at kc
   have e1:Hid (w2.setCell ⟨w.heap.size,3,none⟩ (.int .u64 (bits .xor .u64 td m))=w2.setRow w.heap.size (sC ⟨ta,tb,tc,bits .xor .u64 td m⟩)):=stSet HK.out rfl
   go_upto_region 7 with(fail)
   rw[e1.out]
   have HK4:=Lib.hid (zf (sC ⟨ta,tb,tc,bits .xor .u64 td m⟩) HK.out)
   have HB4:=Lib.hid (qm (sC ⟨ta,tb,tc,bits .xor .u64 td m⟩) HB.out (Nat.le_refl w.heap.size))
   have HS4:Hid (w.heap.size<(w2.setRow w.heap.size (sC ⟨ta,tb,tc,bits .xor .u64 td m⟩)).heap.size):=Lib.hid (row_size HS.out)
   clear kc kf e1 HK HB HS
   generalize w2.setRow w.heap.size (sC ⟨ta,tb,tc,bits .xor .u64 td m⟩)=w4 at *
   have kc:=HK4.out.cell
   have kf:=HK4.out.frozen
   simp only[sC] at kc
   have HR:=Lib.hid (rrounds ⟨ta,tb,tc,bits .xor .u64 td m⟩ 2 (by omega) w4)
   go_wp2_with fail
   refine HR.out.mono ?_
   rintro e w5 ⟨rfl,HB5⟩
   clear kc kf HR
   have HK5:=Lib.hid (HK4.out.call HB5.out)
   have HB5':=Lib.hid (below_call HB4.out HB5.out)
   have HS5:Hid (w.heap.size<w5.heap.size):=Lib.hid (Nat.lt_of_lt_of_le HS4.out HB5.out.size)
   clear HK4 HB4 HS4 HB5
   have HW2:Hid (Sip.word ⟨ta,tb,tc,td⟩ m={ Sip.rnds 2 ⟨ta,tb,tc,bits .xor .u64 td m⟩ with a:=Sip.xor (Sip.rnds 2 ⟨ta,tb,tc,bits .xor .u64 td m⟩).a m }):=HW
   clear HW
   generalize Sip.rnds 2 ⟨ta,tb,tc,bits .xor .u64 td m⟩=y at *
   obtain⟨ya,yb,yc,yd⟩:=y
   have kc:=HK5.out.cell
   have kf:=HK5.out.frozen
   simp only[sC] at kc
   simp only[sC]
   have r1:=zf #[.int .u64 ya,.int .u64 tb,.int .u64 tc,.int .u64 (bits .xor .u64 td m)] HK5.out
   have r2:=zf #[.int .u64 ya,.int .u64 yb,.int .u64 tc,.int .u64 (bits .xor .u64 td m)] r1
   have r3:=zf #[.int .u64 ya,.int .u64 yb,.int .u64 yc,.int .u64 (bits .xor .u64 td m)] r2
   have E:Hid ((((w5.setCell ⟨w.heap.size,0,none⟩ (.int .u64 ya)).setCell ⟨w.heap.size,1,none⟩ (.int .u64 yb)).setCell ⟨w.heap.size,2,none⟩ (.int .u64 yc)).setCell ⟨w.heap.size,3,none⟩ (.int .u64 yd)=(((w5.setRow w.heap.size #[.int .u64 ya,.int .u64 tb,.int .u64 tc,.int .u64 (bits .xor .u64 td m)]).setRow w.heap.size #[.int .u64 ya,.int .u64 yb,.int .u64 tc,.int .u64 (bits .xor .u64 td m)]).setRow w.heap.size #[.int .u64 ya,.int .u64 yb,.int .u64 yc,.int .u64 (bits .xor .u64 td m)]).setRow w.heap.size (sC ⟨ya,yb,yc,yd⟩)):=Lib.hid (by
    rw[stSet HK5.out (cs':=#[.int .u64 ya,.int .u64 tb,.int .u64 tc,.int .u64 (bits .xor .u64 td m)]) rfl,stSet r1 (cs':=#[.int .u64 ya,.int .u64 yb,.int .u64 tc,.int .u64 (bits .xor .u64 td m)]) rfl,stSet r2 (cs':=#[.int .u64 ya,.int .u64 yb,.int .u64 yc,.int .u64 (bits .xor .u64 td m)]) rfl,stSet r3 (cs':=sC ⟨ya,yb,yc,yd⟩) rfl])
   have HK6:=Lib.hid (zf (sC ⟨ya,yb,yc,yd⟩) r3)
   have hr:=Nat.le_refl w.heap.size
   have HB6:=Lib.hid (qm (sC ⟨ya,yb,yc,yd⟩) (qm #[.int .u64 ya,.int .u64 yb,.int .u64 yc,.int .u64 (bits .xor .u64 td m)] (qm #[.int .u64 ya,.int .u64 yb,.int .u64 tc,.int .u64 (bits .xor .u64 td m)] (qm #[.int .u64 ya,.int .u64 tb,.int .u64 tc,.int .u64 (bits .xor .u64 td m)] HB5'.out hr) hr) hr) hr)
   have HS6:=Lib.hid (row_size (g:=w.heap.size) (cs:=sC ⟨ya,yb,yc,yd⟩) (row_size (g:=w.heap.size) (cs:=#[.int .u64 ya,.int .u64 yb,.int .u64 yc,.int .u64 (bits .xor .u64 td m)]) (row_size (g:=w.heap.size) (cs:=#[.int .u64 ya,.int .u64 yb,.int .u64 tc,.int .u64 (bits .xor .u64 td m)]) (row_size (g:=w.heap.size) (cs:=#[.int .u64 ya,.int .u64 tb,.int .u64 tc,.int .u64 (bits .xor .u64 td m)]) HS5.out))))
   clear r1 r2 r3 hr
   go_upto_region 8 with(fail)
   rw[E.out]
   clear E kc kf HK5 HB5' HS5
   generalize (((w5.setRow w.heap.size #[.int .u64 ya,.int .u64 tb,.int .u64 tc,.int .u64 (bits .xor .u64 td m)]).setRow w.heap.size #[.int .u64 ya,.int .u64 yb,.int .u64 tc,.int .u64 (bits .xor .u64 td m)]).setRow w.heap.size #[.int .u64 ya,.int .u64 yb,.int .u64 yc,.int .u64 (bits .xor .u64 td m)]).setRow w.heap.size (sC ⟨ya,yb,yc,yd⟩)=w6 at *
   have kc:=HK6.out.cell
   have kf:=HK6.out.frozen
   simp only[sC] at kc
   have e1:Hid (w6.setCell ⟨w.heap.size,0,none⟩ (.int .u64 (bits .xor .u64 ya m))=w6.setRow w.heap.size (sC ⟨bits .xor .u64 ya m,yb,yc,yd⟩)):=stSet HK6.out rfl
   go_upto_region 4 with(fail)
   rw[e1.out]
   have HK7:=Lib.hid (zf (sC ⟨bits .xor .u64 ya m,yb,yc,yd⟩) HK6.out)
   have HB7:=Lib.hid (qm (sC ⟨bits .xor .u64 ya m,yb,yc,yd⟩) HB6.out (Nat.le_refl w.heap.size))
   have HS7:Hid (w.heap.size<(w6.setRow w.heap.size (sC ⟨bits .xor .u64 ya m,yb,yc,yd⟩)).heap.size):=Lib.hid (row_size HS6.out)
   clear kc kf e1 HK6 HB6 HS6
   generalize w6.setRow w.heap.size (sC ⟨bits .xor .u64 ya m,yb,yc,yd⟩)=w7 at *
   have hwr:IntKind.i64.wrap ((q:Int)+8)=((q+8:Nat):Int):=by rw[IntWalk.i64_in _ (by omega)];omega
   go_wp2_with fail
   go_roundg (xs.length+9-(q+8))
   case measure=>omega
   case rel=>exact⟨q+8,_,by omega,by omega,by simp,HF2,by rw[HW2.out];exact HK7,HB7,HS7⟩
  ·have hqz:¬(q:Int)≤xs.length:=by omega
   have HF2:Hid (Sip.from_ xs 0 (Sip.start k l)=t):=Lib.hid (by rw[←HF.out,Sip.from_done hql])
   clear HF
   obtain⟨ta,tb,tc,td⟩:=t
   have kc:=HK.out.cell
   have kf:=HK.out.frozen
   simp only[sC] at kc
   have e1:Hid (wr.setCell ⟨w.heap.size,2,none⟩ (.int .u64 (bits .xor .u64 tc 255))=wr.setRow w.heap.size (sC ⟨ta,tb,bits .xor .u64 tc 255,td⟩)):=stSet HK.out rfl
   go_upto_region 10 with(fail)
   rw[e1.out]
   have HK4:=Lib.hid (zf (sC ⟨ta,tb,bits .xor .u64 tc 255,td⟩) HK.out)
   have HB4:=Lib.hid (qm (sC ⟨ta,tb,bits .xor .u64 tc 255,td⟩) HB.out (Nat.le_refl w.heap.size))
   clear kc kf e1 HK HB HS
   generalize wr.setRow w.heap.size (sC ⟨ta,tb,bits .xor .u64 tc 255,td⟩)=w4 at *
   have kc:=HK4.out.cell
   have kf:=HK4.out.frozen
   simp only[sC] at kc
   have HR:=Lib.hid (rrounds ⟨ta,tb,bits .xor .u64 tc 255,td⟩ 4 (by omega) w4)
   go_wp2_with fail
   refine HR.out.mono ?_
   rintro e w5 ⟨rfl,HB5⟩
   clear kc kf HR
   have HK5:=Lib.hid (HK4.out.call HB5.out)
   have HB5':=Lib.hid (below_call HB4.out HB5.out)
   clear HK4 HB4 HB5
   have HFIN:Hid (Sip.fin ⟨ta,tb,tc,td⟩=Sip.xor (Sip.xor (Sip.xor (Sip.rnds 4 ⟨ta,tb,bits .xor .u64 tc 255,td⟩).a (Sip.rnds 4 ⟨ta,tb,bits .xor .u64 tc 255,td⟩).b) (Sip.rnds 4 ⟨ta,tb,bits .xor .u64 tc 255,td⟩).c) (Sip.rnds 4 ⟨ta,tb,bits .xor .u64 tc 255,td⟩).d):=Lib.hid rfl
   generalize Sip.rnds 4 ⟨ta,tb,bits .xor .u64 tc 255,td⟩=y at *
   obtain⟨ya,yb,yc,yd⟩:=y
   have kc:=HK5.out.cell
   have kf:=HK5.out.frozen
   simp only[sC] at kc
   simp only[sC]
   have r1:=zf #[.int .u64 ya,.int .u64 tb,.int .u64 (bits .xor .u64 tc 255),.int .u64 td] HK5.out
   have r2:=zf #[.int .u64 ya,.int .u64 yb,.int .u64 (bits .xor .u64 tc 255),.int .u64 td] r1
   have r3:=zf #[.int .u64 ya,.int .u64 yb,.int .u64 yc,.int .u64 td] r2
   have E:Hid ((((w5.setCell ⟨w.heap.size,0,none⟩ (.int .u64 ya)).setCell ⟨w.heap.size,1,none⟩ (.int .u64 yb)).setCell ⟨w.heap.size,2,none⟩ (.int .u64 yc)).setCell ⟨w.heap.size,3,none⟩ (.int .u64 yd)=(((w5.setRow w.heap.size #[.int .u64 ya,.int .u64 tb,.int .u64 (bits .xor .u64 tc 255),.int .u64 td]).setRow w.heap.size #[.int .u64 ya,.int .u64 yb,.int .u64 (bits .xor .u64 tc 255),.int .u64 td]).setRow w.heap.size #[.int .u64 ya,.int .u64 yb,.int .u64 yc,.int .u64 td]).setRow w.heap.size (sC ⟨ya,yb,yc,yd⟩)):=Lib.hid (by
    rw[stSet HK5.out (cs':=#[.int .u64 ya,.int .u64 tb,.int .u64 (bits .xor .u64 tc 255),.int .u64 td]) rfl,stSet r1 (cs':=#[.int .u64 ya,.int .u64 yb,.int .u64 (bits .xor .u64 tc 255),.int .u64 td]) rfl,stSet r2 (cs':=#[.int .u64 ya,.int .u64 yb,.int .u64 yc,.int .u64 td]) rfl,stSet r3 (cs':=sC ⟨ya,yb,yc,yd⟩) rfl])
   have HK6:=Lib.hid (zf (sC ⟨ya,yb,yc,yd⟩) r3)
   have hr:=Nat.le_refl w.heap.size
   have HB6:=Lib.hid (qm (sC ⟨ya,yb,yc,yd⟩) (qm #[.int .u64 ya,.int .u64 yb,.int .u64 yc,.int .u64 td] (qm #[.int .u64 ya,.int .u64 yb,.int .u64 (bits .xor .u64 tc 255),.int .u64 td] (qm #[.int .u64 ya,.int .u64 tb,.int .u64 (bits .xor .u64 tc 255),.int .u64 td] HB5'.out hr) hr) hr) hr)
   clear r1 r2 r3 hr
   go_upto_region 11 with(fail)
   rw[E.out]
   clear E kc kf HK5 HB5'
   generalize (((w5.setRow w.heap.size #[.int .u64 ya,.int .u64 tb,.int .u64 (bits .xor .u64 tc 255),.int .u64 td]).setRow w.heap.size #[.int .u64 ya,.int .u64 yb,.int .u64 (bits .xor .u64 tc 255),.int .u64 td]).setRow w.heap.size #[.int .u64 ya,.int .u64 yb,.int .u64 yc,.int .u64 td]).setRow w.heap.size (sC ⟨ya,yb,yc,yd⟩)=w6 at *
   have kc:=HK6.out.cell
   simp only[sC] at kc
   go_wp2_with fail
   go_ret
   exact⟨by rw[HF2.out,HFIN.out];rfl,HB6⟩
set_option maxRecDepth 100000 in
theorem rsum(key:Int)(A:Option Addr)(n c:Nat)(xs:List Int)(w:World)(h:EncW.Data w (.slice A n c) xs)(hlen:xs.length≤1000000000):Calls Tryz.prog 123 #[.int .u64 key,.slice A n c] w fun e w'=>e=.returned (.int .u64 (Sip.sum key xs))∧Hid (Below w.heap.size w w'):=by
 have HL:=Lib.hid (rpair key (Sip.xor key 6616326155283851669) A n c xs w h hlen)
 rw[Sip.sum_from] at HL
 clear h hlen
 go_enter Tryz.func123,Tryz.ntmps123
 go_wp2_with fail
 refine HL.out.mono ?_
 rintro e w2 ⟨rfl,HB⟩
 go_wp2_with fail
 go_ret
 exact⟨rfl,HB⟩
set_option maxRecDepth 100000 in
theorem rchain(key:Int)(A:Option Addr)(n c:Nat)(xs:List Int)(w:World)(h:EncW.Data w (.slice A n c) xs)(hlen:xs.length≤1000000000):Calls Tryz.prog 102 #[.int .u64 key,.slice A n c] w fun e w'=>e=.returned (.int .u64 (Sip.sum key xs))∧Hid (Below w.heap.size w w'):=by
 have HL:=Lib.hid (rsum key A n c xs w h hlen)
 clear h hlen
 go_enter Tryz.func102,Tryz.ntmps102
 go_wp2_with fail
 refine HL.out.mono ?_
 rintro e w2 ⟨rfl,HB⟩
 go_wp2_with fail
 go_ret
 exact⟨rfl,HB⟩
set_option maxRecDepth 100000 in
theorem chain_(key:Int)(A:Option Addr)(n c:Nat)(xs:List Int)(w:World)(h:EncW.Data w (.slice A n c) xs)(hlen:xs.length≤1000000000):Calls Tryz.prog 100 #[.int .u64 key,.slice A n c] w fun e w'=>e=.returned (.int .u64 (Sip.sum key xs))∧Hid (Below w.heap.size w w'):=by
 have HL:=Lib.hid (sum_ key A n c xs w h hlen)
 clear h hlen
 go_enter Tryz.func100,Tryz.ntmps100
 go_wp2_with fail
 refine HL.out.mono ?_
 rintro e w2 ⟨rfl,HB⟩
 go_wp2_with fail
 go_ret
 exact⟨rfl,HB⟩
end SipW
namespace EncW
open Go.RowKit MonW Enc
theorem encI_ne(n:Int):encI n≠[]:=by
 unfold encI
 by_cases h:128≤zz n
 ·rw[encU_big h];simp
 ·rw[encU_small h];simp
theorem wpList_dataE{P:Program}{ops:Array Oper}{rest:List Oper}{o:Oper}{a:Act}{w:World}{Q:Exit→Act→World→Prop}(hgd:o.guard=none)(s x:Operand)(t:TypeId)
  (ho:o.op=.call { callee:=.builtin .append,args:=#[s,x],argTypes:=#[t,t] })
  (i:TypeInfo) (z:Value) (ht:P.underlying t=some (.slice 5)) (hi:P.info? 5=some i) (hz:i.zero=some z)
  (hsize:i.size=1) (hby:i.bytes=1) (hzs:z.cells.size=1) {base:Nat} {v u:Value} {xs d:List Int} (hs:a.eval s=v) (hown:OwnB base w v xs) (hx:a.eval x=u) (hd:Data w u d) (hn:xs.length+d.length≤16777216) (hbase:base≤w.heap.size)
  (h:∀v' w',OwnB base w' v' (xs++d)→Below base w w'→IsSl v'→wpList P ops Q rest (a.put o.dst v') w'):wpList P ops Q (o::rest) a w:=by
 by_cases hne:d=[]
 ·subst hne
  obtain⟨A,c,rfl,d1,d2,d3,d4,d5⟩:=hd
  have hrun:(Builtin.append_ #[t,t] o.type #[v,.slice A 0 c]).run P w=.ok v w:=by
   obtain⟨rs,k1,k2⟩:=id hown
   have hfc:(Builtin.firstCells i.size 0 (.slice A 0 c)).run P w=.ok #[] w:=by
    cases A with
    | none=>simp[Builtin.firstCells]
    | some b=>exact run_firstCells_some (P:=P) w i.size 0 b 0 c [] (by simp) (fun j v h=>by simp at h)
   rcases k1.2 with⟨rfl,h0⟩|⟨g,cap,cur,rfl,h1,h2,h3⟩
   ·simp[Builtin.append_,run_underlying ht,sizeOf,typeInfo,hi,Builtin.lenOf,hfc]
   ·simp[Builtin.append_,run_underlying ht,sizeOf,typeInfo,hi,Builtin.lenOf,hfc,h3,storeCells]
  have hsl:IsSl v:=by
   obtain⟨rs,k1,k2⟩:=hown
   rcases k1.2 with⟨rfl,h0⟩|⟨g,cap,cur,rfl,h1⟩<;>exact⟨_,_,_,rfl⟩
  refine wpList_plain hgd fun K hK=>?_
  unfold Oper.wp
  have hex:(execOp a.eval o).run P w=.ok (.value v) w:=by
   simp only[execOp,ho,resolve,invoke,builtin]
   simp[Sem.run_bind,hs,hx,hrun]
  rw[hex]
  exact hK _ _ (h v w (by rw[List.append_nil];exact hown) (Below.refl _ _) hsl)
 ·exact wpList_data hgd s x t ho i z ht hi hz hsize hby hzs hs hown hx hd hne hn hbase h
theorem OwnB.rowT{base:Nat}{w:World}{v:Value}{l:List Int}(h:OwnB base w v l):∀k,v.ownBlock=some k→∃cs fz,w.heap[k]? = some (.cells cs 5 fz):=by
 obtain⟨rs,h1,h2⟩:=h
 intro k hk
 rcases h1.2 with⟨rfl,_⟩|⟨g,cap,cur,rfl,_,hg,_⟩
 ·simp[Value.ownBlock] at hk
 ·obtain rfl:g=k:=by simpa[Value.ownBlock] using hk
  exact⟨_,_,hg⟩
theorem Blk.grew{base:Nat}{w w':World}{v:Value}{l:List Int}{g:Nat}{t:TypeId}{cs:Array Value}(hk:Blk w g t cs)(ho:OwnB base w v l)(hg:w.grownBy w' v.ownBlock)(ht:t≠5):Blk w' g t cs:=by
 refine(hg.block g hk.lt (fun e=>?_)).trans hk
 obtain⟨cs',fz,h⟩:=OwnB.rowT ho g e.symm
 rw[show w.heap[g]? = _ from hk] at h
 cases h
 exact ht rfl
def FldsAt(w:World)(v:Value)(l:List Fld):Prop:=SliceAt (FldR w) 2 w v l
def OkF(l:List Fld):Prop:=l.length≤256∧(∀f∈l,1≤f.tag∧f.tag≤1000∧f.data.length≤50000)∧∀k (hk:k+1<l.length),l[k].tag<l[k+1].tag
def bef(l:List Fld):Nat→Int
 | 0=>0
 | k+1=>match l[k]? with
   | some f=>f.tag
   | none=>0
theorem bef_succ{l:List Fld}{k:Nat}(hk:k<l.length):bef l (k+1)=l[k].tag:=by
 have e:bef l (k+1)=(match l[k]? with|some f=>f.tag|none=>0):=rfl
 rw[e,List.getElem?_eq_getElem hk]
theorem bef_lt{l:List Fld}(h:OkF l){k:Nat}(hk:k<l.length):bef l k<l[k].tag:=by
 cases k with
 | zero=>have:=(h.2.1 _ (List.getElem_mem hk)).1;show(0:Int)<_;omega
 | succ k=>
   rw[bef_succ (by omega)]
   exact h.2.2 k hk
def pTo(l:List Fld)(k:Nat):List Int:=putF (l.take k)
theorem pTo_succ{l:List Fld}{k:Nat}(hk:k<l.length):pTo l (k+1)=((pTo l k++encI l[k].tag)++encI l[k].data.length)++l[k].data:=by
 unfold pTo putF
 rw[List.take_succ_eq_append_getElem hk,List.flatMap_append]
 simp
theorem pTo_all(l:List Fld):pTo l l.length=putF l:=by unfold pTo;rw[List.take_length]
theorem pTo_len{l:List Fld}(h:OkF l):∀k,k≤l.length→(pTo l k).length≤50022*k:=by
 intro k
 induction k with
 | zero=>intro _;unfold pTo putF;simp
 | succ k ih=>
   intro hk
   have h1:=ih (by omega)
   obtain⟨a1,a2,a4⟩:=h.2.1 _ (List.getElem_mem (show k<l.length by omega))
   have h3:=encI_len (n:=(l[k]'(by omega)).tag) (by omega)
   have h4:=encI_len (n:=((l[k]'(by omega)).data.length:Int)) (by omega)
   rw[pTo_succ (by omega),List.length_append,List.length_append,List.length_append]
   omega
set_option maxRecDepth 100000 in
set_option maxHeartbeats 2000000 in
theorem put(v:Value)(l:List Fld)(w:World)(h:FldsAt w v l)(hl:OkF l) :
  Calls Tryz.prog 98 #[v] w fun e w'=>∃u,e=.returned (.tuple #[u,i 0])∧OwnB w.heap.size w' u (putF l)∧Below w.heap.size w w':=by
 obtain⟨A,c,rfl,h1,h2⟩:=SliceAt.form h
 unfold maxLen at h2
 obtain⟨i0,hi0,hz0,hz1,hz2⟩:=info_parts infoB
 have hl256:=hl.1
 have hlz:¬(256:Int)<(l.length:Int):=by omega
 have HL:=Lib.hid h
 have HOK:=Lib.hid hl
 clear h hl
 go_enter Tryz.func98,Tryz.ntmps98
 go_wp2_with fail
 go_loopg [4,5,13] l.length (fun gg s4 s5 s13 wr=>∃(kk:Nat) (A1:Option Addr) (n1 c1:Nat),kk≤l.length∧l.length-kk≤gg∧s4=.slice A1 n1 c1∧s5=i (bef l kk)∧s13=i kk∧Hid (OwnB w.heap.size wr (.slice A1 n1 c1) (pTo l kk))∧Hid (Below w.heap.size w wr))
 case atStart=>exact⟨0,_,_,_,Nat.zero_le _,by omega,rfl,rfl,rfl,Own.nil,Below.refl _ _⟩
 case round=>
  obtain⟨kk,A2,n2,c2,hkk,hg,rfl,rfl,rfl,HO,BW⟩:=hrel
  have hln:=pTo_len HOK.out kk hkk
  by_cases hlt:kk<l.length
  ·have hltz:(kk:Int)<(l.length:Int):=by omega
   obtain⟨b,off,r,rfl,_,⟨u,hr,hdt,_,_,_,rfl⟩,hcell⟩:=SliceAt.at_ HL.out hlt
   subst hr
   obtain⟨A3,c3,he⟩:=Data.slice hdt
   rw[he] at hdt hcell
   have l0:wr.cell? ⟨b,off+kk*2,none⟩=some (i l[kk].tag):=by simpa using Kept.of BW.out _ _ (hcell 0 _ rfl)
   have l1:wr.cell? ⟨b,off+kk*2+1,none⟩=some (.slice A3 l[kk].data.length c3):=Kept.of BW.out _ _ (hcell 1 _ rfl)
   obtain⟨t1,t2,t4⟩:=HOK.out.2.1 _ (List.getElem_mem hlt)
   have hbf:=bef_lt HOK.out hlt
   have HBS:=Lib.hid (bef_succ hlt)
   have HSU:=Lib.hid (pTo_succ hlt)
   have HDT0:=Lib.hid hdt
   clear hcell hdt he
   generalize l[kk]=f at *
   obtain⟨tag,d⟩:=f
   simp only at *
   generalize bef l kk=bf at *
   have g1:¬tag<1:=by omega
   have g2:¬1000<tag:=by omega
   have g3:decide (tag≤bf)=false:=by simp;omega
   have g4:¬tag≤bf:=by omega
   have HKF:=Lib.hid (Blk.new wr 188 #[i tag,.slice A3 d.length c3])
   have HO':=Lib.hid (Own.call HO.out (below_new wr (.cells #[i tag,.slice A3 d.length c3] 188)))
   have BW':=Lib.hid (below_alloc BW.out (.cells #[i tag,.slice A3 d.length c3] 188))
   have HAP:=Lib.hid (appendInt w.heap.size _ _ tag _ HO'.out BW'.out.size (by unfold I64;omega) (by omega))
   by_cases hk0:kk=0
   ·have hgd:decide ((0:Int)<(kk:Int))=false:=by simp[hk0]
    have hgn:decide (0<kk)=false:=by simp[hk0]
    clear hk0
    go_wp2_with fail
    refine HAP.out.mono ?_
    rintro e w3 ⟨u3,rfl,hu3,hb3,hg3⟩
    have HK3:=Lib.hid (Blk.grew HKF.out HO'.out hg3 (by decide))
    obtain⟨A4,n4,c4,rfl⟩:=OwnB.isSl hu3
    have HO3:=Lib.hid hu3
    have BW3:=Lib.hid (BW'.out.trans hb3)
    have m1:=HK3.out.cell 1
    simp at m1
    clear hu3 hb3 hg3
    have hln3:(pTo l kk++encI tag).length≤16000000:=by have:=encI_len (n:=tag) (by omega);rw[List.length_append];omega
    have HAP4:=Lib.hid (appendInt w.heap.size _ _ d.length _ HO3.out BW3.out.size (by unfold I64;omega) hln3)
    clear hln3
    go_wp2_with fail
    refine HAP4.out.mono ?_
    rintro e w4 ⟨u4,rfl,hu4,hb4,hg4⟩
    have HK4:=Lib.hid (Blk.grew HK3.out HO3.out hg4 (by decide))
    obtain⟨A5,n5,c5,rfl⟩:=OwnB.isSl hu4
    have HO4:=Lib.hid hu4
    have BW4:=Lib.hid (BW3.out.trans hb4)
    have m2:=HK4.out.cell 1
    simp at m2
    clear hu4 hb4 hg4 m1
    have HDT4:=Lib.hid (HDT0.out.call BW4.out)
    have HS4:=BW4.out.size
    have hln4:((pTo l kk++encI tag)++encI d.length).length+d.length≤16777216:=by
     have:=encI_len (n:=tag) (by omega)
     have:=encI_len (n:=(d.length:Int)) (by omega)
     rw[List.length_append,List.length_append]
     omega
    have HLN:=Lib.hid hln4
    clear hln4
    go_wp2_with (at_builtin;refine wpList_dataE rfl (.tmp 45) (.tmp 47) 183 rfl i0 _ Tryz.underlying183 hi0 hz0 hz1 hz2 rfl rfl HO4.out rfl HDT4.out HLN.out HS4 ?_)
    rintro v' w5 hown hbel ⟨A6,n6,c6,rfl⟩
    have HO5:Hid (OwnB w.heap.size w5 (.slice A6 n6 c6) (pTo l (kk+1))):=by
     show OwnB _ _ _ _
     rw[HSU.out]
     simpa using hown
    have BW5:=Lib.hid (BW4.out.trans hbel)
    clear hown hbel m2
    go_wp2_with fail
    go_roundg (l.length-(kk+1))
    case measure=>omega
    case rel=>exact⟨kk+1,_,_,_,by omega,by omega,rfl,by rw[HBS.out],by go_num,HO5,BW5⟩
   ·have hgd:decide ((0:Int)<(kk:Int))=true:=by simp;omega
    have hgn:decide (0<kk)=true:=by simp;omega
    clear hk0
    go_wp2_with fail
    refine HAP.out.mono ?_
    rintro e w3 ⟨u3,rfl,hu3,hb3,hg3⟩
    have HK3:=Lib.hid (Blk.grew HKF.out HO'.out hg3 (by decide))
    obtain⟨A4,n4,c4,rfl⟩:=OwnB.isSl hu3
    have HO3:=Lib.hid hu3
    have BW3:=Lib.hid (BW'.out.trans hb3)
    have m1:=HK3.out.cell 1
    simp at m1
    clear hu3 hb3 hg3
    have hln3:(pTo l kk++encI tag).length≤16000000:=by have:=encI_len (n:=tag) (by omega);rw[List.length_append];omega
    have HAP4:=Lib.hid (appendInt w.heap.size _ _ d.length _ HO3.out BW3.out.size (by unfold I64;omega) hln3)
    clear hln3
    go_wp2_with fail
    refine HAP4.out.mono ?_
    rintro e w4 ⟨u4,rfl,hu4,hb4,hg4⟩
    have HK4:=Lib.hid (Blk.grew HK3.out HO3.out hg4 (by decide))
    obtain⟨A5,n5,c5,rfl⟩:=OwnB.isSl hu4
    have HO4:=Lib.hid hu4
    have BW4:=Lib.hid (BW3.out.trans hb4)
    have m2:=HK4.out.cell 1
    simp at m2
    clear hu4 hb4 hg4 m1
    have HDT4:=Lib.hid (HDT0.out.call BW4.out)
    have HS4:=BW4.out.size
    have hln4:((pTo l kk++encI tag)++encI d.length).length+d.length≤16777216:=by
     have:=encI_len (n:=tag) (by omega)
     have:=encI_len (n:=(d.length:Int)) (by omega)
     rw[List.length_append,List.length_append]
     omega
    have HLN:=Lib.hid hln4
    clear hln4
    go_wp2_with (at_builtin;refine wpList_dataE rfl (.tmp 45) (.tmp 47) 183 rfl i0 _ Tryz.underlying183 hi0 hz0 hz1 hz2 rfl rfl HO4.out rfl HDT4.out HLN.out HS4 ?_)
    rintro v' w5 hown hbel ⟨A6,n6,c6,rfl⟩
    have HO5:Hid (OwnB w.heap.size w5 (.slice A6 n6 c6) (pTo l (kk+1))):=by
     show OwnB _ _ _ _
     rw[HSU.out]
     simpa using hown
    have BW5:=Lib.hid (BW4.out.trans hbel)
    clear hown hbel m2
    go_wp2_with fail
    go_roundg (l.length-(kk+1))
    case measure=>omega
    case rel=>exact⟨kk+1,_,_,_,by omega,by omega,rfl,by rw[HBS.out],by go_num,HO5,BW5⟩
  ·have hltz:¬(kk:Int)<(l.length:Int):=by omega
   have hke:kk=l.length:=by omega
   subst hke
   rw[pTo_all] at HO
   go_wp2_with fail
   go_ret2
   exact⟨_,rfl,HO.out,BW.out⟩
theorem zz_pos{n:Int}(h:I64 n)(h0:¬n<0):IntKind.u64.wrap (IntKind.u64.wrap n*2)=((zz n:Nat):Int):=by
 unfold I64 at h
 rw[wrapU,wrapU]
 unfold zz
 rw[if_pos (by omega)]
 omega
theorem zz_neg{n:Int}(h0:n<0):-(n+1)*2+1=((zz n:Nat):Int):=by
 unfold zz
 rw[if_neg (by omega)]
 omega
set_option maxRecDepth 100000 in
set_option maxHeartbeats 1000000 in
theorem rputInt(n:Int)(w:World)(hn:I64 n):Calls Tryz.prog 124 #[i n] w fun e w'=>∃u,e=.returned u∧OwnB w.heap.size w' u (encI n)∧Below w.heap.size w w':=by
 obtain⟨i0,hi0,hz0,hz1,hz2⟩:=info_parts infoB
 have HU:=Lib.hid (zz_lt hn)
 have HN:=Lib.hid (encI_len hn)
 have HE:=Lib.hid (show encI n=[]++encU (zz n) from rfl)
 have HZP:=Lib.hid (zz_pos hn)
 have HZN:=Lib.hid (fun h=>zz_neg (n:=n) h)
 generalize hys:encI n=ys at *
 generalize zz n=u0 at *
 clear hys
 go_enter Tryz.func124,Tryz.ntmps124
 go_upto_if 9 with(fail)
 go_cut [3] (fun s3 wd=>s3=.int .u64 (u0:Int)∧w=wd)
 case first=>
  by_cases h0:n<0
  ·have hzn:=HZN.out h0
   go_wp2_with fail
   go_meet
   exact⟨by first|rfl|rw[hzn],rfl⟩
  ·have hzp:=HZP.out h0
   go_wp2_with fail
   go_meet
   exact⟨by rw[←hzp],rfl⟩
 case rest=>
 obtain⟨rfl,rfl⟩:=hcut
 go_wp2_with fail
 go_loopg [3,4] u0 (fun gg s3 s4 wr=>∃(u:Nat) (zs:List Int) (A1:Option Addr) (m1 c1:Nat),u≤gg∧u<18446744073709551616∧s4=.slice A1 m1 c1∧s3=.int .u64 u∧Hid (ys=zs++encU u)∧Hid (OwnB w.heap.size wr (.slice A1 m1 c1) zs)∧Hid (Below w.heap.size w wr))
 case atStart=>exact⟨u0,[],_,_,_,Nat.le_refl _,HU.out,rfl,rfl,HE.out,Own.nil,Below.refl _ _⟩
 case round=>
  obtain⟨u,zs,A1,m1,c1,hg,hu,rfl,rfl,HY,HO,HB⟩:=hrel
  have hlz:zs.length≤11:=by
   have:=congrArg List.length HY.out
   rw[List.length_append] at this
   have:=HN.out
   omega
  have HS:=Lib.hid HB.out.size
  by_cases h128:128≤u
  ·have hz:(128:Int)≤(u:Int):=by omega
   have e3:IntKind.u8.wrap ((u:Int)%128)=(u:Int)%128:=by simp[IntKind.wrap,IntKind.bits,IntKind.signed];omega
   have e4:IntKind.u8.wrap ((u:Int)%128+128)=(u:Int)%128+128:=by simp[IntKind.wrap,IntKind.bits,IntKind.signed];omega
   have HRR:Hid (BytR (#[.int .u8 ((u:Int)%128+128)]:Array Value).toList ((u:Int)%128+128)):=⟨rfl,by omega,by omega⟩
   have HO1:=Lib.hid (Own.call HO.out (below_new wr (.cells #[.int .u8 ((u:Int)%128+128)] 5)))
   have HB1:Hid (Below w.heap.size w (wr.alloc (.cells #[.int .u8 ((u:Int)%128+128)] 5))):=below_alloc HB.out _
   go_wp2_with (at_builtin;refine wpList_grow rfl (.tmp 18) (.tmp 23) 183 rfl i0 _ 1 Tryz.underlying183 hi0 hz0 hz1 hz2 rfl (by omega) rfl HO1.out wr.heap.size ((u:Int)%128+128) _ 5 rfl (Blk.new wr _ _) rfl HRR.out (one_byt _ _ HRR.out) (by omega) (by omega) HB1.out.size ?_)
   rintro v' w3 hown2 hgr hbel2 ⟨A2,n2,c2,rfl⟩
   have HO2:Hid (OwnB w.heap.size w3 (.slice A2 n2 c2) (zs++[(u:Int)%128+128])):=hown2
   have HB3:Hid (Below w.heap.size w w3):=HB1.out.trans hbel2
   clear hown2 hbel2 hgr HO1 HB1
   go_wp2_with fail
   go_roundg (u/128)
   case measure=>omega
   case rel=>
    refine⟨u/128,zs++[(u:Int)%128+128],_,_,_,Nat.le_refl _,by omega,rfl,by simp,?_,HO2,HB3⟩
    show _=_
    rw[HY.out,encU_big h128]
    simp
  ·have hz:¬(128:Int)≤(u:Int):=by omega
   have e3:IntKind.u8.wrap (u:Int)=(u:Int):=by simp[IntKind.wrap,IntKind.bits,IntKind.signed];omega
   have HRR:Hid (BytR (#[.int .u8 (u:Int)]:Array Value).toList (u:Int)):=⟨rfl,by omega,by omega⟩
   have HO1:=Lib.hid (Own.call HO.out (below_new wr (.cells #[.int .u8 (u:Int)] 5)))
   have HB1:Hid (Below w.heap.size w (wr.alloc (.cells #[.int .u8 (u:Int)] 5))):=below_alloc HB.out _
   have HYY:Hid (ys=zs++[(u:Int)]):=by
    show _=_
    rw[HY.out,encU_small h128]
   go_wp2_with (at_builtin;refine wpList_grow rfl (.tmp 27) (.tmp 30) 183 rfl i0 _ 1 Tryz.underlying183 hi0 hz0 hz1 hz2 rfl (by omega) rfl HO1.out wr.heap.size (u:Int) _ 5 rfl (Blk.new wr _ _) rfl HRR.out (one_byt _ _ HRR.out) (by omega) (by omega) HB1.out.size ?_)
   rintro v' w3 hown2 hgr hbel2 ⟨A2,n2,c2,rfl⟩
   have HO2:Hid (OwnB w.heap.size w3 (.slice A2 n2 c2) ys):=by
    show OwnB _ _ _ _
    rw[HYY.out];exact hown2
   have HB3:Hid (Below w.heap.size w w3):=HB1.out.trans hbel2
   clear hown2 hbel2 hgr HO1 HB1
   go_wp2_with fail
   go_ret
   exact⟨_,rfl,HO2.out,HB3.out⟩
def NoPost(w:World)(v:Value)(W:World):Prop:=v=.bool false∧Below w.heap.size w W
set_option maxRecDepth 100000 in
set_option maxHeartbeats 2000000 in
theorem rput(v:Value)(l:List Fld)(w:World)(h:FldsAt w v l)(hl:OkF l) :
  Calls Tryz.prog 125 #[v] w fun e w'=>∃u,e=.returned (.tuple #[u,i 0])∧OwnB w.heap.size w' u (putF l)∧Below w.heap.size w w':=by
 obtain⟨A,c,rfl,h1,h2⟩:=SliceAt.form h
 unfold maxLen at h2
 obtain⟨i0,hi0,hz0,hz1,hz2⟩:=info_parts infoB
 have hl256:=hl.1
 have hlz:¬(256:Int)<(l.length:Int):=by omega
 have HL:=Lib.hid h
 have HOK:=Lib.hid hl
 clear h hl
 go_enter Tryz.func125,Tryz.ntmps125
 go_wp2_with fail
 go_loopg [4,5] l.length (fun gg s4 s5 wr=>∃(kk:Nat) (A1:Option Addr) (n1 c1:Nat),kk≤l.length∧l.length-kk≤gg∧s4=.slice A1 n1 c1∧s5=i kk∧Hid (OwnB w.heap.size wr (.slice A1 n1 c1) (pTo l kk))∧Hid (Below w.heap.size w wr))
 case atStart=>exact⟨0,_,_,_,Nat.zero_le _,by omega,rfl,rfl,Own.nil,Below.refl _ _⟩
 case round=>
  obtain⟨kk,A2,n2,c2,hkk,hg,rfl,rfl,HO,BW⟩:=hrel
  have hln:=pTo_len HOK.out kk hkk
  by_cases hlt:kk<l.length
  ·have hltz:(kk:Int)<(l.length:Int):=by omega
   obtain⟨b,off,r,rfl,_,⟨u,hr,hdt,_,_,_,rfl⟩,hcell⟩:=SliceAt.at_ HL.out hlt
   subst hr
   obtain⟨A3,c3,he⟩:=Data.slice hdt
   rw[he] at hdt hcell
   have HC0:Hid (∀W,Below w.heap.size w W→W.cell? ⟨b,off+kk*2,none⟩=some (i l[kk].tag)):=fun W hb=>by simpa using Kept.of hb _ _ (hcell 0 _ rfl)
   have HC1:Hid (∀W,Below w.heap.size w W→W.cell? ⟨b,off+kk*2+1,none⟩=some (.slice A3 l[kk].data.length c3)):=fun W hb=>Kept.of hb _ _ (hcell 1 _ rfl)
   have l0:=HC0.out wr BW.out
   have l1:=HC1.out wr BW.out
   obtain⟨t1,t2,t4⟩:=HOK.out.2.1 _ (List.getElem_mem hlt)
   have HSU:=Lib.hid (pTo_succ hlt)
   have HDT0:=Lib.hid hdt
   have HPV:Hid (∀j (hj:j+1=kk),wr.cell? ⟨b,off+j*2,none⟩=some (i (l[j]'(by omega)).tag)∧(l[j]'(by omega)).tag<l[kk].tag):=fun j hj=>by
    subst hj
    obtain⟨b',off',r',he',_,⟨u',hr',_⟩,hcell'⟩:=SliceAt.at_ HL.out (show j<l.length by omega)
    obtain⟨rfl,rfl⟩:b=b'∧off=off':=by simpa using he'
    subst hr'
    refine⟨by simpa using Kept.of BW.out _ _ (hcell' 0 _ rfl),HOK.out.2.2 j hlt⟩
   clear hcell hdt he
   generalize l[kk]=f at *
   obtain⟨tag,d⟩:=f
   simp only at *
   have g1:¬tag<1:=by omega
   have g2:¬1000<tag:=by omega
   go_upto_region 9 with(fail)
   go_cut [44] (fun s44 wd=>NoPost wr s44 wd)
   case first=>
    by_cases hk0:kk=0
    ·have hgd:decide ((0:Int)<(kk:Int))=false:=by simp[hk0]
     have hgn:decide (0<kk)=false:=by simp[hk0]
     clear hk0
     go_quiet (fail)
     go_wp2_with fail
     go_meet
     exact⟨rfl,by repeat(first|(with_reducible exact Below.refl _ _)|(with_reducible refine below_drewN' ?_ _)|(with_reducible refine Below.drew ?_)|(with_reducible refine Below.setCell ?_ (by first|(simp;done)|(simp;omega)|omega) _)|(with_reducible refine below_alloc ?_ _)|(with_reducible refine Below.alloc ?_ (by first|(simp;done)|(simp;omega)|omega) _))⟩
    ·have hgd:decide ((0:Int)<(kk:Int))=true:=by simp;omega
     have hgn:decide (0<kk)=true:=by simp;omega
     obtain⟨j,hj⟩:∃j,kk=j+1:=⟨kk-1,by omega⟩
     obtain⟨l2,hlt3⟩:=HPV.out j hj.symm
     have hjz:(kk:Int)-1=(j:Int):=by omega
     have hjw:IntKind.i64.wrap (j:Int)=j:=by simp[IntKind.wrap,IntKind.bits,IntKind.signed];omega
     have hjl:(j:Int)<(l.length:Int):=by omega
     have hj0:(0:Int)≤(j:Int):=by omega
     generalize (l[j]'(by omega)).tag=pt at *
     have g3:decide (tag≤pt)=false:=by simp;omega
     have g4:¬tag≤pt:=by omega
     clear hk0 hj HPV
     go_quiet (fail)
     go_wp2_with fail
     go_meet
     exact⟨rfl,by repeat(first|(with_reducible exact Below.refl _ _)|(with_reducible refine below_drewN' ?_ _)|(with_reducible refine Below.drew ?_)|(with_reducible refine Below.setCell ?_ (by first|(simp;done)|(simp;omega)|omega) _)|(with_reducible refine below_alloc ?_ _)|(with_reducible refine Below.alloc ?_ (by first|(simp;done)|(simp;omega)|omega) _))⟩
   case rest=>
   obtain⟨rfl,hbq⟩:=hcut
   replace HO:=Lib.hid (Own.call HO.out hbq)
   replace BW:=Lib.hid (below_call BW.out hbq)
   clear HPV l0 l1 hbq
   have l0:=HC0.out wc BW.out
   have l1:=HC1.out wc BW.out
   have HP1:=Lib.hid (rputInt tag wc (by unfold I64;omega))
   go_wp2_with fail
   refine HP1.out.mono ?_
   rintro e w3 ⟨u3,rfl,hu3,hb3⟩
   obtain⟨A4,n4,c4,rfl⟩:=OwnB.isSl hu3
   have HO3:=Lib.hid (Own.call HO.out hb3)
   have HD3:=Lib.hid (Data.of hu3)
   have BW3:=Lib.hid (below_call BW.out hb3)
   have HEN:=Lib.hid (encI_ne tag)
   clear hu3 hb3 l0 l1
   go_wp2_with (at_builtin;refine wpList_data rfl (.tmp 45) (.tmp 51) 183 rfl i0 _ Tryz.underlying183 hi0 hz0 hz1 hz2 rfl rfl HO3.out rfl HD3.out HEN.out (by have:=encI_len (n:=tag) (by omega);omega) BW3.out.size ?_)
   rintro v' w4 hown hbel ⟨A5,n5,c5,rfl⟩
   have HO4:=Lib.hid hown
   have BW4:=Lib.hid (BW3.out.trans hbel)
   have l4:=HC1.out w4 BW4.out
   have HP2:=Lib.hid (rputInt d.length w4 (by unfold I64;omega))
   clear hown hbel
   go_wp2_with fail
   refine HP2.out.mono ?_
   rintro e w5 ⟨u5,rfl,hu5,hb5⟩
   obtain⟨A6,n6,c6,rfl⟩:=OwnB.isSl hu5
   have HO5:=Lib.hid (Own.call HO4.out hb5)
   have HD5:=Lib.hid (Data.of hu5)
   have BW5:=Lib.hid (below_call BW4.out hb5)
   have HEN2:=Lib.hid (encI_ne (d.length:Int))
   clear hu5 hb5 l4
   go_wp2_with (at_builtin;refine wpList_data rfl (.tmp 53) (.tmp 60) 183 rfl i0 _ Tryz.underlying183 hi0 hz0 hz1 hz2 rfl rfl HO5.out rfl HD5.out HEN2.out (by have:=encI_len (n:=tag) (by omega);have:=encI_len (n:=(d.length:Int)) (by omega);rw[List.length_append];omega) BW5.out.size ?_)
   rintro v' w6 hown hbel ⟨A7,n7,c7,rfl⟩
   have HO6:Hid (OwnB w.heap.size w6 (.slice A7 n7 c7) (pTo l kk++(encI tag++encI d.length))):=by show OwnB _ _ _ _;simpa using hown
   have BW6:=Lib.hid (BW5.out.trans hbel)
   have l6:=HC1.out w6 BW6.out
   have HDT6:=Lib.hid (HDT0.out.call BW6.out)
   have HLN:=Lib.hid (show(pTo l kk++(encI tag++encI d.length)).length+d.length≤16777216 by
    have:=encI_len (n:=tag) (by omega)
    have:=encI_len (n:=(d.length:Int)) (by omega)
    rw[List.length_append,List.length_append]
    omega)
   clear hown hbel
   go_wp2_with (at_builtin;refine wpList_dataE rfl (.tmp 62) (.tmp 67) 183 rfl i0 _ Tryz.underlying183 hi0 hz0 hz1 hz2 rfl rfl HO6.out rfl HDT6.out HLN.out BW6.out.size ?_)
   rintro v' w7 hown hbel ⟨A8,n8,c8,rfl⟩
   have HO7:Hid (OwnB w.heap.size w7 (.slice A8 n8 c8) (pTo l (kk+1))):=by
    show OwnB _ _ _ _
    rw[HSU.out]
    simpa using hown
   have BW7:=Lib.hid (BW6.out.trans hbel)
   clear hown hbel l6
   go_wp2_with fail
   go_roundg (l.length-(kk+1))
   case measure=>omega
   case rel=>exact⟨kk+1,_,_,_,by omega,by omega,rfl,by go_num,HO7,BW7⟩
  ·have hltz:¬(kk:Int)<(l.length:Int):=by omega
   have hke:kk=l.length:=by omega
   subst hke
   rw[pTo_all] at HO
   go_wp2_with fail
   go_ret2
   exact⟨_,rfl,HO.out,BW.out⟩
end EncW
end Go.Proofs.YtmadfhgiaonnlaaGreatDoor
