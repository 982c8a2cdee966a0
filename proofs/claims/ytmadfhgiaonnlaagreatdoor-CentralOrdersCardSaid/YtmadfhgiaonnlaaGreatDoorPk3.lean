import Derived.IntWalk
import Derived.Laws.Bits64
import Derived.RangeFuncBox
import Derived.Laws.IdiomStrings
import Derived.Deep.MidRow
import Derived.Test.YtmadfhgiaonnlaaGreatDoorPk2
set_option linter.unusedVariables false
set_option linter.unusedSimpArgs false
namespace Go.Proofs.YtmadfhgiaonnlaaGreatDoor
namespace EncW
open Go.RowKit MonW Enc
def BytR(r:List Value)(x:Int):Prop:=r=[.int .u8 x]∧0≤x∧x≤255
abbrev OwnB (base:Nat) (w:World) (v:Value) (xs:List Int):Prop:=Own BytR 5 1 base w v xs
theorem infoB:(Tryz.prog.info? 5).map (fun i=>(i.zero,i.size,i.bytes))=some (some (.int .u8 0),1,1):=by kernel_rfl
theorem one_byt(r:List Value)(x:Int)(h:BytR r x):∀u∈r,u.oneCell'=true:=by
 rw[h.1]
 intro u hu
 obtain rfl:u=.int .u8 x:=by simpa using hu
 rfl
theorem wrapU(x:Int):IntKind.u64.wrap x=x%18446744073709551616:=by
 have:=IntKind.u64.wrap x
 simp[IntKind.wrap,IntKind.bits,IntKind.signed]
theorem zz_eq{n:Int}(h:I64 n):bits BinOp.xor IntKind.u64 (IntKind.u64.wrap (IntKind.u64.wrap n*2)) (IntKind.u64.wrap (n/9223372036854775808))=((zz n:Nat):Int):=by
 unfold I64 at h
 rw[wrapU,wrapU,wrapU]
 unfold zz
 by_cases h0:0≤n
 ·rw[if_pos h0]
  have e1:n%18446744073709551616*2%18446744073709551616=((2*n).toNat:Nat):=by omega
  have e2:n/9223372036854775808%18446744073709551616=((0:Nat):Int):=by omega
  rw[e1,e2,bits_xor_u64_nat _ _ (by omega) (by decide),Nat.xor_zero]
 ·rw[if_neg h0]
  have e1:n%18446744073709551616*2%18446744073709551616=((2*n+18446744073709551616).toNat:Nat):=by omega
  have e2:n/9223372036854775808%18446744073709551616=((18446744073709551615:Nat):Int):=by omega
  rw[e1,e2,bits_xor_u64_nat _ _ (by omega) (by decide),xor_ones _ (by omega)]
  omega
theorem and127(u:Nat)(h:u<18446744073709551616):bits .and .u64 (u:Int) 127=((u%128:Nat):Int):=by
 have:=bits_and_u64_nat u 127 h (by decide)
 rw[show((127:Nat):Int)=127 from rfl] at this
 rw[this,show(127:Nat)=2^7-1 from rfl,Nat.and_two_pow_sub_one_eq_mod]
theorem or128:∀x:Nat,x<128→bits .or .u8 (x:Int) 128=(x:Int)+128:=by decide
theorem grow_on{w wr w3:World}{o:Obj}{r0:Option Nat}{cur:Value}(h:w.grownBy wr r0)(hc:cur.ownBlock=r0∨∀k,cur.ownBlock=some k→w.heap.size≤k)(hg:(wr.alloc o).grownBy w3 cur.ownBlock):w.grownBy w3 r0:=by
 have hs:=h.size
 have hs2:wr.heap.size+1≤w3.heap.size:=by have:=hg.size;simpa using this
 refine⟨hg.os.trans h.os,hg.tape.trans h.tape,hg.output.trans h.output,by omega,fun k hk hne=>?_⟩
 refine(hg.block k (by simp;omega) (fun e=>?_)).trans ((Below.heap_alloc wr o k (by omega)).trans (h.block k hk hne))
 rcases hc with hc|hc
 ·exact hne (e.trans hc)
 ·have:=hc k e.symm
  omega
theorem next_on{w wr:World}{r0:Option Nat}{cur v':Value}(hs:w.heap.size≤wr.heap.size)(hc:cur.ownBlock=r0∨∀k,cur.ownBlock=some k→w.heap.size≤k)(hat:v'.ownBlock=cur.ownBlock∨v'.ownBlock=some (wr.heap.size+1)):v'.ownBlock=r0∨∀k,v'.ownBlock=some k→w.heap.size≤k:=by
 rcases hat with hat|hat
 ·rw[hat];exact hc
 ·refine .inr (fun k hk=>?_)
  rw[hat] at hk
  injection hk with hk
  omega
set_option maxRecDepth 100000 in
set_option maxHeartbeats 1000000 in
theorem appendInt(base:Nat)(v:Value)(xs:List Int)(n:Int)(w:World)(h:OwnB base w v xs)(hb:base≤w.heap.size)(hn:I64 n)(hl:xs.length≤16000000) :
  Calls Tryz.prog 117 #[v,i n] w fun e w'=>∃u,e=.returned u∧OwnB base w' u (xs++encI n)∧Below base w w'∧w.grownBy w' v.ownBlock:=by
 obtain⟨i0,hi0,hz0,hz1,hz2⟩:=info_parts infoB
 obtain⟨A,m,c,rfl⟩:∃A m c,v=.slice A m c:=by
  obtain⟨rs,h1,h2⟩:=h
  rcases h1.2 with⟨rfl,_⟩|⟨g,cap,cur,rfl,_⟩
  ·exact⟨_,_,_,rfl⟩
  ·exact⟨_,_,_,rfl⟩
 go_enter Tryz.func117,Tryz.ntmps117
 go_wp2_with fail
 rw[zz_eq hn]
 have HU:=Lib.hid (zz_lt hn)
 have HN:=Lib.hid (encI_len hn)
 have HE:=Lib.hid (show encI n=[]++encU (zz n) from rfl)
 generalize hys:encI n=ys at *
 generalize zz n=u0 at *
 go_loopg [0,5] u0 (fun gg s0 s5 wr=>∃(u:Nat) (zs:List Int) (A1:Option Addr) (m1 c1:Nat),u≤gg∧u<18446744073709551616∧s0=.slice A1 m1 c1∧s5=.int .u64 u∧Hid (ys=zs++encU u)∧Hid (OwnB base wr (.slice A1 m1 c1) (xs++zs))∧Hid (Below base w wr)∧Hid (w.grownBy wr (Value.slice A m c).ownBlock)∧Hid ((Value.slice A1 m1 c1).ownBlock=(Value.slice A m c).ownBlock∨∀k,(Value.slice A1 m1 c1).ownBlock=some k→w.heap.size≤k))
 case atStart=>exact⟨u0,[],_,_,_,Nat.le_refl _,HU.out,rfl,rfl,HE.out,(by show OwnB _ _ _ _;simpa using h),Below.refl _ _,⟨rfl,rfl,rfl,Nat.le_refl _,fun _ _ _=>rfl⟩,.inl rfl⟩
 case round=>
  obtain⟨u,zs,A1,m1,c1,hg,hu,rfl,rfl,HY,HO,HB,HG,HC⟩:=hrel
  have hlz:zs.length≤11:=by
   have:=congrArg List.length HY.out
   rw[List.length_append] at this
   have:=HN.out
   omega
  have HS:=Lib.hid (show base≤wr.heap.size from Nat.le_trans hb HB.out.size)
  by_cases h128:128≤u
  ·have hz:(128:Int)≤(u:Int):=by omega
   have e1:=and127 u hu
   have e2:bits .or .u8 ((u:Int)%128) 128=(u:Int)%128+128:=by
    have:=or128 (u%128) (Nat.mod_lt _ (by decide))
    simpa using this
   have e3:IntKind.u8.wrap ((u:Int)%128)=(u:Int)%128:=by simp[IntKind.wrap,IntKind.bits,IntKind.signed];omega
   have HRR:Hid (BytR (#[.int .u8 ((u:Int)%128+128)]:Array Value).toList ((u:Int)%128+128)):=⟨rfl,by omega,by omega⟩
   have HO1:=Lib.hid (Own.call HO.out (below_new wr (.cells #[.int .u8 ((u:Int)%128+128)] 5)))
   have HB1:Hid (Below base w (wr.alloc (.cells #[.int .u8 ((u:Int)%128+128)] 5))):=HB.out.alloc HS.out _
   have HLEN:Hid ((xs++zs).length≤16777216):=by show _≤_;rw[List.length_append];omega
   go_wp2_with (at_builtin;refine wpList_growAt rfl (.tmp 15) (.tmp 20) 183 rfl i0 _ 1 Tryz.underlying183 hi0 hz0 hz1 hz2 rfl (by omega) rfl HO1.out wr.heap.size ((u:Int)%128+128) _ 5 rfl (Blk.new wr _ _) rfl HRR.out (one_byt _ _ HRR.out) HLEN.out (by omega) (by have:=HS.out;simp;omega) ?_)
   rintro v' w3 hown2 hgr hbel2 ⟨A2,n2,c2,rfl⟩ hat
   have HG3:=Lib.hid (grow_on HG.out HC.out hgr)
   have HC3:=Lib.hid (next_on HG.out.size HC.out hat)
   have HO2:Hid (OwnB base w3 (.slice A2 n2 c2) (xs++(zs++[(u:Int)%128+128]))):=by
    show OwnB _ _ _ _
    exact hown2
   have HB3:Hid (Below base w w3):=HB1.out.trans hbel2
   clear hown2 hbel2 hgr hat HO1 HB1
   go_wp2_with fail
   go_roundg (u/128)
   case measure=>omega
   case rel=>
    refine⟨u/128,zs++[(u:Int)%128+128],_,_,_,Nat.le_refl _,by omega,rfl,by simp,?_,HO2,HB3,HG3,HC3⟩
    show _=_
    rw[HY.out,encU_big h128]
    simp
  ·have hz:¬(128:Int)≤(u:Int):=by omega
   have e3:IntKind.u8.wrap (u:Int)=(u:Int):=by simp[IntKind.wrap,IntKind.bits,IntKind.signed];omega
   have HRR:Hid (BytR (#[.int .u8 (u:Int)]:Array Value).toList (u:Int)):=⟨rfl,by omega,by omega⟩
   have HO1:=Lib.hid (Own.call HO.out (below_new wr (.cells #[.int .u8 (u:Int)] 5)))
   have HB1:Hid (Below base w (wr.alloc (.cells #[.int .u8 (u:Int)] 5))):=HB.out.alloc HS.out _
   have HLEN:Hid ((xs++zs).length≤16777216):=by show _≤_;rw[List.length_append];omega
   have HYY:Hid (ys=zs++[(u:Int)]):=by
    show _=_
    rw[HY.out,encU_small h128]
   go_wp2_with (at_builtin;refine wpList_growAt rfl (.tmp 24) (.tmp 27) 183 rfl i0 _ 1 Tryz.underlying183 hi0 hz0 hz1 hz2 rfl (by omega) rfl HO1.out wr.heap.size (u:Int) _ 5 rfl (Blk.new wr _ _) rfl HRR.out (one_byt _ _ HRR.out) HLEN.out (by omega) (by have:=HS.out;simp;omega) ?_)
   rintro v' w3 hown2 hgr hbel2 ⟨A2,n2,c2,rfl⟩ hat
   have HG3:=Lib.hid (grow_on HG.out HC.out hgr)
   have HC3:=Lib.hid (next_on HG.out.size HC.out hat)
   have HO2:Hid (OwnB base w3 (.slice A2 n2 c2) (xs++ys)):=by
    show OwnB _ _ _ _
    rw[HYY.out];exact hown2
   have HB3:Hid (Below base w w3):=HB1.out.trans hbel2
   clear hown2 hbel2 hgr hat HO1 HB1
   go_wp2_with fail
   go_ret
   exact⟨_,rfl,by rw[hys];exact HO2.out,HB3.out,HG3.out⟩
end EncW
namespace EncW
open Go.RowKit MonW Enc
theorem Own.mono{α:Type}{R R':List Value→α→Prop}{e:TypeId}{size base:Nat}{w:World}{v:Value}{xs:List α}(h:Own R e size base w v xs)(hR:∀r x,R r x→R' r x):Own R' e size base w v xs:=by
 obtain⟨rs,h1,h2,h3⟩:=h
 exact⟨rs,h1,h2,fun j r x a b=>⟨(h3 j r x a b).1,hR _ _ (h3 j r x a b).2⟩⟩
def Data(w:World)(u:Value)(xs:List Int):Prop:=∃A c,u=.slice A xs.length c∧xs.length≤c∧c≤maxLen∧(A=none→c=0)∧(∀x∈xs,0≤x∧x≤255) ∧
 (xs=[]∨∃b off cs fz,A=some ⟨b,off,none⟩∧w.heap[b]? = some (.cells cs 5 fz)∧∀j x,xs[j]? = some x→cs[off+j]? = some (.int .u8 x))
theorem Data.keep{w w':World}{u:Value}{xs:List Int}{row:Option Nat}(h:Data w u xs)(hg:w.grownBy w' row)(hr:∀k,row=some k→∃cs t fz,w.heap[k]? = some (.cells cs t fz)∧t≠5):Data w' u xs:=by
 obtain⟨A,c,rfl,h1,h2,h3,h4,h5⟩:=h
 refine⟨A,c,rfl,h1,h2,h3,h4,?_⟩
 rcases h5 with h5|⟨b,off,cs,fz,e1,e2,e3⟩
 ·exact .inl h5
 ·refine .inr ⟨b,off,cs,fz,e1,(hg.block b (Array.getElem?_eq_some_iff.1 e2).1 (fun e=>?_)).trans e2,e3⟩
  obtain⟨cs',t',fz',h6,h7⟩:=hr b e.symm
  rw[e2] at h6
  cases h6
  exact h7 rfl
theorem Data.call{w w':World}{u:Value}{xs:List Int}(h:Data w u xs)(hb:Below w.heap.size w w'):Data w' u xs:=h.keep (row:=none) ⟨hb.os,hb.tape,hb.output,hb.size,fun k hk _=>hb.block k hk⟩ (fun k hk=>by cases hk)
theorem Data.slice{w:World}{u:Value}{xs:List Int}(h:Data w u xs):∃A c,u=.slice A xs.length c:=by
 obtain⟨A,c,h,_⟩:=h
 exact⟨A,c,h⟩
theorem bytes_flat:∀(rs:List (List Value)) (xs:List Int),RowsOf BytR 1 rs xs→rs.flatten=xs.map (Value.int .u8)∧∀x∈xs,0≤x∧x≤255
 | [],[],_=>⟨rfl,fun x hx=>by cases hx⟩
 | [],x::xs,h=>by have:=h.1;simp at this
 | r::rs,[],h=>by have:=h.1;simp at this
 | r::rs,x::xs,h=>by
   have h0:=h.2 0 r x rfl rfl
   obtain⟨_,e,e1,e2⟩:=h0
   have ih:=bytes_flat rs xs ⟨by have:=h.1;simpa using this,fun j r' x' a b=>h.2 (j+1) r' x' a b⟩
   subst e
   refine⟨by rw[List.flatten_cons,ih.1];rfl,fun y hy=>?_⟩
   rcases List.mem_cons.1 hy with rfl|hy
   ·exact⟨e1,e2⟩
   ·exact ih.2 y hy
theorem Data.of{base:Nat}{w:World}{u:Value}{xs:List Int}(h:OwnB base w u xs):Data w u xs:=by
 obtain⟨rs,h1,h2⟩:=h
 obtain⟨f1,f2⟩:=bytes_flat rs xs h2
 have hl:=h1.1
 rw[f1] at h1
 rcases h1.2 with⟨rfl,h0⟩|⟨g,cap,cur,rfl,_,hg,hc1,hc2,_,ht⟩
 ·have:xs=[]:=List.eq_nil_of_length_eq_zero (by omega)
  subst this
  exact⟨none,0,rfl,Nat.le_refl _,by unfold maxLen;omega,fun _=>rfl,fun x hx=>(by cases hx),.inl rfl⟩
 ·refine⟨_,cap,rfl,hc1,hc2,fun e=>(by cases e),f2,.inr ⟨g,0,cur,_,rfl,hg,fun j x hx=>?_⟩⟩
  have hj:j<xs.length:=(List.getElem?_eq_some_iff.1 hx).1
  have h3:(cur.toList.take (xs.length*1))[j]? = some (.int .u8 x):=by rw[ht,List.getElem?_map,hx];rfl
  rw[List.getElem?_take_of_lt (by omega)] at h3
  simpa using h3
def FldR(w:World)(r:List Value)(f:Fld):Prop:=∃u,r=[i f.tag,u]∧Data w u f.data∧IsSl u
abbrev OwnF (base:Nat) (w:World) (v:Value) (l:List Fld):Prop:=Own (FldR w) 188 2 base w v l
theorem infoF:(Tryz.prog.info? 188).map (fun i=>(i.zero,i.size,i.bytes))=some (some (.agg #[.int .i64 0,.slice none 0 0]),2,32):=by kernel_rfl
theorem FldR.keep{w w':World}{row:Option Nat}(hg:w.grownBy w' row)(hr:∀k,row=some k→∃cs t fz,w.heap[k]? = some (.cells cs t fz)∧t≠5):∀r f,FldR w r f→FldR w' r f:=by
 rintro r f ⟨u,rfl,h,hs⟩
 exact⟨u,rfl,Data.keep h hg hr,hs⟩
theorem OwnB.slice{base:Nat}{w:World}{u:Value}{xs:List Int}(h:OwnB base w u xs):∃A c,u=.slice A xs.length c:=by
 obtain⟨rs,h1,h2⟩:=h
 have hl:=h2.1
 rcases h1.2 with⟨rfl,h0⟩|⟨g,cap,cur,rfl,_⟩
 ·have:xs.length=0:=by omega
  exact⟨none,0,by rw[this]⟩
 ·exact⟨_,_,rfl⟩
theorem OwnF.row{base:Nat}{w:World}{v:Value}{l:List Fld}(h:OwnF base w v l):∀k,v.ownBlock=some k→∃cs fz,w.heap[k]? = some (.cells cs 188 fz):=by
 obtain⟨rs,h1,h2⟩:=h
 intro k hk
 rcases h1.2 with⟨rfl,_⟩|⟨g,cap,cur,rfl,_,hg,_⟩
 ·simp[Value.ownBlock] at hk
 ·obtain rfl:g=k:=by simpa[Value.ownBlock] using hk
  exact⟨_,_,hg⟩
theorem one_fld(w:World)(r:List Value)(f:Fld)(h:FldR w r f):∀u∈r,u.oneCell'=true:=by
 obtain⟨u,rfl,_,A,n,c,rfl⟩:=h
 intro x hx
 rcases List.mem_cons.1 hx with rfl|hx
 ·rfl
 ·obtain rfl:x=.slice A n c:=by simpa using hx
  rfl
end EncW
namespace EncW
open Go.RowKit MonW Enc
def strB(s:ByteArray):List Int:=s.data.toList.map fun c=>(c.toNat:Int)
theorem strB_len(s:ByteArray):(strB s).length=s.size:=by unfold strB;simp
theorem putInt(n:Int)(w:World)(hn:I64 n):Calls Tryz.prog 99 #[i n] w fun e w'=>∃u,e=.returned u∧OwnB w.heap.size w' u (encI n)∧Below w.heap.size w w':=by
 have HA:=Lib.hid (appendInt w.heap.size (.slice none 0 0) [] n w Own.nil (Nat.le_refl _) hn (by simp))
 go_enter Tryz.func99,Tryz.ntmps99
 go_wp2_with fail
 refine HA.out.mono ?_
 rintro e w1 ⟨u,rfl,hu,hb,-⟩
 obtain⟨A,c,rfl⟩:=OwnB.slice hu
 go_wp2_with fail
 go_ret
 exact⟨_,rfl,by simpa using hu,hb⟩
theorem Data.str(w:World)(s:ByteArray)(c:Nat)(fz:Nat×Nat)(hc:s.size≤c)(hm:c≤maxLen):Data (w.alloc (.cells (bytesRow s c) 5 fz)) (.slice (some ⟨w.heap.size,0,none⟩) s.size c) (strB s):=by
 refine⟨_,c,by rw[strB_len],by rw[strB_len];exact hc,hm,fun e=>(by cases e),fun x hx=>?_,.inr ⟨w.heap.size,0,_,_,rfl,World.alloc_heap_new w _,fun j x hx=>?_⟩⟩
 ·unfold strB at hx
  obtain⟨b,_,rfl⟩:=List.mem_map.1 hx
  have:=b.toNat_lt
  omega
 ·unfold strB at hx
  rw[List.getElem?_map] at hx
  obtain⟨hj,_⟩:=List.getElem?_eq_some_iff.1 (show(s.data.toList.map fun c=>(c.toNat:Int))[j]? = some x by rw[List.getElem?_map];exact hx)
  have hj':j<s.data.size:=by simpa using hj
  unfold bytesRow
  rw[Nat.zero_add,Array.getElem?_append_left (by simpa using hj'),Array.getElem?_map]
  rw[Array.getElem?_toList] at hx
  rw[Array.getElem?_eq_getElem hj'] at hx ⊢
  simp at hx ⊢
  exact hx
end EncW
namespace EncW
open Go.RowKit MonW Enc
theorem flat_b:∀(xs:List Int),(xs.map (fun x=>[Value.int .u8 x])).flatten=xs.map (Value.int .u8)
 | []=>rfl
 | x::xs=>by rw[List.map_cons,List.flatten_cons,flat_b xs];rfl
theorem rows_b{xs:List Int}(h:∀x∈xs,0≤x∧x≤255):RowsOf BytR 1 (xs.map (fun x=>[Value.int .u8 x])) xs:=by
 refine⟨by simp,fun j r x h1 h2=>?_⟩
 rw[List.getElem?_map,h2] at h1
 obtain rfl:[Value.int .u8 x]=r:=by simpa using h1
 exact⟨rfl,rfl,h x (List.mem_of_getElem? h2)⟩
theorem wpList_data{P:Program}{ops:Array Oper}{rest:List Oper}{o:Oper}{a:Act}{w:World}{Q:Exit→Act→World→Prop}(hgd:o.guard=none)(s x:Operand)(t:TypeId)
  (ho:o.op=.call { callee:=.builtin .append,args:=#[s,x],argTypes:=#[t,t] })
  (i:TypeInfo) (z:Value) (ht:P.underlying t=some (.slice 5)) (hi:P.info? 5=some i) (hz:i.zero=some z)
  (hsize:i.size=1) (hby:i.bytes=1) (hzs:z.cells.size=1) {base:Nat} {v u:Value} {xs d:List Int} (hs:a.eval s=v) (hown:OwnB base w v xs) (hx:a.eval x=u) (hd:Data w u d) (hne:d≠[]) (hn:xs.length+d.length≤16777216) (hbase:base≤w.heap.size)
  (h:∀v' w',OwnB base w' v' (xs++d)→Below base w w'→IsSl v'→wpList P ops Q rest (a.put o.dst v') w'):wpList P ops Q (o::rest) a w:=by
 obtain⟨rs,k1,k2⟩:=hown
 obtain⟨A,c,rfl,d1,d2,d3,d4,d5⟩:=hd
 rcases d5 with d5|⟨b,off,cs,fz,rfl,e2,e3⟩
 ·exact absurd d5 hne
 refine wpList_append_own w hgd s x t ho base 5 i z 1 1 ht hi hz hsize hby hzs (by omega) v xs.length rs.flatten hs k1 ⟨b,off,none⟩ d.length c (d.map (Value.int .u8)) hx (by simp) ?_ ?_ (by unfold maxLen;omega) (by omega) hbase ?_
 ·intro j u hu
  rw[List.getElem?_map] at hu
  cases hj:d[j]? with
  | none=>rw[hj] at hu;cases hu
  | some y=>
    rw[hj] at hu
    obtain rfl:Value.int .u8 y=u:=by simpa using hu
    have:=e3 j y hj
    rw[Addr.add_lit]
    simp[World.cell?,e2,this]
 ·intro u hu
  obtain⟨y,_,rfl⟩:=List.mem_map.1 hu
  rfl
 ·intro v' w' ho hg _
  refine h v' w' ⟨rs++d.map (fun x=>[Value.int .u8 x]),?_,rows_append k2 (rows_b d4)⟩ ((Below.refl _ _).grown hg hbase (fun k hk=>(k1.lt k hk).1)) ?_
  ·rw[List.flatten_append,flat_b]
   simpa using ho
  ·rcases ho.2 with⟨h0,_⟩|⟨g',cap,cur,h0,_⟩
   ·exact⟨_,_,_,h0⟩
   ·exact⟨_,_,_,h0⟩
theorem OwnB.isSl{base:Nat}{w:World}{u:Value}{xs:List Int}(h:OwnB base w u xs):IsSl u:=by
 obtain⟨A,c,rfl⟩:=OwnB.slice h
 exact⟨_,_,_,rfl⟩
end EncW
namespace Cen
open Go.RowKit
abbrev i (n:Int):Value:=.int .i64 n
structure Ln where
 sq:Int
 at_:Int
 who:ByteArray
 what:ByteArray
 on_:ByteArray
 sum:Int
abbrev lnA (x:Ln):Array Value:=#[i x.sq,i x.at_,.string x.who,.string x.what,.string x.on_,.int .u64 x.sum]
def LnR(w:World)(r:List Value)(x:Ln):Prop:=r=(lnA x).toList∧x.who.size≤maxLen∧x.what.size≤maxLen∧x.on_.size≤maxLen
theorem LnR.keep{w W:World}{r:List Value}{x:Ln}(h:LnR w r x)(hk:Kept w W):LnR W r x:=by
 exact h
def LnsAt(w:World)(v:Value)(xs:List Ln):Prop:=SliceAt (LnR w) 6 w v xs
theorem LnsAt.keep{w W:World}{v:Value}{xs:List Ln}(h:LnsAt w v xs)(hk:Kept w W):LnsAt W v xs:=SliceAt.keep h hk (fun _ _ h=>h.keep hk)
theorem LnsAt.call{w W:World}{v:Value}{xs:List Ln}(h:LnsAt w v xs)(hb:Below w.heap.size w W):LnsAt W v xs:=h.keep (Kept.of hb)
theorem LnsAt.at_{w:World}{A:Option Addr}{n c j:Nat}{xs:List Ln}(h:LnsAt w (.slice A n c) xs)(hj:j<xs.length) :
  ∃(b off:Nat),A=some ⟨b,off,none⟩∧(∀W,Kept w W→W.rangeAt b (off+j*6) (lnA xs[j]).toList)∧xs[j].who.size≤maxLen∧xs[j].what.size≤maxLen∧xs[j].on_.size≤maxLen:=by
 obtain⟨b,off,r,hA,_,hr,hc⟩:=SliceAt.at_ h hj
 obtain⟨e,s0,s1,s2⟩:=hr
 subst e
 exact⟨b,off,hA,fun W hk k u hu=>hk _ _ (hc k u hu),s0,s1,s2⟩
theorem LnsAt.len{w:World}{A:Option Addr}{n c:Nat}{xs:List Ln}(h:LnsAt w (.slice A n c) xs):n=xs.length∧n≤c∧c≤maxLen:=by
 obtain⟨A',c',e,h1,h2,-⟩:=h
 injection e with e1 e2 e3
 subst e2 e3
 exact⟨rfl,h1,h2⟩
theorem Ln_one(x:Ln):∀u∈(lnA x).toList,u.oneCell'=true:=by
 intro u hu
 simp at hu
 rcases hu with rfl|rfl|rfl|rfl|rfl|rfl<;>first|rfl|assumption
end Cen
namespace EncW
open Enc
def flds(sq at_:Int)(s1 s2 s3:ByteArray):List Fld:=[⟨1,encI sq⟩,⟨2,encI at_⟩,⟨3,strB s1⟩,⟨4,strB s2⟩,⟨5,strB s3⟩]
def jb(pv sq at_:Int)(s1 s2 s3:ByteArray):Int:=Sip.sum pv (putF (flds sq at_ s1 s2 s3))
end EncW
namespace Ver
open Cen
open EncW (jb)
def ahead(l:List Ln):Nat→Int×Int
 | 0=>(0,0)
 | k+1=>match l[k]? with
   | some x=>(x.sum,x.at_)
   | none=>(0,0)
theorem ahead_succ{l:List Ln}{j:Nat}{x:Ln}(h:l[j]? = some x):ahead l (j+1)=(x.sum,x.at_):=by
 show(match l[j]? with|some x=>(x.sum,x.at_)|none=>(0,0))=_
 rw[h]
structure OkLn(l:List Ln)(k:Nat)(x:Ln):Prop where
 sq:x.sq=k+1
 at0:0≤x.at_
 at1:(ahead l k).2≤x.at_
 at2:x.at_≤268435456
 who:x.who.size≤50000
 what:x.what.size≤50000
 on_:x.on_.size≤50000
 sum:x.sum=jb (ahead l k).1 x.sq x.at_ x.who x.what x.on_
def Chain(l:List Ln):Prop:=l.length≤4096∧∀k x,l[k]? = some x→OkLn l k x
theorem ahead_snoc{l:List Ln}{y:Ln}{k:Nat}(hk:k≤l.length):ahead (l++[y]) k=ahead l k:=by
 cases k with
 | zero=>rfl
 | succ k=>
   have hk':k<l.length:=by omega
   rw[ahead_succ (l:=l) (List.getElem?_eq_getElem hk'),ahead_succ (l:=l++[y]) (x:=l[k]) (by rw[List.getElem?_append_left hk',List.getElem?_eq_getElem hk'])]
theorem Chain.nil:Chain []:=⟨by simp,fun k x h=>by simp at h⟩
theorem OkLn.snoc{l:List Ln}{x y:Ln}{k:Nat}(hk:k≤l.length)(h:OkLn l k x):OkLn (l++[y]) k x:=by
 have e:=ahead_snoc (y:=y) hk
 obtain⟨a,b,c,d,e1,e2,e3,f⟩:=h
 exact⟨a,b,by rw[e];exact c,d,e1,e2,e3,by rw[e];exact f⟩
theorem Chain.snoc{l:List Ln}{y:Ln}(h:Chain l)(hl:l.length<4096)(hy:OkLn l l.length y):Chain (l++[y]):=by
 refine⟨by simp;omega,fun k x hx=>?_⟩
 rcases Nat.lt_trichotomy k l.length with hk|hk|hk
 ·rw[List.getElem?_append_left hk] at hx
  exact(h.2 k x hx).snoc (by omega)
 ·subst hk
  simp at hx
  subst hx
  exact hy.snoc (Nat.le_refl _)
 ·rw[List.getElem?_eq_none (by simp;omega)] at hx
  cases hx
def LinesQ(cs:List Value):Prop:=∃l:List Ln,cs=l.flatMap (fun x=>(lnA x).toList)∧Chain l
end Ver
namespace Sy
def fzE(e:TypeId):Bool:=decide (e=69)
def Qs:Nat→List Value→Prop
 | 0,cs=>Ver.LinesQ cs
 | _+1,_=>True
open Go.RowKit
inductive BT where
 | int (k:IntKind)
 | str
 deriving DecidableEq
inductive CT where
 | int (k:IntKind) (lo hi:Int)
 | bool
 | str (lb:Nat)
 | sl (m:Nat) (e:TypeId) (lb:Nat)
 | pt (m:Nat) (t:TypeId)
 | fn (fs:List FuncId) (a b:List (Nat×TypeId))
 | idx (d:Nat)
 | fz (b:BT)
 | cs (q:Nat) (e:TypeId) (lb:Nat)
 | mp (k v:TypeId)
 | any
 deriving DecidableEq
def CT.frozen:CT→Bool
 | .idx _=>true
 | .fz _=>true
 | .sl _ _ lb=>decide (lb=63)
 | _=>false
def CT.isFz:CT→Bool
 | .fz _=>true
 | _=>false
def fzTab(tb:List (TypeId×List CT)):Bool:=tb.all fun p=>!fzE p.1 || p.2.all CT.isFz
def CT.isIdx:CT→Bool
 | .idx _=>true
 | _=>false
def noIdx(l:List CT):Bool:=l.all fun ct=>!ct.isIdx
def Ix(l:List CT)(cs:Array Value):Prop:=∀(i d:Nat),i<cs.size→l[i%l.length]? = some (.idx d)→d≤i∧(∃ct:CT,l[(i-d)%l.length]? = some ct∧ct.frozen=true) ∧
 ∃n A m c,cs[i]? = some (.int .i64 n)∧0≤n∧cs[i-d]? = some (.slice A m c)∧n<(m:Int)
theorem ix_no{l:List CT}(h:noIdx l=true)(cs:Array Value):Ix l cs:=by
 intro i d _ hi
 have:=List.all_eq_true.1 h _ (List.mem_of_getElem? hi)
 simp[CT.isIdx] at this
abbrev Tab:=List (TypeId×List CT)
def Tab.flat:Tab→TypeId→Option (List CT)
 | [],_=>none
 | (u,l)::r,t=>if u=t then some l else Tab.flat r t
def Tab.sz(tb:Tab)(t:TypeId):Nat:=((tb.flat t).map List.length).getD 0
def Tab.ctAt(tb:Tab)(t:TypeId)(i:Nat):Option CT:=(tb.flat t).bind fun l=>l[i%l.length]?
section
variable(tb:Tab)(W0:World)
inductive AV:CT→Value→Prop
 | int {k:IntKind} {lo hi n:Int} (h1:lo≤n) (h2:n≤hi):AV (.int k lo hi) (.int k n)
 | bool {b:Bool}:AV .bool (.bool b)
 | str {lb:Nat} {s:ByteArray} (h:s.size≤lb):AV (.str lb) (.string s)
 | nil {e:TypeId} {lb:Nat}:AV (.sl 0 e lb) (.slice none 0 0)
 | emp {e:TypeId} {lb:Nat} (a:Addr):AV (.sl 0 e lb) (.slice (some a) 0 0)
 | sl {e:TypeId} {lb b off n c:Nat} (f:Nat→Nat→Value) (hb:b<W0.heap.size) (hn:n≤c) (hl:n≤lb) (hc:c≤maxLen) (hs:0<tb.sz e)
    (hf:∀j k,j<n→k<tb.sz e→W0.cell? ⟨b,off+j*tb.sz e+k,none⟩=some (f j k)) (ht:∀j k ct,j<n→((tb.flat e).getD [])[k]? = some ct→AV ct (f j k)) :
    AV (.sl 0 e lb) (.slice (some ⟨b,off,none⟩) n c)
 | any {v:Value} (h:v.oneCell'=true):AV .any v
def Fz(cs:Array Value)(fr:Nat×Nat):Prop:=fr=(0,0)∨cs.size≤fr.1
def Row(w:World)(b:Nat)(e:TypeId)(n:Nat):Prop:=∃cs fr,w.heap[b]? = some (.cells cs e fr)∧n≤cs.size
def PV(T:Nat→Prop)(w:World)(base m:Nat)(t:TypeId)(v:Value):Prop:=∃b off,v=.pointer (some ⟨b,off,none⟩) ∧
   ((m=0∧b<W0.heap.size∧∀k ct,((tb.flat t).getD [])[k]? = some ct→∃u,W0.cell? ⟨b,off+k,none⟩=some u∧AV tb W0 ct u) ∨
    (T b∧(2≤m→base≤b)∧∃te,Row w b te (off+tb.sz t)∧∀k ct,((tb.flat t).getD [])[k]? = some ct→tb.ctAt te (off+k)=some ct))
def VT(T:Nat→Prop)(w:World):CT→Value→Prop
 | .int k lo hi,v=>∃n,v=.int k n∧lo≤n∧n≤hi
 | .bool,v=>∃b,v=.bool b
 | .str lb,v=>∃s,v=.string s∧s.size≤lb
 | .sl m e lb,v=>m≤1∧(v=.slice none 0 0∨(m=0∧AV tb W0 (.sl 0 e lb) v) ∨
    ∃b off n c,v=.slice (some ⟨b,off,none⟩) n c∧n≤c∧n≤lb∧c≤maxLen∧T b∧0<tb.sz e∧off%tb.sz e=0∧Row w b e (off+c*tb.sz e))
 | _,_=>False
def BV(T:Nat→Prop)(w:World)(base m:Nat)(t:TypeId)(u:Value):Prop:=if m=9 then ∃cs:Array Value,u=.agg cs∧cs.size=tb.sz t ∧
  ∀(k:Nat) (ct:CT),((tb.flat t).getD [])[k]? = some ct→∃x,cs[k]? = some x∧VT tb W0 T w ct x else PV tb W0 T w base m t u
def xq(T:Nat→Prop)(w:World)(t:TypeId)(u:Value):Prop:=
 (∃cs:Array Value,u=.agg cs∧cs.size=tb.sz t∧∀(k:Nat) (ct:CT),((tb.flat t).getD [])[k]? = some ct→∃x,cs[k]? = some x∧VT tb W0 T w ct x)∨∃ct,tb.flat t=some [ct]∧VT tb W0 T w ct u
def MapT(T:Nat→Prop)(w:World)(k v:TypeId)(es:Array MapEntry):Prop:=∀e∈es.toList,xq tb W0 T w k e.key∧xq tb W0 T w v e.val
def PVs(T:Nat→Prop)(w:World)(base:Nat)(l:List (Nat×TypeId))(vs:Array Value):Prop:=vs.size=l.length∧∀(i m:Nat) (t:TypeId),l[i]? = some (m,t)→∃u,vs[i]? = some u∧BV tb W0 T w base m t u
def CV(T:Nat→Prop)(w:World)(base:Nat):CT→Value→Prop
 | .int k lo hi,v=>∃n,v=.int k n∧lo≤n∧n≤hi
 | .bool,v=>∃b,v=.bool b
 | .str lb,v=>∃s,v=.string s∧s.size≤lb
 | .sl m e lb,v=>v=.slice none 0 0∨(m=0∧AV tb W0 (.sl 0 e lb) v) ∨
    ∃b off n c,v=.slice (some ⟨b,off,none⟩) n c∧n≤c∧n≤lb∧c≤maxLen∧T b∧(2≤m→base≤b)∧0<tb.sz e∧off%tb.sz e=0∧Row w b e (off+c*tb.sz e)
 | .pt m t,v=>PV tb W0 T w base m t v
 | .fn fs l m,v=>∃f x y,v=.func (.func f) x y∧f∈fs∧PVs tb W0 T w base l x∧PVs tb W0 T w base m y
 | .idx _,v=>∃n:Int,v=.int .i64 n∧0≤n
 | .fz (.int k),v=>∃n,v=.int k n∧k.min≤n∧n≤k.max
 | .fz .str,v=>∃s,v=.string s∧s.size≤maxLen
 | .cs q e lb,v=>v=.slice none 0 0∨∃b off n c cs fr,v=.slice (some ⟨b,off,none⟩) n c∧n≤c∧n≤lb∧c≤maxLen∧T b∧0<tb.sz e∧off%tb.sz e=0∧fzE e=true ∧
    w.heap[b]? = some (.cells cs e fr)∧off+c*tb.sz e≤cs.size∧Qs q ((cs.toList.drop off).take (n*tb.sz e))
 | .mp k t,v=>v=.map none∨∃b es c,v=.map (some b)∧w.heap[b]? = some (.map es c)∧MapT tb W0 T w k t es
 | .any,v=>v.oneCell'=true
structure WT(T:Nat→Prop)(w:World):Prop where
 size:W0.heap.size≤w.heap.size
 alien:∀b,b<W0.heap.size→w.heap[b]? = W0.heap[b]?
 home:∀b,T b→W0.heap.size≤b
 typed:∀b,T b→∃cs e fr l,w.heap[b]? = some (.cells cs e fr)∧Fz cs fr∧tb.flat e=some l∧0<l.length∧∀i v,cs[i]? = some v→∃ct,l[i%l.length]? = some ct∧CV tb W0 T w 0 ct v
 ix:∀b,T b→∀cs e fr l,w.heap[b]? = some (.cells cs e fr)→tb.flat e=some l→Ix l cs
end
section
variable{tb:Tab}{W0:World}{T T':Nat→Prop}{w w':World}{base base':Nat}
structure Ext(T:Nat→Prop)(w:World)(T':Nat→Prop)(w':World):Prop where
 sub:∀b,T b→T' b
 row:∀b e n,T b→Row w b e n→Row w' b e n
 fz:∀b cs e fr,T b→fzE e=true→w.heap[b]? = some (.cells cs e fr)→w'.heap[b]? = some (.cells cs e fr)
 mp:∀(b:Nat) es c,w.heap[b]? = some (.map es c)→w'.heap[b]? = some (.map es c)
theorem Ext.refl(T:Nat→Prop)(w:World):Ext T w T w:=⟨fun _ h=>h,fun _ _ _ _ h=>h,fun _ _ _ _ _ _ h=>h,fun _ _ _ h=>h⟩
theorem Ext.trans{T'':Nat→Prop}{w'':World}(h:Ext T w T' w')(k:Ext T' w' T'' w''):Ext T w T'' w'':=
 ⟨fun b hb=>k.sub b (h.sub b hb),fun b e n hb hr=>k.row b e n (h.sub b hb) (h.row b e n hb hr),fun b cs e fr hb he hc=>k.fz b cs e fr (h.sub b hb) he (h.fz b cs e fr hb he hc),fun b es c hb=>k.mp b es c (h.mp b es c hb)⟩
theorem PV.mono{m:Nat}{t:TypeId}{v:Value}(h:PV tb W0 T w base m t v)(x:Ext T w T' w')(hb:base'≤base):PV tb W0 T' w' base' m t v:=by
 obtain⟨b,off,h1,h|⟨h2,h3,te,h4,h5⟩⟩:=h
 ·exact⟨b,off,h1,.inl h⟩
 ·exact⟨b,off,h1,.inr ⟨x.sub b h2,fun ho=>Nat.le_trans hb (h3 ho),te,x.row b te _ h2 h4,h5⟩⟩
theorem VT.mono{ct:CT}{v:Value}(h:VT tb W0 T w ct v)(x:Ext T w T' w'):VT tb W0 T' w' ct v:=by
 cases ct with
 | sl m e lb=>
   obtain⟨h0,h⟩:=h
   refine⟨h0,?_⟩
   rcases h with h|h|⟨b,off,n,c,h1,h2,h3,h4,h5,h7,h8,h9⟩
   ·exact .inl h
   ·exact .inr (.inl h)
   ·exact .inr (.inr ⟨b,off,n,c,h1,h2,h3,h4,x.sub b h5,h7,h8,x.row b e _ h5 h9⟩)
 | _=>exact h
theorem xq.mono{t:TypeId}{u:Value}(h:xq tb W0 T w t u)(x:Ext T w T' w'):xq tb W0 T' w' t u:=by
 rcases h with⟨cs,h1,h2,h3⟩|⟨ct,h1,h2⟩
 ·exact .inl ⟨cs,h1,h2,fun k ct hk=>by obtain⟨y,q1,q2⟩:=h3 k ct hk;exact⟨y,q1,q2.mono x⟩⟩
 ·exact .inr ⟨ct,h1,h2.mono x⟩
theorem MapT.mono{k v:TypeId}{es:Array MapEntry}(h:MapT tb W0 T w k v es)(x:Ext T w T' w'):MapT tb W0 T' w' k v es:=fun e he=>⟨(h e he).1.mono x,(h e he).2.mono x⟩
theorem BV.mono{m:Nat}{t:TypeId}{v:Value}(h:BV tb W0 T w base m t v)(x:Ext T w T' w')(hb:base'≤base):BV tb W0 T' w' base' m t v:=by
 unfold BV at h ⊢
 split at h
 ·rename_i hm
  rw[if_pos hm]
  obtain⟨cs,h1,h2,h3⟩:=h
  exact⟨cs,h1,h2,fun k ct hk=>by obtain⟨y,q1,q2⟩:=h3 k ct hk;exact⟨y,q1,q2.mono x⟩⟩
 ·rename_i hm
  rw[if_neg hm]
  exact h.mono x hb
theorem PVs.mono{l:List (Nat×TypeId)}{vs:Array Value}(h:PVs tb W0 T w base l vs)(x:Ext T w T' w')(hb:base'≤base):PVs tb W0 T' w' base' l vs:=
 ⟨h.1,fun i m t hi=>by obtain⟨u,h1,h2⟩:=h.2 i m t hi;exact⟨u,h1,h2.mono x hb⟩⟩
theorem CV.mono{ct:CT}{v:Value}(h:CV tb W0 T w base ct v)(x:Ext T w T' w')(hb:base'≤base):CV tb W0 T' w' base' ct v:=by
 cases ct with
 | int k lo hi=>exact h
 | bool=>exact h
 | str lb=>exact h
 | any=>exact h
 | idx d=>exact h
 | fz b=>cases b<;>exact h
 | mp k t=>
   rcases h with h|⟨b,es,c,h1,h2,h3⟩
   ·exact .inl h
   ·exact .inr ⟨b,es,c,h1,x.mp b es c h2,h3.mono x⟩
 | cs q e lb=>
   rcases h with h|⟨b,off,n,c,cs,fr,h1,h2,h3,h4,h5,h6,h7,h8,h9,h10⟩
   ·exact .inl h
   ·exact .inr ⟨b,off,n,c,cs,fr,h1,h2,h3,h4,x.sub b h5,h6,h7,h8,x.fz b cs e fr h5 h8 h9,h10⟩
 | sl m e lb=>
   rcases h with h|h|⟨b,off,n,c,h1,h2,h3,h4,h5,h6,h7,h8,h9⟩
   ·exact .inl h
   ·exact .inr (.inl h)
   ·exact .inr (.inr ⟨b,off,n,c,h1,h2,h3,h4,x.sub b h5,fun ho=>Nat.le_trans hb (h6 ho),h7,h8,x.row b e _ h5 h9⟩)
 | pt m t=>exact PV.mono h x hb
 | fn fs l m=>obtain⟨f,y,z,h1,h2,h3,h4⟩:=h;exact⟨f,y,z,h1,h2,h3.mono x hb,h4.mono x hb⟩
theorem AV.cv{ct:CT}{v:Value}(h:AV tb W0 ct v):CV tb W0 T w base ct v:=by
 cases h with
 | int h1 h2=>exact⟨_,rfl,h1,h2⟩
 | bool=>exact⟨_,rfl⟩
 | str h=>exact⟨_,rfl,h⟩
 | nil=>exact .inl rfl
 | emp a=>exact .inr (.inl ⟨rfl,.emp a⟩)
 | sl f hb hn hl hc hs hf ht=>exact .inr (.inl ⟨rfl,.sl f hb hn hl hc hs hf ht⟩)
 | any h=>exact h
theorem CV.one{ct:CT}{v:Value}(h:CV tb W0 T w base ct v):v.oneCell'=true:=by
 cases ct with
 | int k lo hi=>obtain⟨n,rfl,-⟩:=h;rfl
 | bool=>obtain⟨n,rfl⟩:=h;rfl
 | str lb=>obtain⟨n,rfl,-⟩:=h;rfl
 | any=>exact h
 | sl m e lb=>
   rcases h with rfl|⟨-,h⟩|⟨b,off,n,c,rfl,-⟩
   ·rfl
   ·cases h<;>rfl
   ·rfl
 | pt m t=>obtain⟨b,off,rfl,-⟩:=h;rfl
 | fn fs l m=>obtain⟨f,y,z,rfl,-⟩:=h;rfl
 | idx d=>obtain⟨n,rfl,-⟩:=h;rfl
 | fz b=>cases b<;>(obtain⟨n,rfl,-⟩:=h;rfl)
 | cs q e lb=>rcases h with rfl|⟨b,off,n,c,cs,fr,rfl,-⟩<;>rfl
 | mp k t=>rcases h with rfl|⟨b,es,c,rfl,-⟩<;>rfl
def CT.le:CT→CT→Bool
 | .int k lo hi,.int k' lo' hi'=>decide (k=k'∧lo'≤lo∧hi≤hi')
 | .bool,.bool=>true
 | .str a,.str b=>decide (a≤b)
 | .sl m e a,.sl m' e' b=>decide (m'≤m∧e=e'∧a≤b)
 | .pt m t,.pt m' t'=>decide (m'≤m∧t=t')
 | .fn fs l m,.fn fs' l' m'=>fs.all (fun f=>decide (f∈fs')) && decide (l=l'∧m=m')
 | .idx d,.idx d'=>decide (d=d')
 | .fz b,.fz b'=>decide (b=b')
 | .cs q e a,.cs q' e' b=>decide (q=q'∧e=e'∧a≤b)
 | .mp k t,.mp k' t'=>decide (k=k'∧t=t')
 | _,.any=>true
 | _,_=>false
theorem AV.widen{e:TypeId}{a b:Nat}{v:Value}(h:AV tb W0 (.sl 0 e a) v)(hab:a≤b):AV tb W0 (.sl 0 e b) v:=by
 cases h with
 | nil=>exact .nil
 | emp a=>exact .emp a
 | sl f hb hn hl hc hs hf ht=>exact .sl f hb hn (Nat.le_trans hl hab) hc hs hf ht
theorem CV.le{a b:CT}{v:Value}(h:CV tb W0 T w base a v)(hl:a.le b=true):CV tb W0 T w base b v:=by
 cases b with
 | any=>exact h.one
 | int k lo hi=>
   cases a<;>simp only[CT.le,decide_eq_true_eq,Bool.false_eq_true] at hl
   obtain⟨rfl,h1,h2⟩:=hl
   obtain⟨n,rfl,h3,h4⟩:=h
   exact⟨n,rfl,by omega,by omega⟩
 | bool=>cases a<;>simp only[CT.le,Bool.false_eq_true] at hl;exact h
 | str lb=>
   cases a<;>simp only[CT.le,decide_eq_true_eq,Bool.false_eq_true] at hl
   obtain⟨s,rfl,h3⟩:=h
   exact⟨s,rfl,by omega⟩
 | sl m e lb=>
   cases a<;>simp only[CT.le,decide_eq_true_eq,Bool.false_eq_true] at hl
   rename_i m' e' lb'
   obtain⟨ho,rfl,hlb⟩:=hl
   rcases h with h|⟨h0,h⟩|⟨b,off,n,c,h1,h2,h3,h4,h5,h6,h7,h8,h9⟩
   ·exact .inl h
   ·exact .inr (.inl ⟨by omega,h.widen hlb⟩)
   ·exact .inr (.inr ⟨b,off,n,c,h1,h2,by omega,h4,h5,fun hx=>h6 (by omega),h7,h8,h9⟩)
 | pt m t=>
   cases a<;>simp only[CT.le,decide_eq_true_eq,Bool.false_eq_true] at hl
   rename_i m' t'
   obtain⟨ho,rfl⟩:=hl
   obtain⟨b,off,h1,⟨h0,h⟩|⟨h2,h3,te,h4,h5⟩⟩:=h
   ·exact⟨b,off,h1,.inl ⟨by omega,h⟩⟩
   ·exact⟨b,off,h1,.inr ⟨h2,fun hx=>h3 (by omega),te,h4,h5⟩⟩
 | fn fs l m=>
   cases a<;>simp only[CT.le,Bool.and_eq_true,decide_eq_true_eq,List.all_eq_true,Bool.false_eq_true] at hl
   obtain⟨h0,rfl,rfl⟩:=hl
   obtain⟨f,y,z,h1,h2,h3,h4⟩:=h
   exact⟨f,y,z,h1,h0 f h2,h3,h4⟩
 | idx d=>cases a<;>simp only[CT.le,Bool.false_eq_true] at hl;exact h
 | fz b'=>
   cases a<;>simp only[CT.le,decide_eq_true_eq,Bool.false_eq_true] at hl
   subst hl
   cases ‹BT›<;>exact h
 | cs q e lb=>
   cases a<;>simp only[CT.le,decide_eq_true_eq,Bool.false_eq_true] at hl
   obtain⟨rfl,rfl,hlb⟩:=hl
   rcases h with h|⟨b,off,n,c,cs,fr,h1,h2,h3,h4,h5,h6⟩
   ·exact .inl h
   ·exact .inr ⟨b,off,n,c,cs,fr,h1,h2,by omega,h4,h5,h6⟩
 | mp k t=>
   cases a<;>simp only[CT.le,decide_eq_true_eq,Bool.false_eq_true] at hl
   obtain⟨rfl,rfl⟩:=hl
   exact h
theorem VT.cv{ct:CT}{v:Value}(h:VT tb W0 T w ct v):CV tb W0 T w base ct v:=by
 cases ct with
 | sl m e lb=>
   obtain⟨h0,h⟩:=h
   rcases h with h|h|⟨b,off,n,c,h1,h2,h3,h4,h5,h7,h8,h9⟩
   ·exact .inl h
   ·exact .inr (.inl h)
   ·exact .inr (.inr ⟨b,off,n,c,h1,h2,h3,h4,h5,fun hm=>by omega,h7,h8,h9⟩)
 | int k lo hi=>exact h
 | bool=>exact h
 | str lb=>exact h
 | pt m t=>exact h.elim
 | fn fs l m=>exact h.elim
 | idx d=>exact h.elim
 | fz b=>exact h.elim
 | cs q e lb=>exact h.elim
 | mp k t=>exact h.elim
 | any=>exact h.elim
def CT.plain:CT→Bool
 | .int _ _ _=>true
 | .bool=>true
 | .str _=>true
 | .sl m _ _=>decide (m≤1)
 | _=>false
theorem CV.vt{ct:CT}{v:Value}(h:CV tb W0 T w base ct v)(hp:ct.plain=true):VT tb W0 T w ct v:=by
 cases ct<;>simp only[CT.plain,Bool.false_eq_true,decide_eq_true_eq] at hp
 ·exact h
 ·exact h
 ·exact h
 ·refine⟨hp,?_⟩
  rcases h with h|h|⟨b,off,n,c,h1,h2,h3,h4,h5,h6,h7,h8,h9⟩
  ·exact .inl h
  ·exact .inr (.inl h)
  ·exact .inr (.inr ⟨b,off,n,c,h1,h2,h3,h4,h5,h7,h8,h9⟩)
def CT.thaw:CT→CT
 | .fz (.int k)=>.int k k.min k.max
 | .fz .str=>.str maxLen
 | ct=>ct
theorem CV.thaw{ct:CT}{v:Value}(h:CV tb W0 T w base ct v):CV tb W0 T w base ct.thaw v:=by
 cases ct with
 | fz b=>cases b<;>exact h
 | _=>exact h
theorem CV.sl_of{q lb:Nat}{e:TypeId}{v:Value}(h:CV tb W0 T w base (.cs q e lb) v):CV tb W0 T w base (.sl 0 e lb) v:=by
 rcases h with h|⟨b,off,n,c,cs,fr,h1,h2,h3,h4,h5,h6,h7,h8,h9,h10,h11⟩
 ·exact .inl h
 ·exact .inr (.inr ⟨b,off,n,c,h1,h2,h3,h4,h5,fun h=>by omega,h6,h7,cs,fr,h9,h10⟩)
theorem WT.old(hw:WT tb W0 T w){b:Nat}(hb:b<W0.heap.size)(k:Nat):w.cell? ⟨b,k,none⟩=W0.cell? ⟨b,k,none⟩:=World.cell?_of_block (hw.alien b hb)
theorem tab_len{t:TypeId}{k:Nat}{ct:CT}(hk:((tb.flat t).getD [])[k]? = some ct):k<tb.sz t:=by
 unfold Tab.sz
 cases hq:tb.flat t with
 | none=>rw[hq] at hk;simp at hk
 | some l'=>rw[hq] at hk;simp at hk ⊢;exact(List.getElem?_eq_some_iff.1 hk).1
theorem WT.load{t:TypeId}{m b off:Nat}(hw:WT tb W0 T w)(h:CV tb W0 T w base (.pt m t) (.pointer (some ⟨b,off,none⟩))){k:Nat}{ct:CT}(hk:((tb.flat t).getD [])[k]? = some ct) :
  ∃v,w.cell? ⟨b,off+k,none⟩=some v∧CV tb W0 T w 0 ct v:=by
 obtain⟨b',off',e,h⟩:=h
 injection e with e;injection e with e;injection e with e1 e2 e3
 subst e1;subst e2
 rcases h with⟨-,hb,h⟩|⟨h2,h3,te,⟨cs,fr,hr,hsz⟩,h5⟩
 ·obtain⟨u,hu,hv⟩:=h k ct hk
  exact⟨u,by rw[hw.old hb];exact hu,hv.cv⟩
 ·obtain⟨cs',e',fr',l,hc,hfz,hfl,hl,ht⟩:=hw.typed b h2
  rw[hc] at hr
  injection hr with hr;injection hr with r1 r2 r3
  subst r1;subst r2;subst r3
  have hks:=tab_len hk
  have hlt:off+k<cs'.size:=by omega
  have hct:=h5 k ct hk
  unfold Tab.ctAt at hct
  rw[hfl] at hct
  obtain⟨ct',hct',hv⟩:=ht (off+k) cs'[off+k] (Array.getElem?_eq_getElem hlt)
  simp only[Option.bind_some] at hct
  rw[hct'] at hct
  cases hct
  exact⟨cs'[off+k],by rw[cell_of_row w b (off+k) cs' e' fr' hc];exact Array.getElem?_eq_getElem hlt,hv⟩
theorem CV.elem{m e lb b off n c i:Nat}(h:CV tb W0 T w base (.sl m e lb) (.slice (some ⟨b,off,none⟩) n c))(hi:i<n) :
  CV tb W0 T w base (.pt m e) (.pointer (some ⟨b,off+i*tb.sz e,none⟩)):=by
 rcases h with h|⟨h0,h⟩|⟨b',off',n',c',h1,h2,h3,h4,h5,h6,h7,h8,h9⟩
 ·cases h
 ·refine⟨b,_,rfl,.inl ⟨h0,?_⟩⟩
  cases h with
  | emp=>omega
  | sl f hb hn hl hc hs hf ht=>
    refine⟨hb,fun k ct hk=>⟨_,hf i k hi (tab_len hk),ht i k ct hi hk⟩⟩
 ·injection h1 with e1 e2 e3
  injection e1 with e1;injection e1 with e1 e4
  subst e1;subst e2;subst e3;subst e4
  refine⟨b,_,rfl,.inr ⟨h5,h6,e,?_,fun k ct hk=>?_⟩⟩
  ·obtain⟨cs,fr,hr,hsz⟩:=h9
   refine⟨cs,fr,hr,?_⟩
   have:=Nat.mul_le_mul_right (tb.sz e) (show i+1≤c by omega)
   rw[Nat.add_mul,Nat.one_mul] at this
   omega
  ·have hks:=tab_len hk
   unfold Tab.ctAt
   cases hq:tb.flat e with
   | none=>rw[hq] at hk;simp at hk
   | some l=>
     rw[hq] at hk
     have hsz:tb.sz e=l.length:=by simp[Tab.sz,hq]
     rw[hsz] at hks h8 ⊢
     simp only[Option.bind_some]
     have:(off+i*l.length+k)%l.length=k:=by
      rw[Nat.add_assoc,Nat.add_mod,h8,Nat.zero_add,Nat.mod_mod,Nat.add_mod,Nat.mul_mod_left,Nat.zero_add,Nat.mod_mod]
      exact Nat.mod_eq_of_lt hks
     rw[this]
     simpa using hk
theorem WT.frame(hw:WT tb W0 T w)(hs:w.heap.size≤w'.heap.size)(ha:∀b,b<W0.heap.size→w'.heap[b]? = w.heap[b]?)(ht:∀b,T b→w'.heap[b]? = w.heap[b]?)(hm:∀(b:Nat) es c,w.heap[b]? = some (.map es c)→w'.heap[b]? = some (.map es c)):WT tb W0 T w'∧Ext T w T w':=by
 have hx:Ext T w T w':=⟨fun _ h=>h,fun b e n hb ⟨cs,fr,h1,h2⟩=>⟨cs,fr,by rw[ht b hb];exact h1,h2⟩,fun b cs e fr hb _ hc=>by rw[ht b hb];exact hc,hm⟩
 refine⟨⟨Nat.le_trans hw.size hs,fun b hb=>(ha b hb).trans (hw.alien b hb),hw.home,fun b hb=>?_,fun b hb cs e fr l h1 h2=>hw.ix b hb cs e fr l (by rw[←ht b hb];exact h1) h2⟩,hx⟩
 obtain⟨cs,e,fr,l,h1,h0,h2,h3,h4⟩:=hw.typed b hb
 exact⟨cs,e,fr,l,by rw[ht b hb];exact h1,h0,h2,h3,fun i v hv=>by obtain⟨ct,q1,q2⟩:=h4 i v hv;exact⟨ct,q1,q2.mono hx (Nat.le_refl _)⟩⟩
theorem WT.lt(hw:WT tb W0 T w){b:Nat}(hb:T b):b<w.heap.size:=by
 obtain⟨cs,e,fr,l,h1,-⟩:=hw.typed b hb
 rcases Nat.lt_or_ge b w.heap.size with h|h
 ·exact h
 ·rw[Array.getElem?_eq_none h] at h1;cases h1
def add(T:Nat→Prop)(g:Nat):Nat→Prop:=fun b=>T b∨b=g
theorem WT.join(hw:WT tb W0 T w){g:Nat}{cs:Array Value}{e:TypeId}{fr:Nat×Nat}{l:List CT}(hg:W0.heap.size≤g)(hc:w.heap[g]? = some (.cells cs e fr))(hz:Fz cs fr)(hf:tb.flat e=some l)(hl:0<l.length)
  (ht:∀i v,cs[i]? = some v→∃ct,l[i%l.length]? = some ct∧CV tb W0 T w 0 ct v) (hix:Ix l cs):WT tb W0 (add T g) w∧Ext T w (add T g) w:=by
 have hx:Ext T w (add T g) w:=⟨fun _ h=>.inl h,fun _ _ _ _ h=>h,fun _ _ _ _ _ _ h=>h,fun _ _ _ h=>h⟩
 refine⟨⟨hw.size,hw.alien,fun b hb=>?_,fun b hb=>?_,fun b hb cs2 e2 fr2 l2 h1 h2=>?_⟩,hx⟩
 ·rcases hb with hb|rfl
  ·exact hw.home b hb
  ·exact hg
 ·rcases hb with hb|rfl
  ·obtain⟨cs,e,fr,l,h1,h0,h2,h3,h4⟩:=hw.typed b hb
   exact⟨cs,e,fr,l,h1,h0,h2,h3,fun i v hv=>by obtain⟨ct,q1,q2⟩:=h4 i v hv;exact⟨ct,q1,q2.mono hx (Nat.le_refl _)⟩⟩
  ·exact⟨cs,e,fr,l,hc,hz,hf,hl,fun i v hv=>by obtain⟨ct,q1,q2⟩:=ht i v hv;exact⟨ct,q1,q2.mono hx (Nat.le_refl _)⟩⟩
 ·rcases hb with hb|rfl
  ·exact hw.ix b hb cs2 e2 fr2 l2 h1 h2
  ·rw[hc] at h1
   injection h1 with h1;injection h1 with r1 r2 r3
   subst r1;subst r2
   rw[hf] at h2
   cases h2
   exact hix
theorem WT.write(hw:WT tb W0 T w){g:Nat}{cs cs':Array Value}{e:TypeId}{fr fr':Nat×Nat}{l:List CT}(hne:fzE e=false)(hg:T g)(hc:w.heap[g]? = some (.cells cs e fr))(hf:tb.flat e=some l)(hs:cs'.size=cs.size)
  (hh:w'.heap[g]? = some (.cells cs' e fr')) (hfz:Fz cs' fr') (ho:∀b,b≠g→w'.heap[b]? = w.heap[b]?) (hz:w'.heap.size=w.heap.size)
  (ht:∀i v,cs'[i]? = some v→cs[i]? = some v∨∃ct,l[i%l.length]? = some ct∧CV tb W0 T w 0 ct v) (hnf:noIdx l=true∨∀i v,cs'[i]? = some v→cs[i]? = some v∨∃ct:CT,l[i%l.length]? = some ct∧ct.frozen=false):WT tb W0 T w'∧Ext T w T w':=by
 have hx:Ext T w T w':=⟨fun _ h=>h,fun b e' n hb ⟨cs2,fr2,h1,h2⟩=>by
  by_cases hbg:b=g
  ·subst hbg
   rw[hc] at h1
   injection h1 with h1;injection h1 with r1 r2 r3
   subst r1;subst r2
   exact⟨cs',fr',hh,by omega⟩
  ·exact⟨cs2,fr2,by rw[ho b hbg];exact h1,h2⟩,fun b cs2 e2 fr2 hb he2 hc2=>by
  by_cases hbg:b=g
  ·subst hbg
   rw[hc] at hc2
   injection hc2 with hc2;injection hc2 with r1 r2 r3
   subst r2
   rw[hne] at he2;cases he2
  ·rw[ho b hbg];exact hc2,fun b es c hb=>by rw[ho b (fun e=>by rw[e,hc] at hb;cases hb)];exact hb⟩
 have hgB:=hw.home g hg
 refine⟨⟨by rw[hz];exact hw.size,fun b hb=>(ho b (by omega)).trans (hw.alien b hb),hw.home,fun b hb=>?_,fun b hb cs2 e2 fr2 l2 h1 h2=>?_⟩,hx⟩
 rotate_left
 ·by_cases hbg:b=g
  ·subst hbg
   rw[hh] at h1
   injection h1 with h1;injection h1 with r1 r2 r3
   subst r1;subst r2
   rw[hf] at h2
   cases h2
   rcases hnf with hnf|hnf
   ·exact ix_no hnf _
   ·have hsame:∀i ct,i<cs.size→l[i%l.length]? = some ct→ct.frozen=true→cs'[i]? = cs[i]?:=by
     intro i ct hi hct hfr
     obtain⟨v,hv⟩:∃v,cs'[i]? = some v:=⟨cs'[i]'(by omega),Array.getElem?_eq_getElem _⟩
     rcases hnf i v hv with h|⟨ct',q1,q2⟩
     ·rw[hv,h]
     ·rw[hct] at q1;cases q1;rw[hfr] at q2;cases q2
    intro i d hi hid
    rw[hs] at hi
    obtain⟨k1,⟨ct,k2,k3⟩,n,A,m,c,k4,k5,k6,k7⟩:=hw.ix b hb cs e fr l hc hf i d hi hid
    refine⟨k1,⟨ct,k2,k3⟩,n,A,m,c,?_,k5,?_,k7⟩
    ·rw[hsame i _ hi hid rfl];exact k4
    ·rw[hsame (i-d) ct (by omega) k2 k3];exact k6
  ·exact hw.ix b hb cs2 e2 fr2 l2 (by rw[←ho b hbg];exact h1) h2
 obtain⟨cs2,e2,fr2,l2,h1,h0,h2,h3,h4⟩:=hw.typed b hb
 by_cases hbg:b=g
 ·subst hbg
  rw[hc] at h1
  injection h1 with h1;injection h1 with r1 r2 r3
  subst r1;subst r2
  rw[hf] at h2
  cases h2
  refine⟨cs',e,fr',l,hh,hfz,hf,h3,fun i v hv=>?_⟩
  rcases ht i v hv with h|⟨ct,q1,q2⟩
  ·obtain⟨ct,q1,q2⟩:=h4 i v h
   exact⟨ct,q1,q2.mono hx (Nat.le_refl _)⟩
  ·exact⟨ct,q1,q2.mono hx (Nat.le_refl _)⟩
 ·exact⟨cs2,e2,fr2,l2,by rw[ho b hbg];exact h1,h0,h2,h3,fun i v hv=>by obtain⟨ct,q1,q2⟩:=h4 i v hv;exact⟨ct,q1,q2.mono hx (Nat.le_refl _)⟩⟩
end
end Sy
end Go.Proofs.YtmadfhgiaonnlaaGreatDoor
