import Derived.Test.YtmadfhgiaonnlaaGreatDoorPk36
import Derived.Test.YtmadfhgiaonnlaaGreatDoorPk37
set_option linter.unusedVariables false
set_option linter.unusedSimpArgs false
namespace Go.Proofs.YtmadfhgiaonnlaaGreatDoor
namespace Sy
open Go.RowKit Go.Great
section
variable{W0:World}{T T':Nat→Prop}{w W W':World}
theorem fill_whole{cells cs:Array Value}(h:cs.size=cells.size)(z:Nat)(hz:z=cs.size):Instr.fill (fun i=>some (i*z,z)) cells [(0,.agg cs)]=some cs:=by
 subst hz
 have hc:(Value.agg cs).cells=cs:=rfl
 unfold Instr.fill
 simp only[hc,Nat.zero_mul,Nat.zero_add,ne_eq,not_true_eq_false,decide_false,Bool.false_or,gt_iff_lt,decide_eq_true_eq]
 rw[if_neg (by simp;omega)]
 unfold Instr.fill
 congr 1
 apply Array.ext'
 rw[←Array.foldl_toList,Array.toList_zipIdx]
 have:=foldl_set cs.toList cells 0 0 (by simp;omega)
 simp only[Nat.zero_add] at this
 rw[this]
 simp
 omega
theorem wpList_load_rowW{P:Program}{ops:Array Oper}{rest:List Oper}{o:Oper}{a:Act}{w:World}{Q:Exit→Act→World→Prop}(hw:Region.wanted o (yielded ops a.tmps)=true)(ty:TypeId)(x:Operand)(ho:o.op=.load ty x)
  (g:Nat) (hx:a.eval x=.pointer (some ⟨g,0,none⟩)) (t:TypeId) (cs:Array Value) (fr:Nat×Nat) (d:TypeDesc) (hg:w.heap[g]? = some (.cells cs t fr))
  (hu:P.underlying ty=some d) (hd:(match d with|.struct _|.array _ _=>true|_=>false)=true) (hi:(P.info? ty).map (·.size)=some cs.size)
  (h:wpList P ops Q rest (a.put o.dst (.agg cs)) w):wpList P ops Q (o::rest) a w:=
 BigFrame.wpList_want hw fun _ hK=>wp_load_row ty x ho g hx t cs fr d hg hu hd hi (hK _ _ h)
theorem wpList_bsW{P:Program}{ops:Array Oper}{rest:List Oper}{o:Oper}{a:Act}{w:World}{Q:Exit→Act→World→Prop}(hw:Region.wanted o (yielded ops a.tmps)=true)(t e:TypeId)(x:Operand)(ho:o.op=.buildSlice t 1 #[(0,x)])
  (cs:Array Value) (hx:a.eval x=.agg cs) (ie:TypeInfo) (z:Value) (hu:P.underlying t=some (.slice e)) (hie:P.info? e=some ie) (hz:ie.zero=some z) (hsz:ie.size=cs.size) (hs1:cs.size≤1000) (hs0:0<cs.size)
  (h:wpList P ops Q rest (a.put o.dst (.slice (some ⟨w.heap.size,0,none⟩) 1 1)) (w.alloc (.cells cs e))):wpList P ops Q (o::rest) a w:=
 BigFrame.wpList_want hw fun _ hK=>wp_buildSlice t e 1 #[(0,x)] ho cs ie z hu hie hz (by rw[hsz];omega) (by rw[hsz];omega) (by
  have he:((#[(0,x)]:Array (Nat×Operand)).map fun(i,x)=>(i,a.eval x)).toList=[(0,.agg cs)]:=by simp[hx]
  rw[he]
  exact fill_whole (by simp[hsz]) ie.size hsz) (hK _ _ h)
theorem infoO:(Tryz.prog.info? 36).map (fun i=>(i.zero,i.size,i.bytes))=some (some (.agg #[.int .i64 0,.int .i64 0,.string ⟨#[]⟩,.string ⟨#[]⟩,.string ⟨#[]⟩,.string ⟨#[]⟩,.string ⟨#[]⟩,.int .i64 0,.int .i64 0,.int .i64 0,.int .i64 0,.int .i64 0,.int .i64 0,.int .i64 0,.int .i64 0,.int .i64 0,.int .i64 0,.int .i64 0,.string ⟨#[]⟩,.string ⟨#[]⟩,.string ⟨#[]⟩,.bool false,.slice none 0 0,.int .i64 0,.int .i64 0,.int .i64 0,.int .i64 0,.int .i64 0,.string ⟨#[]⟩,.int .i64 0,.int .i64 0,.int .i64 0,.int .i64 0,.slice none 0 0,.slice none 0 0]),35,400):=by kernel_rfl
theorem szE:(Tryz.prog.info? 36).map (·.size)=some 35:=by kernel_rfl
theorem szC:(Tryz.prog.info? 51).map (·.size)=some 13:=by kernel_rfl
theorem szM:(Tryz.prog.info? 31).map (·.size)=some 25:=by kernel_rfl
def LoopSt(w:World)(g3 g5:Nat)(os:Array Value)(W:World):Prop:=∃(T':Nat→Prop) (cc:Array Value),WT cx.tb w T' W∧Hist (fun _=>False) w false T' W∧Bx T' W g3 36 os∧Bx T' W g5 51 cc∧TyVal cx.tb w T' W 0 (.agg tyC) (.agg cc)
theorem wt_none(w:World):WT cx.tb w (fun _=>False) w:=⟨Nat.le_refl _,fun _ _=>rfl,fun _ h=>h.elim,fun _ h=>h.elim,fun _ h=>h.elim⟩
theorem box_put{g:Nat}{t:TypeId}{old cs:Array Value}(hw:WT cx.tb W0 T' W)(hb:Bx T' W g t old)(hg:W0.heap.size≤g):WT cx.tb W0 T' (W.setRow g cs)∧Ext T' W T' (W.setRow g cs):=
 hw.frame (w':=W.setRow g cs) (by rw[size_setRow];exact Nat.le_refl _) (fun k h=>setRow_other W g k _ (by omega)) (fun k h=>setRow_other W g k _ (fun e=>hb.1 (e ▸ h))) (fun k es c h=>by
  have:k≠g:=fun e=>by subst e;rw[hb.2] at h;cases h
  rw[setRow_other W g k _ this];exact h)
theorem hist_none{T':Nat→Prop}{w W:World}(h:Hist (fun _=>False) w false T' W):Below w.heap.size w W:=⟨h.os,h.tape,h.output,h.size,fun b hb=>h.keep b hb (.inr (fun h=>h))⟩
theorem new_call(hT:Tab10 W0)(hw:WT cx.tb W0 T W):Calls Tryz.prog 7 #[.int .i64 100000,.int .i64 5] W fun e W'=>∃(cc:Array Value) (k:Int) (T':Nat→Prop),e=.returned (.tuple #[.agg cc,.int .i64 k])∧TyVal cx.tb W0 T' W' 0 (.agg tyC) (.agg cc)∧Hist T W false T' W'∧WT cx.tb W0 T' W':=by
 refine((h7 hT).use hw (args:=#[.int .i64 100000,.int .i64 5]) ⟨⟨100000,rfl,by decide,by decide⟩,⟨5,rfl,by decide,by decide⟩,trivial⟩ rfl).mono ?_
 rintro e w' ⟨v,vs,T',rfl,hr,hrt,hpo,hh,hw2⟩
 have hl2:=yt hrt
 obtain⟨x,y,rfl⟩:∃x y,vs=[x,y]:=by
  rcases vs with _|⟨a,_|⟨b,_|⟨c,l⟩⟩⟩<;>first|(simp[c7] at hl2;done)|exact⟨_,_,rfl⟩
 have hr:v=.tuple #[x,y]:=hr
 subst hr
 obtain⟨hx,⟨k,rfl,-⟩,-⟩:=hrt
 have hx:TyVal cx.tb W0 T' w' W.heap.size (.agg tyC) x:=hx
 obtain⟨cs,rfl,-⟩:=id hx
 exact⟨cs,k,T',rfl,ja hx (by kernel_rfl) 0,hist_false hh,hw2⟩
theorem apply_call(hT:Tab10 W0)(hw:WT cx.tb W0 T W){cc os:Array Value}(hc:TyVal cx.tb W0 T W 0 (.agg tyC) (.agg cc))(ho:TyVal cx.tb W0 T W 0 (.agg tyO) (.agg os)) :
  Calls Tryz.prog 8 #[.agg cc,.agg os] W fun e W'=>∃(cc':Array Value) (v:Value) (k:Int) (T':Nat→Prop),e=.returned (.tuple #[.agg cc',v,.int .i64 k])∧TyVal cx.tb W0 T' W' 0 (.agg tyC) (.agg cc')∧Hist T W false T' W'∧WT cx.tb W0 T' W':=by
 refine((h8 hT).use hw (args:=#[.agg cc,.agg os]) ⟨ja hc (by kernel_rfl) _,ja ho (by kernel_rfl) _,trivial⟩ rfl).mono ?_
 rintro e w' ⟨v,vs,T',rfl,hr,hrt,hpo,hh,hw2⟩
 have hl2:=yt hrt
 obtain⟨x,y,z,rfl⟩:∃x y z,vs=[x,y,z]:=by
  rcases vs with _|⟨a,_|⟨b,_|⟨c,_|⟨d,l⟩⟩⟩⟩<;>first|(simp[c8] at hl2;done)|exact⟨_,_,_,rfl⟩
 have hr:v=.tuple #[x,y,z]:=hr
 subst hr
 obtain⟨hx,hy,⟨k,rfl,-⟩,-⟩:=hrt
 have hx:TyVal cx.tb W0 T' w' W.heap.size (.agg tyC) x:=hx
 obtain⟨cs,rfl,-⟩:=id hx
 exact⟨cs,y,k,T',rfl,ja hx (by kernel_rfl) 0,hist_false hh,hw2⟩
set_option maxRecDepth 100000 in
set_option maxHeartbeats 8000000 in
theorem law_orders(w:World)(hT:Tab10 w)(v0:Value)(os:Array Value)(h0:RV cx.tb w (.sl 0 36 128) v0)(hos:os.size=35)(hor:∀(k:Nat) (ct:CT) (u:Value),tyO[k]? = some ct→os[k]? = some u→RV cx.tb w ct u) :
  Calls Tryz.prog 4 #[v0,.agg os] w fun e w'=>e=.returned (.bool true)∧Hid (Below w.heap.size w w'):=by
 obtain⟨A,n,c,F,rfl,hn,hops,hav⟩:=ops_of_rv h0
 have HT:=Lib.hid hT
 have HOPS:=Lib.hid hops
 have HAV:=Lib.hid hav
 have hor':∀(k:Nat) (ct:CT) (u:Value),tyO[k]? = some ct→os.toList[k]? = some u→RV cx.tb w ct u:=fun k ct u hk hu=>hor k ct u hk (by simpa using hu)
 have HOC:=Lib.hid (opC_of (by simpa using hos) hor')
 have HOR:=Lib.hid hor'
 have hone:os.all (·.oneCell')=true:=by
  have:=all_oneCell_toArray HOC.out.one
  simpa using this
 have HON:=Lib.hid hone
 have HSZ:=Lib.hid (show(Tryz.prog.info? 36).map (·.size)=some os.size by rw[hos];exact szE)
 have HB1:=Lib.hid (below_new w (.cells os 36))
 have HK3:=Lib.hid (YtmadfhgiaonnlaaGreatDoor.Blk.new w 36 os)
 have HEX:Hid (∀W:World,Calls Tryz.prog 6 #[] W fun e w'=>e=.returned (.bool true)∧Below W.heap.size W w'):=fun W=>Ev.example51 W
 clear hops hav hor hor' h0 hone hT
 go_enter Tryz.func4,Tryz.ntmps4
 go_upto_region 1 with(fail)
 generalize w.alloc (.cells os 36)=w1 at *
 go_wp2_with fail
 refine(small_walk A n c F w1 hn (fun j hj=>by
  obtain⟨b,off,e,h1,h2⟩:=HOPS.out j hj
  exact⟨b,off,e,h1,fun W hb=>h2 W (below_call HB1.out hb)⟩)).mono ?_
 rintro e w2 ⟨q,rfl,hb2,hq⟩
 have HB2:=Lib.hid (below_call HB1.out hb2.out)
 have HK3b:=Lib.hid (HK3.out.call hb2.out)
 have HQ:=Lib.hid hq
 clear hb2 hq HK3 HB1
 cases q with
 | false=>
   go_wp2_with fail
   refine(HEX.out _).mono ?_
   rintro e w3 ⟨rfl,hb3⟩
   have HB3:=Lib.hid (below_call HB2.out hb3)
   go_wp2_with fail
   go_ret
   exact⟨rfl,HB3⟩
 | true=>
 obtain⟨ie,hie,hz1,hz2,-⟩:=Stn.info_parts infoO
 go_wp2_with (first|(refine wpList_load_rowW rfl 36 (.tmp 3) rfl w.heap.size rfl 36 os (0,0) _ HK3b.out Tryz.underlying36 rfl HSZ.out ?_)|(refine wpList_bsW rfl 22 36 (.tmp 18) rfl os rfl ie _ Tryz.underlying22 hie hz1 (by rw[hz2,hos]) (by omega) (by omega) ?_))
 refine(small_walk (some ⟨w2.heap.size,0,none⟩) 1 1 (fun _=>os.toList) (w2.alloc (.cells os 36)) (by omega) (fun j hj=>?_)).mono ?_
 ·obtain rfl:j=0:=by omega
  refine⟨w2.heap.size,0,rfl,HOC.out,fun W hb k u hu=>?_⟩
  have:=((YtmadfhgiaonnlaaGreatDoor.Blk.new w2 36 os).call hb).cell k
  rw[Array.getElem?_toList] at hu
  rw[hu] at this
  simpa using this
 rintro e w3 ⟨q2,rfl,hb3,hq2⟩
 have HB3:=Lib.hid (below_call (below_alloc HB2.out _) hb3.out)
 have HK3c:=Lib.hid ((HK3b.out.alloc (.cells os 36)).call hb3.out)
 have HQ2:=Lib.hid hq2
 clear hb3 hq2 HK3b HB2
 cases q2 with
 | false=>
   go_wp2_with fail
   refine(HEX.out _).mono ?_
   rintro e w4 ⟨rfl,hb4⟩
   have HB4:=Lib.hid (below_call HB3.out hb4)
   go_wp2_with fail
   go_ret
   exact⟨rfl,HB4⟩
 | true=>
 have HAL:=Lib.hid (HAV.out (HQ.out (by first|trivial|rfl)) (by omega))
 have HAO:=Lib.hid (fun(k:Nat) (ct:CT) (u:Value) (hk:tyO[k]? = some ct) (hu:os.toList[k]? = some u)=>op_av HOR.out ((HQ2.out (by first|trivial|rfl)).2 0 (by omega)) k ct u hk hu)
 clear HQ HQ2 HAV HOR HOPS
 go_wp2_with fail
 refine(new_call HT.out (zu (wt_none w) HB3.out).1).mono ?_
 rintro e w4 ⟨cc,kx,T4,rfl,hcT,hh4,hw4⟩
 have HC4:=Lib.hid hcT
 have HW4:=Lib.hid hw4
 have HH4:=Lib.hid ((yx (PU:=false) (wt_none w) HB3.out).comp hh4)
 have HX3:Hid (Bx T4 w4 w.heap.size 36 os):=Bx.at_ (T:=fun _=>False) ⟨fun h=>h,HK3c.out⟩ hh4
 obtain⟨n0,A1,m1,c1,A2,m2,c2,A3,m3,c3,A4,m4,c4,n5,A6,m6,c6,A7,m7,c7,A8,m8,c8,A9,m9,c9,A10,m10,c10,n11,n12,rfl⟩:=cen_lit hcT
 clear hcT hh4 hw4 HK3c HB3
 unfold ceA at HC4 ⊢
 go_upto_region 4 with(fail)
 have HLS:Hid (LoopSt w w.heap.size w4.heap.size os (w4.alloc (.cells #[.int .i64 n0,.slice A1 m1 c1,.slice A2 m2 c2,.slice A3 m3 c3,.slice A4 m4 c4,.int .i64 n5,.slice A6 m6 c6,.slice A7 m7 c7,.slice A8 m8 c8,.slice A9 m9 c9,.slice A10 m10 c10,.int .i64 n11,.int .i64 n12] 51))):=by
  have hb:=below_new w4 (.cells #[.int .i64 n0,.slice A1 m1 c1,.slice A2 m2 c2,.slice A3 m3 c3,.slice A4 m4 c4,.int .i64 n5,.slice A6 m6 c6,.slice A7 m7 c7,.slice A8 m8 c8,.slice A9 m9 c9,.slice A10 m10 c10,.int .i64 n11,.int .i64 n12] 51)
  have hh:=yx (PU:=true) HW4.out hb
  exact⟨T4,_,(zu HW4.out hb).1,HH4.out.comp hh,HX3.out.at_ hh,⟨fun h=>by have:=HW4.out.lt h;omega,YtmadfhgiaonnlaaGreatDoor.Blk.new w4 51 _⟩,qf hh.ext HC4.out⟩
 have hg5:w.heap.size≤w4.heap.size:=HH4.out.size
 clear HC4 HW4 HH4 HX3
 generalize w4.alloc (.cells #[.int .i64 n0,.slice A1 m1 c1,.slice A2 m2 c2,.slice A3 m3 c3,.slice A4 m4 c4,.int .i64 n5,.slice A6 m6 c6,.slice A7 m7 c7,.slice A8 m8 c8,.slice A9 m9 c9,.slice A10 m10 c10,.int .i64 n11,.int .i64 n12] 51)=w5 at *
 generalize w4.heap.size=g5 at *
 go_wp2_with fail
 go_loopg [30] n (fun gg s30 wr=>∃j:Nat,j+gg=n∧s30=.int .i64 j∧Hid (LoopSt w w.heap.size g5 os wr))
 case atStart=>exact⟨0,by omega,rfl,HLS⟩
 case round=>
  clear HLS
  obtain⟨j,hj,rfl,HL⟩:=hrel
  obtain⟨T',cc,hw,hh,hb3,hb5,hc⟩:=HL.out
  by_cases hjn:j<n
  ·obtain⟨b,off,r,rfl,hrl,hrt,hcl⟩:=rows_at hw flO (show CV cx.tb w T' wr 0 (.sl 0 36 128) (.slice A n c) from .inr (.inl ⟨rfl,HAL.out⟩)) hjn
   have hltz:(j:Int)<(n:Int):=by omega
   have hj0:(0:Int)≤(j:Int):=by omega
   have e4:IntKind.i64.wrap ((j:Int)+1)=((j+1:Nat):Int):=by simp[IntKind.wrap,IntKind.bits,IntKind.signed];omega
   have hrl:r.length=35:=hrl
   have hoT:TyVal cx.tb w T' wr 0 (.agg tyO) (.agg r.toArray):=⟨_,rfl,by simpa using hrl,fun i ct u hi hu=>hrt i ct u hi (by simpa using hu)⟩
   obtain⟨-,hro⟩:=ag_one hoT
   obtain⟨hcs,hcone⟩:=ag_one hc
   have HW:=Lib.hid hw
   have HH:=Lib.hid hh
   have HB3:=Lib.hid hb3
   have HB5:=Lib.hid hb5
   have HC:=Lib.hid hc
   have HO:=Lib.hid hoT
   have HRG:=Lib.hid (show wr.rangeAt b (off+j*35) r from fun o u hu=>hcl wr (Below.refl _ _) o u hu)
   have HRO:=Lib.hid hro
   have HCS:=Lib.hid (show(Tryz.prog.info? 51).map (·.size)=some cc.size by rw[hcs];exact szC)
   clear hw hh hb3 hb5 hc hoT hcl hrt hro hcone HL
   go_upto_region 6 with(fail)
   refine wp_region_lit ?_
   refine lRun (w':=wr) rfl (.pointer (some ⟨b,off+j*35,none⟩)) (by go_simp) ?_
   refine wpList_load_mid rfl 36 (.tmp 32) rfl b (off+j*35) rfl r _ HRG.out Tryz.underlying36 rfl (by rw[hrl];exact szE) ?_
   refine lRun (w':=wr.alloc (.cells #[.int .i64 0,.int .i64 0,.string ⟨#[]⟩,.string ⟨#[]⟩,.string ⟨#[]⟩,.string ⟨#[]⟩,.string ⟨#[]⟩,.int .i64 0,.int .i64 0,.int .i64 0,.int .i64 0,.int .i64 0,.int .i64 0,.int .i64 0,.int .i64 0,.int .i64 0,.int .i64 0,.int .i64 0,.string ⟨#[]⟩,.string ⟨#[]⟩,.string ⟨#[]⟩,.bool false,.slice none 0 0,.int .i64 0,.int .i64 0,.int .i64 0,.int .i64 0,.int .i64 0,.string ⟨#[]⟩,.int .i64 0,.int .i64 0,.int .i64 0,.int .i64 0,.slice none 0 0,.slice none 0 0] 36)) rfl (.pointer (some ⟨wr.heap.size,0,none⟩)) (by kernel_rfl) ?_
   refine wpList_store_rowTo rfl 36 (.tmp 8) (.tmp 33) rfl rfl wr.heap.size r.toArray rfl rfl 36 #[.int .i64 0,.int .i64 0,.string ⟨#[]⟩,.string ⟨#[]⟩,.string ⟨#[]⟩,.string ⟨#[]⟩,.string ⟨#[]⟩,.int .i64 0,.int .i64 0,.int .i64 0,.int .i64 0,.int .i64 0,.int .i64 0,.int .i64 0,.int .i64 0,.int .i64 0,.int .i64 0,.int .i64 0,.string ⟨#[]⟩,.string ⟨#[]⟩,.string ⟨#[]⟩,.bool false,.slice none 0 0,.int .i64 0,.int .i64 0,.int .i64 0,.int .i64 0,.int .i64 0,.string ⟨#[]⟩,.int .i64 0,.int .i64 0,.int .i64 0,.int .i64 0,.slice none 0 0,.slice none 0 0] (heap_alloc_last _ _) (by simp only[List.size_toArray,hrl];exact szE) (by simp only[List.size_toArray,hrl];rfl) HRO.out ?_
   rw[World.setRow_alloc_new]
   simp[Act.put]
   have hbn:=below_new wr (.cells r.toArray 36)
   have hhn:=yx (PU:=true) HW.out hbn
   have HB8:=Lib.hid (YtmadfhgiaonnlaaGreatDoor.Blk.new wr 36 r.toArray)
   replace HW:=Lib.hid (zu HW.out hbn).1
   replace HH:=Lib.hid (HH.out.comp hhn)
   replace HB3:=Lib.hid (HB3.out.at_ hhn)
   replace HB5:=Lib.hid (HB5.out.at_ hhn)
   replace HC:=Lib.hid (qf hhn.ext HC.out)
   replace HO:=Lib.hid (qf hhn.ext HO.out)
   clear hbn hhn
   generalize wr.alloc (.cells r.toArray 36)=w7 at *
   generalize wr.heap.size=g8 at *
   have hrsz:(Tryz.prog.info? 36).map (·.size)=some r.toArray.size:=by simp only[List.size_toArray,hrl];exact szE
   go_wp2_with (first|(refine wpList_load_row rfl 51 (.tmp 5) rfl g5 rfl 51 cc (0,0) _ HB5.out.2 Tryz.underlying51 rfl HCS.out ?_)|(refine wpList_load_row rfl 36 (.tmp 8) rfl g8 rfl 36 r.toArray (0,0) _ HB8.out Tryz.underlying36 rfl hrsz ?_))
   refine(apply_call HT.out HW.out HC.out HO.out).mono ?_
   rintro e w9 ⟨cc',v,k,T9,rfl,hc9,hh9,hw9⟩
   have hcs9:=(ag_one hc9).1
   have hon9:=(ag_one hc9).2
   have hb59:=HB5.out.at_ hh9
   have hb39:=HB3.out.at_ hh9
   have HL9:Hid (LoopSt w w.heap.size g5 os (w9.setRow g5 cc')):=by
    obtain⟨k1,k2⟩:=box_put (cs:=cc') hw9 hb59 hg5
    have hsz:=hh9.size
    have hlt3:=hb39.2.lt
    have hne:w.heap.size≠g5:=by
     intro e
     have e1:w9.heap[w.heap.size]? = some (.cells os 36 (0,0)):=hb39.2
     have e2:w9.heap[g5]? = some (.cells cc 51 (0,0)):=hb59.2
     rw[e,e2] at e1
     injection e1 with e1;injection e1 with _ e1 _
     exact absurd e1 (by decide)
    have hh10:=HH.out.comp hh9
    refine⟨T9,cc',k1,⟨hh10.ext.trans k2,hh10.new,by rw[size_setRow];exact hh10.size,hh10.os,hh10.tape,hh10.output,fun x hx hn=>(setRow_other w9 g5 x _ (by omega)).trans (hh10.keep x hx hn)⟩,⟨hb39.1,(setRow_other w9 g5 _ _ hne).trans hb39.2⟩,⟨hb59.1,setRow_heap w9 g5 cc cc' 51 (0,0) hb59.2⟩,qf k2 hc9⟩
   have HB59:=Lib.hid hb59.2
   clear hc9 hh9 hw9 hb39 hb59
   go_wp2_with (refine wpList_store_rowTo rfl 51 (.tmp 5) (.tmp 38) rfl rfl g5 cc' rfl rfl 51 cc HB59.out (by rw[hcs9];exact szC) (by rw[hcs,hcs9]) hon9 ?_)
   go_roundg (n-(j+1))
   case measure=>omega
   case rel=>exact⟨j+1,by omega,by simp,HL9⟩
  ·have hjn':n=j:=by omega
   subst hjn'
   obtain⟨n0,A1,m1,c1,A2,m2,c2,A3,m3,c3,A4,m4,c4,n5,A6,m6,c6,A7,m7,c7,A8,m8,c8,A9,m9,c9,A10,m10,c10,n11,n12,rfl⟩:=cen_lit hc
   unfold ceA at *
   have HW:=Lib.hid hw
   have HH:=Lib.hid hh
   have HB3:=Lib.hid hb3
   have HB5:=Lib.hid hb5
   have HC:=Lib.hid hc
   obtain⟨s2,e2⟩:=HOC.out.st 2 (by omega)
   obtain⟨s3,e3⟩:=HOC.out.st 3 (by omega)
   have hl35:=HOC.out.len
   obtain⟨a2,e12,ha2⟩:∃a2,os.toList[12]? = some (.int .i64 a2)∧R64' a2:=by
    obtain⟨u,hu⟩:∃u,os.toList[12]? = some u:=⟨_,List.getElem?_eq_getElem (show 12<os.toList.length by omega)⟩
    have:=HAO.out 12 (full .i64) u rfl hu
    cases this with
    | int h1 h2=>exact⟨_,hu,h1,h2⟩
   have z2:s2.size≤maxLen:=by
    have:=HAO.out 2 (.str maxLen) _ rfl e2
    cases this with
    | str h=>exact h
   have z3:s3.size≤maxLen:=by
    have:=HAO.out 3 (.str maxLen) _ rfl e3
    cases this with
    | str h=>exact h
   have k2:wr.cell? ⟨w.heap.size,2,none⟩=some (.string s2):=(HB3.out.2.cell 2).trans (by rw[←Array.getElem?_toList];exact e2)
   have k3:wr.cell? ⟨w.heap.size,3,none⟩=some (.string s3):=(HB3.out.2.cell 3).trans (by rw[←Array.getElem?_toList];exact e3)
   have HRM:Hid (wr.rangeAt w.heap.size 10 (os.toList.drop 10)):=fun o u hu=>by
    rw[List.getElem?_drop] at hu
    exact(HB3.out.2.cell (10+o)).trans (by rw[←Array.getElem?_toList];exact hu)
   have HMT:Hid (TyVal cx.tb w T' wr wr.heap.size (.agg tyM) (.agg (os.toList.drop 10).toArray)):=⟨_,rfl,by simp[hos],fun i ct u hi hu=>by
    rw[List.getElem?_toArray,List.getElem?_drop] at hu
    exact(HAO.out (10+i) ct u (by
     have hil:i<25:=(List.getElem?_eq_some_iff.1 hi).1
     have hq:∀i:Fin 25,tyO[10+i.1]? = tyM[i.1]?:=by decide
     exact(hq ⟨i,hil⟩).trans hi) hu).cv⟩
   have k5:=HB5.out.2.cell
   clear hw hh hb3 hb5 hc HL
   go_wp2_with (refine wpList_load_mid rfl 31 (.tmp 48) rfl w.heap.size 10 rfl (os.toList.drop 10) _ HRM.out Tryz.underlying31 rfl (by rw[List.length_drop,hl35];exact szM) ?_)
   refine(order_walk HT.out HW.out _ _ n0 A1 m1 c1 A8 m8 c8 a2 s2 s3 (ja HC.out (by kernel_rfl) _) rfl rfl rfl HMT.out (by rw[List.getElem?_toArray,List.getElem?_drop];exact e12) ha2 z2 z3).mono ?_
   rintro e w7 ⟨dd,k,rfl,hsz7,hos7,hkeep,hcase⟩
   have hb57:YtmadfhgiaonnlaaGreatDoor.Blk w7 g5 51 #[.int .i64 n0,.slice A1 m1 c1,.slice A2 m2 c2,.slice A3 m3 c3,.slice A4 m4 c4,.int .i64 n5,.slice A6 m6 c6,.slice A7 m7 c7,.slice A8 m8 c8,.slice A9 m9 c9,.slice A10 m10 c10,.int .i64 n11,.int .i64 n12]:=(hkeep g5 HB5.out.2.lt HB5.out.1).trans HB5.out.2
   have hb37:YtmadfhgiaonnlaaGreatDoor.Blk w7 w.heap.size 36 os:=(hkeep _ HB3.out.2.lt HB3.out.1).trans HB3.out.2
   have HBW:Hid (Below w.heap.size w w7):=by
    have h1:=hist_none HH.out
    exact⟨hos7.1.trans h1.os,hos7.2.1.trans h1.tape,hos7.2.2.trans h1.output,Nat.le_trans h1.size hsz7,fun b hb=>(hkeep b (Nat.lt_of_lt_of_le hb h1.size) (fun ht=>by have:=HW.out.home b ht;omega)).trans (h1.block b hb)⟩
   have HB57:=Lib.hid hb57
   have HB37:=Lib.hid hb37
   clear k2 k3 k5 hsz7 hos7 hkeep hb57 hb37
   rcases hcase with⟨hk,rfl,T7,hw7,hx7⟩|⟨rfl,l,x,A,cA,n0',A1',m1',c1',A2',m2',c2',A3',m3',c3',A4',m4',c4',n5',A6',m6',c6',A7',m7',c7',A9',m9',c9',A10',m10',c10',n11',n12',rfl,hl8,hln,hch,x1,x2,x3⟩
   ·have HC7:=Lib.hid (qf hx7 HC.out)
    have HW7:=Lib.hid hw7
    have hkz:(k != 0)=true:=by simpa using hk
    clear hw7 hx7
    go_upto_region 10 with(fail)
    have hbn:=below_new w7 (.cells #[.int .i64 n0,.slice A1 m1 c1,.slice A2 m2 c2,.slice A3 m3 c3,.slice A4 m4 c4,.int .i64 n5,.slice A6 m6 c6,.slice A7 m7 c7,.slice A8 m8 c8,.slice A9 m9 c9,.slice A10 m10 c10,.int .i64 n11,.int .i64 n12] 51)
    have HW8:=Lib.hid (zu HW7.out hbn).1
    have HC8:=Lib.hid (qf (zu HW7.out hbn).2 HC7.out)
    have HB58:=Lib.hid (HB57.out.call hbn)
    have HB98:=Lib.hid (YtmadfhgiaonnlaaGreatDoor.Blk.new w7 51 #[.int .i64 n0,.slice A1 m1 c1,.slice A2 m2 c2,.slice A3 m3 c3,.slice A4 m4 c4,.int .i64 n5,.slice A6 m6 c6,.slice A7 m7 c7,.slice A8 m8 c8,.slice A9 m9 c9,.slice A10 m10 c10,.int .i64 n11,.int .i64 n12])
    have HBW8:=Lib.hid (below_call HBW.out hbn)
    clear hbn
    generalize w7.alloc (.cells #[.int .i64 n0,.slice A1 m1 c1,.slice A2 m2 c2,.slice A3 m3 c3,.slice A4 m4 c4,.int .i64 n5,.slice A6 m6 c6,.slice A7 m7 c7,.slice A8 m8 c8,.slice A9 m9 c9,.slice A10 m10 c10,.int .i64 n11,.int .i64 n12] 51)=w8 at *
    generalize w7.heap.size=g9 at *
    have k5:=HB58.out.cell
    have k9:=HB98.out.cell
    go_wp2_with fail
    refine(same11 w8 (ce_self HW8.out HC8.out)).mono ?_
    rintro e w9 ⟨rfl,hb9⟩
    have HB9:=Lib.hid (below_call HBW8.out hb9.out)
    go_wp2_with fail
    go_ret
    exact⟨rfl,HB9⟩
   ·unfold ceA at *
    subst hl8
    have HLN:=Lib.hid hln
    have HCH:=Lib.hid hch
    clear hln hch
    go_upto_region 10 with(fail)
    have hlen:=HCH.out.1
    have hll:(l++[x]).length=l.length+1:=by simp
    obtain⟨bA,oA,rfl,hrg,-,-,-⟩:=HLN.out.at_ (j:=l.length) (by omega)
    have hxl:(l++[x])[l.length]'(by omega)=x:=by simp
    rw[hxl] at hrg
    subst x1
    subst x2
    subst x3
    have hbn:=below_new w7 (.cells #[.int .i64 n0',.slice A1' m1' c1',.slice A2' m2' c2',.slice A3' m3' c3',.slice A4' m4' c4',.int .i64 n5',.slice A6' m6' c6',.slice A7' m7' c7',.slice (some ⟨bA,oA,none⟩) (l.length+1) cA,.slice A9' m9' c9',.slice A10' m10' c10',.int .i64 n11',.int .i64 n12'] 51)
    have HV:=Lib.hid (Ver.verify_ (some ⟨bA,oA,none⟩) (l.length+1) cA (l++[x]) (w7.alloc (.cells #[.int .i64 n0',.slice A1' m1' c1',.slice A2' m2' c2',.slice A3' m3' c3',.slice A4' m4' c4',.int .i64 n5',.slice A6' m6' c6',.slice A7' m7' c7',.slice (some ⟨bA,oA,none⟩) (l.length+1) cA,.slice A9' m9' c9',.slice A10' m10' c10',.int .i64 n11',.int .i64 n12'] 51)) (HLN.out.call hbn) HCH.out)
    have HRG:Hid (∀W,Below (w7.alloc (.cells #[.int .i64 n0',.slice A1' m1' c1',.slice A2' m2' c2',.slice A3' m3' c3',.slice A4' m4' c4',.int .i64 n5',.slice A6' m6' c6',.slice A7' m7' c7',.slice (some ⟨bA,oA,none⟩) (l.length+1) cA,.slice A9' m9' c9',.slice A10' m10' c10',.int .i64 n11',.int .i64 n12'] 51)).heap.size (w7.alloc (.cells #[.int .i64 n0',.slice A1' m1' c1',.slice A2' m2' c2',.slice A3' m3' c3',.slice A4' m4' c4',.int .i64 n5',.slice A6' m6' c6',.slice A7' m7' c7',.slice (some ⟨bA,oA,none⟩) (l.length+1) cA,.slice A9' m9' c9',.slice A10' m10' c10',.int .i64 n11',.int .i64 n12'] 51)) W→W.rangeAt bA (oA+l.length*6) (Cen.lnA x).toList):=fun W hb=>hrg W (Kept.of (below_call hbn hb))
    have HB58:=Lib.hid (HB57.out.call hbn)
    have HB38:=Lib.hid (HB37.out.call hbn)
    have HB98:=Lib.hid (YtmadfhgiaonnlaaGreatDoor.Blk.new w7 51 #[.int .i64 n0',.slice A1' m1' c1',.slice A2' m2' c2',.slice A3' m3' c3',.slice A4' m4' c4',.int .i64 n5',.slice A6' m6' c6',.slice A7' m7' c7',.slice (some ⟨bA,oA,none⟩) (l.length+1) cA,.slice A9' m9' c9',.slice A10' m10' c10',.int .i64 n11',.int .i64 n12'])
    have HBW8:=Lib.hid (below_call HBW.out hbn)
    clear hbn hrg hxl hll
    generalize w7.alloc (.cells #[.int .i64 n0',.slice A1' m1' c1',.slice A2' m2' c2',.slice A3' m3' c3',.slice A4' m4' c4',.int .i64 n5',.slice A6' m6' c6',.slice A7' m7' c7',.slice (some ⟨bA,oA,none⟩) (l.length+1) cA,.slice A9' m9' c9',.slice A10' m10' c10',.int .i64 n11',.int .i64 n12'] 51)=w8 at *
    generalize w7.heap.size=g9 at *
    have k5:=HB58.out.cell
    have k9:=HB98.out.cell
    have hlz:l.length≤5000:=by
     have h1:=HCH.out.1
     simp at h1
     omega
    go_wp2_with fail
    refine HV.out.mono ?_
    rintro e w9 ⟨rfl,hb9⟩
    clear k5 k9
    have HB99:=Lib.hid (HB98.out.call hb9.out)
    have k9:=HB99.out.cell
    have HB59:=Lib.hid (HB58.out.call hb9.out)
    have k5:=HB59.out.cell
    have HB39:=Lib.hid (HB38.out.call hb9.out)
    have HBW9:=Lib.hid (below_call HBW8.out hb9.out)
    have hr9:=HRG.out w9 hb9.out
    have r0:w9.cell? ⟨bA,oA+l.length*6,none⟩=some (.int .i64 x.sq):=by simpa using hr9 0 (.int .i64 x.sq) rfl
    have r1:w9.cell? ⟨bA,oA+l.length*6+1,none⟩=_:=hr9 1 (.int .i64 x.at_) rfl
    have r2:w9.cell? ⟨bA,oA+l.length*6+2,none⟩=_:=hr9 2 (.string x.who) rfl
    have r3:w9.cell? ⟨bA,oA+l.length*6+3,none⟩=_:=hr9 3 (.string x.what) rfl
    have r4:w9.cell? ⟨bA,oA+l.length*6+4,none⟩=_:=hr9 4 (.string x.on_) rfl
    have r5:w9.cell? ⟨bA,oA+l.length*6+5,none⟩=_:=hr9 5 (.int .u64 x.sum) rfl
    have f2:∀ob,(w9.alloc ob).cell? ⟨w.heap.size,2,none⟩=some (.string x.who):=fun ob=>((HB39.out.alloc ob).cell 2).trans (by rw[←Array.getElem?_toList];exact e2)
    have f3:∀ob,(w9.alloc ob).cell? ⟨w.heap.size,3,none⟩=some (.string x.on_):=fun ob=>((HB39.out.alloc ob).cell 3).trans (by rw[←Array.getElem?_toList];exact e3)
    have f0:∀ob,(w9.alloc ob).cell? ⟨g5,0,none⟩=some (.int .i64 x.at_):=fun ob=>(HB59.out.alloc ob).cell 0
    have hlt1:(l.length:Int)<((l.length+1:Nat):Int):=by omega
    have hlt0:(0:Int)≤(l.length:Int):=by omega
    have e4:IntKind.i64.wrap ((l.length:Int)+1)=((l.length+1:Nat):Int):=by simp[IntKind.wrap,IntKind.bits,IntKind.signed];omega
    have e5:IntKind.i64.wrap (((l.length+1:Nat):Int)-1)=(l.length:Int):=by simp[IntKind.wrap,IntKind.bits,IntKind.signed];omega
    clear hr9
    go_wp2_with fail
    go_ret
    exact⟨rfl,below_alloc HBW9.out _⟩
end
end Sy
end Go.Proofs.YtmadfhgiaonnlaaGreatDoor
