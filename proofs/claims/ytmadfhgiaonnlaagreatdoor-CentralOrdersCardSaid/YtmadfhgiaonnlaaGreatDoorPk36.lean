import Derived.Test.YtmadfhgiaonnlaaGreatDoorPk35
set_option linter.unusedVariables false
set_option linter.unusedSimpArgs false
namespace Go.Proofs.YtmadfhgiaonnlaaGreatDoor
namespace Sy
open Go.RowKit Go.Great
section
variable{W0:World}{T:Nat→Prop}{w:World}
def Bx(T:Nat→Prop)(w1:World)(g:Nat)(t:TypeId)(cs:Array Value):Prop:=¬T g∧YtmadfhgiaonnlaaGreatDoor.Blk w1 g t cs
theorem Bx.at_{T T':Nat→Prop}{w1 W:World}{g:Nat}{t:TypeId}{cs:Array Value}(h:Bx T w1 g t cs){pu:Bool}(hh:Hist T w1 pu T' W):Bx T' W g t cs:=by
 have hg:=h.2.lt
 refine⟨fun ht=>?_,(hh.keep g hg (.inr h.1)).trans h.2⟩
 rcases hh.new g ht with ht|ht
 ·exact h.1 ht
 ·omega
theorem ord_ret{tmps:Array Value}{W:World}{g:Nat}{cs:Array Value}{k:Int}(hp:tmps.getD 8 undef=.pointer (some ⟨g,0,none⟩))(hk:tmps.getD 9 undef=.int .i64 k)(hg:W.heap[g]? = some (.cells cs 51 (0,0)))(hs:(Tryz.prog.info? 51).map (·.size)=some cs.size) :
  (results Tryz.f12 tmps).run Tryz.prog W=.ok (.tuple #[.agg cs,.int .i64 k]) W:=by
 have hp':tmps[8]?.getD undef=.pointer (some ⟨g,0,none⟩):=by simpa using hp
 have hk':tmps[9]?.getD undef=.int .i64 k:=by simpa using hk
 simp[results,Tryz.f12,hp',hk',asAddr,run_loadVar_row W g 51 51 cs (0,0) _ hg Tryz.underlying51 rfl hs]
theorem ord_err{cc:Array Value}{n0:Int}{m8:Nat}{who st:ByteArray}{k:Int}{T':Nat→Prop}{W:World}{g:Nat}{z:Array Value}(hk:k≠0)(hw:WT cx.tb W0 T' W)(hh:Hist T w false T' W)(hg:w.heap.size≤g)(hb:Bx T' W g 51 z)(h0:W0.heap.size≤w.heap.size) :
  OrdPost W0 T w cc n0 m8 who st (.returned (.tuple #[.agg cc,.int .i64 k])) (W.setRow g cc):=by
 obtain⟨k1,k2⟩:=hw.frame (w':=W.setRow g cc) (by rw[size_setRow];exact Nat.le_refl _) (fun k h=>setRow_other W g k _ (by omega)) (fun k h=>setRow_other W g k _ (fun e=>hb.1 (e ▸ h))) (fun k es c h=>by
  have:k≠g:=fun e=>by subst e;rw[hb.2] at h;cases h
  rw[setRow_other W g k _ this];exact h)
 exact⟨cc,k,rfl,by rw[size_setRow];exact hh.size,⟨hh.os,hh.tape,hh.output⟩,fun b hb' hn=>(setRow_other W g b _ (by omega)).trans (hh.keep b hb' (.inr hn)),.inl ⟨hk,rfl,T',k1,hh.ext.trans k2⟩⟩
set_option maxRecDepth 100000 in
set_option maxHeartbeats 8000000 in
theorem order_walk(hT:Tab10 W0)(hw:WT cx.tb W0 T w)(cc ms:Array Value)(n0:Int)(A1:Option Addr)(m1 c1:Nat)(A8:Option Addr)(m8 c8:Nat)(a2:Int)(who st:ByteArray)
  (hc:TyVal cx.tb W0 T w w.heap.size (.agg tyC) (.agg cc)) (e0:cc[0]? = some (.int .i64 n0)) (e1:cc[1]? = some (.slice A1 m1 c1)) (e8:cc[8]? = some (.slice A8 m8 c8)) (hm:TyVal cx.tb W0 T w w.heap.size (.agg tyM) (.agg ms)) (hm2:ms[2]? = some (.int .i64 a2)) (ha2:R64' a2) (hwho:who.size≤maxLen) (hst:st.size≤maxLen) :
  Calls Tryz.prog 12 #[.agg cc,.string who,.string st,.agg ms] w (OrdPost W0 T w cc n0 m8 who st):=by
 have hB:Below w.heap.size w (((w.alloc (.cells cc 51)).alloc (.cells ms 31)).alloc (.cells #[.int .i64 0,.slice none 0 0,.slice none 0 0,.slice none 0 0,.slice none 0 0,.int .i64 0,.slice none 0 0,.slice none 0 0,.slice none 0 0,.slice none 0 0,.slice none 0 0,.int .i64 0,.int .i64 0] 51)):=below_alloc (below_alloc (below_new w _) _) _
 obtain⟨hw1,hx1⟩:=zu hw hB
 have HW:=Lib.hid hw1
 have HH0:=Lib.hid (yx (PU:=false) hw hB)
 have HC:=Lib.hid (ja (qf hx1 hc) (by kernel_rfl) 0)
 have HM:=Lib.hid (ja (qf hx1 hm) (by kernel_rfl) 0)
 have hg4:¬T w.heap.size:=fun h=>by have:=hw.lt h;omega
 have hg7:¬T (w.heap.size+1):=fun h=>by have:=hw.lt h;omega
 have hg8:¬T (w.heap.size+1+1):=fun h=>by have:=hw.lt h;omega
 have HB4:Hid (Bx T (((w.alloc (.cells cc 51)).alloc (.cells ms 31)).alloc (.cells #[.int .i64 0,.slice none 0 0,.slice none 0 0,.slice none 0 0,.slice none 0 0,.int .i64 0,.slice none 0 0,.slice none 0 0,.slice none 0 0,.slice none 0 0,.slice none 0 0,.int .i64 0,.int .i64 0] 51)) w.heap.size 51 cc):=⟨hg4,((YtmadfhgiaonnlaaGreatDoor.Blk.new w 51 _).alloc _).alloc _⟩
 have HB7:Hid (Bx T (((w.alloc (.cells cc 51)).alloc (.cells ms 31)).alloc (.cells #[.int .i64 0,.slice none 0 0,.slice none 0 0,.slice none 0 0,.slice none 0 0,.int .i64 0,.slice none 0 0,.slice none 0 0,.slice none 0 0,.slice none 0 0,.slice none 0 0,.int .i64 0,.int .i64 0] 51)) (w.heap.size+1) 31 ms):=⟨hg7,by
  have:=(YtmadfhgiaonnlaaGreatDoor.Blk.new (w.alloc (.cells cc 51)) 31 ms).alloc (.cells #[.int .i64 0,.slice none 0 0,.slice none 0 0,.slice none 0 0,.slice none 0 0,.int .i64 0,.slice none 0 0,.slice none 0 0,.slice none 0 0,.slice none 0 0,.slice none 0 0,.int .i64 0,.int .i64 0] 51)
  rwa [show(w.alloc (.cells cc 51)).heap.size=w.heap.size+1 by simp] at this⟩
 have HB8:Hid (Bx T (((w.alloc (.cells cc 51)).alloc (.cells ms 31)).alloc (.cells #[.int .i64 0,.slice none 0 0,.slice none 0 0,.slice none 0 0,.slice none 0 0,.int .i64 0,.slice none 0 0,.slice none 0 0,.slice none 0 0,.slice none 0 0,.slice none 0 0,.int .i64 0,.int .i64 0] 51)) (w.heap.size+1+1) 51 #[.int .i64 0,.slice none 0 0,.slice none 0 0,.slice none 0 0,.slice none 0 0,.int .i64 0,.slice none 0 0,.slice none 0 0,.slice none 0 0,.slice none 0 0,.slice none 0 0,.int .i64 0,.int .i64 0]):=⟨hg8,by
  have:=YtmadfhgiaonnlaaGreatDoor.Blk.new ((w.alloc (.cells cc 51)).alloc (.cells ms 31)) 51 #[.int .i64 0,.slice none 0 0,.slice none 0 0,.slice none 0 0,.slice none 0 0,.int .i64 0,.slice none 0 0,.slice none 0 0,.slice none 0 0,.slice none 0 0,.slice none 0 0,.int .i64 0,.int .i64 0]
  rwa [show((w.alloc (.cells cc 51)).alloc (.cells ms 31)).heap.size=w.heap.size+1+1 by simp] at this⟩
 have HM2:=Lib.hid hm2
 have HN0:Hid (R64' n0):=by
  obtain⟨cs',e,-,ha⟩:=hc
  cases e
  obtain⟨n,q,q1,q2⟩:=ha 0 _ _ rfl e0
  cases q
  exact⟨q1,q2⟩
 have HE0:=Lib.hid e0
 have HE1:=Lib.hid e1
 have HE8:=Lib.hid e8
 obtain⟨hs13,hone⟩:=ag_one hc
 have HSZ:=Lib.hid (show(Tryz.prog.info? 51).map (·.size)=some cc.size by rw[hs13];kernel_rfl)
 have HS8:=Lib.hid (show(#[.int .i64 0,.slice none 0 0,.slice none 0 0,.slice none 0 0,.slice none 0 0,.int .i64 0,.slice none 0 0,.slice none 0 0,.slice none 0 0,.slice none 0 0,.slice none 0 0,.int .i64 0,.int .i64 0]:Array Value).size=cc.size by rw[hs13];rfl)
 have HON:=Lib.hid hone
 have hWs:=hw.size
 clear hw hc hm hB hw1 hx1 hg4 hg7 hg8 hm2 e0 e1 e8 hone
 go_enter Tryz.func12,Tryz.ntmps12
 go_upto_region 1 with(fail)
 generalize (((w.alloc (.cells cc 51)).alloc (.cells ms 31)).alloc (.cells #[.int .i64 0,.slice none 0 0,.slice none 0 0,.slice none 0 0,.slice none 0 0,.int .i64 0,.slice none 0 0,.slice none 0 0,.slice none 0 0,.slice none 0 0,.slice none 0 0,.int .i64 0,.int .i64 0] 51))=w1 at *
 have hbl:w.heap.size+1+1<w1.heap.size:=HB8.out.2.lt
 have hg4w:w.heap.size≤w.heap.size:=Nat.le_refl _
 generalize hg4:w.heap.size=g4 at *
 go_wp2_with ((refine wpList_load_row rfl 51 (.tmp 4) rfl g4 rfl 51 cc (0,0) _ HB4.out.2 Tryz.underlying51 rfl HSZ.out ?_))
 refine(idx_call (h18 hT) HW.out HE1.out (ja HC.out (by kernel_rfl) _) hst).mono ?_
 rintro e w2 ⟨k,T2,rfl,hk0,hk1,hh2,hw2⟩
 have HH:Hid (Hist T w1 false T2 w2):=hh2
 replace HW:Hid (WT cx.tb W0 T2 w2):=hw2
 replace HB4:=Lib.hid (HB4.out.at_ hh2)
 replace HB7:=Lib.hid (HB7.out.at_ hh2)
 replace HB8:=Lib.hid (HB8.out.at_ hh2)
 replace HC:=Lib.hid (qf hh2.ext HC.out)
 replace HM:=Lib.hid (qf hh2.ext HM.out)
 have hlt:=hh2.size
 clear hw2 hh2
 by_cases zk:k<0
 ·go_wp2_with (first|(refine wpList_load_row rfl 51 (.tmp 4) rfl g4 rfl 51 cc (0,0) _ HB4.out.2 Tryz.underlying51 rfl HSZ.out ?_)|(refine wpList_store_rowTo rfl 51 (.tmp 8) (.tmp 21) rfl rfl (g4+1+1) cc rfl rfl 51 _ HB8.out.2 HSZ.out HS8.out HON.out ?_))
  exact⟨rfl,_,ord_ret rfl rfl (setRow_heap _ _ _ _ _ _ HB8.out.2) HSZ.out,ord_err (by decide) HW.out (HH0.out.comp HH.out) (by omega) HB8.out (by omega)⟩
 obtain⟨kk,rfl⟩:∃kk:Nat,k=kk:=⟨k.toNat,by omega⟩
 have hkm:kk<m1:=by omega
 clear hk0 hk1
 go_wp2_with fail
 refine(val_call (h29 hT) HW.out hwho).mono ?_
 rintro e w3 ⟨q,T3,rfl,hh2,hw2⟩
 replace HH:=Lib.hid (HH.out.comp hh2)
 replace HW:=Lib.hid hw2
 replace HB4:=Lib.hid (HB4.out.at_ hh2)
 replace HB7:=Lib.hid (HB7.out.at_ hh2)
 replace HB8:=Lib.hid (HB8.out.at_ hh2)
 replace HC:=Lib.hid (qf hh2.ext HC.out)
 replace HM:=Lib.hid (qf hh2.ext HM.out)
 replace hlt:=Nat.le_trans hlt hh2.size
 clear hw2 hh2
 cases q with
 | false=>
   go_wp2_with (first|(refine wpList_load_row rfl 51 (.tmp 4) rfl g4 rfl 51 cc (0,0) _ HB4.out.2 Tryz.underlying51 rfl HSZ.out ?_)|(refine wpList_store_rowTo rfl 51 (.tmp 8) (.tmp 25) rfl rfl (g4+1+1) cc rfl rfl 51 _ HB8.out.2 HSZ.out HS8.out HON.out ?_))
   exact⟨rfl,_,ord_ret rfl rfl (setRow_heap _ _ _ _ _ _ HB8.out.2) HSZ.out,ord_err (by decide) HW.out (HH0.out.comp HH.out) (by omega) HB8.out (by omega)⟩
 | true=>
 obtain⟨bK,oK,r,rfl,hrl,hrt,hcl⟩:=rows_at HW.out (e:=84) rfl (show CV cx.tb W0 T3 w3 0 (.sl 1 84 63) (.slice A1 m1 c1) by
  obtain⟨cs',e,-,ha⟩:=HC.out
  cases e
  exact ha 1 _ _ rfl HE1.out) hkm
 have hr1:∃bt,r[1]? = some (.bool bt):=by
  have h1:1<r.length:=by rw[hrl];decide
  obtain⟨bt,h2⟩:=hrt 1 .bool r[1] rfl (List.getElem?_eq_getElem h1)
  exact⟨bt,by rw[List.getElem?_eq_getElem h1,h2]⟩
 obtain⟨bt,hr1⟩:=hr1
 have q1:w3.cell? ⟨bK,oK+kk*13+1,none⟩=some (.bool bt):=hcl w3 (Below.refl _ _) 1 _ hr1
 have k41:w3.cell? ⟨g4,1,none⟩=_:=(HB4.out.2.cell 1).trans HE1.out
 have k40:w3.cell? ⟨g4,0,none⟩=_:=(HB4.out.2.cell 0).trans HE0.out
 have k72:w3.cell? ⟨g4+1,2,none⟩=_:=(HB7.out.2.cell 2).trans HM2.out
 clear hcl hrt hrl hr1
 have hltz:(kk:Int)<(m1:Int):=by omega
 have hj0:(0:Int)≤(kk:Int):=by omega
 cases bt with
 | false=>
   go_wp2_with (first|(refine wpList_load_row rfl 51 (.tmp 4) rfl g4 rfl 51 cc (0,0) _ HB4.out.2 Tryz.underlying51 rfl HSZ.out ?_)|(refine wpList_store_rowTo rfl 51 (.tmp 8) (.tmp 33) rfl rfl (g4+1+1) cc rfl rfl 51 _ HB8.out.2 HSZ.out HS8.out HON.out ?_))
   exact⟨rfl,_,ord_ret rfl rfl (setRow_heap _ _ _ _ _ _ HB8.out.2) HSZ.out,ord_err (by decide) HW.out (HH0.out.comp HH.out) (by omega) HB8.out (by omega)⟩
 | true=>
 by_cases y1:a2<11
 ·have y1z:decide (a2<11)=true:=by simpa using y1
  go_wp2_with (first|(refine wpList_load_row rfl 51 (.tmp 4) rfl g4 rfl 51 cc (0,0) _ HB4.out.2 Tryz.underlying51 rfl HSZ.out ?_)|(refine wpList_store_rowTo rfl 51 (.tmp 8) (.tmp 47) rfl rfl (g4+1+1) cc rfl rfl 51 _ HB8.out.2 HSZ.out HS8.out HON.out ?_))
  exact⟨rfl,_,ord_ret rfl rfl (setRow_heap _ _ _ _ _ _ HB8.out.2) HSZ.out,ord_err (by decide) HW.out (HH0.out.comp HH.out) (by omega) HB8.out (by omega)⟩
 have y1z:decide (a2<11)=false:=by simpa using y1
 by_cases y2:20<a2
 ·have y2z:decide (20<a2)=true:=by simpa using y2
  go_wp2_with (first|(refine wpList_load_row rfl 51 (.tmp 4) rfl g4 rfl 51 cc (0,0) _ HB4.out.2 Tryz.underlying51 rfl HSZ.out ?_)|(refine wpList_store_rowTo rfl 51 (.tmp 8) (.tmp 47) rfl rfl (g4+1+1) cc rfl rfl 51 _ HB8.out.2 HSZ.out HS8.out HON.out ?_))
  exact⟨rfl,_,ord_ret rfl rfl (setRow_heap _ _ _ _ _ _ HB8.out.2) HSZ.out,ord_err (by decide) HW.out (HH0.out.comp HH.out) (by omega) HB8.out (by omega)⟩
 have y2z:decide (20<a2)=false:=by simpa using y2
 by_cases y3:a2=15
 ·subst y3
  go_wp2_with (first|(refine wpList_load_row rfl 51 (.tmp 4) rfl g4 rfl 51 cc (0,0) _ HB4.out.2 Tryz.underlying51 rfl HSZ.out ?_)|(refine wpList_store_rowTo rfl 51 (.tmp 8) (.tmp 47) rfl rfl (g4+1+1) cc rfl rfl 51 _ HB8.out.2 HSZ.out HS8.out HON.out ?_))
  exact⟨rfl,_,ord_ret rfl rfl (setRow_heap _ _ _ _ _ _ HB8.out.2) HSZ.out,ord_err (by decide) HW.out (HH0.out.comp HH.out) (by omega) HB8.out (by omega)⟩
 have y3z:(a2 == 15)=false:=by simpa using y3
 go_wp2_with ((refine wpList_load_row rfl 51 (.tmp 4) rfl g4 rfl 51 cc (0,0) _ HB4.out.2 Tryz.underlying51 rfl HSZ.out ?_))
 refine(cen_call hT HW.out HE1.out HE8.out (ja HC.out (by kernel_rfl) _)).mono ?_
 rintro e w4 ⟨oo,B1,B8,d1,d8,T4,rfl,hoT,ho1,ho8,hh2,hw2⟩
 replace HH:=Lib.hid (HH.out.comp hh2)
 replace HW:=Lib.hid hw2
 replace HB4:=Lib.hid (HB4.out.at_ hh2)
 replace HB7:=Lib.hid (HB7.out.at_ hh2)
 replace HB8:=Lib.hid (HB8.out.at_ hh2)
 replace HM:=Lib.hid (qf hh2.ext HM.out)
 replace hlt:=Nat.le_trans hlt hh2.size
 clear hw2 hh2 q1 k41 k40 k72 y1z y2z y3z hltz hj0 HC
 have HO:=Lib.hid hoT
 obtain⟨o0,Q1,p1,r1,Q2,p2,r2,Q3,p3,r3,Q4,p4,r4,o5,Q6,p6,r6,Q7,p7,r7,Q8,p8,r8,Q9,p9,r9,Q10,p10,r10,o11,o12,rfl⟩:=cen_lit hoT
 obtain⟨rfl,rfl,rfl⟩:Q1=B1∧p1=m1∧r1=d1:=by
  have h:=oi (show some (Value.slice Q1 p1 r1)=some (Value.slice B1 m1 d1) from ho1)
  injection h with h1 h2 h3
  exact⟨h1,h2,h3⟩
 obtain⟨rfl,rfl,rfl⟩:Q8=B8∧p8=m8∧r8=d8:=by
  have h:=oi (show some (Value.slice Q8 p8 r8)=some (Value.slice B8 m8 d8) from ho8)
  injection h with h1 h2 h3
  exact⟨h1,h2,h3⟩
 clear hoT ho1 ho8
 unfold ceA at HO ⊢
 go_upto_region 11 with(fail)
 have hbn:=below_new w4 (.cells #[.int .i64 o0,.slice Q1 p1 r1,.slice Q2 p2 r2,.slice Q3 p3 r3,.slice Q4 p4 r4,.int .i64 o5,.slice Q6 p6 r6,.slice Q7 p7 r7,.slice Q8 p8 r8,.slice Q9 p9 r9,.slice Q10 p10 r10,.int .i64 o11,.int .i64 o12] 51)
 have hh5:=yx (PU:=true) HW.out hbn
 have hg11:=hlt
 have HB11:Hid (Bx T4 (w4.alloc (.cells #[.int .i64 o0,.slice Q1 p1 r1,.slice Q2 p2 r2,.slice Q3 p3 r3,.slice Q4 p4 r4,.int .i64 o5,.slice Q6 p6 r6,.slice Q7 p7 r7,.slice Q8 p8 r8,.slice Q9 p9 r9,.slice Q10 p10 r10,.int .i64 o11,.int .i64 o12] 51)) w4.heap.size 51 #[.int .i64 o0,.slice Q1 p1 r1,.slice Q2 p2 r2,.slice Q3 p3 r3,.slice Q4 p4 r4,.int .i64 o5,.slice Q6 p6 r6,.slice Q7 p7 r7,.slice Q8 p8 r8,.slice Q9 p9 r9,.slice Q10 p10 r10,.int .i64 o11,.int .i64 o12]):=⟨fun h=>by have:=HW.out.lt h;omega,YtmadfhgiaonnlaaGreatDoor.Blk.new w4 51 _⟩
 replace HH:=Lib.hid (HH.out.comp hh5)
 replace HW:=Lib.hid (zu HW.out hbn).1
 replace HB4:=Lib.hid (HB4.out.at_ hh5)
 replace HB7:=Lib.hid (HB7.out.at_ hh5)
 replace HB8:=Lib.hid (HB8.out.at_ hh5)
 replace HM:=Lib.hid (qf hh5.ext HM.out)
 replace HO:=Lib.hid (qf hh5.ext HO.out)
 replace hlt:=Nat.le_trans hlt hh5.size
 clear hbn hh5
 generalize w4.alloc (.cells #[.int .i64 o0,.slice Q1 p1 r1,.slice Q2 p2 r2,.slice Q3 p3 r3,.slice Q4 p4 r4,.int .i64 o5,.slice Q6 p6 r6,.slice Q7 p7 r7,.slice Q8 p8 r8,.slice Q9 p9 r9,.slice Q10 p10 r10,.int .i64 o11,.int .i64 o12] 51)=w5 at *
 generalize w4.heap.size=g11 at *
 obtain⟨bQ,oQ,r,rfl,hrl,hrt,hcl⟩:=rows_at HW.out (e:=84) rfl (show CV cx.tb W0 T4 w5 0 (.sl 1 84 63) (.slice Q1 p1 r1) by
  obtain⟨cs',e,-,ha⟩:=HO.out
  cases e
  exact ha 1 _ _ rfl rfl) hkm
 have HCL:Hid (∀W,Below w5.heap.size w5 W→W.rangeAt bQ (oQ+kk*13+5) (r.drop 5)):=fun W hb o u hu=>by
  rw[List.getElem?_drop] at hu
  have:=hcl W hb (5+o) u hu
  rw[show oQ+kk*13+5+o=oQ+kk*[CT.str maxLen,.bool,full .i64,.sl 1 3 1048576,full .i64,full .i64,full .i64,full .i64,.sl 1 31 1024,.sl 1 31 1024,full .i64,full .i64,.sl 1 31 1024].length+(5+o) by show _=oQ+kk*13+(5+o);omega]
  exact this
 have hdl:(r.drop 5).length=8:=by rw[List.length_drop,hrl];rfl
 have HES:Hid (TyVal cx.tb W0 T4 w5 0 (.agg tyE) (.agg (r.drop 5).toArray)):=⟨_,rfl,by simpa using hdl,fun i ct u hi hu=>by
  rw[List.getElem?_toArray,List.getElem?_drop] at hu
  refine hrt (5+i) ct u ?_ hu
  match i,hi with
  | 0,hi=>exact hi
  | 1,hi=>exact hi
  | 2,hi=>exact hi
  | 3,hi=>exact hi
  | 4,hi=>exact hi
  | 5,hi=>exact hi
  | 6,hi=>exact hi
  | 7,hi=>exact hi⟩
 have HTQ:Hid (T4 bQ):=by
  obtain⟨cs',e,-,ha⟩:=HO.out
  cases e
  rcases(show CV cx.tb W0 T4 w5 0 (.sl 1 84 63) (.slice (some ⟨bQ,oQ,none⟩) p1 r1) from ha 1 _ _ rfl rfl) with h|⟨h0,-⟩|⟨b,off,n,c,h1,-,-,-,h5,-⟩
  ·cases h
  ·cases h0
  ·injection h1 with e1 e2 e3
   injection e1 with e1;injection e1 with e1 e4
   rw[e1];exact h5
 have hbq:=HW.out.lt HTQ.out
 have hg11l:=HB11.out.2.lt
 have HLG:Hid (CV cx.tb W0 T4 w5 0 (.cs 0 69 8192) (.slice Q8 p8 r8)):=by
  obtain⟨cs',e,-,ha⟩:=HO.out
  cases e
  exact ha 8 _ _ rfl rfl
 clear hcl hrt
 have hz0:W0.heap.size≤w5.heap.size:=by omega
 have hltz:(kk:Int)<(p1:Int):=by omega
 have hj0:(0:Int)≤(kk:Int):=by omega
 refine Reg9D.region 16 (fun L vals W=>∃T',S11T W0 (fun kz=>match kz with|0=>some (.pointer (some ⟨g11,1,none⟩))|1=>some (.slice (some ⟨bQ,oQ,none⟩) p1 r1)|2=>some (.int .i64 kk)|3=>some (.pointer (some ⟨bQ,oQ+kk*13,none⟩))|4=>some (.pointer (some ⟨bQ,oQ+kk*13+5,none⟩))|5=>some (.agg (r.drop 5).toArray)|6=>some (.agg ms)|_=>none) T4 w5 T' L vals W) (by kernel_rfl) (by kernel_rfl) (Reg4.in_of (n:=93) (by kernel_rfl) rfl) ⟨T4,(zu HW.out (Below.drew (Below.refl _ _))).1,yx HW.out (Below.drew (Below.refl _ _)),fun _ _ _ h=>(by cases h),fun _=>⟨rfl,Below.drew (Below.refl _ _)⟩,fun _ _ h=>(by cases h),fun h=>(by cases h),fun _ _ h=>(by cases h),fun h=>(by cases h)⟩ ?_ ?_
 ·intro j o hj ho L vals a W hLi hS0 hed hop hdn
  obtain⟨T5,hS⟩:=hS0
  have hj':j=0∨j=1∨j=2∨j=3∨j=4∨j=5∨j=6∨j=7∨j=8∨j=9∨j=10∨j=11∨j=12∨j=13∨j=14∨j=15:=by omega
  clear hj
  rcases hj' with rfl|rfl|rfl|rfl|rfl|rfl|rfl|rfl|rfl|rfl|rfl|rfl|rfl|rfl|rfl|rfl
  ·obtain rfl:=oi ho
   clear ho
   have h11:a.tmps[11]?.getD undef=.pointer (some ⟨g11,0,none⟩):=gdt (hop 11 (by simp[Op.operands,Call.operands]))
   refine Reg4.StepOk.mono (R:=fun v W2=>v=.pointer (some ⟨g11,1,none⟩)∧W2=W) ?_ (fun v W2 h=>?_)
   ·go_simp
    all_goals(try exact⟨rfl,rfl⟩)
   ·obtain⟨rfl,rfl⟩:=h;exact⟨T5,hS.put hLi (fun x hx=>oi hx) (by omega) (by omega) (by omega) (by omega) (by omega)⟩
  ·obtain rfl:=oi ho
   clear ho
   obtain⟨lo51,eo51⟩:=hop 51 (by simp[Op.operands,Call.operands])
   have h51:a.tmps[51]?.getD undef=.pointer (some ⟨g11,1,none⟩):=gdt (eo51.trans (hS.kn 0 _ rfl lo51))
   clear eo51
   have k1:=(HB11.out.at_ hS.hi).2.cell 1
   simp at k1
   refine Reg4.StepOk.mono (R:=fun v W2=>v=.slice (some ⟨bQ,oQ,none⟩) p1 r1∧W2=W) ?_ (fun v W2 h=>?_)
   ·go_simp
    all_goals(try exact⟨rfl,rfl⟩)
   ·obtain⟨rfl,rfl⟩:=h;exact⟨T5,hS.put hLi (fun x hx=>oi hx) (by omega) (by omega) (by omega) (by omega) (by omega)⟩
  ·obtain rfl:=oi ho
   clear ho
   have h10:a.tmps[10]?.getD undef=.int .i64 kk:=gdt (hop 10 (by simp[Op.operands,Call.operands]))
   refine Reg4.StepOk.mono (R:=fun v W2=>v=.int .i64 kk∧W2=W) ?_ (fun v W2 h=>?_)
   ·go_simp
    all_goals(try exact⟨rfl,rfl⟩)
   ·obtain⟨rfl,rfl⟩:=h;exact⟨T5,hS.put hLi (fun x hx=>oi hx) (by omega) (by omega) (by omega) (by omega) (by omega)⟩
  ·obtain rfl:=oi ho
   clear ho
   obtain⟨lo52,eo52⟩:=hop 52 (by simp[Op.operands,Call.operands])
   have h52:a.tmps[52]?.getD undef=.slice (some ⟨bQ,oQ,none⟩) p1 r1:=gdt (eo52.trans (hS.kn 1 _ rfl lo52))
   clear eo52
   obtain⟨lo53,eo53⟩:=hop 53 (by simp[Op.operands,Call.operands])
   have h53:a.tmps[53]?.getD undef=.int .i64 kk:=gdt (eo53.trans (hS.kn 2 _ rfl lo53))
   clear eo53
   refine Reg4.StepOk.mono (R:=fun v W2=>v=.pointer (some ⟨bQ,oQ+kk*13,none⟩)∧W2=W) ?_ (fun v W2 h=>?_)
   ·go_simp
    all_goals(try exact⟨rfl,rfl⟩)
   ·obtain⟨rfl,rfl⟩:=h;exact⟨T5,hS.put hLi (fun x hx=>oi hx) (by omega) (by omega) (by omega) (by omega) (by omega)⟩
  ·obtain rfl:=oi ho
   clear ho
   obtain⟨lo54,eo54⟩:=hop 54 (by simp[Op.operands,Call.operands])
   have h54:a.tmps[54]?.getD undef=.pointer (some ⟨bQ,oQ+kk*13,none⟩):=gdt (eo54.trans (hS.kn 3 _ rfl lo54))
   clear eo54
   refine Reg4.StepOk.mono (R:=fun v W2=>v=.pointer (some ⟨bQ,oQ+kk*13+5,none⟩)∧W2=W) ?_ (fun v W2 h=>?_)
   ·go_simp
    all_goals(try exact⟨rfl,rfl⟩)
   ·obtain⟨rfl,rfl⟩:=h;exact⟨T5,hS.put hLi (fun x hx=>oi hx) (by omega) (by omega) (by omega) (by omega) (by omega)⟩
  ·obtain rfl:=oi ho
   clear ho
   obtain⟨lo55,eo55⟩:=hop 55 (by simp[Op.operands,Call.operands])
   have h55:a.tmps[55]?.getD undef=.pointer (some ⟨bQ,oQ+kk*13+5,none⟩):=gdt (eo55.trans (hS.kn 4 _ rfl lo55))
   have n7:L 7=false:=by
    cases hq:L 7 with
    | false=>rfl
    | true=>have:=hdn 7 5 _ rfl hq (by kernel_rfl);rw[hLi] at this;cases this
   exact loadRun (x:=.tmp 55) (a:=a) rfl (eo55.trans (hS.kn 4 _ rfl lo55)) (HCL.out W (hS.pre n7).2) Tryz.underlying82 rfl (by rw[hdl];kernel_rfl) ⟨T5,hS.put hLi (fun x hx=>oi hx) (by omega) (by omega) (by omega) (by omega) (by omega)⟩
  ·obtain rfl:=oi ho
   clear ho
   have h7:a.tmps[7]?.getD undef=.pointer (some ⟨g4+1,0,none⟩):=gdt (hop 7 (by simp[Op.operands,Call.operands]))
   have hb7:=(HB7.out.at_ hS.hi).2
   have hmb:=(ag_one HM.out).1
   exact loadRow (x:=.tmp 7) (a:=a) rfl ((Array.getD_eq_getD_getElem? ..).trans h7) hb7 Tryz.underlying31 rfl (by rw[hmb];kernel_rfl) ⟨T5,hS.put hLi (fun x hx=>oi hx) (by omega) (by omega) (by omega) (by omega) (by omega)⟩
  ·obtain rfl:=oi ho
   clear ho
   obtain⟨lo56,eo56⟩:=hop 56 (by simp[Op.operands,Call.operands])
   have h56:a.tmps[56]?.getD undef=.agg (r.drop 5).toArray:=gdt (eo56.trans (hS.kn 5 _ rfl lo56))
   clear eo56
   obtain⟨lo57,eo57⟩:=hop 57 (by simp[Op.operands,Call.operands])
   have h57:a.tmps[57]?.getD undef=.agg ms:=gdt (eo57.trans (hS.kn 6 _ rfl lo57))
   clear eo57
   have n8:L 8=false:=by
    cases hq:L 8 with
    | false=>rfl
    | true=>have:=hdn 8 7 _ rfl hq (by kernel_rfl);rw[hLi] at this;cases this
   have HCL2:=Lib.hid (call_call (h30 hT) hS.wt (ja (qf hS.hi.ext HES.out) (by kernel_rfl) _) (ja (qf hS.hi.ext HM.out) (by kernel_rfl) _))
   refine Reg4.StepOk.mono (R:=fun v W2=>CkV W0 T5 W v W2) ?_ (fun v W2 h=>?_)
   ·go_simp
    refine HCL2.out.mono ?_
    rintro e W2 ⟨cs,n,k,T2,rfl,q1,q2,q3,q4⟩
    exact⟨_,rfl,cs,n,k,T2,rfl,q1,q3,q4⟩
   ·obtain⟨cs,n,k,T2,q0,q1,q2,q3⟩:=id h
    exact⟨T2,hS.call hLi n8 q2 q3 rfl q0 q1⟩
  ·obtain rfl:=oi ho
   clear ho
   obtain⟨lo58,eo58⟩:=hop 58 (by simp[Op.operands,Call.operands])
   have h58:a.tmps[58]?.getD undef=vals 7:=gdt eo58
   clear eo58
   refine Reg4.StepOk.mono (R:=fun v W2=>v=vals 7∧W2=W) ?_ (fun v W2 h=>?_)
   ·go_simp
    all_goals(try exact⟨rfl,rfl⟩)
   ·obtain⟨rfl,rfl⟩:=h;exact⟨T5,hS.put hLi (fun x hx=>by cases hx) (fun _=>hS.tu 7 (.inl rfl) lo58) (by omega) (by omega) (by omega) (by omega)⟩
  ·obtain rfl:=oi ho
   clear ho
   obtain⟨lo50,eo50⟩:=hop 50 (by simp[Op.operands,Call.operands])
   have h50:a.tmps[50]?.getD undef=vals 8:=gdt eo50
   clear eo50
   refine Reg4.StepOk.mono (R:=fun v W2=>ExV W0 T5 W (vals 8) v 0∧W2=W) ?_ (fun v W2 h=>?_)
   ·obtain⟨cs,n,j,q1,q2⟩:=hS.tu 8 (.inr rfl) lo50
    have HQ1:=Lib.hid q1
    have HQ2:=Lib.hid q2
    rw[q1] at h50
    clear q1 q2
    go_simp
    exact⟨⟨cs,n,j,HQ1.out,HQ2.out,rfl⟩,rfl⟩
   ·obtain⟨⟨cs,n,j,q1,q2,rfl⟩,rfl⟩:=h;exact⟨T5,hS.put hLi (fun x hx=>by cases hx) (by omega) (fun _=>⟨cs,rfl,q2⟩) (by omega) (by omega) (by omega)⟩
  ·obtain rfl:=oi ho
   clear ho
   obtain⟨lo50,eo50⟩:=hop 50 (by simp[Op.operands,Call.operands])
   have h50:a.tmps[50]?.getD undef=vals 8:=gdt eo50
   clear eo50
   refine Reg4.StepOk.mono (R:=fun v W2=>ExV W0 T5 W (vals 8) v 1∧W2=W) ?_ (fun v W2 h=>?_)
   ·obtain⟨cs,n,j,q1,q2⟩:=hS.tu 8 (.inr rfl) lo50
    have HQ1:=Lib.hid q1
    have HQ2:=Lib.hid q2
    rw[q1] at h50
    clear q1 q2
    go_simp
    exact⟨⟨cs,n,j,HQ1.out,HQ2.out,rfl⟩,rfl⟩
   ·obtain⟨⟨cs,n,j,q1,q2,rfl⟩,rfl⟩:=h;exact⟨T5,hS.put hLi (fun x hx=>by cases hx) (by omega) (by omega) (fun _=>⟨_,rfl⟩) (by omega) (by omega)⟩
  ·obtain rfl:=oi ho
   clear ho
   obtain⟨lo50,eo50⟩:=hop 50 (by simp[Op.operands,Call.operands])
   have h50:a.tmps[50]?.getD undef=vals 8:=gdt eo50
   clear eo50
   refine Reg4.StepOk.mono (R:=fun v W2=>ExV W0 T5 W (vals 8) v 2∧W2=W) ?_ (fun v W2 h=>?_)
   ·obtain⟨cs,n,j,q1,q2⟩:=hS.tu 8 (.inr rfl) lo50
    have HQ1:=Lib.hid q1
    have HQ2:=Lib.hid q2
    rw[q1] at h50
    clear q1 q2
    go_simp
    exact⟨⟨cs,n,j,HQ1.out,HQ2.out,rfl⟩,rfl⟩
   ·obtain⟨⟨cs,n,j,q1,q2,rfl⟩,rfl⟩:=h;exact⟨T5,hS.put hLi (fun x hx=>by cases hx) (by omega) (by omega) (fun _=>⟨_,rfl⟩) (by omega) (by omega)⟩
  ·obtain rfl:=oi ho
   clear ho
   have n13:L 13=false:=by
    cases hq:L 13 with
    | false=>rfl
    | true=>have:=hdn 13 12 _ rfl hq (by kernel_rfl);rw[hLi] at this;cases this
   refine stepOk_of (r':=.ok (.value (.pointer (some ⟨W.heap.size,0,none⟩))) (W.alloc (.cells #[.int .i64 0,.int .i64 0,.int .i64 0,.slice none 0 0,.slice none 0 0,.int .i64 0,.int .i64 0,.slice none 0 0] 82))) (by kernel_rfl) ?_
   exact⟨T5,hS.alloc hLi n13 rfl rfl⟩
  ·obtain rfl:=oi ho
   clear ho
   obtain⟨lo12,eo12⟩:=hop 12 (by simp[Op.operands,Call.operands])
   have h12:a.tmps[12]?.getD undef=vals 12:=gdt eo12
   obtain⟨lo59,eo59⟩:=hop 59 (by simp[Op.operands,Call.operands])
   have h59:a.tmps[59]?.getD undef=vals 9:=gdt eo59
   obtain⟨gb,old,q1,q2,q3,q4,q5,-⟩:=hS.bx lo12
   obtain⟨cs,r1,r2⟩:=hS.rc lo59
   obtain⟨r3,r4⟩:=ag_one r2
   have l7:L 7=true:=hdn 9 7 _ rfl lo59 (by kernel_rfl)
   exact RegA.storeRun 82 (.tmp 12) (.tmp 59) rfl gb (eo12.trans q1) cs old (eo59.trans r1) q4 (by rw[r3];kernel_rfl) (by rw[q5,r3];rfl) r4 ⟨T5,hS.store q1 hLi l7 q2 q3 q4 r3 r2 hz0 rfl⟩
  ·obtain rfl:=oi ho
   clear ho
   obtain⟨lo60,eo60⟩:=hop 60 (by simp[Op.operands,Call.operands])
   have h60:a.tmps[60]?.getD undef=vals 10:=gdt eo60
   clear eo60
   refine Reg4.StepOk.mono (R:=fun v W2=>v=vals 10∧W2=W) ?_ (fun v W2 h=>?_)
   ·go_simp
    all_goals(try exact⟨rfl,rfl⟩)
   ·obtain⟨rfl,rfl⟩:=h;exact⟨T5,hS.put hLi (fun x hx=>by cases hx) (by omega) (by omega) (fun _=>hS.er 10 (by omega) lo60) (by omega) (by omega)⟩
  ·obtain rfl:=oi ho
   clear ho
   obtain⟨lo61,eo61⟩:=hop 61 (by simp[Op.operands,Call.operands])
   have h61:a.tmps[61]?.getD undef=vals 11:=gdt eo61
   clear eo61
   refine Reg4.StepOk.mono (R:=fun v W2=>v=vals 11∧W2=W) ?_ (fun v W2 h=>?_)
   ·go_simp
    all_goals(try exact⟨rfl,rfl⟩)
   ·obtain⟨rfl,rfl⟩:=h;exact⟨T5,hS.put hLi (fun x hx=>by cases hx) (by omega) (by omega) (fun _=>hS.er 11 (by omega) lo61) (by omega) (by omega)⟩
 ·intro L vals w6 hall hS0
  obtain⟨T6,hS⟩:=hS0
  obtain⟨g12,ecs,n14,n13,e12,e14,e15,hwt6,hh6,hn12,hg12,hb12,he12⟩:=hS.fin hall
  clear hS hall
  simp only[Reg4.puts,Reg4.dstOf,List.range,List.range.loop,if_true,List.drop_succ_cons,List.drop_zero,e12,e14,e15]
  clear e12 e14 e15
  generalize vals 0=v0
  generalize vals 1=v1
  generalize vals 2=v2
  generalize vals 3=v3
  generalize vals 4=v4
  generalize vals 5=v5
  generalize vals 6=v6
  generalize vals 7=v7
  generalize vals 8=v8
  generalize vals 9=v9
  generalize vals 10=v10
  generalize vals 11=v11
  generalize vals 13=v13
  simp[Act.put]
  replace HH:=Lib.hid (HH.out.comp hh6)
  replace HW:=Lib.hid hwt6
  replace HB4:=Lib.hid (HB4.out.at_ hh6)
  replace HB7:=Lib.hid (HB7.out.at_ hh6)
  replace HB8:=Lib.hid (HB8.out.at_ hh6)
  replace HB11:=Lib.hid (HB11.out.at_ hh6)
  have HB12:Hid (Bx T6 w6 g12 82 ecs):=⟨hn12,hb12⟩
  have HE12:=Lib.hid he12
  replace HO:=Lib.hid (qf hh6.ext HO.out)
  replace HTQ:=Lib.hid (hh6.ext.sub bQ HTQ.out)
  replace HLG:=Lib.hid (CV.mono HLG.out hh6.ext (Nat.le_refl _))
  have hw56:=hh6.size
  clear hwt6 hh6 hn12 hb12 he12
  by_cases zn:n14=0
  ·subst zn
   have HA2:=Lib.hid ha2
   go_wp2_with fail
   refine Reg9D.region 16 (fun L vals W=>S14 w6 n0 p8 who st (fun kz=>match kz with|0=>some (.pointer (some ⟨g11,8,none⟩))|1=>some (.slice Q8 p8 r8)|2=>some (.pointer (some ⟨g4,0,none⟩))|3=>some (.int .i64 n0)|4=>some (.string who)|5=>some (.pointer (some ⟨g4+1,2,none⟩))|6=>some (.int .i64 a2)|9=>some (.string st)|_=>none) L vals W) (by kernel_rfl) (by kernel_rfl) (Reg4.in_of (n:=93) (by kernel_rfl) rfl) ⟨Below.drew (Below.refl _ _),fun _ _ _ h=>(by cases h),fun h=>(by cases h),fun h=>(by cases h),fun h=>(by cases h)⟩ ?_ ?_
   ·intro j o hj ho L vals a W hLi hS hed hop hdn
    have hj':j=0∨j=1∨j=2∨j=3∨j=4∨j=5∨j=6∨j=7∨j=8∨j=9∨j=10∨j=11∨j=12∨j=13∨j=14∨j=15:=by omega
    clear hj
    rcases hj' with rfl|rfl|rfl|rfl|rfl|rfl|rfl|rfl|rfl|rfl|rfl|rfl|rfl|rfl|rfl|rfl
    ·obtain rfl:=oi ho
     clear ho
     have h11:a.tmps[11]?.getD undef=.pointer (some ⟨g11,0,none⟩):=gdt (hop 11 (by simp[Op.operands,Call.operands]))
     refine Reg4.StepOk.mono (R:=fun v W2=>v=.pointer (some ⟨g11,8,none⟩)∧W2=W) ?_ (fun v W2 h=>?_)
     ·go_simp
      all_goals(try exact⟨rfl,rfl⟩)
     ·obtain⟨rfl,rfl⟩:=h;exact hS.put (Below.refl _ _) (fun x hx=>oi hx) (by omega) (by omega) (by omega)
    ·obtain rfl:=oi ho
     clear ho
     obtain⟨lo67,eo67⟩:=hop 67 (by simp[Op.operands,Call.operands])
     have h67:a.tmps[67]?.getD undef=.pointer (some ⟨g11,8,none⟩):=gdt (eo67.trans (hS.kn 0 _ rfl lo67))
     clear eo67
     have k1:=(HB11.out.2.call hS.bw).cell 8
     simp at k1
     refine Reg4.StepOk.mono (R:=fun v W2=>v=.slice Q8 p8 r8∧W2=W) ?_ (fun v W2 h=>?_)
     ·go_simp
      all_goals(try exact⟨rfl,rfl⟩)
     ·obtain⟨rfl,rfl⟩:=h;exact hS.put (Below.refl _ _) (fun x hx=>oi hx) (by omega) (by omega) (by omega)
    ·obtain rfl:=oi ho
     clear ho
     have h4:a.tmps[4]?.getD undef=.pointer (some ⟨g4,0,none⟩):=gdt (hop 4 (by simp[Op.operands,Call.operands]))
     refine Reg4.StepOk.mono (R:=fun v W2=>v=.pointer (some ⟨g4,0,none⟩)∧W2=W) ?_ (fun v W2 h=>?_)
     ·go_simp
      all_goals(try exact⟨rfl,rfl⟩)
     ·obtain⟨rfl,rfl⟩:=h;exact hS.put (Below.refl _ _) (fun x hx=>oi hx) (by omega) (by omega) (by omega)
    ·obtain rfl:=oi ho
     clear ho
     obtain⟨lo69,eo69⟩:=hop 69 (by simp[Op.operands,Call.operands])
     have h69:a.tmps[69]?.getD undef=.pointer (some ⟨g4,0,none⟩):=gdt (eo69.trans (hS.kn 2 _ rfl lo69))
     clear eo69
     have k1:W.cell? ⟨g4,0,none⟩=_:=((HB4.out.2.call hS.bw).cell 0).trans HE0.out
     refine Reg4.StepOk.mono (R:=fun v W2=>v=.int .i64 n0∧W2=W) ?_ (fun v W2 h=>?_)
     ·go_simp
      all_goals(try exact⟨rfl,rfl⟩)
     ·obtain⟨rfl,rfl⟩:=h;exact hS.put (Below.refl _ _) (fun x hx=>oi hx) (by omega) (by omega) (by omega)
    ·obtain rfl:=oi ho
     clear ho
     have h1:a.tmps[1]?.getD undef=.string who:=gdt (hop 1 (by simp[Op.operands,Call.operands]))
     refine Reg4.StepOk.mono (R:=fun v W2=>v=.string who∧W2=W) ?_ (fun v W2 h=>?_)
     ·go_simp
      all_goals(try exact⟨rfl,rfl⟩)
     ·obtain⟨rfl,rfl⟩:=h;exact hS.put (Below.refl _ _) (fun x hx=>oi hx) (by omega) (by omega) (by omega)
    ·obtain rfl:=oi ho
     clear ho
     have h7:a.tmps[7]?.getD undef=.pointer (some ⟨g4+1,0,none⟩):=gdt (hop 7 (by simp[Op.operands,Call.operands]))
     refine Reg4.StepOk.mono (R:=fun v W2=>v=.pointer (some ⟨g4+1,2,none⟩)∧W2=W) ?_ (fun v W2 h=>?_)
     ·go_simp
      all_goals(try exact⟨rfl,rfl⟩)
     ·obtain⟨rfl,rfl⟩:=h;exact hS.put (Below.refl _ _) (fun x hx=>oi hx) (by omega) (by omega) (by omega)
    ·obtain rfl:=oi ho
     clear ho
     obtain⟨lo72,eo72⟩:=hop 72 (by simp[Op.operands,Call.operands])
     have h72:a.tmps[72]?.getD undef=.pointer (some ⟨g4+1,2,none⟩):=gdt (eo72.trans (hS.kn 5 _ rfl lo72))
     clear eo72
     have k1:W.cell? ⟨g4+1,2,none⟩=_:=((HB7.out.2.call hS.bw).cell 2).trans HM2.out
     refine Reg4.StepOk.mono (R:=fun v W2=>v=.int .i64 a2∧W2=W) ?_ (fun v W2 h=>?_)
     ·go_simp
      all_goals(try exact⟨rfl,rfl⟩)
     ·obtain⟨rfl,rfl⟩:=h;exact hS.put (Below.refl _ _) (fun x hx=>oi hx) (by omega) (by omega) (by omega)
    ·obtain rfl:=oi ho
     clear ho
     obtain⟨lo73,eo73⟩:=hop 73 (by simp[Op.operands,Call.operands])
     have h73:a.tmps[73]?.getD undef=.int .i64 a2:=gdt (eo73.trans (hS.kn 6 _ rfl lo73))
     clear eo73
     have HCL2:=Lib.hid (ito_call (h32 hT) (zu HW.out hS.bw).1 HA2.out)
     refine Reg4.StepOk.mono (R:=fun v W2=>(∃s:ByteArray,v=.string s∧s.size≤21)∧Hid (Below W.heap.size W W2)) ?_ (fun v W2 h=>?_)
     ·go_simp
      refine HCL2.out.mono ?_
      rintro e W2 ⟨s,T7,rfl,q1,q2,q3⟩
      exact⟨_,rfl,⟨s,rfl,q1⟩,hist_below' q2⟩
     ·obtain⟨h1,h2⟩:=h
      exact hS.put h2.out (fun x hx=>by cases hx) (fun _=>h1) (by omega) (by omega)
    ·obtain rfl:=oi ho
     clear ho
     obtain⟨lo74,eo74⟩:=hop 74 (by simp[Op.operands,Call.operands])
     obtain⟨s74,es74,zs74⟩:=hS.s7 lo74
     have h74:a.tmps[74]?.getD undef=.string s74:=gdt (eo74.trans es74)
     clear es74
     clear eo74
     refine Reg4.StepOk.mono (R:=fun v W2=>Str27 v∧W2=W) ?_ (fun v W2 h=>?_)
     ·go_simp
      rw[if_neg (by omega)]
      exact⟨⟨_,rfl,by rw[ByteArray.size_append];show 6+_≤27;omega⟩,rfl⟩
     ·obtain⟨h1,rfl⟩:=h
      exact hS.put (Below.refl _ _) (fun x hx=>by cases hx) (by omega) (fun _=>h1) (by omega)
    ·obtain rfl:=oi ho
     clear ho
     have h2:a.tmps[2]?.getD undef=.string st:=gdt (hop 2 (by simp[Op.operands,Call.operands]))
     refine Reg4.StepOk.mono (R:=fun v W2=>v=.string st∧W2=W) ?_ (fun v W2 h=>?_)
     ·go_simp
      all_goals(try exact⟨rfl,rfl⟩)
     ·obtain⟨rfl,rfl⟩:=h;exact hS.put (Below.refl _ _) (fun x hx=>oi hx) (by omega) (by omega) (by omega)
    ·obtain rfl:=oi ho
     clear ho
     obtain⟨lo68,eo68⟩:=hop 68 (by simp[Op.operands,Call.operands])
     have h68:a.tmps[68]?.getD undef=.slice Q8 p8 r8:=gdt (eo68.trans (hS.kn 1 _ rfl lo68))
     clear eo68
     obtain⟨lo70,eo70⟩:=hop 70 (by simp[Op.operands,Call.operands])
     have h70:a.tmps[70]?.getD undef=.int .i64 n0:=gdt (eo70.trans (hS.kn 3 _ rfl lo70))
     clear eo70
     obtain⟨lo71,eo71⟩:=hop 71 (by simp[Op.operands,Call.operands])
     have h71:a.tmps[71]?.getD undef=.string who:=gdt (eo71.trans (hS.kn 4 _ rfl lo71))
     clear eo71
     obtain⟨lo75,eo75⟩:=hop 75 (by simp[Op.operands,Call.operands])
     obtain⟨s75,es75,zs75⟩:=hS.s8 lo75
     have h75:a.tmps[75]?.getD undef=.string s75:=gdt (eo75.trans es75)
     clear es75
     clear eo75
     obtain⟨lo76,eo76⟩:=hop 76 (by simp[Op.operands,Call.operands])
     have h76:a.tmps[76]?.getD undef=.string st:=gdt (eo76.trans (hS.kn 9 _ rfl lo76))
     clear eo76
     have n11:L 11=false:=by
      cases hq:L 11 with
      | false=>rfl
      | true=>have:=hdn 11 10 _ rfl hq (by kernel_rfl);rw[hLi] at this;cases this
     have n12:L 12=false:=by
      cases hq:L 12 with
      | false=>rfl
      | true=>have:=hdn 12 10 _ rfl hq (by kernel_rfl);rw[hLi] at this;cases this
     have n13:L 13=false:=by
      cases hq:L 13 with
      | false=>rfl
      | true=>have:=hdn 13 10 _ rfl hq (by kernel_rfl);rw[hLi] at this;cases this
     have n14:L 14=false:=by
      cases hq:L 14 with
      | false=>rfl
      | true=>have:=hdn 14 10 _ rfl hq (by kernel_rfl);rw[hLi] at this;cases this
     have n15:L 15=false:=by
      cases hq:L 15 with
      | false=>rfl
      | true=>have:=hdn 15 10 _ rfl hq (by kernel_rfl);rw[hLi] at this;cases this
     have hml:maxLen=9223372036854775807:=by decide
     have HCL2:=Lib.hid (ap_call (w6:=w6) (n0:=n0) (p8:=p8) (who:=who) (st:=st) (what:=s75) (zu HW.out hS.bw).1 (CV.mono HLG.out (zu HW.out hS.bw).2 (Nat.le_refl _)) HN0.out hwho (by omega) hst hS.bw.size)
     refine Reg4.StepOk.mono (R:=fun v W2=>ApV w6 n0 p8 who st W v W2) ?_ (fun v W2 h=>?_)
     ·go_simp
      refine HCL2.out.mono ?_
      rintro e W2 ⟨a,j,rfl,q1,q2⟩
      exact⟨_,rfl,a,j,rfl,q1.out,q2⟩
     ·obtain⟨a,j,rfl,q1,q2⟩:=h
      exact hS.call q1 rfl ⟨n11,n12,n13,n14,n15⟩ q2
    ·obtain rfl:=oi ho
     clear ho
     obtain⟨lo77,eo77⟩:=hop 77 (by simp[Op.operands,Call.operands])
     have h77:a.tmps[77]?.getD undef=vals 10:=gdt eo77
     clear eo77
     refine Reg4.StepOk.mono (R:=fun v W2=>v=vals 10∧W2=W) ?_ (fun v W2 h=>?_)
     ·go_simp
      all_goals(try exact⟨rfl,rfl⟩)
     ·obtain⟨rfl,rfl⟩:=h
      exact hS.ext rfl (by omega) lo77 (fun a j h1 _ _ _=>⟨fun _=>h1,by omega,by omega,by omega,by omega⟩)
    ·obtain rfl:=oi ho
     clear ho
     obtain⟨lo66,eo66⟩:=hop 66 (by simp[Op.operands,Call.operands])
     have h66:a.tmps[66]?.getD undef=vals 11:=gdt eo66
     clear eo66
     have l10:L 10=true:=hdn 11 10 _ rfl lo66 (by kernel_rfl)
     obtain⟨a9,j9,q1,-,q2,-⟩:=hS.ot l10
     have q3:=q2 lo66
     rw[q3] at h66
     have HQ1:=Lib.hid q1
     clear q1 q2 q3
     refine Reg4.StepOk.mono (R:=fun v W2=>v=a9∧W2=W) ?_ (fun v W2 h=>?_)
     ·go_simp
      all_goals(try exact⟨rfl,rfl⟩)
     ·obtain⟨rfl,rfl⟩:=h
      refine hS.ext rfl (by omega) l10 (fun a j h1 _ _ _=>?_)
      have h2:=HQ1.out.symm.trans h1
      injection h2 with h2
      have h3:[v,Value.int .i64 j9]=[a,Value.int .i64 j]:=congrArg Array.toList h2
      injection h3 with h3 h4
      injection h4 with h4 _
      exact⟨by omega,fun _=>h3,by omega,by omega,by omega⟩
    ·obtain rfl:=oi ho
     clear ho
     obtain⟨lo66,eo66⟩:=hop 66 (by simp[Op.operands,Call.operands])
     have h66:a.tmps[66]?.getD undef=vals 11:=gdt eo66
     clear eo66
     have l10:L 10=true:=hdn 11 10 _ rfl lo66 (by kernel_rfl)
     obtain⟨a9,j9,q1,-,q2,-⟩:=hS.ot l10
     have q3:=q2 lo66
     rw[q3] at h66
     have HQ1:=Lib.hid q1
     clear q1 q2 q3
     refine Reg4.StepOk.mono (R:=fun v W2=>v=.int .i64 j9∧W2=W) ?_ (fun v W2 h=>?_)
     ·go_simp
      all_goals(try exact⟨rfl,rfl⟩)
     ·obtain⟨rfl,rfl⟩:=h
      refine hS.ext rfl (by omega) l10 (fun a j h1 _ _ _=>?_)
      have h2:=HQ1.out.symm.trans h1
      injection h2 with h2
      have h3:[a9,Value.int .i64 j9]=[a,Value.int .i64 j]:=congrArg Array.toList h2
      injection h3 with h3 h4
      injection h4 with h4 _
      exact⟨by omega,by omega,fun _=>h4,by omega,by omega⟩
    ·obtain rfl:=oi ho
     clear ho
     obtain⟨lo78,eo78⟩:=hop 78 (by simp[Op.operands,Call.operands])
     have h78:a.tmps[78]?.getD undef=vals 12:=gdt eo78
     clear eo78
     have l11:L 11=true:=hdn 12 11 _ rfl lo78 (by kernel_rfl)
     have l10:L 10=true:=hdn 11 10 _ rfl l11 (by kernel_rfl)
     refine Reg4.StepOk.mono (R:=fun v W2=>v=vals 12∧W2=W) ?_ (fun v W2 h=>?_)
     ·go_simp
      all_goals(try exact⟨rfl,rfl⟩)
     ·obtain⟨rfl,rfl⟩:=h
      exact hS.ext rfl (by omega) l10 (fun a j _ _ h2 h3=>⟨by omega,by omega,by omega,fun _=>h2 lo78,by omega⟩)
    ·obtain rfl:=oi ho
     clear ho
     obtain⟨lo79,eo79⟩:=hop 79 (by simp[Op.operands,Call.operands])
     have h79:a.tmps[79]?.getD undef=vals 13:=gdt eo79
     clear eo79
     have l11:L 11=true:=hdn 13 11 _ rfl lo79 (by kernel_rfl)
     have l10:L 10=true:=hdn 11 10 _ rfl l11 (by kernel_rfl)
     refine Reg4.StepOk.mono (R:=fun v W2=>v=vals 13∧W2=W) ?_ (fun v W2 h=>?_)
     ·go_simp
      all_goals(try exact⟨rfl,rfl⟩)
     ·obtain⟨rfl,rfl⟩:=h
      exact hS.ext rfl (by omega) l10 (fun a j _ _ h2 h3=>⟨by omega,by omega,by omega,by omega,fun _=>h3 lo79⟩)
   ·intro L vals w7 hall hS
    obtain⟨a14,j15,e14,e15,hap⟩:=hS.fin hall
    have hb7:=hS.bw
    clear hS hall
    simp only[Reg4.puts,Reg4.dstOf,List.range,List.range.loop,if_true,List.drop_succ_cons,List.drop_zero,e14,e15]
    clear e14 e15
    generalize vals 0=v0
    generalize vals 1=v1
    generalize vals 2=v2
    generalize vals 3=v3
    generalize vals 4=v4
    generalize vals 5=v5
    generalize vals 6=v6
    generalize vals 7=v7
    generalize vals 8=v8
    generalize vals 9=v9
    generalize vals 10=v10
    generalize vals 11=v11
    generalize vals 12=v12
    generalize vals 13=v13
    simp[Act.put]
    have hh7:=yx (PU:=true) HW.out hb7
    have HX67:=Lib.hid hh7.ext
    replace HH:=Lib.hid (HH.out.comp hh7)
    replace HW:=Lib.hid (zu HW.out hb7).1
    replace HB4:=Lib.hid (HB4.out.at_ hh7)
    replace HB8:=Lib.hid (HB8.out.at_ hh7)
    replace HB11:=Lib.hid (HB11.out.at_ hh7)
    replace HB12:=Lib.hid (HB12.out.at_ hh7)
    have HAP:=Lib.hid hap
    have hw67:=hb7.size
    clear hh7 hb7 hap
    by_cases zj:j15=0
    ·subst zj
     obtain⟨x,bL,l,rfl,hl8,x1,x2,x3,hch,hown⟩:=HAP.out.resolve_left (fun h=>h rfl) |>.2
     subst hl8
     have HOW:=Lib.hid hown
     have HCH:=Lib.hid hch
     clear hown hch
     obtain⟨hesz8,heone⟩:=ag_one HE12.out
     have hesz:(Tryz.prog.info? 82).map (·.size)=some ecs.size:=by rw[hesz8];kernel_rfl
     have hth:w7.there bQ (oQ+kk*13+5) ecs.size:=fun j hj=>by
      rw[hesz8] at hj
      have hj:j<8:=hj
      obtain⟨cs',e,-,ha⟩:=HO.out
      cases e
      obtain⟨b,off,r',e1,hl',-,hc'⟩:=rows_at HW.out (e:=84) rfl (CV.mono (show CV cx.tb W0 T6 w6 0 (.sl 1 84 63) (.slice (some ⟨bQ,oQ,none⟩) p1 r1) from ha 1 _ _ rfl rfl) HX67.out (Nat.le_refl _)) hkm
      cases e1
      have hl':r'.length=13:=hl'
      have h1:w7.cell? ⟨bQ,oQ+kk*13+(5+j),none⟩=some r'[5+j]:=hc' w7 (Below.refl _ _) (5+j) _ (List.getElem?_eq_getElem (by omega))
      rw[show oQ+kk*13+5+j=oQ+kk*13+(5+j) by omega]
      exact⟨by rw[h1];rfl,cell_frozen HW.out HTQ.out h1⟩
     have hq4:bQ≠g4:=fun e=>HB4.out.1 (e ▸ HTQ.out)
     have hq11:bQ≠g11:=fun e=>HB11.out.1 (e ▸ HTQ.out)
     have hq8:bQ≠g4+1+1:=fun e=>HB8.out.1 (e ▸ HTQ.out)
     have hsz8:(w7.setCells bQ (oQ+kk*13+5) ecs.toList).heap.size=w7.heap.size:=(yj _ _ _ _).1
     have hoth:∀b,b≠bQ→(w7.setCells bQ (oQ+kk*13+5) ecs.toList).heap[b]? = w7.heap[b]?:=fun b h=>heap_setCells_other _ _ _ _ _ h
     have hbut8:RegB.But bQ w7 (w7.setCells bQ (oQ+kk*13+5) ecs.toList):=⟨Nat.le_of_eq hsz8.symm,fun b _ h=>hoth b h⟩
     have b11:YtmadfhgiaonnlaaGreatDoor.Blk (w7.setCells bQ (oQ+kk*13+5) ecs.toList) g11 51 #[.int .i64 o0,.slice (some ⟨bQ,oQ,none⟩) p1 r1,.slice Q2 p2 r2,.slice Q3 p3 r3,.slice Q4 p4 r4,.int .i64 o5,.slice Q6 p6 r6,.slice Q7 p7 r7,.slice Q8 l.length r8,.slice Q9 p9 r9,.slice Q10 p10 r10,.int .i64 o11,.int .i64 o12]:=(hoth g11 hq11.symm).trans HB11.out.2
     have b8:YtmadfhgiaonnlaaGreatDoor.Blk (w7.setCells bQ (oQ+kk*13+5) ecs.toList) (g4+1+1) 51 #[.int .i64 0,.slice none 0 0,.slice none 0 0,.slice none 0 0,.slice none 0 0,.int .i64 0,.slice none 0 0,.slice none 0 0,.slice none 0 0,.slice none 0 0,.slice none 0 0,.int .i64 0,.int .i64 0]:=(hoth _ hq8.symm).trans HB8.out.2
     have c11:=b11.cell 8
     have f11:=b11.frozen 8
     have c1:=HB11.out.2.cell 1
     simp at c11 c1
     have HSET:=Lib.hid <| setCell_eq_setRow (w7.setCells bQ (oQ+kk*13+5) ecs.toList) g11 8 #[.int .i64 o0,.slice (some ⟨bQ,oQ,none⟩) p1 r1,.slice Q2 p2 r2,.slice Q3 p3 r3,.slice Q4 p4 r4,.int .i64 o5,.slice Q6 p6 r6,.slice Q7 p7 r7,.slice Q8 l.length r8,.slice Q9 p9 r9,.slice Q10 p10 r10,.int .i64 o11,.int .i64 o12] 51 (0,0) (.slice (some ⟨bL,0,none⟩) (l.length+1) (l.length+1)) b11
     have hltz:(kk:Int)<(p1:Int):=by omega
     have hj0:(0:Int)≤(kk:Int):=by omega
     go_upto_region 18 with(first|(refine wpList_load_row rfl 82 (.tmp 12) rfl g12 rfl 82 ecs (0,0) _ HB12.out.2 Tryz.underlying82 rfl hesz ?_)|(refine wpList_store_mid rfl 82 (.tmp 90) (.tmp 87) rfl bQ (oQ+kk*13+5) ecs rfl rfl hth hesz heone ?_))
     have hset:=HSET.out
     have b9:YtmadfhgiaonnlaaGreatDoor.Blk ((w7.setCells bQ (oQ+kk*13+5) ecs.toList).setCell ⟨g11,8,none⟩ (.slice (some ⟨bL,0,none⟩) (l.length+1) (l.length+1))) g11 51 #[.int .i64 o0,.slice (some ⟨bQ,oQ,none⟩) p1 r1,.slice Q2 p2 r2,.slice Q3 p3 r3,.slice Q4 p4 r4,.int .i64 o5,.slice Q6 p6 r6,.slice Q7 p7 r7,.slice (some ⟨bL,0,none⟩) (l.length+1) (l.length+1),.slice Q9 p9 r9,.slice Q10 p10 r10,.int .i64 o11,.int .i64 o12]:=by rw[hset];exact setRow_heap _ g11 _ _ 51 (0,0) b11
     have b89:YtmadfhgiaonnlaaGreatDoor.Blk ((w7.setCells bQ (oQ+kk*13+5) ecs.toList).setCell ⟨g11,8,none⟩ (.slice (some ⟨bL,0,none⟩) (l.length+1) (l.length+1))) (g4+1+1) 51 #[.int .i64 0,.slice none 0 0,.slice none 0 0,.slice none 0 0,.slice none 0 0,.int .i64 0,.slice none 0 0,.slice none 0 0,.slice none 0 0,.slice none 0 0,.slice none 0 0,.int .i64 0,.int .i64 0]:=by rw[hset];exact(setRow_other _ g11 _ _ (by omega)).trans b8
     have hbut9:RegB.But g11 (w7.setCells bQ (oQ+kk*13+5) ecs.toList) ((w7.setCells bQ (oQ+kk*13+5) ecs.toList).setCell ⟨g11,8,none⟩ (.slice (some ⟨bL,0,none⟩) (l.length+1) (l.length+1))):=by rw[hset];exact RegB.But.row g11 _ _
     have hos9:((w7.setCells bQ (oQ+kk*13+5) ecs.toList).setCell ⟨g11,8,none⟩ (.slice (some ⟨bL,0,none⟩) (l.length+1) (l.length+1))).os=w7.os∧((w7.setCells bQ (oQ+kk*13+5) ecs.toList).setCell ⟨g11,8,none⟩ (.slice (some ⟨bL,0,none⟩) (l.length+1) (l.length+1))).tape=w7.tape∧((w7.setCells bQ (oQ+kk*13+5) ecs.toList).setCell ⟨g11,8,none⟩ (.slice (some ⟨bL,0,none⟩) (l.length+1) (l.length+1))).output=w7.output:=by rw[hset];exact(yj _ _ _ _).2
     clear hset c11 f11 c1
     generalize (w7.setCells bQ (oQ+kk*13+5) ecs.toList).setCell ⟨g11,8,none⟩ (.slice (some ⟨bL,0,none⟩) (l.length+1) (l.length+1))=w9 at *
     go_wp2_with (first|(refine wpList_load_row rfl 51 (.tmp 11) rfl g11 rfl 51 #[.int .i64 o0,.slice (some ⟨bQ,oQ,none⟩) p1 r1,.slice Q2 p2 r2,.slice Q3 p3 r3,.slice Q4 p4 r4,.int .i64 o5,.slice Q6 p6 r6,.slice Q7 p7 r7,.slice (some ⟨bL,0,none⟩) (l.length+1) (l.length+1),.slice Q9 p9 r9,.slice Q10 p10 r10,.int .i64 o11,.int .i64 o12] (0,0) _ b9 Tryz.underlying51 rfl (by kernel_rfl) ?_)|(refine wpList_store_rowTo rfl 51 (.tmp 8) (.tmp 92) rfl rfl (g4+1+1) #[.int .i64 o0,.slice (some ⟨bQ,oQ,none⟩) p1 r1,.slice Q2 p2 r2,.slice Q3 p3 r3,.slice Q4 p4 r4,.int .i64 o5,.slice Q6 p6 r6,.slice Q7 p7 r7,.slice (some ⟨bL,0,none⟩) (l.length+1) (l.length+1),.slice Q9 p9 r9,.slice Q10 p10 r10,.int .i64 o11,.int .i64 o12] rfl rfl 51 _ b89 (by kernel_rfl) rfl (by kernel_rfl) ?_))
     have hnew:∀b,b<g4→¬T b→b≠bQ:=fun b h1 h2 e=>by
      subst e
      rcases(HH0.out.comp HH.out).new b (HX67.out.sub b HTQ.out) with h3|h3
      ·exact h2 h3
      ·omega
     have hbut10:RegB.But (g4+1+1) w9 (w9.setRow (g4+1+1) #[.int .i64 o0,.slice (some ⟨bQ,oQ,none⟩) p1 r1,.slice Q2 p2 r2,.slice Q3 p3 r3,.slice Q4 p4 r4,.int .i64 o5,.slice Q6 p6 r6,.slice Q7 p7 r7,.slice (some ⟨bL,0,none⟩) (l.length+1) (l.length+1),.slice Q9 p9 r9,.slice Q10 p10 r10,.int .i64 o11,.int .i64 o12]):=RegB.But.row _ _ _
     have o1:=RegB.But.own hbut8 HOW.out (by omega)
     have o2:=RegB.But.own hbut9 o1 (by omega)
     have o3:=RegB.But.own hbut10 o2 (by omega)
     have hsz7:=(HH0.out.comp HH.out).size
     refine⟨rfl,_,ord_ret rfl rfl (setRow_heap _ _ _ _ _ _ b89) (by kernel_rfl),#[.int .i64 o0,.slice (some ⟨bQ,oQ,none⟩) p1 r1,.slice Q2 p2 r2,.slice Q3 p3 r3,.slice Q4 p4 r4,.int .i64 o5,.slice Q6 p6 r6,.slice Q7 p7 r7,.slice (some ⟨bL,0,none⟩) (l.length+1) (l.length+1),.slice Q9 p9 r9,.slice Q10 p10 r10,.int .i64 o11,.int .i64 o12],0,rfl,?_,⟨hos9.1.trans (HH0.out.comp HH.out).os,hos9.2.1.trans (HH0.out.comp HH.out).tape,hos9.2.2.trans (HH0.out.comp HH.out).output⟩,fun b hb hn=>?_,.inr ⟨rfl,l,x,some ⟨bL,0,none⟩,l.length+1,o0,some ⟨bQ,oQ,none⟩,p1,r1,Q2,p2,r2,Q3,p3,r3,Q4,p4,r4,o5,Q6,p6,r6,Q7,p7,r7,Q9,p9,r9,Q10,p10,r10,o11,o12,rfl,rfl,Own.at_ o3 (by omega),HCH.out,x1,x2,x3⟩⟩
     ·exact Nat.le_trans hsz7 (Nat.le_trans hbut8.1 (Nat.le_trans hbut9.1 hbut10.1))
     ·have hb7:b<w7.heap.size:=Nat.lt_of_lt_of_le hb hsz7
      exact(hbut10.2 b (Nat.lt_of_lt_of_le hb7 (Nat.le_trans hbut8.1 hbut9.1)) (by omega)).trans ((hbut9.2 b (Nat.lt_of_lt_of_le hb7 hbut8.1) (by omega)).trans ((hbut8.2 b hb7 (hnew b (by omega) hn)).trans ((HH0.out.comp HH.out).keep b hb (.inr hn))))
    ·have zjz:(j15 != 0)=true:=by simpa using zj
     go_wp2_with (first|(refine wpList_load_row rfl 51 (.tmp 4) rfl g4 rfl 51 cc (0,0) _ HB4.out.2 Tryz.underlying51 rfl HSZ.out ?_)|(refine wpList_store_rowTo rfl 51 (.tmp 8) (.tmp 82) rfl rfl (g4+1+1) cc rfl rfl 51 _ HB8.out.2 HSZ.out HS8.out HON.out ?_))
     exact⟨rfl,_,ord_ret rfl rfl (setRow_heap _ _ _ _ _ _ HB8.out.2) HSZ.out,ord_err zj HW.out (HH0.out.comp HH.out) (by omega) HB8.out (by omega)⟩
  ·have znz:(n14 != 0)=true:=by simpa using zn
   go_wp2_with (first|(refine wpList_load_row rfl 51 (.tmp 4) rfl g4 rfl 51 cc (0,0) _ HB4.out.2 Tryz.underlying51 rfl HSZ.out ?_)|(refine wpList_store_rowTo rfl 51 (.tmp 8) (.tmp 64) rfl rfl (g4+1+1) cc rfl rfl 51 _ HB8.out.2 HSZ.out HS8.out HON.out ?_))
   exact⟨rfl,_,ord_ret rfl rfl (setRow_heap _ _ _ _ _ _ HB8.out.2) HSZ.out,ord_err zn HW.out (HH0.out.comp HH.out) (by omega) HB8.out (by omega)⟩
end
end Sy
end Go.Proofs.YtmadfhgiaonnlaaGreatDoor
