import Derived.Test.YtmadfhgiaonnlaaGreatDoorPk18
set_option linter.unusedVariables false
set_option linter.unusedSimpArgs false
namespace Go.Proofs.YtmadfhgiaonnlaaGreatDoor
namespace Sy
open Go.RowKit
section
variable{W0:World}{T T' T'':Nat→Prop}{w W W':World}{b off:Nat}
set_option maxRecDepth 100000 in
set_option maxHeartbeats 4000000 in
theorem collect_walk(h134:Holds Tryz.prog cx W0 134 c134)(h135:Holds Tryz.prog cx W0 135 c135)(h136:Holds Tryz.prog cx W0 136 c136)(hw:WT cx.tb W0 T w)(hp:CV cx.tb W0 T w w.heap.size (.pt 1 80) (.pointer (some ⟨b,off,none⟩)))
  (s0 s1:ByteArray) (n2 n3 n4 n5:Int) (s6:ByteArray) (b7:Bool) (n8:Int) (B:Option Addr) (m c:Nat)
  (hev:TyVal cx.tb W0 T w w.heap.size (.agg [.str maxLen,.str maxLen,full .i64,full .i64,full .i64,full .i64,.str maxLen,.bool,full .i64,.sl 0 156 1024]) (.agg (evA s0 s1 n2 n3 n4 n5 s6 b7 n8 (.slice B m c)))) :
  Calls Tryz.prog 116 #[.pointer (some ⟨b,off,none⟩),.agg (evA s0 s1 n2 n3 n4 n5 s6 b7 n8 (.slice B m c))] w (CoPost W0 T w):=by
 obtain⟨u5,hc5,hu5⟩:=hw.load hp (k:=6) (ct:=.sl 1 95 8192) rfl
 obtain⟨A5,n5',c5',rfl,hn5⟩:=zy hu5
 obtain⟨u6,hc6,hu6⟩:=hw.load hp (k:=7) (ct:=.sl 1 98 1024) rfl
 obtain⟨A6,n6',c6',rfl,hn6⟩:=zy hu6
 have hb0:=(xh hw hp).2.1
 have hB:=below_new w (.cells (evA s0 s1 n2 n3 n4 n5 s6 b7 n8 (.slice B m c)) 95)
 obtain⟨hw1,hx1⟩:=zu hw hB
 have HW1:=Lib.hid hw1
 have HH1:Hid (Hist T w false T _):=yx (PU:=false) hw hB
 have HP1:=Lib.hid (pt1_base (hp.mono hx1 (Nat.le_refl _)) 0)
 have HEV:=Lib.hid (ev_base (qf hx1 hev) 0)
 have HU5:=Lib.hid (jw (CV.mono hu5 hx1 (Nat.le_refl _)) 0)
 have HC5:Hid (∀W:World,W.heap[b]? = (w.alloc (.cells (evA s0 s1 n2 n3 n4 n5 s6 b7 n8 (.slice B m c)) 95)).heap[b]?→W.cell? ⟨b,off+6,none⟩=some (.slice A5 n5' c5')):=fun W h=>by rw[Below.heap_alloc w _ _ hb0] at h;unfold World.cell? at hc5 ⊢;rw[h];exact hc5
 have HC6:Hid (∀W:World,W.heap[b]? = (w.alloc (.cells (evA s0 s1 n2 n3 n4 n5 s6 b7 n8 (.slice B m c)) 95)).heap[b]?→W.cell? ⟨b,off+7,none⟩=some (.slice A6 n6' c6')):=fun W h=>by rw[Below.heap_alloc w _ _ hb0] at h;unfold World.cell? at hc6 ⊢;rw[h];exact hc6
 have HBE:=Lib.hid (YtmadfhgiaonnlaaGreatDoor.Blk.new w 95 (evA s0 s1 n2 n3 n4 n5 s6 b7 n8 (.slice B m c)))
 have HG3:Hid (¬T w.heap.size):=fun h=>by have:=hw.lt h;omega
 have l5:=HC5.out _ rfl
 have l6:=HC6.out _ rfl
 clear hc5 hc6 hu5 hw hp hev hw1 hx1 hB hu6
 go_enter Tryz.func116,Tryz.ntmps116
 by_cases z5:4096≤n5'
 ·have z5z:(4096:Int)≤(n5':Int):=by omega
  go_wp2_with fail
  go_ret
  exact⟨3,rfl,by decide,by decide,T,HW1.out,HH1.out⟩
 have z5z:¬(4096:Int)≤(n5':Int):=by omega
 have z5d:decide ((4096:Int)≤(n5':Int))=false:=by simp;omega
 by_cases z6:256≤n6'
 ·have z6z:(256:Int)≤(n6':Int):=by omega
  go_wp2_with fail
  go_ret
  exact⟨3,rfl,by decide,by decide,T,HW1.out,HH1.out⟩
 have z6z:¬(256:Int)≤(n6':Int):=by omega
 go_wp2_with fail
 clear l5 l6
 have hgl:=HBE.out.lt
 generalize w.alloc (.cells (evA s0 s1 n2 n3 n4 n5 s6 b7 n8 (.slice B m c)) 95)=w1 at *
 generalize hg3:w.heap.size=g3 at *
 refine Reg4.region 12 (fun W=>∃T',Kp W0 T w1 b T' W) (fun k v W=>match k with|0=>v=.pointer (some ⟨b,off,none⟩)|1=>v=.pointer (some ⟨b,off,none⟩)|2=>v=.pointer (some ⟨b,off,none⟩)|3=>v=.pointer (some ⟨b,off+6,none⟩)|4=>v=.slice A5 n5' c5' | 5=>v=.agg (evA s0 s1 n2 n3 n4 n5 s6 b7 n8 (.slice B m c))|6=>CR W0 T w1 b v W|7=>CR W0 T w1 b v W|8=>CL W0 T w1 b v W|9=>CE v|10=>CL W0 T w1 b v W|11=>CE v|_=>True) (by kernel_rfl) (by kernel_rfl) (Reg4.in_of (n:=102) (by kernel_rfl) rfl) ⟨T,(Kp.refl HW1.out).below (xh HW1.out HP1.out).2.1 (Below.drew (Below.refl _ _))⟩ ?_ ?_
 ·intro j o hj ho a W hG hop
  have hj':j=0∨j=1∨j=2∨j=3∨j=4∨j=5∨j=6∨j=7∨j=8∨j=9∨j=10∨j=11:=by omega
  clear hj
  rcases hj' with rfl|rfl|rfl|rfl|rfl|rfl|rfl|rfl|rfl|rfl|rfl|rfl
  ·obtain rfl:=oi ho
   clear ho
   have h0:a.tmps[0]?.getD undef=.pointer (some ⟨b,off,none⟩):=gdt (hop 0 (by simp[Op.operands,Call.operands]))
   refine Reg4.StepOk.mono (R:=fun v W2=>v=.pointer (some ⟨b,off,none⟩)∧W2=W) ?_ (fun v W2 h=>?_)
   ·go_simp
    all_goals(try exact⟨rfl,rfl⟩)
   ·obtain⟨rfl,rfl⟩:=h;exact⟨hG,rfl,fun _ _ _ _ _ h=>h⟩
  ·obtain rfl:=oi ho
   clear ho
   have h27:a.tmps[27]?.getD undef=.pointer (some ⟨b,off,none⟩):=gdt (hop 27 (by simp[Op.operands,Call.operands]))
   refine Reg4.StepOk.mono (R:=fun v W2=>v=.pointer (some ⟨b,off,none⟩)∧W2=W) ?_ (fun v W2 h=>?_)
   ·go_simp
    all_goals(try exact⟨rfl,rfl⟩)
   ·obtain⟨rfl,rfl⟩:=h;exact⟨hG,rfl,fun _ _ _ _ _ h=>h⟩
  ·obtain rfl:=oi ho
   clear ho
   have h28:a.tmps[28]?.getD undef=.pointer (some ⟨b,off,none⟩):=gdt (hop 28 (by simp[Op.operands,Call.operands]))
   refine Reg4.StepOk.mono (R:=fun v W2=>v=.pointer (some ⟨b,off,none⟩)∧W2=W) ?_ (fun v W2 h=>?_)
   ·go_simp
    all_goals(try exact⟨rfl,rfl⟩)
   ·obtain⟨rfl,rfl⟩:=h;exact⟨hG,rfl,fun _ _ _ _ _ h=>h⟩
  ·obtain rfl:=oi ho
   clear ho
   have h29:a.tmps[29]?.getD undef=.pointer (some ⟨b,off,none⟩):=gdt (hop 29 (by simp[Op.operands,Call.operands]))
   refine Reg4.StepOk.mono (R:=fun v W2=>v=.pointer (some ⟨b,off+6,none⟩)∧W2=W) ?_ (fun v W2 h=>?_)
   ·go_simp
    all_goals(try exact⟨rfl,rfl⟩)
   ·obtain⟨rfl,rfl⟩:=h;exact⟨hG,rfl,fun _ _ _ _ _ h=>h⟩
  ·obtain rfl:=oi ho
   clear ho
   have h30:a.tmps[30]?.getD undef=.pointer (some ⟨b,off+6,none⟩):=gdt (hop 30 (by simp[Op.operands,Call.operands]))
   obtain⟨T',hK⟩:=id hG
   have l5:=HC5.out W hK.blk
   refine Reg4.StepOk.mono (R:=fun v W2=>v=.slice A5 n5' c5'∧W2=W) ?_ (fun v W2 h=>?_)
   ·go_simp
    all_goals(try exact⟨rfl,rfl⟩)
   ·obtain⟨rfl,rfl⟩:=h;exact⟨hG,rfl,fun _ _ _ _ _ h=>h⟩
  ·obtain rfl:=oi ho
   clear ho
   have h3:a.tmps[3]?.getD undef=.pointer (some ⟨g3,0,none⟩):=gdt (hop 3 (by simp[Op.operands,Call.operands]))
   obtain⟨T',hK⟩:=id hG
   have kb:YtmadfhgiaonnlaaGreatDoor.Blk W g3 95 (evA s0 s1 n2 n3 n4 n5 s6 b7 n8 (.slice B m c)):=(hK.hist.keep g3 hgl (.inr HG3.out)).trans HBE.out
   have kc:=kb.cell
   unfold evA at kc
   refine Reg4.StepOk.mono (R:=fun v W2=>v=.agg (evA s0 s1 n2 n3 n4 n5 s6 b7 n8 (.slice B m c))∧W2=W) ?_ (fun v W2 h=>?_)
   ·unfold evA
    go_simp
    all_goals(try exact⟨rfl,rfl⟩)
   ·obtain⟨rfl,rfl⟩:=h;exact⟨hG,rfl,fun _ _ _ _ _ h=>h⟩
  ·obtain rfl:=oi ho
   clear ho
   have h31:a.tmps[31]?.getD undef=.slice A5 n5' c5':=gdt (hop 31 (by simp[Op.operands,Call.operands]))
   have h32:a.tmps[32]?.getD undef=.agg (evA s0 s1 n2 n3 n4 n5 s6 b7 n8 (.slice B m c)):=gdt (hop 32 (by simp[Op.operands,Call.operands]))
   obtain⟨T',hK⟩:=id hG
   have HCL:=Lib.hid (put_call h134 hK HW1.out HP1.out (CV.mono HU5.out hK.hist.ext (Nat.le_refl _)) HEV.out)
   refine Reg4.StepOk.mono (R:=fun v W2=>CR W0 T w1 b v W2) ?_ (fun v W2 h=>?_)
   ·go_simp
    refine HCL.out.mono ?_
    rintro e W2 ⟨v,rfl,h⟩
    exact⟨_,rfl,h⟩
   ·obtain⟨T2,l,k,h1,h2⟩:=id h
    refine⟨⟨T2,h1⟩,h,fun k u hk hne hr hu=>?_⟩
    match k,hk,hne,hr,hu with
    | 0,_,_,_,hu=>exact hu
    | 1,_,_,_,hu=>exact hu
    | 2,_,_,_,hu=>exact hu
    | 3,_,_,_,hu=>exact hu
    | 4,_,_,_,hu=>exact hu
    | 5,_,_,_,hu=>exact hu
    | 6,_,hne,_,_=>exact absurd rfl hne
    | 7,_,_,hr,_=>exact absurd hr (by simp[Reg4.reaches,Reg4.waits,Region.binds])
    | 8,_,_,hr,_=>exact absurd hr (by simp[Reg4.reaches,Reg4.waits,Region.binds])
    | 9,_,_,hr,_=>exact absurd hr (by simp[Reg4.reaches,Reg4.waits,Region.binds])
    | 10,_,_,hr,_=>exact absurd hr (by simp[Reg4.reaches,Reg4.waits,Region.binds])
    | 11,_,_,hr,_=>exact absurd hr (by simp[Reg4.reaches,Reg4.waits,Region.binds])
    | k+12,hk,_,_,_=>omega
  ·obtain rfl:=oi ho
   clear ho
   have hk:CR W0 T w1 b (a.tmps.getD 33 undef) W:=hop 33 (by simp[Op.operands,Call.operands])
   refine Reg4.StepOk.mono (R:=fun v W2=>v=a.tmps.getD 33 undef∧W2=W) ?_ (fun v W2 h=>?_)
   ·go_simp
    all_goals(try exact⟨rfl,rfl⟩)
   ·obtain⟨rfl,rfl⟩:=h;exact⟨hG,hk,fun _ _ _ _ _ h=>h⟩
  ·obtain rfl:=oi ho
   clear ho
   obtain⟨T2,l,k,h1,e1,h2,h3⟩:CR W0 T w1 b (a.tmps.getD 26 undef) W:=hop 26 (by simp[Op.operands,Call.operands])
   have h26:a.tmps[26]?.getD undef=.tuple #[l,.int .i64 k]:=gdt e1
   refine Reg4.StepOk.mono (R:=fun v W2=>v=l∧W2=W) ?_ (fun v W2 h=>?_)
   ·go_simp
    all_goals(try exact⟨rfl,rfl⟩)
   ·obtain⟨rfl,rfl⟩:=h;exact⟨hG,⟨T2,h1,h2⟩,fun _ _ _ _ _ h=>h⟩
  ·obtain rfl:=oi ho
   clear ho
   obtain⟨T2,l,k,h1,e1,h2,h3⟩:CR W0 T w1 b (a.tmps.getD 26 undef) W:=hop 26 (by simp[Op.operands,Call.operands])
   have h26:a.tmps[26]?.getD undef=.tuple #[l,.int .i64 k]:=gdt e1
   refine Reg4.StepOk.mono (R:=fun v W2=>v=.int .i64 k∧W2=W) ?_ (fun v W2 h=>?_)
   ·go_simp
    all_goals(try exact⟨rfl,rfl⟩)
   ·obtain⟨rfl,rfl⟩:=h;exact⟨hG,⟨k,rfl,h3⟩,fun _ _ _ _ _ h=>h⟩
  ·obtain rfl:=oi ho
   clear ho
   have hk:CL W0 T w1 b (a.tmps.getD 34 undef) W:=hop 34 (by simp[Op.operands,Call.operands])
   refine Reg4.StepOk.mono (R:=fun v W2=>v=a.tmps.getD 34 undef∧W2=W) ?_ (fun v W2 h=>?_)
   ·go_simp
    all_goals(try exact⟨rfl,rfl⟩)
   ·obtain⟨rfl,rfl⟩:=h;exact⟨hG,hk,fun _ _ _ _ _ h=>h⟩
  ·obtain rfl:=oi ho
   clear ho
   have hk:CE (a.tmps.getD 35 undef):=hop 35 (by simp[Op.operands,Call.operands])
   refine Reg4.StepOk.mono (R:=fun v W2=>v=a.tmps.getD 35 undef∧W2=W) ?_ (fun v W2 h=>?_)
   ·go_simp
    all_goals(try exact⟨rfl,rfl⟩)
   ·obtain⟨rfl,rfl⟩:=h;exact⟨hG,hk,fun _ _ _ _ _ h=>h⟩
 ·intro vals W hG hv
  obtain⟨T2,hK,hL⟩:CL W0 T w1 b (vals 10) W:=hv 10 (by omega)
  obtain⟨k,e9,hk⟩:CE (vals 11):=hv 11 (by omega)
  clear hv hG
  simp only[Reg4.puts,Reg4.dstOf,List.range,List.range.loop,if_true,List.drop_succ_cons,List.drop_zero,e9]
  clear e9
  generalize vals 10=lv at *
  generalize vals 0=v0
  generalize vals 1=v1
  generalize vals 2=v2
  generalize vals 3=v3
  generalize vals 4=v4
  generalize vals 5=v5
  generalize vals 6=v6
  generalize vals 7=v7
  generalize vals 8=v8
  generalize vals 9=v9
  simp[Act.put]
  obtain⟨A7,n7,c7,rfl,hn7⟩:=zy hL
  have HK:=Lib.hid hK
  have HL:=Lib.hid hL
  clear hK hL
  have hT2:T2 b∧b<W.heap.size∧¬fil W T2 EvT b:=xh HK.out.wt (HP1.out.mono HK.out.hist.ext (Nat.le_refl _))
  have l5:=HC5.out W HK.out.blk
  have l6:=HC6.out W HK.out.blk
  have f5:=cell_frozen HK.out.wt hT2.1 l5
  go_upto_if 37 with(fail)
  go_cut [6] (fun s6 wd=>Cs W0 T w1 b off A6 n6' c6' wd)
  case first=>
   by_cases k0:k=0
   ·subst k0
    go_wp2_with fail
    go_meet
    exact Cs.store HK.out HP1.out l6 l5 HL.out
   ·have k0z:(k == 0)=false:=by simpa using k0
    by_cases k9:k=9
    ·subst k9
     go_wp2_with fail
     go_meet
     exact⟨T2,HK.out.wt,HK.out.hist,l6⟩
    ·have k9z:(k != 9)=true:=by simpa using k9
     go_wp2_with fail
     go_ret
     exact⟨k,rfl,hk.1,hk.2,T2,HK.out.wt,HH1.out.comp HK.out.hist⟩
  case rest=>
  clear l5 l6 f5
  obtain⟨T3,w3,h3,l7⟩:=hcut
  have HW3:=Lib.hid w3
  have HH3:=Lib.hid h3
  have HP3:=Lib.hid (pt1_base (HP1.out.mono h3.ext (Nat.le_refl _)) 0)
  have hb3:=(xh w3 HP3.out).2.1
  have HE3:Hid (YtmadfhgiaonnlaaGreatDoor.Blk wc g3 95 (evA s0 s1 n2 n3 n4 n5 s6 b7 n8 (.slice B m c))):=(h3.keep g3 hgl (.inr HG3.out)).trans HBE.out
  have hg3l:=HE3.out.lt
  have HG3':Hid (¬T3 g3):=fun h=>(h3.new g3 h).elim HG3.out (fun h=>by omega)
  have hz0:W0.heap.size≤wc.heap.size:=w3.size
  obtain⟨u5,hc5,hu5⟩:=w3.load HP3.out (k:=6) (ct:=.sl 1 95 8192) rfl
  obtain⟨A8,n8',c8',rfl,hn8'⟩:=zy hu5
  obtain⟨u11,hc11,nm,rfl,hm0,hm1⟩:=w3.load HP3.out (k:=11) (ct:=full .i64) rfl
  have HU8:=Lib.hid (jw hu5 0)
  have HC8:Hid (∀W:World,W.heap[b]? = wc.heap[b]?→W.cell? ⟨b,off+6,none⟩=some (.slice A8 n8' c8')):=fun W h=>by unfold World.cell? at hc5 ⊢;rw[h];exact hc5
  have HCm:Hid (∀W:World,W.heap[b]? = wc.heap[b]?→W.cell? ⟨b,off+11,none⟩=some (.int .i64 nm)):=fun W h=>by unfold World.cell? at hc11 ⊢;rw[h];exact hc11
  have HCr:Hid (∀W:World,W.heap[b]? = wc.heap[b]?→W.cell? ⟨b,off+7,none⟩=some (.slice A6 n6' c6')):=fun W h=>by unfold World.cell? at l7 ⊢;rw[h];exact l7
  have hs01:s0.size≤maxLen∧s1.size≤maxLen:=by
   obtain⟨cs',e,-,ha⟩:=HEV.out
   cases e
   obtain⟨_,q,q0⟩:=ha 0 _ _ rfl rfl
   cases q
   obtain⟨_,q,q1⟩:=ha 1 _ _ rfl rfl
   cases q
   exact⟨q0,q1⟩
  have HR6:Hid (CV cx.tb W0 T3 wc 0 (.sl 1 98 1024) (.slice A6 n6' c6')):=by
   obtain⟨u,q1,q2⟩:=w3.load HP3.out (k:=7) (ct:=.sl 1 98 1024) rfl
   rw[l7] at q1
   cases q1
   exact q2
  clear l7 hu5 hc5 hc11 h3 w3
  go_wp2_with fail
  refine Reg9D.region 22 (fun L vals W=>∃T',S8T W0 (fun kz=>match kz with|0=>some (.pointer (some ⟨b,off,none⟩))|1=>some (.pointer (some ⟨b,off,none⟩))|2=>some (.pointer (some ⟨b,off,none⟩))|3=>some (.pointer (some ⟨b,off+6,none⟩))|4=>some (.slice A8 n8' c8')|5=>some (.pointer (some ⟨g3,0,none⟩))|6=>some (.string s0)|7=>some (.pointer (some ⟨g3,1,none⟩))|8=>some (.string s1)|10=>some (.pointer (some ⟨b,off,none⟩))|11=>some (.pointer (some ⟨b,off,none⟩))|12=>some (.pointer (some ⟨b,off,none⟩))|13=>some (.pointer (some ⟨b,off+11,none⟩))|14=>some (.int .i64 nm)|_=>none) T3 wc b T' L vals W) (by kernel_rfl) (by kernel_rfl) (Reg4.in_of (n:=102) (by kernel_rfl) rfl) ⟨T3,(Kp.refl HW3.out).below hb3 (Below.drew (Below.refl _ _)),fun _ _ _ h=>(by cases h),fun h=>(by cases h),fun _ _ h=>(by cases h),fun h=>(by cases h),fun _ _ h=>(by cases h),fun h=>(by cases h)⟩ ?_ ?_
  ·intro j o hj ho L vals a W hLi hS0 hed hop hdn
   obtain⟨T4,hS⟩:=hS0
   have hj':j=0∨j=1∨j=2∨j=3∨j=4∨j=5∨j=6∨j=7∨j=8∨j=9∨j=10∨j=11∨j=12∨j=13∨j=14∨j=15∨j=16∨j=17∨j=18∨j=19∨j=20∨j=21:=by omega
   clear hj
   rcases hj' with rfl|rfl|rfl|rfl|rfl|rfl|rfl|rfl|rfl|rfl|rfl|rfl|rfl|rfl|rfl|rfl|rfl|rfl|rfl|rfl|rfl|rfl
   ·obtain rfl:=oi ho
    clear ho
    have h0:a.tmps[0]?.getD undef=.pointer (some ⟨b,off,none⟩):=gdt (hop 0 (by simp[Op.operands,Call.operands]))
    refine Reg4.StepOk.mono (R:=fun v W2=>v=.pointer (some ⟨b,off,none⟩)∧W2=W) ?_ (fun v W2 h=>?_)
    ·go_simp
     all_goals(try exact⟨rfl,rfl⟩)
    ·obtain⟨rfl,rfl⟩:=h;exact⟨T4,hS.put hLi (fun x hx=>oi hx) (by omega) (by omega) (by omega) (by omega) (by omega) (by omega)⟩
   ·obtain rfl:=oi ho
    clear ho
    obtain⟨lo47,eo47⟩:=hop 47 (by simp[Op.operands,Call.operands])
    have h47:a.tmps[47]?.getD undef=.pointer (some ⟨b,off,none⟩):=gdt (eo47.trans (hS.kn 0 _ rfl lo47))
    clear eo47
    refine Reg4.StepOk.mono (R:=fun v W2=>v=.pointer (some ⟨b,off,none⟩)∧W2=W) ?_ (fun v W2 h=>?_)
    ·go_simp
     all_goals(try exact⟨rfl,rfl⟩)
    ·obtain⟨rfl,rfl⟩:=h;exact⟨T4,hS.put hLi (fun x hx=>oi hx) (by omega) (by omega) (by omega) (by omega) (by omega) (by omega)⟩
   ·obtain rfl:=oi ho
    clear ho
    obtain⟨lo48,eo48⟩:=hop 48 (by simp[Op.operands,Call.operands])
    have h48:a.tmps[48]?.getD undef=.pointer (some ⟨b,off,none⟩):=gdt (eo48.trans (hS.kn 1 _ rfl lo48))
    clear eo48
    refine Reg4.StepOk.mono (R:=fun v W2=>v=.pointer (some ⟨b,off,none⟩)∧W2=W) ?_ (fun v W2 h=>?_)
    ·go_simp
     all_goals(try exact⟨rfl,rfl⟩)
    ·obtain⟨rfl,rfl⟩:=h;exact⟨T4,hS.put hLi (fun x hx=>oi hx) (by omega) (by omega) (by omega) (by omega) (by omega) (by omega)⟩
   ·obtain rfl:=oi ho
    clear ho
    obtain⟨lo49,eo49⟩:=hop 49 (by simp[Op.operands,Call.operands])
    have h49:a.tmps[49]?.getD undef=.pointer (some ⟨b,off,none⟩):=gdt (eo49.trans (hS.kn 2 _ rfl lo49))
    clear eo49
    refine Reg4.StepOk.mono (R:=fun v W2=>v=.pointer (some ⟨b,off+6,none⟩)∧W2=W) ?_ (fun v W2 h=>?_)
    ·go_simp
     all_goals(try exact⟨rfl,rfl⟩)
    ·obtain⟨rfl,rfl⟩:=h;exact⟨T4,hS.put hLi (fun x hx=>oi hx) (by omega) (by omega) (by omega) (by omega) (by omega) (by omega)⟩
   ·obtain rfl:=oi ho
    clear ho
    obtain⟨lo50,eo50⟩:=hop 50 (by simp[Op.operands,Call.operands])
    have h50:a.tmps[50]?.getD undef=.pointer (some ⟨b,off+6,none⟩):=gdt (eo50.trans (hS.kn 3 _ rfl lo50))
    clear eo50
    have l5:=HC8.out W hS.kp.blk
    refine Reg4.StepOk.mono (R:=fun v W2=>v=.slice A8 n8' c8'∧W2=W) ?_ (fun v W2 h=>?_)
    ·go_simp
     all_goals(try exact⟨rfl,rfl⟩)
    ·obtain⟨rfl,rfl⟩:=h;exact⟨T4,hS.put hLi (fun x hx=>oi hx) (by omega) (by omega) (by omega) (by omega) (by omega) (by omega)⟩
   ·obtain rfl:=oi ho
    clear ho
    have h3:a.tmps[3]?.getD undef=.pointer (some ⟨g3,0,none⟩):=gdt (hop 3 (by simp[Op.operands,Call.operands]))
    refine Reg4.StepOk.mono (R:=fun v W2=>v=.pointer (some ⟨g3,0,none⟩)∧W2=W) ?_ (fun v W2 h=>?_)
    ·go_simp
     all_goals(try exact⟨rfl,rfl⟩)
    ·obtain⟨rfl,rfl⟩:=h;exact⟨T4,hS.put hLi (fun x hx=>oi hx) (by omega) (by omega) (by omega) (by omega) (by omega) (by omega)⟩
   ·obtain rfl:=oi ho
    clear ho
    obtain⟨lo52,eo52⟩:=hop 52 (by simp[Op.operands,Call.operands])
    have h52:a.tmps[52]?.getD undef=.pointer (some ⟨g3,0,none⟩):=gdt (eo52.trans (hS.kn 5 _ rfl lo52))
    clear eo52
    have kb:YtmadfhgiaonnlaaGreatDoor.Blk W g3 95 (evA s0 s1 n2 n3 n4 n5 s6 b7 n8 (.slice B m c)):=(hS.kp.hist.keep g3 hg3l (.inr HG3'.out)).trans HE3.out
    have kc:=kb.cell
    unfold evA at kc
    refine Reg4.StepOk.mono (R:=fun v W2=>v=.string s0∧W2=W) ?_ (fun v W2 h=>?_)
    ·go_simp
     all_goals(try exact⟨rfl,rfl⟩)
    ·obtain⟨rfl,rfl⟩:=h;exact⟨T4,hS.put hLi (fun x hx=>oi hx) (by omega) (by omega) (by omega) (by omega) (by omega) (by omega)⟩
   ·obtain rfl:=oi ho
    clear ho
    have h3:a.tmps[3]?.getD undef=.pointer (some ⟨g3,0,none⟩):=gdt (hop 3 (by simp[Op.operands,Call.operands]))
    refine Reg4.StepOk.mono (R:=fun v W2=>v=.pointer (some ⟨g3,1,none⟩)∧W2=W) ?_ (fun v W2 h=>?_)
    ·go_simp
     all_goals(try exact⟨rfl,rfl⟩)
    ·obtain⟨rfl,rfl⟩:=h;exact⟨T4,hS.put hLi (fun x hx=>oi hx) (by omega) (by omega) (by omega) (by omega) (by omega) (by omega)⟩
   ·obtain rfl:=oi ho
    clear ho
    obtain⟨lo54,eo54⟩:=hop 54 (by simp[Op.operands,Call.operands])
    have h54:a.tmps[54]?.getD undef=.pointer (some ⟨g3,1,none⟩):=gdt (eo54.trans (hS.kn 7 _ rfl lo54))
    clear eo54
    have kb:YtmadfhgiaonnlaaGreatDoor.Blk W g3 95 (evA s0 s1 n2 n3 n4 n5 s6 b7 n8 (.slice B m c)):=(hS.kp.hist.keep g3 hg3l (.inr HG3'.out)).trans HE3.out
    have kc:=kb.cell
    unfold evA at kc
    refine Reg4.StepOk.mono (R:=fun v W2=>v=.string s1∧W2=W) ?_ (fun v W2 h=>?_)
    ·go_simp
     all_goals(try exact⟨rfl,rfl⟩)
    ·obtain⟨rfl,rfl⟩:=h;exact⟨T4,hS.put hLi (fun x hx=>oi hx) (by omega) (by omega) (by omega) (by omega) (by omega) (by omega)⟩
   ·obtain rfl:=oi ho
    clear ho
    obtain⟨lo51,eo51⟩:=hop 51 (by simp[Op.operands,Call.operands])
    have h51:a.tmps[51]?.getD undef=.slice A8 n8' c8':=gdt (eo51.trans (hS.kn 4 _ rfl lo51))
    clear eo51
    obtain⟨lo53,eo53⟩:=hop 53 (by simp[Op.operands,Call.operands])
    have h53:a.tmps[53]?.getD undef=.string s0:=gdt (eo53.trans (hS.kn 6 _ rfl lo53))
    clear eo53
    obtain⟨lo55,eo55⟩:=hop 55 (by simp[Op.operands,Call.operands])
    have h55:a.tmps[55]?.getD undef=.string s1:=gdt (eo55.trans (hS.kn 8 _ rfl lo55))
    clear eo55
    have HCL:=Lib.hid (of_call h136 (Kp.refl (b:=b) hS.kp.wt) hS.kp.wt (HP3.out.mono hS.kp.hist.ext (Nat.le_refl _)) (CV.mono HU8.out hS.kp.hist.ext (Nat.le_refl _)) hs01.1 hs01.2)
    refine Reg4.StepOk.mono (R:=fun v W2=>CL W0 T4 W b v W2) ?_ (fun v W2 h=>?_)
    ·go_simp
     refine HCL.out.mono ?_
     rintro e W2 ⟨v,rfl,h⟩
     exact⟨_,rfl,h⟩
    ·obtain⟨T2,hk,hc⟩:=id h
     exact⟨T2,(hS.grow hk).put hLi (fun x hx=>by cases hx) (fun _=>hc) (by omega) (by omega) (by omega) (by omega) (by omega)⟩
   ·obtain rfl:=oi ho
    clear ho
    have h0:a.tmps[0]?.getD undef=.pointer (some ⟨b,off,none⟩):=gdt (hop 0 (by simp[Op.operands,Call.operands]))
    refine Reg4.StepOk.mono (R:=fun v W2=>v=.pointer (some ⟨b,off,none⟩)∧W2=W) ?_ (fun v W2 h=>?_)
    ·go_simp
     all_goals(try exact⟨rfl,rfl⟩)
    ·obtain⟨rfl,rfl⟩:=h;exact⟨T4,hS.put hLi (fun x hx=>oi hx) (by omega) (by omega) (by omega) (by omega) (by omega) (by omega)⟩
   ·obtain rfl:=oi ho
    clear ho
    obtain⟨lo57,eo57⟩:=hop 57 (by simp[Op.operands,Call.operands])
    have h57:a.tmps[57]?.getD undef=.pointer (some ⟨b,off,none⟩):=gdt (eo57.trans (hS.kn 10 _ rfl lo57))
    clear eo57
    refine Reg4.StepOk.mono (R:=fun v W2=>v=.pointer (some ⟨b,off,none⟩)∧W2=W) ?_ (fun v W2 h=>?_)
    ·go_simp
     all_goals(try exact⟨rfl,rfl⟩)
    ·obtain⟨rfl,rfl⟩:=h;exact⟨T4,hS.put hLi (fun x hx=>oi hx) (by omega) (by omega) (by omega) (by omega) (by omega) (by omega)⟩
   ·obtain rfl:=oi ho
    clear ho
    obtain⟨lo58,eo58⟩:=hop 58 (by simp[Op.operands,Call.operands])
    have h58:a.tmps[58]?.getD undef=.pointer (some ⟨b,off,none⟩):=gdt (eo58.trans (hS.kn 11 _ rfl lo58))
    clear eo58
    refine Reg4.StepOk.mono (R:=fun v W2=>v=.pointer (some ⟨b,off,none⟩)∧W2=W) ?_ (fun v W2 h=>?_)
    ·go_simp
     all_goals(try exact⟨rfl,rfl⟩)
    ·obtain⟨rfl,rfl⟩:=h;exact⟨T4,hS.put hLi (fun x hx=>oi hx) (by omega) (by omega) (by omega) (by omega) (by omega) (by omega)⟩
   ·obtain rfl:=oi ho
    clear ho
    obtain⟨lo59,eo59⟩:=hop 59 (by simp[Op.operands,Call.operands])
    have h59:a.tmps[59]?.getD undef=.pointer (some ⟨b,off,none⟩):=gdt (eo59.trans (hS.kn 12 _ rfl lo59))
    clear eo59
    refine Reg4.StepOk.mono (R:=fun v W2=>v=.pointer (some ⟨b,off+11,none⟩)∧W2=W) ?_ (fun v W2 h=>?_)
    ·go_simp
     all_goals(try exact⟨rfl,rfl⟩)
    ·obtain⟨rfl,rfl⟩:=h;exact⟨T4,hS.put hLi (fun x hx=>oi hx) (by omega) (by omega) (by omega) (by omega) (by omega) (by omega)⟩
   ·obtain rfl:=oi ho
    clear ho
    obtain⟨lo60,eo60⟩:=hop 60 (by simp[Op.operands,Call.operands])
    have h60:a.tmps[60]?.getD undef=.pointer (some ⟨b,off+11,none⟩):=gdt (eo60.trans (hS.kn 13 _ rfl lo60))
    clear eo60
    have l5:=HCm.out W hS.kp.blk
    refine Reg4.StepOk.mono (R:=fun v W2=>v=.int .i64 nm∧W2=W) ?_ (fun v W2 h=>?_)
    ·go_simp
     all_goals(try exact⟨rfl,rfl⟩)
    ·obtain⟨rfl,rfl⟩:=h;exact⟨T4,hS.put hLi (fun x hx=>oi hx) (by omega) (by omega) (by omega) (by omega) (by omega) (by omega)⟩
   ·obtain rfl:=oi ho
    clear ho
    obtain⟨lo56,eo56⟩:=hop 56 (by simp[Op.operands,Call.operands])
    have h56:a.tmps[56]?.getD undef=vals 9:=gdt eo56
    clear eo56
    obtain⟨lo61,eo61⟩:=hop 61 (by simp[Op.operands,Call.operands])
    have h61:a.tmps[61]?.getD undef=.int .i64 nm:=gdt (eo61.trans (hS.kn 14 _ rfl lo61))
    clear eo61
    have HCL:=Lib.hid (make_call h135 (Kp.refl (b:=b) hS.kp.wt) hS.kp.wt (HP3.out.mono hS.kp.hist.ext (Nat.le_refl _)) (hS.ls lo56) ⟨hm0,hm1⟩)
    refine Reg4.StepOk.mono (R:=fun v W2=>CM W0 T4 W b v W2) ?_ (fun v W2 h=>?_)
    ·go_simp
     refine HCL.out.mono ?_
     rintro e W2 ⟨v,rfl,h⟩
     exact⟨_,rfl,h⟩
    ·obtain⟨T2,cs,nk,hk,hv,hc,hn⟩:=id h
     exact⟨T2,(hS.grow hk).put hLi (fun x hx=>by cases hx) (by omega) (fun _=>⟨cs,nk,hv,hc,hn⟩) (by omega) (by omega) (by omega) (by omega)⟩
   ·obtain rfl:=oi ho
    clear ho
    obtain⟨lo62,eo62⟩:=hop 62 (by simp[Op.operands,Call.operands])
    have h62:a.tmps[62]?.getD undef=vals 15:=gdt eo62
    clear eo62
    refine Reg4.StepOk.mono (R:=fun v W2=>v=vals 15∧W2=W) ?_ (fun v W2 h=>?_)
    ·go_simp
     all_goals(try exact⟨rfl,rfl⟩)
    ·obtain⟨rfl,rfl⟩:=h;exact⟨T4,hS.put hLi (fun x hx=>by cases hx) (by omega) (fun _=>hS.tu 15 (.inl rfl) lo62) (by omega) (by omega) (by omega) (by omega)⟩
   ·obtain rfl:=oi ho
    clear ho
    obtain⟨lo46,eo46⟩:=hop 46 (by simp[Op.operands,Call.operands])
    have h46:a.tmps[46]?.getD undef=vals 16:=gdt eo46
    clear eo46
    refine Reg4.StepOk.mono (R:=fun v W2=>∃cs nk,vals 16=.tuple #[.agg cs,.int .i64 nk]∧TyVal cx.tb W0 T4 W 0 rcP (.agg cs)∧R64' nk∧v=.agg cs∧W2=W) ?_ (fun v W2 h=>?_)
    ·obtain⟨cs,nk,q1,q2,q3⟩:=hS.tu 16 (.inr rfl) lo46
     have HQ1:=Lib.hid q1
     have HQ2:=Lib.hid q2
     have HQ3:=Lib.hid q3
     rw[q1] at h46
     clear q1 q2 q3
     go_simp
     exact⟨cs,nk,HQ1.out,HQ2.out,HQ3.out,rfl,rfl⟩
    ·obtain⟨cs,nk,q1,q2,q3,rfl,rfl⟩:=h;exact⟨T4,hS.put hLi (fun x hx=>by cases hx) (by omega) (by omega) (fun _=>⟨cs,rfl,q2⟩) (by omega) (by omega) (by omega)⟩
   ·obtain rfl:=oi ho
    clear ho
    obtain⟨lo46,eo46⟩:=hop 46 (by simp[Op.operands,Call.operands])
    have h46:a.tmps[46]?.getD undef=vals 16:=gdt eo46
    clear eo46
    refine Reg4.StepOk.mono (R:=fun v W2=>∃cs nk,vals 16=.tuple #[.agg cs,.int .i64 nk]∧TyVal cx.tb W0 T4 W 0 rcP (.agg cs)∧R64' nk∧v=.int .i64 nk∧W2=W) ?_ (fun v W2 h=>?_)
    ·obtain⟨cs,nk,q1,q2,q3⟩:=hS.tu 16 (.inr rfl) lo46
     have HQ1:=Lib.hid q1
     have HQ2:=Lib.hid q2
     have HQ3:=Lib.hid q3
     rw[q1] at h46
     clear q1 q2 q3
     go_simp
     exact⟨cs,nk,HQ1.out,HQ2.out,HQ3.out,rfl,rfl⟩
    ·obtain⟨cs,nk,q1,q2,q3,rfl,rfl⟩:=h;exact⟨T4,hS.put hLi (fun x hx=>by cases hx) (by omega) (by omega) (by omega) (fun _=>⟨nk,rfl,q3⟩) (by omega) (by omega)⟩
   ·obtain rfl:=oi ho
    clear ho
    have n20:L 20=false:=by
     cases hq:L 20 with
     | false=>rfl
     | true=>have:=hdn 20 19 _ rfl hq (by kernel_rfl);rw[hLi] at this;cases this
    refine stepOk_of (r':=.ok (.value (.pointer (some ⟨W.heap.size,0,none⟩))) (W.alloc (.cells #[.string ⟨#[]⟩,.string ⟨#[]⟩,.int .i64 0,.string ⟨#[]⟩,.int .i64 0,.int .i64 0,.slice none 0 0,.int .i64 0,.int .i64 0,.bool false,.bool false] 98))) (by kernel_rfl) ?_
    exact⟨T4,hS.alloc hLi n20 (Nat.lt_of_lt_of_le hb3 hS.kp.hist.size) rfl rfl⟩
   ·obtain rfl:=oi ho
    clear ho
    obtain⟨lo7,eo7⟩:=hop 7 (by simp[Op.operands,Call.operands])
    have h7:a.tmps[7]?.getD undef=vals 19:=gdt eo7
    obtain⟨lo63,eo63⟩:=hop 63 (by simp[Op.operands,Call.operands])
    have h63:a.tmps[63]?.getD undef=vals 17:=gdt eo63
    obtain⟨gb,old,q1,q2,q3,q4,q5,-⟩:=hS.bx lo7
    obtain⟨cs,r1,r2⟩:=hS.rc lo63
    obtain⟨r3,r4⟩:=rc_of r2
    have hTb:=(xh hS.kp.wt (HP3.out.mono hS.kp.hist.ext (Nat.le_refl _))).1
    exact RegA.storeRun 98 (.tmp 7) (.tmp 63) rfl gb (eo7.trans q1) cs old (eo63.trans r1) q4 (by rw[r3];kernel_rfl) (by omega) r4 ⟨T4,hS.store q1 hLi lo7 q2 q3 q4 hTb r3 r2 hz0 rfl⟩
   ·obtain rfl:=oi ho
    clear ho
    obtain⟨lo64,eo64⟩:=hop 64 (by simp[Op.operands,Call.operands])
    have h64:a.tmps[64]?.getD undef=vals 18:=gdt eo64
    clear eo64
    refine Reg4.StepOk.mono (R:=fun v W2=>v=vals 18∧W2=W) ?_ (fun v W2 h=>?_)
    ·go_simp
     all_goals(try exact⟨rfl,rfl⟩)
    ·obtain⟨rfl,rfl⟩:=h;exact⟨T4,hS.put hLi (fun x hx=>by cases hx) (by omega) (by omega) (by omega) (fun _=>hS.er 18 (.inl rfl) lo64) (by omega) (by omega)⟩
  ·intro L vals W hall hS0
   obtain⟨T4,hS⟩:=hS0
   obtain⟨g8,rcs,n21,e19,e21,hn21,hC⟩:=hS.fin hall
   clear hS hall
   simp only[Reg4.puts,Reg4.dstOf,List.range,List.range.loop,if_true,List.drop_succ_cons,List.drop_zero,e19,e21]
   clear e19 e21
   generalize vals 0=v0
   generalize vals 1=v1
   generalize vals 2=v2
   generalize vals 3=v3
   generalize vals 4=v4
   generalize vals 5=v5
   generalize vals 6=v6
   generalize vals 7=v7
   generalize vals 8=v8
   generalize vals 9=v9
   generalize vals 10=v10
   generalize vals 11=v11
   generalize vals 12=v12
   generalize vals 13=v13
   generalize vals 14=v14
   generalize vals 15=v15
   generalize vals 16=v16
   generalize vals 17=v17
   generalize vals 18=v18
   generalize vals 20=v20
   simp[Act.put]
   have HC:=Lib.hid hC
   clear hC
   by_cases z21:n21=0
   ·subst z21
    have l6:=HCr.out W HC.out.kp.blk
    have HD:Hid (∀W2:World,Below W.heap.size W W2→W2.cell? ⟨b,off+7,none⟩=some (.slice A6 n6' c6')):=fun W2 h=>HCr.out W2 ((h.block b (Nat.lt_of_lt_of_le hb3 HC.out.kp.hist.size)).trans HC.out.kp.blk)
    go_upto_region 11 with(fail)
    go_wp2_with fail
    clear l6
    generalize hWg:W=w8 at *
    clear hWg
    go_loopg [73] n6' (fun gg s73 wr=>∃j:Nat,j+gg=n6'∧s73=.int .i64 j∧Hid (Below w8.heap.size w8 wr))
    case atStart=>exact⟨0,by omega,rfl,Lib.hid (Below.refl _ _)⟩
    case round=>
     obtain⟨j,hj,rfl,HB⟩:=hrel
     by_cases hjn:j<n6'
     ·obtain⟨b6,o6,r,rfl,hrl,hrt,hcl⟩:=rows_at HC.out.kp.wt rfl (CV.mono HR6.out HC.out.kp.hist.ext (Nat.le_refl _)) hjn
      obtain⟨t0,t1,m2,t3,m4,m5,B6,mm,cc,m7,m8,b9,b10,rfl⟩:=rec_of hrl hrt
      have hcw:=hcl wr HB.out
      have kb:YtmadfhgiaonnlaaGreatDoor.Blk wr g3 95 (evA s0 s1 n2 n3 n4 n5 s6 b7 n8 (.slice B m c)):=YtmadfhgiaonnlaaGreatDoor.Blk.call ((HC.out.kp.hist.keep g3 hg3l (.inr HG3'.out)).trans HE3.out) HB.out
      have e0:∀ob,(wr.alloc ob).cell? ⟨g3,0,none⟩=some (.string s0):=fun ob=>(kb.alloc ob).cell 0
      have e1:∀ob,(wr.alloc ob).cell? ⟨g3,1,none⟩=some (.string s1):=fun ob=>(kb.alloc ob).cell 1
      have k0:wr.cell? ⟨b6,o6+j*11,none⟩=some (.string t0):=by simpa using hcw 0 _ rfl
      have k1:wr.cell? ⟨b6,o6+j*11+1,none⟩=_:=hcw 1 _ rfl
      have k2:wr.cell? ⟨b6,o6+j*11+2,none⟩=_:=hcw 2 _ rfl
      have k3:wr.cell? ⟨b6,o6+j*11+3,none⟩=_:=hcw 3 _ rfl
      have k4:wr.cell? ⟨b6,o6+j*11+4,none⟩=_:=hcw 4 _ rfl
      have k5:wr.cell? ⟨b6,o6+j*11+5,none⟩=_:=hcw 5 _ rfl
      have k6:wr.cell? ⟨b6,o6+j*11+6,none⟩=_:=hcw 6 _ rfl
      have k7:wr.cell? ⟨b6,o6+j*11+7,none⟩=_:=hcw 7 _ rfl
      have k8:wr.cell? ⟨b6,o6+j*11+8,none⟩=_:=hcw 8 _ rfl
      have k9:wr.cell? ⟨b6,o6+j*11+9,none⟩=_:=hcw 9 _ rfl
      have k10:wr.cell? ⟨b6,o6+j*11+10,none⟩=_:=hcw 10 _ rfl
      clear hcw hcl hrt hrl kb
      have hltz:(j:Int)<(n6':Int):=by omega
      have hj0:(0:Int)≤(j:Int):=by omega
      have e4:IntKind.i64.wrap ((j:Int)+1)=((j+1:Nat):Int):=by simp[IntKind.wrap,IntKind.bits,IntKind.signed];omega
      go_wp2_with fail
      all_goals first
       | (go_roundg (n6'-(j+1))<;>first
           | omega
           | exact⟨j+1,by omega,by simp,Lib.hid (below_alloc HB.out _)⟩)
       | (go_ret
          have hC2:=HC.out.below (Nat.lt_of_lt_of_le hb3 HC.out.kp.hist.size) (below_alloc HB.out (.cells #[.string t0,.string t1,.int .i64 m2,.string t3,.int .i64 m4,.int .i64 m5,.slice B6 mm cc,.int .i64 m7,.int .i64 m8,.bool b9,.bool b10] 98))
          exact⟨0,rfl,by decide,by decide,T4,hC2.kp.wt,(HH1.out.comp HH3.out).comp hC2.kp.hist⟩)
     ·have hjn':n6'=j:=by omega
      subst hjn'
      go_wp2_with fail
      have HC9:=Lib.hid (HC.out.below (Nat.lt_of_lt_of_le hb3 HC.out.kp.hist.size) HB.out)
      have HP9:=Lib.hid (HP3.out.mono HC9.out.kp.hist.ext (Nat.le_refl _))
      have HR9:=Lib.hid (CV.mono HR6.out HC9.out.kp.hist.ext (Nat.le_refl _))
      have hb9:=(xh HC9.out.kp.wt HP9.out).2.1
      have HD9:Hid (∀W:World,W.heap[b]? = wr.heap[b]?→W.cell? ⟨b,off+7,none⟩=some (.slice A6 n6' c6')):=fun W h=>HCr.out W (h.trans HC9.out.kp.blk)
      have hn6z:n6'≤1000:=by omega
      refine Reg9D.region 12 (fun L vals W=>∃T',S17 W0 (fun kz=>match kz with|0=>some (.pointer (some ⟨b,off,none⟩))|1=>some (.pointer (some ⟨b,off,none⟩))|2=>some (.pointer (some ⟨b,off,none⟩))|3=>some (.pointer (some ⟨b,off,none⟩))|4=>some (.pointer (some ⟨b,off+7,none⟩))|5=>some (.slice A6 n6' c6')|6=>some (.agg rcs)|9=>some (.pointer (some ⟨b,off,none⟩))|10=>some (.pointer (some ⟨b,off,none⟩))|11=>some (.pointer (some ⟨b,off+7,none⟩))|_=>none) T4 wr b g8 n6' rcs T' L vals W) (by kernel_rfl) (by kernel_rfl) (Reg4.in_of (n:=102) (by kernel_rfl) rfl) ⟨T4,⟨(Kp.refl HC9.out.kp.wt).below hb9 (Below.drew (Below.refl _ _)),HC9.out.no,HC9.out.blk,qf (zu HC9.out.kp.wt (Below.drew (Below.refl _ _))).2 HC9.out.ty⟩,fun _ _ _ h=>(by cases h),fun h=>(by cases h),fun h=>(by cases h)⟩ ?_ ?_
      ·intro j o hj ho L vals a W hLi hS0 hed hop hdn
       obtain⟨T5,hS⟩:=hS0
       have hj':j=0∨j=1∨j=2∨j=3∨j=4∨j=5∨j=6∨j=7∨j=8∨j=9∨j=10∨j=11:=by omega
       clear hj
       rcases hj' with rfl|rfl|rfl|rfl|rfl|rfl|rfl|rfl|rfl|rfl|rfl|rfl
       ·obtain rfl:=oi ho
        clear ho
        have h0:a.tmps[0]?.getD undef=.pointer (some ⟨b,off,none⟩):=gdt (hop 0 (by simp[Op.operands,Call.operands]))
        refine Reg4.StepOk.mono (R:=fun v W2=>v=.pointer (some ⟨b,off,none⟩)∧W2=W) ?_ (fun v W2 h=>?_)
        ·go_simp
         all_goals(try exact⟨rfl,rfl⟩)
        ·obtain⟨rfl,rfl⟩:=h;exact⟨T5,hS.put (fun x hx=>oi hx) (by omega) (by omega)⟩
       ·obtain rfl:=oi ho
        clear ho
        have h0:a.tmps[0]?.getD undef=.pointer (some ⟨b,off,none⟩):=gdt (hop 0 (by simp[Op.operands,Call.operands]))
        refine Reg4.StepOk.mono (R:=fun v W2=>v=.pointer (some ⟨b,off,none⟩)∧W2=W) ?_ (fun v W2 h=>?_)
        ·go_simp
         all_goals(try exact⟨rfl,rfl⟩)
        ·obtain⟨rfl,rfl⟩:=h;exact⟨T5,hS.put (fun x hx=>oi hx) (by omega) (by omega)⟩
       ·obtain rfl:=oi ho
        clear ho
        obtain⟨lo91,eo91⟩:=hop 91 (by simp[Op.operands,Call.operands])
        have h91:a.tmps[91]?.getD undef=.pointer (some ⟨b,off,none⟩):=gdt (eo91.trans (hS.kn 1 _ rfl lo91))
        clear eo91
        refine Reg4.StepOk.mono (R:=fun v W2=>v=.pointer (some ⟨b,off,none⟩)∧W2=W) ?_ (fun v W2 h=>?_)
        ·go_simp
         all_goals(try exact⟨rfl,rfl⟩)
        ·obtain⟨rfl,rfl⟩:=h;exact⟨T5,hS.put (fun x hx=>oi hx) (by omega) (by omega)⟩
       ·obtain rfl:=oi ho
        clear ho
        obtain⟨lo92,eo92⟩:=hop 92 (by simp[Op.operands,Call.operands])
        have h92:a.tmps[92]?.getD undef=.pointer (some ⟨b,off,none⟩):=gdt (eo92.trans (hS.kn 2 _ rfl lo92))
        clear eo92
        refine Reg4.StepOk.mono (R:=fun v W2=>v=.pointer (some ⟨b,off,none⟩)∧W2=W) ?_ (fun v W2 h=>?_)
        ·go_simp
         all_goals(try exact⟨rfl,rfl⟩)
        ·obtain⟨rfl,rfl⟩:=h;exact⟨T5,hS.put (fun x hx=>oi hx) (by omega) (by omega)⟩
       ·obtain rfl:=oi ho
        clear ho
        obtain⟨lo93,eo93⟩:=hop 93 (by simp[Op.operands,Call.operands])
        have h93:a.tmps[93]?.getD undef=.pointer (some ⟨b,off,none⟩):=gdt (eo93.trans (hS.kn 3 _ rfl lo93))
        clear eo93
        refine Reg4.StepOk.mono (R:=fun v W2=>v=.pointer (some ⟨b,off+7,none⟩)∧W2=W) ?_ (fun v W2 h=>?_)
        ·go_simp
         all_goals(try exact⟨rfl,rfl⟩)
        ·obtain⟨rfl,rfl⟩:=h;exact⟨T5,hS.put (fun x hx=>oi hx) (by omega) (by omega)⟩
       ·obtain rfl:=oi ho
        clear ho
        obtain⟨lo94,eo94⟩:=hop 94 (by simp[Op.operands,Call.operands])
        have h94:a.tmps[94]?.getD undef=.pointer (some ⟨b,off+7,none⟩):=gdt (eo94.trans (hS.kn 4 _ rfl lo94))
        clear eo94
        have l5:=HD9.out W hS.c8.kp.blk
        refine Reg4.StepOk.mono (R:=fun v W2=>v=.slice A6 n6' c6'∧W2=W) ?_ (fun v W2 h=>?_)
        ·go_simp
         all_goals(try exact⟨rfl,rfl⟩)
        ·obtain⟨rfl,rfl⟩:=h;exact⟨T5,hS.put (fun x hx=>oi hx) (by omega) (by omega)⟩
       ·obtain rfl:=oi ho
        clear ho
        have h7:a.tmps[7]?.getD undef=.pointer (some ⟨g8,0,none⟩):=gdt (hop 7 (by simp[Op.operands,Call.operands]))
        obtain⟨t0,t1,m2,t3,m4,m5,B6,mm,cc,m7,m8,b9,b10,er⟩:=rc_lit hS.c8.ty
        have kb:=hS.c8.blk
        rw[er] at kb
        have kc:=kb.cell
        clear kb
        have ER:=Lib.hid er
        clear er
        refine Reg4.StepOk.mono (R:=fun v W2=>v=.agg #[.string t0,.string t1,.int .i64 m2,.string t3,.int .i64 m4,.int .i64 m5,.slice B6 mm cc,.int .i64 m7,.int .i64 m8,.bool b9,.bool b10]∧W2=W) ?_ (fun v W2 h=>?_)
        ·go_simp
         all_goals(try exact⟨rfl,rfl⟩)
        ·obtain⟨rfl,rfl⟩:=h;exact⟨T5,hS.put (fun x hx=>by rw[←ER.out];exact oi hx) (by omega) (by omega)⟩
       ·obtain rfl:=oi ho
        clear ho
        obtain⟨lo96,eo96⟩:=hop 96 (by simp[Op.operands,Call.operands])
        have h96:a.tmps[96]?.getD undef=.agg rcs:=gdt (eo96.trans (hS.kn 6 _ rfl lo96))
        exact S17.build rfl hS (HP9.out.mono hS.c8.kp.hist.ext (Nat.le_refl _)) (eo96.trans (hS.kn 6 _ rfl lo96)) rfl
       ·obtain rfl:=oi ho
        clear ho
        obtain⟨lo95,eo95⟩:=hop 95 (by simp[Op.operands,Call.operands])
        have h95:a.tmps[95]?.getD undef=.slice A6 n6' c6':=gdt (eo95.trans (hS.kn 5 _ rfl lo95))
        obtain⟨lo97,eo97⟩:=hop 97 (by simp[Op.operands,Call.operands])
        obtain⟨Ab,cb,q1,q2⟩:=hS.bs lo97
        exact S17.append rfl hS (HP9.out.mono hS.c8.kp.hist.ext (Nat.le_refl _)) (eo95.trans (hS.kn 5 _ rfl lo95)) (eo97.trans q1) (CV.mono HR9.out hS.c8.kp.hist.ext (Nat.le_refl _)) q2 hn6z rfl
       ·obtain rfl:=oi ho
        clear ho
        obtain⟨lo90,eo90⟩:=hop 90 (by simp[Op.operands,Call.operands])
        have h90:a.tmps[90]?.getD undef=.pointer (some ⟨b,off,none⟩):=gdt (eo90.trans (hS.kn 0 _ rfl lo90))
        clear eo90
        refine Reg4.StepOk.mono (R:=fun v W2=>v=.pointer (some ⟨b,off,none⟩)∧W2=W) ?_ (fun v W2 h=>?_)
        ·go_simp
         all_goals(try exact⟨rfl,rfl⟩)
        ·obtain⟨rfl,rfl⟩:=h;exact⟨T5,hS.put (fun x hx=>oi hx) (by omega) (by omega)⟩
       ·obtain rfl:=oi ho
        clear ho
        obtain⟨lo99,eo99⟩:=hop 99 (by simp[Op.operands,Call.operands])
        have h99:a.tmps[99]?.getD undef=.pointer (some ⟨b,off,none⟩):=gdt (eo99.trans (hS.kn 9 _ rfl lo99))
        clear eo99
        refine Reg4.StepOk.mono (R:=fun v W2=>v=.pointer (some ⟨b,off,none⟩)∧W2=W) ?_ (fun v W2 h=>?_)
        ·go_simp
         all_goals(try exact⟨rfl,rfl⟩)
        ·obtain⟨rfl,rfl⟩:=h;exact⟨T5,hS.put (fun x hx=>oi hx) (by omega) (by omega)⟩
       ·obtain rfl:=oi ho
        clear ho
        obtain⟨lo100,eo100⟩:=hop 100 (by simp[Op.operands,Call.operands])
        have h100:a.tmps[100]?.getD undef=.pointer (some ⟨b,off,none⟩):=gdt (eo100.trans (hS.kn 10 _ rfl lo100))
        clear eo100
        refine Reg4.StepOk.mono (R:=fun v W2=>v=.pointer (some ⟨b,off+7,none⟩)∧W2=W) ?_ (fun v W2 h=>?_)
        ·go_simp
         all_goals(try exact⟨rfl,rfl⟩)
        ·obtain⟨rfl,rfl⟩:=h;exact⟨T5,hS.put (fun x hx=>oi hx) (by omega) (by omega)⟩
      ·intro L vals W hall hS0
       obtain⟨T5,hS⟩:=hS0
       obtain⟨A9,c9,e8,hc9⟩:=hS.ap (hall 8 (by omega))
       have e11:vals 11=.pointer (some ⟨b,off+7,none⟩):=hS.kn 11 _ rfl (hall 11 (by omega))
       have HK9:=Lib.hid hS.c8.kp
       have HC10:=Lib.hid hc9
       clear hS hall hc9
       simp only[Reg4.puts,Reg4.dstOf,List.range,List.range.loop,if_true,List.drop_succ_cons,List.drop_zero,e8,e11]
       clear e8 e11
       generalize vals 0=v0
       generalize vals 1=v1
       generalize vals 2=v2
       generalize vals 3=v3
       generalize vals 4=v4
       generalize vals 5=v5
       generalize vals 6=v6
       generalize vals 7=v7
       generalize vals 9=v9
       generalize vals 10=v10
       simp[Act.put]
       have l7:=HD9.out W HK9.out.blk
       have f7:=cell_frozen HK9.out.wt (xh HK9.out.wt (HP9.out.mono HK9.out.hist.ext (Nat.le_refl _))).1 l7
       go_wp2_with fail
       go_ret
       obtain⟨j1,j2,j3⟩:=rec_store HK9.out.wt (HP9.out.mono HK9.out.hist.ext (Nat.le_refl _)) l7 HC10.out
       exact⟨0,rfl,by decide,by decide,T5,j1,(((HH1.out.comp HH3.out).comp HC9.out.kp.hist).comp HK9.out.hist).comp j3⟩
   ·have z21z:(n21 != 0)=true:=by simpa using z21
    go_wp2_with fail
    go_ret
    exact⟨0,rfl,by decide,by decide,T4,HC.out.kp.wt,(HH1.out.comp HH3.out).comp HC.out.kp.hist⟩
end
open Go.RowKit
section
variable{W0:World}
def c116':Ctr:=⟨[.one (.pt 1 80),evT],[],[.one (full .i64)],[],false,none⟩
theorem collect_holds(h134:Holds Tryz.prog cx W0 134 c134)(h135:Holds Tryz.prog cx W0 135 c135)(h136:Holds Tryz.prog cx W0 136 c136):Holds Tryz.prog cx W0 116 c116':=by
 refine⟨⟨_,Tryz.func116,by kernel_rfl,by kernel_rfl⟩,fun T w args hw hty hpre=>?_⟩
 obtain⟨l⟩:=args
 have hl:=yt hty
 obtain⟨p,e,rfl⟩:∃p e,l=[p,e]:=by
  rcases l with _|⟨a,_|⟨b,_|⟨c,l⟩⟩⟩<;>first|(simp[c116'] at hl;done)|exact⟨_,_,rfl⟩
 obtain⟨hp,he,-⟩:=hty
 obtain⟨cs,rfl,-⟩:=id he
 obtain⟨s0,s1,n2,n3,n4,n5,s6,b7,n8,B,m,c,rfl⟩:=evA_of he
 obtain⟨b,off,rfl,-⟩:=id hp
 refine(collect_walk h134 h135 h136 hw hp s0 s1 n2 n3 n4 n5 s6 b7 n8 B m c he).mono ?_
 rintro e w' ⟨k,rfl,k1,k2,T',h1,h2⟩
 exact⟨.int .i64 k,[.int .i64 k],T',rfl,rfl,⟨⟨k,rfl,k1,k2⟩,trivial⟩,(fun l hl=>by cases hl),(fun e he=>by cases he),h2,h1⟩
end
end Sy
end Go.Proofs.YtmadfhgiaonnlaaGreatDoor
