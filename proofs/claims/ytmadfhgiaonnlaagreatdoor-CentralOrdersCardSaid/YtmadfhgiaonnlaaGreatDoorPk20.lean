import Derived.Laws.RangeString
import Derived.Laws.RangeAny
import Derived.Shelf.Lay
import Derived.Shelf.LaysM
import Derived.Shelf.Strconv.Itoa3
import Derived.Lib.ItoaLen
import Derived.Shelf.Small.Strs
import Derived.Test.YtmadfhgiaonnlaaGreatDoorPk17
set_option linter.unusedVariables false
set_option linter.unusedSimpArgs false
namespace Go.Proofs.YtmadfhgiaonnlaaGreatDoor
namespace Sy
open Go.RowKit
section
variable{W0:World}{T:Nat→Prop}{w:World}
abbrev keyA (s0 s1:ByteArray) (n:Int):Array Value:=#[.string s0,.string s1,.int .i64 n]
def KeyOk(s0 s1:ByteArray)(n:Int):Prop:=s0.size≤maxLen∧s1.size≤maxLen∧IntKind.i64.min≤n∧n≤IntKind.i64.max
theorem key_ty{s0 s1:ByteArray}{n:Int}(h:KeyOk s0 s1 n){base:Nat}:TyVal cx.tb W0 T w base (.agg [.str maxLen,.str maxLen,full .i64]) (.agg (keyA s0 s1 n)):=by
 obtain⟨h1,h2,h3,h4⟩:=h
 refine⟨_,rfl,rfl,fun i ct u hc hu=>?_⟩
 match i,hc,hu with
 | 0,hc,hu=>cases hc;cases hu;exact⟨_,rfl,h1⟩
 | 1,hc,hu=>cases hc;cases hu;exact⟨_,rfl,h2⟩
 | 2,hc,hu=>cases hc;cases hu;exact⟨_,rfl,h3,h4⟩
 | i+3,hc,hu=>simp at hc
theorem key_of_plain{s0 s1:ByteArray}{n:Int}(h:xq cx.tb W0 T w 250 (.agg (keyA s0 s1 n))):KeyOk s0 s1 n:=by
 have hfk:cx.tb.flat 250=some [.str maxLen,.str maxLen,full .i64]:=rfl
 rcases h with⟨cs,e,hs,hk⟩|⟨ct,h1,-⟩
 ·cases e
  rw[hfk] at hk
  obtain⟨x0,e0,s,rfl,q0⟩:=hk 0 _ rfl
  obtain⟨x1,e1,s,rfl,q1⟩:=hk 1 _ rfl
  obtain⟨x2,e2,m,rfl,q2⟩:=hk 2 _ rfl
  cases e0;cases e1;cases e2
  exact⟨q0,q1,q2⟩
 ·rw[hfk] at h1;cases h1
def CmpOk(W0:World)(T:Nat→Prop)(w:World):Prop:=∀(W:World) (s0 s1:ByteArray) (n:Int) (r0 r1:ByteArray) (m:Int),Below w.heap.size w W→KeyOk s0 s1 n→KeyOk r0 r1 m →
 Calls Tryz.prog 172 #[.agg (keyA s0 s1 n),.agg (keyA r0 r1 m)] W fun e w'=>∃q:Int,e=.returned (.int .i64 q)∧Hid (Below W.heap.size W w')
theorem hist_below{w':World}{T':Nat→Prop}(h:Hist T w true T' w'):Below w.heap.size w w':=⟨h.os,h.tape,h.output,h.size,fun b hb=>h.keep b hb (.inl rfl)⟩
theorem cmp_ok(h:Holds Tryz.prog cx W0 172 c172)(hw:WT cx.tb W0 T w):CmpOk W0 T w:=by
 intro W s0 s1 n r0 r1 m hb h1 h2
 have hW:=(zu hw hb).1
 refine(h.2 T W #[.agg (keyA s0 s1 n),.agg (keyA r0 r1 m)] hW ⟨key_ty h1,key_ty h2,trivial⟩ (fun l hl=>by cases hl)).mono ?_
 rintro e w' ⟨v,vs,T',rfl,hr,hty,-,-,hh,-⟩
 have hr:vs=[v]:=hr
 subst hr
 obtain⟨⟨q,rfl,-⟩,-⟩:=hty
 exact⟨q,rfl,hist_below hh⟩
set_option maxRecDepth 100000 in
set_option maxHeartbeats 2000000 in
theorem closure_walk{A:Option Addr}{n c:Nat}(hn:n≤8192)(hE:EvsAt W0 T w A n)(hC:CmpOk W0 T w)(B1 B2:Nat)(r0 r1:ByteArray)(hkey:KeyOk r0 r1 0)(W:World)(hb:Below w.heap.size w W)
  (k1:YtmadfhgiaonnlaaGreatDoor.Blk W B1 43 #[.slice A n c]) (k2:YtmadfhgiaonnlaaGreatDoor.Blk W B2 250 (keyA r0 r1 0)) (k:Nat) (hk:k<n) :
  Calls Tryz.prog 171 #[.int .i64 k,.pointer (some ⟨B1,0,none⟩),.pointer (some ⟨B2,0,none⟩)] W fun e w'=>∃q:Bool,e=.returned (.bool q)∧Hid (Below W.heap.size W w'):=by
 obtain⟨b,off,rfl,s0,s1,n2,n3,n4,n5,s6,b7,n8,B,m,c9,-,hpk,hat⟩:=hE k hk
 have HKY:=Lib.hid (key_of_plain hpk)
 have HK1:=Lib.hid k1
 have HK2:=Lib.hid k2
 have HC:=Lib.hid hC
 have HB:=Lib.hid hb
 have HAT:=Lib.hid hat
 have HRK:=Lib.hid hkey
 have hkn:(k:Int)<(n:Int):=by omega
 clear hpk k1 k2 hC hb hat hE hkey
 go_enter Tryz.func171,Tryz.ntmps171
 go_wp2_with fail
 refine RegM.region 8 (fun kz v W=>match kz with|0=>v=.slice (some ⟨b,off,none⟩) n c|1=>v=.int .i64 k|2=>v=.pointer (some ⟨b,off+k*10,none⟩)|3=>v=.agg (evA s0 s1 n2 n3 n4 n5 s6 b7 n8 (.slice B m c9))|4=>v=.agg (keyA s0 s1 n3)|5=>v=.agg (keyA r0 r1 0)|6=>RegM.IsI v|7=>RegM.IsB v|_=>True) (by kernel_rfl) (by kernel_rfl) (Reg4.in_of (n:=13) (by kernel_rfl) rfl) (fun _ _ _ _ _ h=>h) ?_ ?_
 ·intro idx o hj ho a' w' hG hop
  have hj':idx=0∨idx=1∨idx=2∨idx=3∨idx=4∨idx=5∨idx=6∨idx=7:=by omega
  clear hj
  rcases hj' with rfl|rfl|rfl|rfl|rfl|rfl|rfl|rfl
  ·obtain rfl:=oi ho
   have h1:a'.tmps[1]?.getD undef=_:=gdt (hop 1 (by simp[Op.operands,Call.operands]))
   have kc:=(HK1.out.call hG).cell
   refine Reg4.StepOk.mono (R:=fun v W=>(v=.slice (some ⟨b,off,none⟩) n c)∧W=w') ?_ (fun v W h=>?_)
   ·go_simp
    all_goals(try exact⟨rfl,rfl⟩)
   ·obtain⟨h,rfl⟩:=h
    exact⟨Below.refl _ _,h⟩
  ·obtain rfl:=oi ho
   have h0:a'.tmps[0]?.getD undef=_:=gdt (hop 0 (by simp[Op.operands,Call.operands]))
   refine Reg4.StepOk.mono (R:=fun v W=>(v=.int .i64 k)∧W=w') ?_ (fun v W h=>?_)
   ·go_simp
    all_goals(try exact⟨rfl,rfl⟩)
   ·obtain⟨h,rfl⟩:=h
    exact⟨Below.refl _ _,h⟩
  ·obtain rfl:=oi ho
   have h5:a'.tmps[5]?.getD undef=.slice (some ⟨b,off,none⟩) n c:=gdt (hop 5 (by simp[Op.operands,Call.operands]))
   have h6:a'.tmps[6]?.getD undef=.int .i64 k:=gdt (hop 6 (by simp[Op.operands,Call.operands]))
   refine Reg4.StepOk.mono (R:=fun v W=>(v=.pointer (some ⟨b,off+k*10,none⟩))∧W=w') ?_ (fun v W h=>?_)
   ·go_simp
    all_goals(try exact⟨rfl,rfl⟩)
   ·obtain⟨h,rfl⟩:=h
    exact⟨Below.refl _ _,h⟩
  ·obtain rfl:=oi ho
   have h7:a'.tmps[7]?.getD undef=.pointer (some ⟨b,off+k*10,none⟩):=gdt (hop 7 (by simp[Op.operands,Call.operands]))
   obtain⟨h0,h1,h2,h3,h4,h5,h6,h7,h8,h9⟩:=HAT.out _ (below_call HB.out hG)
   unfold evA
   refine Reg4.StepOk.mono (R:=fun v W=>(v=.agg (evA s0 s1 n2 n3 n4 n5 s6 b7 n8 (.slice B m c9)))∧W=w') ?_ (fun v W h=>?_)
   ·go_simp
    all_goals(try exact⟨rfl,rfl⟩)
   ·obtain⟨h,rfl⟩:=h
    exact⟨Below.refl _ _,h⟩
  ·obtain rfl:=oi ho
   have h8:a'.tmps[8]?.getD undef=.agg (evA s0 s1 n2 n3 n4 n5 s6 b7 n8 (.slice B m c9)):=gdt (hop 8 (by simp[Op.operands,Call.operands]))
   refine Reg4.StepOk.mono (R:=fun v W=>(v=.agg (keyA s0 s1 n3))∧Hid (Below w'.heap.size w' W)) ?_ (fun v W h=>⟨h.2.out,h.1⟩)
   ·go_simp
    refine(keyOf_walk _ _ _ _ _ _ _ _ _ _ _ _ _).mono ?_
    rintro e w5 ⟨rfl,hb⟩
    exact⟨_,rfl,rfl,hb⟩
  ·obtain rfl:=oi ho
   have h2:a'.tmps[2]?.getD undef=_:=gdt (hop 2 (by simp[Op.operands,Call.operands]))
   have kc:=(HK2.out.call hG).cell
   refine Reg4.StepOk.mono (R:=fun v W=>(v=.agg (keyA r0 r1 0))∧W=w') ?_ (fun v W h=>?_)
   ·go_simp
    all_goals(try exact⟨rfl,rfl⟩)
   ·obtain⟨h,rfl⟩:=h
    exact⟨Below.refl _ _,h⟩
  ·obtain rfl:=oi ho
   have h9:a'.tmps[9]?.getD undef=.agg (keyA s0 s1 n3):=gdt (hop 9 (by simp[Op.operands,Call.operands]))
   have h10:a'.tmps[10]?.getD undef=.agg (keyA r0 r1 0):=gdt (hop 10 (by simp[Op.operands,Call.operands]))
   refine Reg4.StepOk.mono (R:=fun v W=>(RegM.IsI v)∧Hid (Below w'.heap.size w' W)) ?_ (fun v W h=>⟨h.2.out,h.1⟩)
   ·go_simp
    refine(HC.out _ _ _ _ _ _ _ (below_call HB.out hG) HKY.out HRK.out).mono ?_
    rintro e w5 ⟨q,rfl,hb⟩
    exact⟨_,rfl,RegM.IsI.mk q,hb⟩
  ·obtain rfl:=oi ho
   obtain⟨n11,e11⟩:∃n:Int,a'.tmps.getD 11 undef=.int .i64 n:=hop 11 (by simp[Op.operands,Call.operands])
   have h11:a'.tmps[11]?.getD undef=.int .i64 n11:=gdt e11
   clear e11
   refine Reg4.StepOk.mono (R:=fun v W=>(RegM.IsB v)∧W=w') ?_ (fun v W h=>?_)
   ·go_simp
    all_goals(first|exact⟨RegM.IsI.mk _,rfl⟩|exact⟨RegM.IsB.mk _,rfl⟩|exact⟨_,rfl⟩|skip)
   ·obtain⟨h,rfl⟩:=h
    exact⟨Below.refl _ _,h⟩
 ·intro vals w' hG hv
  have hv0:vals 0=.slice (some ⟨b,off,none⟩) n c:=hv 0 (by omega)
  have hv1:vals 1=.int .i64 k:=hv 1 (by omega)
  have hv2:vals 2=.pointer (some ⟨b,off+k*10,none⟩):=hv 2 (by omega)
  have hv3:vals 3=.agg (evA s0 s1 n2 n3 n4 n5 s6 b7 n8 (.slice B m c9)):=hv 3 (by omega)
  have hv4:vals 4=.agg (keyA s0 s1 n3):=hv 4 (by omega)
  have hv5:vals 5=.agg (keyA r0 r1 0):=hv 5 (by omega)
  obtain⟨n6,hv6⟩:∃n:Int,vals 6=.int .i64 n:=hv 6 (by omega)
  obtain⟨q7,hv7⟩:∃q:Bool,vals 7=.bool q:=hv 7 (by omega)
  simp only[Reg4.puts,Reg4.dstOf,List.range,List.range.loop,if_true,List.drop_succ_cons,List.drop_zero,hv0,hv1,hv2,hv3,hv4,hv5,hv6,hv7]
  clear hv hv0 hv1 hv2 hv3 hv4 hv5 hv6 hv7
  simp[Act.put]
  go_wp2_with fail
  go_ret
  exact⟨_,rfl,hG⟩
set_option maxRecDepth 100000 in
set_option maxHeartbeats 2000000 in
theorem search_walk(n:Nat)(hn:n≤8192)(B1 B2:Nat)(w:World)(hf:∀(W:World) (k:Nat),Below w.heap.size w W→k<n→Calls Tryz.prog 171 #[.int .i64 k,.pointer (some ⟨B1,0,none⟩),.pointer (some ⟨B2,0,none⟩)] W fun e w'=>∃q:Bool,e=.returned (.bool q)∧Hid (Below W.heap.size W w')) :
  Calls Tryz.prog 170 #[.int .i64 n,.func (.func 171) #[] #[.pointer (some ⟨B1,0,none⟩),.pointer (some ⟨B2,0,none⟩)]] w fun e w'=>∃r:Nat,r≤n∧e=.returned (.int .i64 r)∧Hid (Below w.heap.size w w'):=by
 have HF:=Lib.hid hf
 clear hf
 go_enter Tryz.func170,Tryz.ntmps170
 go_wp2_with fail
 go_loopg [5,6] n (fun gg s5 s6 wr=>∃p q:Nat,p≤q∧q≤n∧q-p≤gg∧s5=.int .i64 p∧s6=.int .i64 q∧Hid (Below w.heap.size w wr))
 case atStart=>exact⟨0,n,by omega,by omega,by omega,rfl,rfl,Lib.hid (Below.refl _ _)⟩
 case round=>
  obtain⟨p,q,h1,h2,hg,rfl,rfl,HB⟩:=hrel
  by_cases hlt:p<q
  ·have hltz:(p:Int)<(q:Int):=by omega
   have e1:IntKind.i64.wrap ((p:Int)+q)=((p+q:Nat):Int):=by simp[IntKind.wrap,IntKind.bits,IntKind.signed];omega
   have e2:IntKind.u64.wrap ((p+q:Nat):Int)=((p+q:Nat):Int):=by simp[IntKind.wrap,IntKind.bits,IntKind.signed];omega
   go_wp2_with fail
   have e3:((p:Int)+q)/2=(((p+q)/2:Nat):Int):=by omega
   rw[e3]
   have g1:p≤(p+q)/2:=by omega
   have g2:(p+q)/2<q:=by omega
   clear e1 e2 e3
   generalize (p+q)/2=mid at *
   refine(HF.out wr mid HB.out (by omega)).mono ?_
   rintro e w5 ⟨b,rfl,hb⟩
   have HB5:=Lib.hid (below_call HB.out hb.out)
   have e4:IntKind.i64.wrap ((mid:Int)+1)=((mid+1:Nat):Int):=by simp[IntKind.wrap,IntKind.bits,IntKind.signed];omega
   cases b with
   | true=>
     go_wp2_with fail
     go_roundg (mid-p)
     case measure=>omega
     case rel=>exact⟨p,mid,by omega,by omega,by omega,rfl,rfl,HB5⟩
   | false=>
     go_wp2_with fail
     go_roundg (q-(mid+1))
     case measure=>omega
     case rel=>exact⟨mid+1,q,by omega,by omega,by omega,by simp,rfl,HB5⟩
  ·have hltz:¬(p:Int)<(q:Int):=by omega
   go_wp2_with fail
   go_ret
   exact⟨p,by omega,rfl,HB⟩
set_option maxRecDepth 100000 in
set_option maxHeartbeats 2000000 in
theorem bounds_walk{A:Option Addr}{n c:Nat}(hn:n≤8192)(hE:EvsAt W0 T w A n)(hC:CmpOk W0 T w)(r0 r1:ByteArray)(z0:r0.size≤maxLen)(z1:r1.size≤maxLen) :
  Calls Tryz.prog 151 #[.slice A n c,.string r0,.string r1] w fun e w'=>∃p q:Nat,p≤q∧q≤n∧e=.returned (.tuple #[.int .i64 p,.int .i64 q])∧Hid (Below w.heap.size w w'):=by
 have HK1:=Lib.hid (((YtmadfhgiaonnlaaGreatDoor.Blk.new w 43 #[.slice A n c]).alloc (.cells (keyA r0 r1 0) 250)))
 have HK2:=Lib.hid (YtmadfhgiaonnlaaGreatDoor.Blk.new (w.alloc (.cells #[.slice A n c] 43)) 250 (keyA r0 r1 0))
 have hs1:(w.alloc (.cells #[.slice A n c] 43)).heap.size=w.heap.size+1:=by simp
 rw[hs1] at HK2
 have HB:=Lib.hid (below_alloc (below_new w (.cells #[.slice A n c] 43)) (.cells (keyA r0 r1 0) 250))
 have HRK:Hid (KeyOk r0 r1 0):=⟨z0,z1,by decide,by decide⟩
 have HE:=Lib.hid hE
 have HC:=Lib.hid hC
 clear hE hC z0 z1
 go_enter Tryz.func151,Tryz.ntmps151
 go_wp2_with fail
 generalize (w.alloc (.cells #[.slice A n c] 43)).alloc (.cells (keyA r0 r1 0) 250)=w1 at *
 clear hs1
 have HS:=Lib.hid (search_walk n hn w.heap.size (w.heap.size+1) w1 (fun W k hb hk=>closure_walk hn HE.out HC.out w.heap.size (w.heap.size+1) r0 r1 HRK.out W (below_call HB.out hb) (HK1.out.call hb) (HK2.out.call hb) k hk))
 refine HS.out.mono ?_
 rintro e w2 ⟨p,hp,rfl,hb⟩
 have HB2:=Lib.hid (below_call HB.out hb.out)
 have HK12:=Lib.hid (HK1.out.call hb.out)
 have HK22:=Lib.hid (HK2.out.call hb.out)
 clear HS HK1 HK2 HB hb
 generalize hg1:w.heap.size=g1 at *
 have HG1:=Lib.hid hg1
 clear hg1
 go_wp2_with fail
 go_loopg [10] n (fun gg s10 wr=>∃q:Nat,p≤q∧q≤n∧n-q≤gg∧s10=.int .i64 q∧Hid (Below w2.heap.size w2 wr))
 case atStart=>exact⟨p,by omega,by omega,by omega,rfl,Lib.hid (Below.refl _ _)⟩
 case round=>
  obtain⟨q,h1,h2,hg,rfl,HBR⟩:=hrel
  have HB:=Lib.hid (below_call (show Below w.heap.size w w2 by rw[HG1.out];exact HB2.out) HBR.out)
  have HKA:=Lib.hid (HK12.out.call HBR.out)
  have HKB:=Lib.hid (HK22.out.call HBR.out)
  by_cases hlt:q<n
  ·have hltz:(q:Int)<(n:Int):=by omega
   obtain⟨b,off,rfl,s0,s1,n2,n3,n4,n5,s6,b7,n8,B,m,c9,-,hpk,hat⟩:=HE.out q hlt
   have HKY:=Lib.hid (key_of_plain hpk)
   have HAT:=Lib.hid hat
   clear hpk hat
   have e4:IntKind.i64.wrap ((q:Int)+1)=((q+1:Nat):Int):=by simp[IntKind.wrap,IntKind.bits,IntKind.signed];omega
   go_wp2_with fail
   refine RegM.regionG 14 (fun kz v W=>match kz with|0=>v=.int .i64 q|1=>v=.slice (some ⟨b,off,none⟩) n c|2=>v=.int .i64 n|3=>v=.bool true|4=>v=.bool true|5=>v=.slice (some ⟨b,off,none⟩) n c|6=>v=.int .i64 q|7=>v=.pointer (some ⟨b,off+q*10,none⟩)|8=>v=.agg (evA s0 s1 n2 n3 n4 n5 s6 b7 n8 (.slice B m c9))|9=>v=.agg (keyA s0 s1 n3)|10=>v=.agg (keyA r0 r1 0)|11=>RegM.IsI v|12=>RegM.IsB v|13=>RegM.IsB v|_=>True) (by kernel_rfl) (by kernel_rfl) (Reg4.in_of (n:=37) (by kernel_rfl) rfl) (fun _ _ _ _ _ h=>h) ?_ ?_ ?_
   ·intro idx o hj ho a' w' hG hgd hop
    have hj':idx=0∨idx=1∨idx=2∨idx=3∨idx=4∨idx=5∨idx=6∨idx=7∨idx=8∨idx=9∨idx=10∨idx=11∨idx=12∨idx=13:=by omega
    clear hj
    rcases hj' with rfl|rfl|rfl|rfl|rfl|rfl|rfl|rfl|rfl|rfl|rfl|rfl|rfl|rfl
    ·obtain rfl:=oi ho
     clear hgd
     have h10:a'.tmps[10]?.getD undef=_:=gdt (hop 10 (by simp[Op.operands,Call.operands]))
     refine Reg4.StepOk.mono (R:=fun v W=>(v=.int .i64 q)∧W=w') ?_ (fun v W h=>?_)
     ·go_simp
      all_goals(try exact⟨rfl,rfl⟩)
     ·obtain⟨h,rfl⟩:=h
      exact⟨Below.refl _ _,h⟩
    ·obtain rfl:=oi ho
     clear hgd
     have h3:a'.tmps[3]?.getD undef=_:=gdt (hop 3 (by simp[Op.operands,Call.operands]))
     have kc:=(HKA.out.call hG).cell
     refine Reg4.StepOk.mono (R:=fun v W=>(v=.slice (some ⟨b,off,none⟩) n c)∧W=w') ?_ (fun v W h=>?_)
     ·go_simp
      all_goals(try exact⟨rfl,rfl⟩)
     ·obtain⟨h,rfl⟩:=h
      exact⟨Below.refl _ _,h⟩
    ·obtain rfl:=oi ho
     clear hgd
     have h20:a'.tmps[20]?.getD undef=.slice (some ⟨b,off,none⟩) n c:=gdt (hop 20 (by simp[Op.operands,Call.operands]))
     refine Reg4.StepOk.mono (R:=fun v W=>(v=.int .i64 n)∧W=w') ?_ (fun v W h=>?_)
     ·go_simp
      all_goals(try exact⟨rfl,rfl⟩)
     ·obtain⟨h,rfl⟩:=h
      exact⟨Below.refl _ _,h⟩
    ·obtain rfl:=oi ho
     clear hgd
     have h19:a'.tmps[19]?.getD undef=.int .i64 q:=gdt (hop 19 (by simp[Op.operands,Call.operands]))
     have h21:a'.tmps[21]?.getD undef=.int .i64 n:=gdt (hop 21 (by simp[Op.operands,Call.operands]))
     refine Reg4.StepOk.mono (R:=fun v W=>(v=.bool true)∧W=w') ?_ (fun v W h=>?_)
     ·go_simp
      all_goals(try exact⟨rfl,rfl⟩)
     ·obtain⟨h,rfl⟩:=h
      exact⟨Below.refl _ _,h⟩
    ·obtain rfl:=oi ho
     clear hgd
     have h22:a'.tmps[22]?.getD undef=.bool true:=gdt (hop 22 (by simp[Op.operands,Call.operands]))
     refine Reg4.StepOk.mono (R:=fun v W=>(v=.bool true)∧W=w') ?_ (fun v W h=>?_)
     ·go_simp
      all_goals(try exact⟨rfl,rfl⟩)
     ·obtain⟨h,rfl⟩:=h
      exact⟨Below.refl _ _,h⟩
    ·obtain rfl:=oi ho
     clear hgd
     have h3:a'.tmps[3]?.getD undef=_:=gdt (hop 3 (by simp[Op.operands,Call.operands]))
     have kc:=(HKA.out.call hG).cell
     refine Reg4.StepOk.mono (R:=fun v W=>(v=.slice (some ⟨b,off,none⟩) n c)∧W=w') ?_ (fun v W h=>?_)
     ·go_simp
      all_goals(try exact⟨rfl,rfl⟩)
     ·obtain⟨h,rfl⟩:=h
      exact⟨Below.refl _ _,h⟩
    ·obtain rfl:=oi ho
     clear hgd
     have h10:a'.tmps[10]?.getD undef=_:=gdt (hop 10 (by simp[Op.operands,Call.operands]))
     refine Reg4.StepOk.mono (R:=fun v W=>(v=.int .i64 q)∧W=w') ?_ (fun v W h=>?_)
     ·go_simp
      all_goals(try exact⟨rfl,rfl⟩)
     ·obtain⟨h,rfl⟩:=h
      exact⟨Below.refl _ _,h⟩
    ·obtain rfl:=oi ho
     clear hgd
     have h24:a'.tmps[24]?.getD undef=.slice (some ⟨b,off,none⟩) n c:=gdt (hop 24 (by simp[Op.operands,Call.operands]))
     have h25:a'.tmps[25]?.getD undef=.int .i64 q:=gdt (hop 25 (by simp[Op.operands,Call.operands]))
     refine Reg4.StepOk.mono (R:=fun v W=>(v=.pointer (some ⟨b,off+q*10,none⟩))∧W=w') ?_ (fun v W h=>?_)
     ·go_simp
      all_goals(try exact⟨rfl,rfl⟩)
     ·obtain⟨h,rfl⟩:=h
      exact⟨Below.refl _ _,h⟩
    ·obtain rfl:=oi ho
     clear hgd
     have h26:a'.tmps[26]?.getD undef=.pointer (some ⟨b,off+q*10,none⟩):=gdt (hop 26 (by simp[Op.operands,Call.operands]))
     obtain⟨h0,h1,h2,h3,h4,h5,h6,h7,h8,h9⟩:=HAT.out _ (below_call HB.out hG)
     unfold evA
     refine Reg4.StepOk.mono (R:=fun v W=>(v=.agg (evA s0 s1 n2 n3 n4 n5 s6 b7 n8 (.slice B m c9)))∧W=w') ?_ (fun v W h=>?_)
     ·go_simp
      all_goals(try exact⟨rfl,rfl⟩)
     ·obtain⟨h,rfl⟩:=h
      exact⟨Below.refl _ _,h⟩
    ·obtain rfl:=oi ho
     clear hgd
     have h27:a'.tmps[27]?.getD undef=.agg (evA s0 s1 n2 n3 n4 n5 s6 b7 n8 (.slice B m c9)):=gdt (hop 27 (by simp[Op.operands,Call.operands]))
     refine Reg4.StepOk.mono (R:=fun v W=>(v=.agg (keyA s0 s1 n3))∧Hid (Below w'.heap.size w' W)) ?_ (fun v W h=>⟨h.2.out,h.1⟩)
     ·go_simp
      refine(keyOf_walk _ _ _ _ _ _ _ _ _ _ _ _ _).mono ?_
      rintro e w5 ⟨rfl,hb⟩
      exact⟨_,rfl,rfl,hb⟩
    ·obtain rfl:=oi ho
     clear hgd
     have h8:a'.tmps[8]?.getD undef=_:=gdt (hop 8 (by simp[Op.operands,Call.operands]))
     have kc:=(HKB.out.call hG).cell
     refine Reg4.StepOk.mono (R:=fun v W=>(v=.agg (keyA r0 r1 0))∧W=w') ?_ (fun v W h=>?_)
     ·go_simp
      all_goals(try exact⟨rfl,rfl⟩)
     ·obtain⟨h,rfl⟩:=h
      exact⟨Below.refl _ _,h⟩
    ·obtain rfl:=oi ho
     clear hgd
     have h28:a'.tmps[28]?.getD undef=.agg (keyA s0 s1 n3):=gdt (hop 28 (by simp[Op.operands,Call.operands]))
     have h29:a'.tmps[29]?.getD undef=.agg (keyA r0 r1 0):=gdt (hop 29 (by simp[Op.operands,Call.operands]))
     refine Reg4.StepOk.mono (R:=fun v W=>(RegM.IsI v)∧Hid (Below w'.heap.size w' W)) ?_ (fun v W h=>⟨h.2.out,h.1⟩)
     ·go_simp
      refine(HC.out _ _ _ _ _ _ _ (below_call HB.out hG) HKY.out HRK.out).mono ?_
      rintro e w5 ⟨q,rfl,hb⟩
      exact⟨_,rfl,RegM.IsI.mk q,hb⟩
    ·obtain rfl:=oi ho
     clear hgd
     obtain⟨n30,e30⟩:∃n:Int,a'.tmps.getD 30 undef=.int .i64 n:=hop 30 (by simp[Op.operands,Call.operands])
     have h30:a'.tmps[30]?.getD undef=.int .i64 n30:=gdt e30
     clear e30
     refine Reg4.StepOk.mono (R:=fun v W=>(RegM.IsB v)∧W=w') ?_ (fun v W h=>?_)
     ·go_simp
      all_goals(first|exact⟨RegM.IsI.mk _,rfl⟩|exact⟨RegM.IsB.mk _,rfl⟩|exact⟨_,rfl⟩|skip)
     ·obtain⟨h,rfl⟩:=h
      exact⟨Below.refl _ _,h⟩
    ·obtain rfl:=oi ho
     clear hgd
     have h23:a'.tmps[23]?.getD undef=.bool true:=gdt (hop 23 (by simp[Op.operands,Call.operands]))
     obtain⟨q31,e31⟩:∃q:Bool,a'.tmps.getD 31 undef=.bool q:=hop 31 (by simp[Op.operands,Call.operands])
     have h31:a'.tmps[31]?.getD undef=.bool q31:=gdt e31
     clear e31
     refine Reg4.StepOk.mono (R:=fun v W=>(RegM.IsB v)∧W=w') ?_ (fun v W h=>?_)
     ·go_simp
      all_goals(first|exact⟨RegM.IsI.mk _,rfl⟩|exact⟨RegM.IsB.mk _,rfl⟩|exact⟨_,rfl⟩|skip)
     ·obtain⟨h,rfl⟩:=h
      exact⟨Below.refl _ _,h⟩
   ·intro idx o hj ho j b hg v W hv hne
    have hj':idx=0∨idx=1∨idx=2∨idx=3∨idx=4∨idx=5∨idx=6∨idx=7∨idx=8∨idx=9∨idx=10∨idx=11∨idx=12∨idx=13:=by omega
    clear hj
    rcases hj' with rfl|rfl|rfl|rfl|rfl|rfl|rfl|rfl|rfl|rfl|rfl|rfl|rfl|rfl
    ·obtain rfl:=oi ho
     cases hg
    ·obtain rfl:=oi ho
     cases hg
    ·obtain rfl:=oi ho
     cases hg
    ·obtain rfl:=oi ho
     cases hg
    ·obtain rfl:=oi ho
     cases hg
    ·obtain rfl:=oi ho
     obtain⟨rfl,rfl⟩:=Prod.mk.inj (oi hg)
     have hv:v=.bool true:=hv
     subst hv
     exact absurd rfl hne
    ·obtain rfl:=oi ho
     obtain⟨rfl,rfl⟩:=Prod.mk.inj (oi hg)
     have hv:v=.bool true:=hv
     subst hv
     exact absurd rfl hne
    ·obtain rfl:=oi ho
     obtain⟨rfl,rfl⟩:=Prod.mk.inj (oi hg)
     have hv:v=.bool true:=hv
     subst hv
     exact absurd rfl hne
    ·obtain rfl:=oi ho
     obtain⟨rfl,rfl⟩:=Prod.mk.inj (oi hg)
     have hv:v=.bool true:=hv
     subst hv
     exact absurd rfl hne
    ·obtain rfl:=oi ho
     obtain⟨rfl,rfl⟩:=Prod.mk.inj (oi hg)
     have hv:v=.bool true:=hv
     subst hv
     exact absurd rfl hne
    ·obtain rfl:=oi ho
     obtain⟨rfl,rfl⟩:=Prod.mk.inj (oi hg)
     have hv:v=.bool true:=hv
     subst hv
     exact absurd rfl hne
    ·obtain rfl:=oi ho
     obtain⟨rfl,rfl⟩:=Prod.mk.inj (oi hg)
     have hv:v=.bool true:=hv
     subst hv
     exact absurd rfl hne
    ·obtain rfl:=oi ho
     obtain⟨rfl,rfl⟩:=Prod.mk.inj (oi hg)
     have hv:v=.bool true:=hv
     subst hv
     exact absurd rfl hne
    ·obtain rfl:=oi ho
     cases hg
   ·intro vals w' hG hv
    have hv0:vals 0=.int .i64 q:=hv 0 (by omega)
    have hv1:vals 1=.slice (some ⟨b,off,none⟩) n c:=hv 1 (by omega)
    have hv2:vals 2=.int .i64 n:=hv 2 (by omega)
    have hv3:vals 3=.bool true:=hv 3 (by omega)
    have hv4:vals 4=.bool true:=hv 4 (by omega)
    have hv5:vals 5=.slice (some ⟨b,off,none⟩) n c:=hv 5 (by omega)
    have hv6:vals 6=.int .i64 q:=hv 6 (by omega)
    have hv7:vals 7=.pointer (some ⟨b,off+q*10,none⟩):=hv 7 (by omega)
    have hv8:vals 8=.agg (evA s0 s1 n2 n3 n4 n5 s6 b7 n8 (.slice B m c9)):=hv 8 (by omega)
    have hv9:vals 9=.agg (keyA s0 s1 n3):=hv 9 (by omega)
    have hv10:vals 10=.agg (keyA r0 r1 0):=hv 10 (by omega)
    obtain⟨n11,hv11⟩:∃n:Int,vals 11=.int .i64 n:=hv 11 (by omega)
    obtain⟨q12,hv12⟩:∃q:Bool,vals 12=.bool q:=hv 12 (by omega)
    obtain⟨q13,hv13⟩:∃q:Bool,vals 13=.bool q:=hv 13 (by omega)
    simp only[Reg4.puts,Reg4.dstOf,List.range,List.range.loop,if_true,List.drop_succ_cons,List.drop_zero,hv0,hv1,hv2,hv3,hv4,hv5,hv6,hv7,hv8,hv9,hv10,hv11,hv12,hv13]
    clear hv hv0 hv1 hv2 hv3 hv4 hv5 hv6 hv7 hv8 hv9 hv10 hv11 hv12 hv13
    simp[Act.put]
    have HB3:=Lib.hid (below_call HBR.out hG)
    cases q13 with
    | true=>
      go_wp2_with fail
      go_roundg (n-(q+1))
      case measure=>omega
      case rel=>exact⟨q+1,by omega,by omega,by omega,by simp,HB3⟩
    | false=>
      go_wp2_with fail
      go_ret2
      exact⟨p,q,by omega,by omega,rfl,by show Below _ _ _;exact below_call (show Below w.heap.size w w2 by rw[HG1.out];exact HB2.out) HB3.out⟩
  ·have hltz:¬(q:Int)<(n:Int):=by omega
   obtain rfl:q=n:=by omega
   go_wp2_with fail
   refine RegM.regionG 14 (fun kz v W=>match kz with|0=>v=.int .i64 q|1=>v=.slice A q c|2=>v=.int .i64 q|3=>v=.bool false|4=>v=.bool false|5=>v=undef|6=>v=undef|7=>v=undef|8=>v=undef|9=>v=undef|10=>v=undef|11=>v=undef|12=>v=undef|13=>v=.bool false|_=>True) (by kernel_rfl) (by kernel_rfl) (Reg4.in_of (n:=37) (by kernel_rfl) rfl) (fun _ _ _ _ _ h=>h) ?_ ?_ ?_
   ·intro idx o hj ho a' w' hG hgd hop
    have hj':idx=0∨idx=1∨idx=2∨idx=3∨idx=4∨idx=5∨idx=6∨idx=7∨idx=8∨idx=9∨idx=10∨idx=11∨idx=12∨idx=13:=by omega
    clear hj
    rcases hj' with rfl|rfl|rfl|rfl|rfl|rfl|rfl|rfl|rfl|rfl|rfl|rfl|rfl|rfl
    ·obtain rfl:=oi ho
     clear hgd
     have h10:a'.tmps[10]?.getD undef=_:=gdt (hop 10 (by simp[Op.operands,Call.operands]))
     refine Reg4.StepOk.mono (R:=fun v W=>(v=.int .i64 q)∧W=w') ?_ (fun v W h=>?_)
     ·go_simp
      all_goals(try exact⟨rfl,rfl⟩)
     ·obtain⟨h,rfl⟩:=h
      exact⟨Below.refl _ _,h⟩
    ·obtain rfl:=oi ho
     clear hgd
     have h3:a'.tmps[3]?.getD undef=_:=gdt (hop 3 (by simp[Op.operands,Call.operands]))
     have kc:=(HKA.out.call hG).cell
     refine Reg4.StepOk.mono (R:=fun v W=>(v=.slice A q c)∧W=w') ?_ (fun v W h=>?_)
     ·go_simp
      all_goals(try exact⟨rfl,rfl⟩)
     ·obtain⟨h,rfl⟩:=h
      exact⟨Below.refl _ _,h⟩
    ·obtain rfl:=oi ho
     clear hgd
     have h20:a'.tmps[20]?.getD undef=.slice A q c:=gdt (hop 20 (by simp[Op.operands,Call.operands]))
     refine Reg4.StepOk.mono (R:=fun v W=>(v=.int .i64 q)∧W=w') ?_ (fun v W h=>?_)
     ·go_simp
      all_goals(try exact⟨rfl,rfl⟩)
     ·obtain⟨h,rfl⟩:=h
      exact⟨Below.refl _ _,h⟩
    ·obtain rfl:=oi ho
     clear hgd
     have h19:a'.tmps[19]?.getD undef=.int .i64 q:=gdt (hop 19 (by simp[Op.operands,Call.operands]))
     have h21:a'.tmps[21]?.getD undef=.int .i64 q:=gdt (hop 21 (by simp[Op.operands,Call.operands]))
     refine Reg4.StepOk.mono (R:=fun v W=>(v=.bool false)∧W=w') ?_ (fun v W h=>?_)
     ·go_simp
      all_goals(try exact⟨rfl,rfl⟩)
     ·obtain⟨h,rfl⟩:=h
      exact⟨Below.refl _ _,h⟩
    ·obtain rfl:=oi ho
     clear hgd
     have h22:a'.tmps[22]?.getD undef=.bool false:=gdt (hop 22 (by simp[Op.operands,Call.operands]))
     refine Reg4.StepOk.mono (R:=fun v W=>(v=.bool false)∧W=w') ?_ (fun v W h=>?_)
     ·go_simp
      all_goals(try exact⟨rfl,rfl⟩)
     ·obtain⟨h,rfl⟩:=h
      exact⟨Below.refl _ _,h⟩
    ·obtain rfl:=oi ho
     obtain⟨v,h1,h2⟩:=hgd 4 true rfl
     have h2:v=.bool false:=h2
     subst h2;cases h1
    ·obtain rfl:=oi ho
     obtain⟨v,h1,h2⟩:=hgd 4 true rfl
     have h2:v=.bool false:=h2
     subst h2;cases h1
    ·obtain rfl:=oi ho
     obtain⟨v,h1,h2⟩:=hgd 4 true rfl
     have h2:v=.bool false:=h2
     subst h2;cases h1
    ·obtain rfl:=oi ho
     obtain⟨v,h1,h2⟩:=hgd 4 true rfl
     have h2:v=.bool false:=h2
     subst h2;cases h1
    ·obtain rfl:=oi ho
     obtain⟨v,h1,h2⟩:=hgd 4 true rfl
     have h2:v=.bool false:=h2
     subst h2;cases h1
    ·obtain rfl:=oi ho
     obtain⟨v,h1,h2⟩:=hgd 4 true rfl
     have h2:v=.bool false:=h2
     subst h2;cases h1
    ·obtain rfl:=oi ho
     obtain⟨v,h1,h2⟩:=hgd 4 true rfl
     have h2:v=.bool false:=h2
     subst h2;cases h1
    ·obtain rfl:=oi ho
     obtain⟨v,h1,h2⟩:=hgd 4 true rfl
     have h2:v=.bool false:=h2
     subst h2;cases h1
    ·obtain rfl:=oi ho
     clear hgd
     have h23:a'.tmps[23]?.getD undef=.bool false:=gdt (hop 23 (by simp[Op.operands,Call.operands]))
     have h31:a'.tmps[31]?.getD undef=undef:=gdt (hop 31 (by simp[Op.operands,Call.operands]))
     refine Reg4.StepOk.mono (R:=fun v W=>(v=.bool false)∧W=w') ?_ (fun v W h=>?_)
     ·go_simp
      all_goals(try exact⟨rfl,rfl⟩)
     ·obtain⟨h,rfl⟩:=h
      exact⟨Below.refl _ _,h⟩
   ·intro idx o hj ho j b hg v W hv hne
    have hj':idx=0∨idx=1∨idx=2∨idx=3∨idx=4∨idx=5∨idx=6∨idx=7∨idx=8∨idx=9∨idx=10∨idx=11∨idx=12∨idx=13:=by omega
    clear hj
    rcases hj' with rfl|rfl|rfl|rfl|rfl|rfl|rfl|rfl|rfl|rfl|rfl|rfl|rfl|rfl
    ·obtain rfl:=oi ho
     cases hg
    ·obtain rfl:=oi ho
     cases hg
    ·obtain rfl:=oi ho
     cases hg
    ·obtain rfl:=oi ho
     cases hg
    ·obtain rfl:=oi ho
     cases hg
    ·obtain rfl:=oi ho
     exact rfl
    ·obtain rfl:=oi ho
     exact rfl
    ·obtain rfl:=oi ho
     exact rfl
    ·obtain rfl:=oi ho
     exact rfl
    ·obtain rfl:=oi ho
     exact rfl
    ·obtain rfl:=oi ho
     exact rfl
    ·obtain rfl:=oi ho
     exact rfl
    ·obtain rfl:=oi ho
     exact rfl
    ·obtain rfl:=oi ho
     cases hg
   ·intro vals w' hG hv
    have hv0:vals 0=.int .i64 q:=hv 0 (by omega)
    have hv1:vals 1=.slice A q c:=hv 1 (by omega)
    have hv2:vals 2=.int .i64 q:=hv 2 (by omega)
    have hv3:vals 3=.bool false:=hv 3 (by omega)
    have hv4:vals 4=.bool false:=hv 4 (by omega)
    have hv5:vals 5=undef:=hv 5 (by omega)
    have hv6:vals 6=undef:=hv 6 (by omega)
    have hv7:vals 7=undef:=hv 7 (by omega)
    have hv8:vals 8=undef:=hv 8 (by omega)
    have hv9:vals 9=undef:=hv 9 (by omega)
    have hv10:vals 10=undef:=hv 10 (by omega)
    have hv11:vals 11=undef:=hv 11 (by omega)
    have hv12:vals 12=undef:=hv 12 (by omega)
    have hv13:vals 13=.bool false:=hv 13 (by omega)
    simp only[Reg4.puts,Reg4.dstOf,List.range,List.range.loop,if_true,List.drop_succ_cons,List.drop_zero,hv0,hv1,hv2,hv3,hv4,hv5,hv6,hv7,hv8,hv9,hv10,hv11,hv12,hv13]
    clear hv hv0 hv1 hv2 hv3 hv4 hv5 hv6 hv7 hv8 hv9 hv10 hv11 hv12 hv13
    simp[Act.put]
    have HB3:=Lib.hid (below_call HBR.out hG)
    go_wp2_with fail
    go_ret2
    exact⟨p,q,by omega,by omega,rfl,by show Below _ _ _;exact below_call (show Below w.heap.size w w2 by rw[HG1.out];exact HB2.out) HB3.out⟩
def c151':Ctr:=⟨[.one (.sl 0 95 8192),.one (.str maxLen),.one (.str maxLen)],[],[.one (full .i64),.one (full .i64)],[⟨0,[(1,3)]⟩,⟨0,[(-1,3),(1,4)]⟩,⟨0,[(1,0),(-1,4)]⟩],true,none⟩
theorem bounds_holds(h172:Holds Tryz.prog cx W0 172 c172):Holds Tryz.prog cx W0 151 c151':=by
 refine⟨⟨_,Tryz.func151,by kernel_rfl,by kernel_rfl⟩,fun T w args hw hty _=>?_⟩
 have hlen:=yt hty
 obtain⟨v,u1,u2,e⟩:∃v u1 u2,args=#[v,u1,u2]:=by
  obtain⟨l⟩:=args
  rcases l with _|⟨a,_|⟨b,_|⟨c,_|⟨d,l⟩⟩⟩⟩<;>first|(simp[c151'] at hlen;done)|exact⟨_,_,_,rfl⟩
 subst e
 obtain⟨hv,⟨r0,rfl,s1⟩,⟨r1,rfl,s2⟩,-⟩:=hty
 have hv:CV cx.tb W0 T w w.heap.size (.sl 0 95 8192) v:=hv
 obtain⟨A,n,c,rfl,hn⟩:∃A n c,v=.slice A n c∧n≤8192:=by
  rcases hv with h|⟨-,h⟩|⟨b,off,n,c,h,h1,h2,-⟩
  ·exact⟨_,_,_,h,Nat.zero_le _⟩
  ·cases h with
   | nil=>exact⟨_,_,_,rfl,Nat.zero_le _⟩
   | emp a=>exact⟨_,_,_,rfl,Nat.zero_le _⟩
   | sl f hb hn hl=>exact⟨_,_,_,rfl,hl⟩
  ·exact⟨_,n,_,h,h2⟩
 refine(bounds_walk hn (evs_at hw hv) (cmp_ok h172 hw) r0 r1 s1 s2).mono ?_
 rintro e w' ⟨p,q,h1,h2,rfl,hb⟩
 obtain⟨w1,w2⟩:=zu hw hb.out
 refine⟨_,[.int .i64 p,.int .i64 q],T,rfl,rfl,⟨⟨p,rfl,by show(-9223372036854775808:Int)≤p;omega,by show(p:Int)≤9223372036854775807;omega⟩,⟨q,rfl,by show(-9223372036854775808:Int)≤q;omega,by show(q:Int)≤9223372036854775807;omega⟩,trivial⟩,(fun l hl=>?_),(fun e he=>by cases he),yx hw hb.out,w1⟩
 simp only[c151',List.mem_cons,List.not_mem_nil,or_false] at hl
 rcases hl with rfl|rfl|rfl
 ·show(0:Int)≤0+(1*(p:Int)+0);omega
 ·show(0:Int)≤0+(-1*(p:Int)+(1*(q:Int)+0));omega
 ·show(0:Int)≤0+(1*(n:Int)+(-1*(q:Int)+0));omega
end
end Sy
namespace IdW
open Go.RowKit Stn
theorem ret1{a c:Int}(h1:a=c):Ending.returned (.int .i64 a)=.returned (i c):=by rw[h1]
theorem retB{a c:Bool}(h1:a=c):Ending.returned (.bool a)=.returned (.bool c):=by rw[h1]
def valR(c:Int):Int:=if 48≤c∧c≤57 then c-48 else if 65≤c∧c≤90 then c-55 else if 97≤c∧c≤122 then c-87 else -1
def sign(c:Int):Bool:=c == 45 || c == 95 || c == 46 || c == 58 || c == 42
def goodC(c:Int):Bool:=sign c || decide (0≤valR c)
def x8(s:ByteArray):Bool:=decide (1≤s.size∧s.size≤36) && s.data.toList.all (fun c=>goodC (c.toNat:Int))
theorem valR_hi(c:Int)(h:128≤c):valR c=-1:=by unfold valR;rw[if_neg (by omega),if_neg (by omega),if_neg (by omega)]
theorem sign_hi(c:Int)(h:128≤c):sign c=false:=by unfold sign;simp;omega
theorem goodC_hi(c:Int)(h:128≤c):goodC c=false:=by unfold goodC;rw[sign_hi c h,valR_hi c h];rfl
theorem good1{r:Int}(h:(r == 45)=true):goodC r=true:=by unfold goodC sign;rw[h];rfl
theorem good2{r:Int}(h:(r == 95)=true):goodC r=true:=by unfold goodC sign;rw[h];simp
theorem good3{r:Int}(h:(r == 46)=true):goodC r=true:=by unfold goodC sign;rw[h];simp
theorem good4{r:Int}(h:(r == 58)=true):goodC r=true:=by unfold goodC sign;rw[h];simp
theorem good5{r:Int}(h:(r == 42)=true):goodC r=true:=by unfold goodC sign;rw[h];simp
theorem good6{r:Int}(h:0≤valR r):goodC r=true:=by unfold goodC;rw[decide_eq_true h];simp
theorem bad_of{r:Int}(h1:(r == 45)=false)(h2:(r == 95)=false)(h3:(r == 46)=false)(h4:(r == 58)=false)(h5:(r == 42)=false)(h6:valR r<0):goodC r=false:=by
 unfold goodC sign
 rw[h1,h2,h3,h4,h5,decide_eq_false (by omega)]
 rfl
theorem good_at{s:ByteArray}{k:Nat}(hk:k<s.size)(h:goodC (s[k].toNat:Int)=false):x8 s=false:=by
 unfold x8
 have:s.data.toList.all (fun c=>goodC (c.toNat:Int))=false:=by
  rw[List.all_eq_false]
  exact⟨s[k],by simp[ByteArray.getElem_eq_getElem_data],by simpa using h⟩
 rw[this,Bool.and_false]
theorem good_all{s:ByteArray}(h1:1≤s.size)(h2:s.size≤36)(h:∀k (hk:k<s.size),goodC (s[k].toNat:Int)=true):x8 s=true:=by
 unfold x8
 rw[decide_eq_true ⟨h1,h2⟩,Bool.true_and,List.all_eq_true]
 intro c hc
 obtain⟨k,hk,rfl⟩:=List.getElem_of_mem hc
 exact h k (by simpa using hk)
theorem good_size{s:ByteArray}(h:¬(1≤s.size∧s.size≤36)):x8 s=false:=by
 unfold x8
 rw[decide_eq_false h,Bool.false_and]
set_option maxHeartbeats 800000 in
theorem value(r:Int)(w:World)(h0:0≤r)(h1:r≤2147483647) :
  Calls Tryz.prog 69 #[.int .i32 r] w fun e w'=>e=.returned (i (valR r))∧w=w':=by
 obtain⟨v,hv⟩:∃v,valR r=v:=⟨_,rfl⟩
 rw[hv]
 have HV:=Lib.hid hv
 clear hv
 by_cases d1:48≤r∧r≤57
 ·obtain⟨d1,d2⟩:=d1
  go_enter Tryz.func69,Tryz.ntmps69
  go_wp2
  go_ret
  refine⟨ret1 ?_,rfl⟩
  rw[←HV.out];unfold valR;rw[if_pos (by omega)]
 ·by_cases d2:65≤r∧r≤90
  ·obtain⟨d2,d3⟩:=d2
   have e1:57<r:=by omega
   clear d1
   go_enter Tryz.func69,Tryz.ntmps69
   go_wp2
   go_ret
   refine⟨ret1 ?_,rfl⟩
   rw[←HV.out];unfold valR;rw[if_neg (by omega),if_pos (by omega)];omega
  ·by_cases d3:97≤r∧r≤122
   ·obtain⟨d3,d4⟩:=d3
    have e1:90<r:=by omega
    clear d1 d2
    go_enter Tryz.func69,Tryz.ntmps69
    go_wp2
    go_ret
    refine⟨ret1 ?_,rfl⟩
    rw[←HV.out];unfold valR;rw[if_neg (by omega),if_neg (by omega),if_pos (by omega)];omega
   ·have e:v=-1:=by rw[←HV.out];unfold valR;rw[if_neg d1,if_neg d2,if_neg d3]
    subst e
    go_enter Tryz.func69,Tryz.ntmps69
    go_wp2
    all_goals first|(exfalso;omega)|(go_ret;exact⟨rfl,rfl⟩)
theorem iter_below(w:World)(s:ByteArray)(p:Nat):Below w.heap.size w (w.iter s p):=below_new w (.stringIter s p)
set_option maxRecDepth 100000 in
set_option maxHeartbeats 1600000 in
theorem valid_(s:ByteArray)(w:World)(hs:s.size≤maxLen) :
  Calls Tryz.prog 29 #[.string s] w fun e w'=>e=.returned (.bool (x8 s))∧Below w.heap.size w w':=by
 unfold maxLen at hs
 by_cases hz:1≤s.size∧s.size≤36
 ·obtain⟨z1,z2⟩:=hz
  go_enter Tryz.func29,Tryz.ntmps29
  go_wp2
  go_loopw [4] (fun n w'=>∃pos:Nat,pos≤s.size∧w'=w.iter s pos∧Hid (∀k (hk:k<s.size),k<pos→goodC (s[k].toNat:Int)=true)) (fun _ w'=>s.size-w'.iterPos w.heap.size)
  case atStart=>exact⟨0,by omega,rfl,fun k hk h=>by omega⟩
  case round=>
   obtain⟨pos,hpl,rfl,HA⟩:=hrel
   by_cases hp:pos<s.size
   ·have hnx:∀ty,(Instr.next (.pointer (some ⟨w.heap.size,0,none⟩)) true ty).run Tryz.prog (w.iter s pos)=_:=fun ty=>run_next_any w s pos ty hp
    by_cases ha:s[pos].toNat<128
    ·rw[decode_ascii s pos hp ha] at hnx
     have HB:=Lib.hid (@good_at s pos hp)
     have HG:Hid (goodC (s[pos].toNat:Int)=true→∀k (hk:k<s.size),k<pos+1→goodC (s[k].toNat:Int)=true):=by
      intro hg k hk hlt
      by_cases e:k=pos
      ·subst e;exact hg
      ·exact HA.out k hk (by omega)
     generalize s[pos].toNat=r at *
     have hr:(r:Int)≤127:=by omega
     have hr0:(0:Int)≤(r:Int):=by omega
     go_wp2_with (go_at_call 69;refine(value _ _ hr0 (by omega)).mono ?_;rintro e w' ⟨rfl,rfl⟩)
     all_goals first
      | (go_ret;exact⟨retB (HB.out (bad_of ‹_› ‹_› ‹_› ‹_› ‹_› ‹_›)).symm,iter_below _ _ _⟩)
      | (refine⟨⟨pos+1,by omega,rfl,HG.out ?_⟩,by simp;omega⟩
         first|exact good1 ‹_› | exact good2 ‹_› | exact good3 ‹_› | exact good4 ‹_› | exact good5 ‹_› | exact good6 ‹_›)
    ·have hh:=decode_high s pos hp (by omega)
     have hle:=decode_le s pos
     have HB:=Lib.hid (@good_at s pos hp (goodC_hi _ (by omega)))
     generalize (Utf8.decode s pos).1=r at *
     generalize (Utf8.decode s pos).2=wd at *
     have hr0:(128:Int)≤(r:Int):=by omega
     have hr1:(r:Int)≤2147483647:=by omega
     have q1:((r:Int) == 45)=false:=by simp;omega
     have q2:((r:Int) == 95)=false:=by simp;omega
     have q3:((r:Int) == 46)=false:=by simp;omega
     have q4:((r:Int) == 58)=false:=by simp;omega
     have q5:((r:Int) == 42)=false:=by simp;omega
     have hv:=Lib.hid (valR_hi r hr0)
     go_wp2_with fail
     refine(value _ _ (by omega) (by omega)).mono ?_
     rintro e w' ⟨rfl,rfl⟩
     rw[hv.out]
     go_wp2_with fail
     go_ret
     exact⟨retB HB.out.symm,iter_below _ _ _⟩
   ·have hnx:∀ty,(Instr.next (.pointer (some ⟨w.heap.size,0,none⟩)) true ty).run Tryz.prog (w.iter s pos)=_:=fun ty=>run_next_end w s pos ty hp
    go_wp2
    go_ret
    exact⟨retB (good_all z1 z2 (fun k hk=>HA.out k hk (by omega))).symm,iter_below _ _ _⟩
 ·have e:=good_size hz
  rw[e]
  clear e
  go_enter Tryz.func29,Tryz.ntmps29
  go_wp2
  all_goals first|(exfalso;omega)|(go_ret;exact⟨rfl,Below.refl _ _⟩)
end IdW
end Go.Proofs.YtmadfhgiaonnlaaGreatDoor
namespace Go.Proofs
def Tryz.laysM171_ren:Go.Shelf.Ren:=⟨fun|171=>32|243=>72|246=>101|283=>119|284=>120|285=>121|286=>122|129=>141|317=>140|318=>142|319=>143|320=>144|337=>162|338=>163|n=>n,fun|3=>3|9=>9|2=>2|4=>4|171=>210|0=>0|53=>67|37=>183|5=>5|173=>213|212=>235|51=>236|20=>20|213=>237|46=>228|232=>280|233=>281|n=>n,fun|17=>0|18=>1|19=>2|n=>n⟩
theorem Tryz.laysM171:LaysM.n171 Tryz.prog Tryz.laysM171_ren:={ mixed:=by kernel_rfl,f129:=Tryz.func141.trans (congrArg some (by kernel_rfl)),f171:=Tryz.func32.trans (congrArg some (by kernel_rfl)),f243:=Tryz.func72.trans (congrArg some (by kernel_rfl)),f246:=Tryz.func101.trans (congrArg some (by kernel_rfl)),f283:=Tryz.func119.trans (congrArg some (by kernel_rfl)),f284:=Tryz.func120.trans (congrArg some (by kernel_rfl)),f285:=Tryz.func121.trans (congrArg some (by kernel_rfl)),f286:=Tryz.func122.trans (congrArg some (by kernel_rfl)),f317:=Tryz.func140.trans (congrArg some (by kernel_rfl)),f318:=Tryz.func142.trans (congrArg some (by kernel_rfl)),f319:=Tryz.func143.trans (congrArg some (by kernel_rfl)),f320:=Tryz.func144.trans (congrArg some (by kernel_rfl)),f337:=Tryz.func162.trans (congrArg some (by kernel_rfl)),f338:=Tryz.func163.trans (congrArg some (by kernel_rfl)),t0:=Tryz.underlying0,a0:=Tryz.isAgg0,z0:=Tryz.sizeOf0,v0:=Tryz.zeroValue0,t2:=Tryz.underlying2,a2:=Tryz.isAgg2,z2:=Tryz.sizeOf2,v2:=Tryz.zeroValue2,t3:=Tryz.underlying3,a3:=Tryz.isAgg3,z3:=Tryz.sizeOf3,v3:=Tryz.zeroValue3,t4:=Tryz.underlying4,a4:=Tryz.isAgg4,z4:=Tryz.sizeOf4,v4:=Tryz.zeroValue4,t5:=Tryz.underlying5,a5:=Tryz.isAgg5,z5:=Tryz.sizeOf5,v5:=Tryz.zeroValue5,t9:=Tryz.underlying9,a9:=Tryz.isAgg9,z9:=Tryz.sizeOf9,v9:=Tryz.zeroValue9,t20:=Tryz.underlying20,a20:=Tryz.isAgg20,z20:=Tryz.sizeOf20,v20:=Tryz.zeroValue20,t37:=Tryz.underlying183,a37:=Tryz.isAgg183,z37:=Tryz.sizeOf183,v37:=Tryz.zeroValue183,t46:=Tryz.underlying228,a46:=Tryz.isAgg228,z46:=Tryz.sizeOf228,v46:=Tryz.zeroValue228,t51:=Tryz.underlying236,a51:=Tryz.isAgg236,z51:=Tryz.sizeOf236,v51:=Tryz.zeroValue236,t53:=Tryz.underlying67,a53:=Tryz.isAgg67,z53:=Tryz.sizeOf67,v53:=Tryz.zeroValue67,t171:=Tryz.underlying210,a171:=Tryz.isAgg210,z171:=Tryz.sizeOf210,v171:=Tryz.zeroValue210,t173:=Tryz.underlying213,a173:=Tryz.isAgg213,z173:=Tryz.sizeOf213,v173:=Tryz.zeroValue213,t212:=Tryz.underlying235,a212:=Tryz.isAgg235,z212:=Tryz.sizeOf235,v212:=Tryz.zeroValue235,t213:=Tryz.underlying237,a213:=Tryz.isAgg237,z213:=Tryz.sizeOf237,t232:=Tryz.underlying280,a232:=Tryz.isAgg280,z232:=Tryz.sizeOf280,v232:=Tryz.zeroValue280,t233:=Tryz.underlying281,a233:=Tryz.isAgg281,z233:=Tryz.sizeOf281,v233:=Tryz.zeroValue281,g17:=by kernel_rfl,g18:=by kernel_rfl,g19:=by kernel_rfl,i0:=by kernel_rfl,i2:=by kernel_rfl,i3:=by kernel_rfl,i4:=by kernel_rfl,i5:=by kernel_rfl,i9:=by kernel_rfl,i20:=by kernel_rfl,i37:=by kernel_rfl,i46:=by kernel_rfl,i51:=by kernel_rfl,i53:=by kernel_rfl,i171:=by kernel_rfl,i173:=by kernel_rfl,i212:=by kernel_rfl,i232:=by kernel_rfl,i233:=by kernel_rfl,m17:=by kernel_rfl,m18:=by kernel_rfl,m19:=by kernel_rfl }
def Tryz.lays106_ren:Go.Shelf.Ren:=⟨fun|106=>184|213=>188|265=>191|n=>n,fun|9=>9|3=>3|n=>n,fun|n=>n⟩
theorem Tryz.lays106:Lays.n106 Tryz.prog Tryz.lays106_ren:={ mixed:=by kernel_rfl,f106:=Tryz.func184.trans (congrArg some (by kernel_rfl)),f213:=Tryz.func188.trans (congrArg some (by kernel_rfl)),f265:=Tryz.func191.trans (congrArg some (by kernel_rfl)),t3:=Tryz.underlying3,a3:=Tryz.isAgg3,z3:=Tryz.sizeOf3,v3:=Tryz.zeroValue3,t9:=Tryz.underlying9,a9:=Tryz.isAgg9,z9:=Tryz.sizeOf9,v9:=Tryz.zeroValue9 }
end Go.Proofs
namespace Go.Proofs.YtmadfhgiaonnlaaGreatDoor
namespace Sy
set_option maxRecDepth 100000
open Go.RowKit
def Tab10(W0:World):Prop:=Lib.TabIs Tryz.prog W0 "internal/strconv.uint64pow10" .u64 Lib.pow10Tab
section
variable{W0:World}{T:Nat→Prop}{w:World}
theorem tab_alien{P:Program}{tb:Tab}{nm:String}{k:IntKind}{zs:List Int}(h:Lib.TabIs P W0 nm k zs)(hw:WT tb W0 T w):Lib.TabIs P w nm k zs:=by
 unfold Lib.TabIs World.var? at h ⊢
 cases hg:P.globalNamed nm with
 | none=>rw[hg] at h;cases h
 | some g=>
   rw[hg] at h
   simp only[Option.bind_some] at h ⊢
   have hlt:g<W0.heap.size:=by
    rcases Nat.lt_or_ge g W0.heap.size with h1|h1
    ·exact h1
    ·rw[Array.getElem?_eq_none h1] at h;cases h
   rw[hw.alien g hlt]
   exact h
theorem below_grow(w:World)(k:Nat)(os:Array Obj):Below w.heap.size w (Sort.grow (w.drewN k) os):=by
 refine⟨rfl,rfl,rfl,?_,fun b hb=>?_⟩
 ·rw[Sort.size_grow];show w.heap.size≤w.heap.size+_;omega
 ·show(w.heap++os)[b]? = _
  rw[Array.getElem?_append_left hb]
theorem cmp_range:∀(a b:List UInt8),-1≤Lib.compareBytes a b∧Lib.compareBytes a b≤1
 | [],[]=>by decide
 | [],_::_=>by simp[Lib.compareBytes]
 | _::_,[]=>by simp[Lib.compareBytes]
 | x::a,y::b=>by
   have:=cmp_range a b
   unfold Lib.compareBytes
   split
   ·omega
   ·split<;>omega
theorem hand29:Holds Tryz.prog cx W0 29 c29:=by
 refine holds_one (ct:=.bool) ⟨Tryz.f29,by kernel_rfl,by kernel_rfl,by kernel_rfl⟩ rfl rfl rfl ?_
 intro T w args hw hty hpre
 rcases args with _|⟨v,_|⟨u,l⟩⟩
 ·exact hty.elim
 ·obtain⟨⟨s,rfl,hs⟩,-⟩:=hty
  refine(IdW.valid_ s w hs).mono ?_
  rintro e w' ⟨rfl,hb⟩
  exact⟨_,rfl,⟨_,rfl⟩,hb⟩
 ·exact hty.2.elim
theorem hand184:Holds Tryz.prog cx W0 184 c184:=by
 refine holds_one (ct:=.int .i64 (-1) 1) ⟨Tryz.f184,by kernel_rfl,by kernel_rfl,by kernel_rfl⟩ rfl rfl rfl ?_
 intro T w args hw hty hpre
 rcases args with _|⟨v,_|⟨u,_|⟨u2,l⟩⟩⟩
 ·exact hty.elim
 ·exact hty.2.elim
 ·obtain⟨⟨a,rfl,ha⟩,⟨b,rfl,hb⟩,-⟩:=hty
  refine(Any.strings_Compare Tryz.lays106 a b w).mono ?_
  rintro e w' ⟨rfl,hw'⟩
  refine⟨_,rfl,⟨_,rfl,?_⟩,Below.of_eq hw'.symm⟩
  exact cmp_range _ _
 ·exact hty.2.2.elim
theorem hand32(hT:Tab10 W0):Holds Tryz.prog cx W0 32 c32:=by
 refine holds_one (ct:=.str 21) ⟨Tryz.f32,by kernel_rfl,by kernel_rfl,by kernel_rfl⟩ rfl rfl rfl ?_
 intro T w args hw hty hpre
 rcases args with _|⟨v,_|⟨u,l⟩⟩
 ·exact hty.elim
 ·obtain⟨⟨n,rfl,h0,h1⟩,-⟩:=hty
  refine(Any.strconv_Itoa Tryz.laysM171 n h0 h1 w (tab_alien hT hw)).mono ?_
  rintro e w' ⟨rfl,k,os,rfl⟩
  refine⟨_,rfl,⟨_,rfl,?_⟩,below_grow w k os⟩
  have:=Lib.itoa_length_le n h0 h1
  show((Lib.itoa n).toArray).size≤21
  simpa using this
 ·exact hty.2.elim
end
set_option maxRecDepth 100000
section
variable{W0:World}
theorem h7(hT:Tab10 W0):Holds Tryz.prog cx W0 7 c7:=qx cxOk (qj) mixed (fn:=Tryz.f7) [] (by kernel_rfl) (by kernel_rfl)
theorem h18(hT:Tab10 W0):Holds Tryz.prog cx W0 18 c18:=qx cxOk (qj) mixed (fn:=Tryz.f18) [⟨[(4,(full .i64)),(10,(full .i64))],[],[⟨0,[(1,8),(-1,10)]⟩,⟨0,[(1,4)]⟩,⟨1,[(1,4)]⟩,⟨0,[(1,10)]⟩,⟨1,[(1,10)]⟩,⟨0,[(-1,4),(1,10)]⟩,⟨0,[(1,1),(-1,4)]⟩,⟨0,[(-1,4),(1,8)]⟩,⟨0,[(-1,4),(1,9)]⟩,⟨0,[(1,9),(-1,10)]⟩],⟨0,[(1,8),(-1,10)]⟩⟩] (by kernel_rfl) (by kernel_rfl)
theorem h78(hT:Tab10 W0):Holds Tryz.prog cx W0 78 c78:=qx cxOk (qj) mixed (fn:=Tryz.f78) [] (by kernel_rfl) (by kernel_rfl)
theorem h38(hT:Tab10 W0):Holds Tryz.prog cx W0 38 c38:=qx cxOk (qy (h78 hT) (by kernel_rfl) <| qj) mixed (fn:=Tryz.f38) [] (by kernel_rfl) (by kernel_rfl)
theorem h39(hT:Tab10 W0):Holds Tryz.prog cx W0 39 c39:=qx cxOk (qj) mixed (fn:=Tryz.f39) [⟨[(5,(full .i64)),(96,(full .i64))],[],[⟨12,[(-1,96)]⟩,⟨0,[(1,96)]⟩,⟨1,[(1,96)]⟩],⟨12,[(-1,96)]⟩⟩] (by kernel_rfl) (by kernel_rfl)
theorem h40(hT:Tab10 W0):Holds Tryz.prog cx W0 40 c40:=qx cxOk (qj) mixed (fn:=Tryz.f40) [] (by kernel_rfl) (by kernel_rfl)
theorem h29(hT:Tab10 W0):Holds Tryz.prog cx W0 29 c29:=hand29
theorem h41(hT:Tab10 W0):Holds Tryz.prog cx W0 41 c41:=qx cxOk (qy (h29 hT) (by kernel_rfl) <| qj) mixed (fn:=Tryz.f41) [] (by kernel_rfl) (by kernel_rfl)
theorem h105(hT:Tab10 W0):Holds Tryz.prog cx W0 105 c105:=qx cxOk (qj) mixed (fn:=Tryz.f105) [] (by kernel_rfl) (by kernel_rfl)
theorem h106(hT:Tab10 W0):Holds Tryz.prog cx W0 106 c106:=qx cxOk (qj) mixed (fn:=Tryz.f106) [] (by kernel_rfl) (by kernel_rfl)
theorem h127(hT:Tab10 W0):Holds Tryz.prog cx W0 127 c127:=qx cxOk (qj) mixed (fn:=Tryz.f127) [] (by kernel_rfl) (by kernel_rfl)
theorem h107(hT:Tab10 W0):Holds Tryz.prog cx W0 107 c107:=qx cxOk (qy (h127 hT) (by kernel_rfl) <| qj) mixed (fn:=Tryz.f107) [⟨[(2,(full .i64)),(17,(full .i64))],[],[⟨0,[(1,2)]⟩,⟨1,[(1,2)]⟩,⟨0,[(1,17)]⟩,⟨1,[(1,17)]⟩,⟨0,[(-1,2),(1,17)]⟩],⟨0,[(1,15),(-1,17)]⟩⟩] (by kernel_rfl) (by kernel_rfl)
theorem h79(hT:Tab10 W0):Holds Tryz.prog cx W0 79 c79:=qx cxOk (qy (h29 hT) (by kernel_rfl) <| qy (h105 hT) (by kernel_rfl) <| qy (h106 hT) (by kernel_rfl) <| qy (h107 hT) (by kernel_rfl) <| qj) mixed (fn:=Tryz.f79) [] (by kernel_rfl) (by kernel_rfl)
theorem h75(hT:Tab10 W0):Holds Tryz.prog cx W0 75 c75:=qx cxOk (qy (h29 hT) (by kernel_rfl) <| qj) mixed (fn:=Tryz.f75) [] (by kernel_rfl) (by kernel_rfl)
theorem h80(hT:Tab10 W0):Holds Tryz.prog cx W0 80 c80:=qx cxOk (qy (h29 hT) (by kernel_rfl) <| qy (h75 hT) (by kernel_rfl) <| qj) mixed (fn:=Tryz.f80) [] (by kernel_rfl) (by kernel_rfl)
theorem h42(hT:Tab10 W0):Holds Tryz.prog cx W0 42 c42:=qx cxOk (qy (h79 hT) (by kernel_rfl) <| qy (h80 hT) (by kernel_rfl) <| qj) mixed (fn:=Tryz.f42) [⟨[(4,(full .i64)),(14,(full .i64))],[],[⟨0,[(1,12),(-1,14)]⟩,⟨0,[(1,4)]⟩,⟨1,[(1,4)]⟩,⟨0,[(1,14)]⟩,⟨1,[(1,14)]⟩,⟨0,[(-1,4),(1,14)]⟩,⟨0,[(-1,4),(1,12)]⟩,⟨0,[(-1,4),(1,13)]⟩,⟨0,[(1,13),(-1,14)]⟩],⟨0,[(1,12),(-1,14)]⟩⟩,⟨[(4,(full .i64)),(49,(full .i64))],[],[⟨0,[(1,4)]⟩,⟨1,[(1,4)]⟩,⟨0,[(1,49)]⟩,⟨1,[(1,49)]⟩],⟨0,[(1,47),(-1,49)]⟩⟩] (by kernel_rfl) (by kernel_rfl)
theorem h19(hT:Tab10 W0):Holds Tryz.prog cx W0 19 c19:=qx cxOk (qy (h38 hT) (by kernel_rfl) <| qy (h39 hT) (by kernel_rfl) <| qy (h40 hT) (by kernel_rfl) <| qy (h41 hT) (by kernel_rfl) <| qy (h42 hT) (by kernel_rfl) <| qj) mixed (fn:=Tryz.f19) [] (by kernel_rfl) (by kernel_rfl)
theorem h47(hT:Tab10 W0):Holds Tryz.prog cx W0 47 c47:=qx cxOk (qj) mixed (fn:=Tryz.f47) [] (by kernel_rfl) (by kernel_rfl)
theorem h45(hT:Tab10 W0):Holds Tryz.prog cx W0 45 c45:=qx cxOk (qj) mixed (fn:=Tryz.f45) [] (by kernel_rfl) (by kernel_rfl)
theorem h82(hT:Tab10 W0):Holds Tryz.prog cx W0 82 c82:=qx cxOk (qj) mixed (fn:=Tryz.f82) [] (by kernel_rfl) (by kernel_rfl)
theorem h146(hT:Tab10 W0):Holds Tryz.prog cx W0 146 c146:=qx cxOk (qj) mixed (fn:=Tryz.f146) [] (by kernel_rfl) (by kernel_rfl)
theorem h128(hT:Tab10 W0):Holds Tryz.prog cx W0 128 c128:=qx cxOk (qy (h146 hT) (by kernel_rfl) <| qj) mixed (fn:=Tryz.f128) [] (by kernel_rfl) (by kernel_rfl)
theorem h109(hT:Tab10 W0):Holds Tryz.prog cx W0 109 c109:=qx cxOk (qy (h45 hT) (by kernel_rfl) <| qy (h82 hT) (by kernel_rfl) <| qy (h128 hT) (by kernel_rfl) <| qj) mixed (fn:=Tryz.f109) [] (by kernel_rfl) (by kernel_rfl)
theorem h108(hT:Tab10 W0):Holds Tryz.prog cx W0 108 c108:=qx cxOk (qy (h109 hT) (by kernel_rfl) <| qj) mixed (fn:=Tryz.f108) [⟨[(13,(full .i64))],[],[⟨0,[(1,0),(-1,13)]⟩,⟨0,[(1,13)]⟩,⟨1,[(1,13)]⟩,⟨0,[(1,5),(-1,13)]⟩,⟨0,[(1,8),(-1,13)]⟩,⟨0,[(1,9),(-1,13)]⟩,⟨0,[(1,10),(-1,13)]⟩,⟨0,[(1,11),(-1,13)]⟩,⟨0,[(1,12),(-1,13)]⟩],⟨0,[(1,0),(-1,13)]⟩⟩] (by kernel_rfl) (by kernel_rfl)
end
end Sy
end Go.Proofs.YtmadfhgiaonnlaaGreatDoor
