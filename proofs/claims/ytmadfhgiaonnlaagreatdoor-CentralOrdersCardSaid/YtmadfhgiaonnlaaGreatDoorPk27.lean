import Derived.Test.YtmadfhgiaonnlaaGreatDoorPk26
set_option linter.unusedVariables false
set_option linter.unusedSimpArgs false
namespace Go.Proofs.YtmadfhgiaonnlaaGreatDoor
namespace SipW
open Go.RowKit
theorem zf{w:World}{g:Nat}{t:TypeId}{old:Array Value}(cs:Array Value)(h:Blk w g t old):Blk (w.setRow g cs) g t cs:=setRow_heap w g old cs t (0,0) h
theorem jq{w:World}{g g':Nat}{t:TypeId}{cs:Array Value}(cs':Array Value)(h:Blk w g' t cs)(hg:g'≠g):Blk (w.setRow g cs') g' t cs:=(setRow_other w g g' cs' hg).trans h
theorem qm{s0:Nat}{a w:World}{g:Nat}(cs:Array Value)(h:Below s0 a w)(hg:s0≤g):Below s0 a (w.setRow g cs):=below_setRow h hg cs
theorem stSet{w:World}{g k:Nat}{t:TypeId}{cs cs':Array Value}{u:Value}(h:Blk w g t cs)(he:cs.setIfInBounds k u=cs'):w.setCell ⟨g,k,none⟩ u=w.setRow g cs':=by
 rw[setCell_eq_setRow w g k cs t (0,0) u h,he]
def sC(s:Sip.S4):Array Value:=#[.int .u64 s.a,.int .u64 s.b,.int .u64 s.c,.int .u64 s.d]
set_option maxRecDepth 100000 in
set_option maxHeartbeats 2000000 in
theorem rrounds(s:Sip.S4)(n:Nat)(hn:n≤4)(w:World):Calls Tryz.prog 165 #[.agg (sC s),.int .i64 n] w fun e w'=>e=.returned (.agg (sC (Sip.rnds n s)))∧Hid (Below w.heap.size w w'):=by
 unfold sC
 go_enter Tryz.func165,Tryz.ntmps165
 have hk0:=((Blk.new w 262 #[.int .u64 s.a,.int .u64 s.b,.int .u64 s.c,.int .u64 s.d]).alloc (.cells #[.int .u64 0,.int .u64 0,.int .u64 0,.int .u64 0] 262))
 have hr0:=Blk.new (w.alloc (.cells #[.int .u64 s.a,.int .u64 s.b,.int .u64 s.c,.int .u64 s.d] 262)) 262 #[.int .u64 0,.int .u64 0,.int .u64 0,.int .u64 0]
 rw[World.size_alloc] at hr0
 have HK0:=Lib.hid hk0
 have HR0:=Lib.hid hr0
 have HB0:=Lib.hid (below_alloc (below_alloc (Below.refl w.heap.size w) (.cells #[.int .u64 s.a,.int .u64 s.b,.int .u64 s.c,.int .u64 s.d] 262)) (.cells #[.int .u64 0,.int .u64 0,.int .u64 0,.int .u64 0] 262))
 clear hk0 hr0
 go_wp2_with fail
 generalize (w.alloc (.cells _ 262)).alloc (.cells _ 262)=w1 at *
 go_loopg [5] n (fun gg s5 wr=>∃j:Nat,j+gg=n∧s5=.int .i64 j∧Hid (Blk wr w.heap.size 262 #[.int .u64 (Sip.rnds j s).a,.int .u64 (Sip.rnds j s).b,.int .u64 (Sip.rnds j s).c,.int .u64 (Sip.rnds j s).d])∧Hid (Blk wr (w.heap.size+1) 262 #[.int .u64 0,.int .u64 0,.int .u64 0,.int .u64 0])∧Hid (Below w.heap.size w wr))
 case atStart=>exact⟨0,by omega,rfl,HK0,HR0,HB0⟩
 case round=>
  obtain⟨j,hj,rfl,HK,HR,HB⟩:=hrel
  have HS:=Lib.hid (show Sip.rnds (j+1) s=Sip.rnd (Sip.rnds j s) from rfl)
  by_cases hjn:j<n
  ·have hjz:(j:Int)<(n:Int):=by omega
   generalize Sip.rnds j s=t at *
   obtain⟨a,b,c,d⟩:=t
   simp only at HK
   have kc:=HK.out.cell
   have kf:=HK.out.frozen
   have e1:Hid (wr.setCell ⟨w.heap.size,0,none⟩ (.int .u64 (IntKind.u64.wrap (a+b)))=wr.setRow w.heap.size #[.int .u64 (IntKind.u64.wrap (a+b)),.int .u64 b,.int .u64 c,.int .u64 d]):=stSet HK.out rfl
   go_upto_region 5 with(fail)
   rw[show wr.setCell ⟨w.heap.size,0,none⟩ (.int .u64 (IntKind.u64.wrap (a+b)))=wr.setRow w.heap.size #[.int .u64 (IntKind.u64.wrap (a+b)),.int .u64 b,.int .u64 c,.int .u64 d] from e1.out]
   have HK':=Lib.hid (zf #[.int .u64 (IntKind.u64.wrap (a+b)),.int .u64 b,.int .u64 c,.int .u64 d] HK.out)
   have HR':=Lib.hid (jq #[.int .u64 (IntKind.u64.wrap (a+b)),.int .u64 b,.int .u64 c,.int .u64 d] HR.out (show w.heap.size+1≠w.heap.size by omega))
   have HB':=Lib.hid (qm #[.int .u64 (IntKind.u64.wrap (a+b)),.int .u64 b,.int .u64 c,.int .u64 d] HB.out (Nat.le_refl _))
   clear kc kf e1 HK HR HB
   generalize wr.setRow w.heap.size #[.int .u64 (IntKind.u64.wrap (a+b)),.int .u64 b,.int .u64 c,.int .u64 d]=wa1 at *
   obtain⟨a1,ha1⟩:∃x,x=IntKind.u64.wrap (a+b):=⟨_,rfl⟩
   rw[←ha1] at HK'
   have Ha1:=Lib.hid ha1
   clear ha1
   have HK:=HK'
   have HR:=HR'
   have HB:=HB'
   clear HK' HR' HB'
   refine RegC.region 7 (fun k=>match k with|0=>some (.pointer (some ⟨w.heap.size,1,none⟩))|1=>some (.int .u64 b)|2=>some (.int .u64 (Sip.rotl b 13))|3=>some (.pointer (some ⟨w.heap.size,0,none⟩))|4=>some (.int .u64 a1)|5=>some (.int .u64 (Sip.xor (Sip.rotl b 13) a1))|6=>some (.pointer (some ⟨w.heap.size,1,none⟩))|_=>none) (by kernel_rfl) (by kernel_rfl) (Reg4.in_of (n:=72) (by kernel_rfl) rfl) ?_ ?_
   ·intro idx o hj ho a' w' hG hop
    have hj':idx=0∨idx=1∨idx=2∨idx=3∨idx=4∨idx=5∨idx=6:=by omega
    clear hj
    rcases hj' with rfl|rfl|rfl|rfl|rfl|rfl|rfl
    ·obtain rfl:=oi ho
     have h2:a'.tmps[2]?.getD undef=_:=gdt (hop 2 (by simp[Op.operands,Call.operands]))
     refine Reg4.StepOk.mono (R:=fun v W=>v=.pointer (some ⟨w.heap.size,1,none⟩)∧W=w') ?_ (fun v W h=>?_)
     ·go_simp
      all_goals(try exact⟨rfl,rfl⟩)
     ·obtain⟨rfl,rfl⟩:=h
      exact⟨fun x hx=>oi hx,Below.refl _ _⟩
    ·obtain rfl:=oi ho
     have h17:a'.tmps[17]?.getD undef=.pointer (some ⟨w.heap.size,1,none⟩):=gdt (hop 17 (by simp[Op.operands,Call.operands]) _ rfl)
     have kc:=(HK.out.call hG).cell
     refine Reg4.StepOk.mono (R:=fun v W=>v=.int .u64 b∧W=w') ?_ (fun v W h=>?_)
     ·go_simp
      all_goals(try exact⟨rfl,rfl⟩)
     ·obtain⟨rfl,rfl⟩:=h
      exact⟨fun x hx=>oi hx,Below.refl _ _⟩
    ·obtain rfl:=oi ho
     have h18:a'.tmps[18]?.getD undef=.int .u64 b:=gdt (hop 18 (by simp[Op.operands,Call.operands]) _ rfl)
     refine Reg4.StepOk.mono (R:=fun v W=>v=.int .u64 (Sip.rotl b 13)∧Hid (Below w'.heap.size w' W)) ?_ (fun v W h=>?_)
     ·go_simp
      refine(rturn b 13 (by unfold TurnK;simp) _).mono ?_
      rintro e w5 ⟨rfl,rfl⟩
      exact⟨_,rfl,rfl,Below.refl _ _⟩
     ·obtain⟨rfl,hb⟩:=h
      exact⟨fun x hx=>oi hx,hb.out⟩
    ·obtain rfl:=oi ho
     have h2:a'.tmps[2]?.getD undef=_:=gdt (hop 2 (by simp[Op.operands,Call.operands]))
     refine Reg4.StepOk.mono (R:=fun v W=>v=.pointer (some ⟨w.heap.size,0,none⟩)∧W=w') ?_ (fun v W h=>?_)
     ·go_simp
      all_goals(try exact⟨rfl,rfl⟩)
     ·obtain⟨rfl,rfl⟩:=h
      exact⟨fun x hx=>oi hx,Below.refl _ _⟩
    ·obtain rfl:=oi ho
     have h20:a'.tmps[20]?.getD undef=.pointer (some ⟨w.heap.size,0,none⟩):=gdt (hop 20 (by simp[Op.operands,Call.operands]) _ rfl)
     have kc:=(HK.out.call hG).cell
     refine Reg4.StepOk.mono (R:=fun v W=>v=.int .u64 a1∧W=w') ?_ (fun v W h=>?_)
     ·go_simp
      all_goals(try exact⟨rfl,rfl⟩)
     ·obtain⟨rfl,rfl⟩:=h
      exact⟨fun x hx=>oi hx,Below.refl _ _⟩
    ·obtain rfl:=oi ho
     have h19:a'.tmps[19]?.getD undef=.int .u64 (Sip.rotl b 13):=gdt (hop 19 (by simp[Op.operands,Call.operands]) _ rfl)
     have h21:a'.tmps[21]?.getD undef=.int .u64 a1:=gdt (hop 21 (by simp[Op.operands,Call.operands]) _ rfl)
     refine Reg4.StepOk.mono (R:=fun v W=>v=.int .u64 (Sip.xor (Sip.rotl b 13) a1)∧W=w') ?_ (fun v W h=>?_)
     ·go_simp
      all_goals(try exact⟨rfl,rfl⟩)
     ·obtain⟨rfl,rfl⟩:=h
      exact⟨fun x hx=>oi hx,Below.refl _ _⟩
    ·obtain rfl:=oi ho
     have h2:a'.tmps[2]?.getD undef=_:=gdt (hop 2 (by simp[Op.operands,Call.operands]))
     refine Reg4.StepOk.mono (R:=fun v W=>v=.pointer (some ⟨w.heap.size,1,none⟩)∧W=w') ?_ (fun v W h=>?_)
     ·go_simp
      all_goals(try exact⟨rfl,rfl⟩)
     ·obtain⟨rfl,rfl⟩:=h
      exact⟨fun x hx=>oi hx,Below.refl _ _⟩
   ·intro vals w' hG hv
    have hv0:vals 0=.pointer (some ⟨w.heap.size,1,none⟩):=hv 0 _ (by omega) rfl
    have hv1:vals 1=.int .u64 b:=hv 1 _ (by omega) rfl
    have hv2:vals 2=.int .u64 (Sip.rotl b 13):=hv 2 _ (by omega) rfl
    have hv3:vals 3=.pointer (some ⟨w.heap.size,0,none⟩):=hv 3 _ (by omega) rfl
    have hv4:vals 4=.int .u64 a1:=hv 4 _ (by omega) rfl
    have hv5:vals 5=.int .u64 (Sip.xor (Sip.rotl b 13) a1):=hv 5 _ (by omega) rfl
    have hv6:vals 6=.pointer (some ⟨w.heap.size,1,none⟩):=hv 6 _ (by omega) rfl
    simp only[Reg4.puts,Reg4.dstOf,List.range,List.range.loop,if_true,List.drop_succ_cons,List.drop_zero,hv0,hv1,hv2,hv3,hv4,hv5,hv6]
    clear hv hv0 hv1 hv2 hv3 hv4 hv5 hv6
    simp[Act.put]
    have HK2:=Lib.hid (HK.out.call hG)
    have HR2:=Lib.hid (HR.out.call hG)
    have HB2:=Lib.hid (below_call HB.out hG)
    clear HK HR HB hG
    have HK:=HK2
    have HR:=HR2
    have HB:=HB2
    clear HK2 HR2 HB2
    have kc:=HK.out.cell
    have kf:=HK.out.frozen
    have e1:Hid (w'.setCell ⟨w.heap.size,1,none⟩ (.int .u64 (Sip.xor (Sip.rotl b 13) a1))=w'.setRow w.heap.size #[.int .u64 a1,.int .u64 (Sip.xor (Sip.rotl b 13) a1),.int .u64 c,.int .u64 d]):=stSet HK.out rfl
    go_upto_region 6 with(fail)
    rw[show w'.setCell ⟨w.heap.size,1,none⟩ (.int .u64 (Sip.xor (Sip.rotl b 13) a1))=w'.setRow w.heap.size #[.int .u64 a1,.int .u64 (Sip.xor (Sip.rotl b 13) a1),.int .u64 c,.int .u64 d] from e1.out]
    have HK':=Lib.hid (zf #[.int .u64 a1,.int .u64 (Sip.xor (Sip.rotl b 13) a1),.int .u64 c,.int .u64 d] HK.out)
    have HR':=Lib.hid (jq #[.int .u64 a1,.int .u64 (Sip.xor (Sip.rotl b 13) a1),.int .u64 c,.int .u64 d] HR.out (show w.heap.size+1≠w.heap.size by omega))
    have HB':=Lib.hid (qm #[.int .u64 a1,.int .u64 (Sip.xor (Sip.rotl b 13) a1),.int .u64 c,.int .u64 d] HB.out (Nat.le_refl _))
    clear kc kf e1 HK HR HB
    generalize w'.setRow w.heap.size #[.int .u64 a1,.int .u64 (Sip.xor (Sip.rotl b 13) a1),.int .u64 c,.int .u64 d]=wb1 at *
    obtain⟨b1,hb1⟩:∃x,x=Sip.xor (Sip.rotl b 13) a1:=⟨_,rfl⟩
    rw[←hb1] at HK'
    have Hb1:=Lib.hid hb1
    clear hb1
    have HK:=HK'
    have HR:=HR'
    have HB:=HB'
    clear HK' HR' HB'
    have kc:=HK.out.cell
    have kf:=HK.out.frozen
    have e1:Hid (wb1.setCell ⟨w.heap.size,0,none⟩ (.int .u64 (Sip.rotl a1 32))=wb1.setRow w.heap.size #[.int .u64 (Sip.rotl a1 32),.int .u64 b1,.int .u64 c,.int .u64 d]):=stSet HK.out rfl
    go_wp2_with fail
    refine(rturn a1 32 (by unfold TurnK;simp) _).mono ?_
    rintro e w' ⟨rfl,hw'⟩
    obtain rfl:=hw'.symm
    go_upto_region 7 with(fail)
    rw[show wb1.setCell ⟨w.heap.size,0,none⟩ (.int .u64 (Sip.rotl a1 32))=wb1.setRow w.heap.size #[.int .u64 (Sip.rotl a1 32),.int .u64 b1,.int .u64 c,.int .u64 d] from e1.out]
    have HK':=Lib.hid (zf #[.int .u64 (Sip.rotl a1 32),.int .u64 b1,.int .u64 c,.int .u64 d] HK.out)
    have HR':=Lib.hid (jq #[.int .u64 (Sip.rotl a1 32),.int .u64 b1,.int .u64 c,.int .u64 d] HR.out (show w.heap.size+1≠w.heap.size by omega))
    have HB':=Lib.hid (qm #[.int .u64 (Sip.rotl a1 32),.int .u64 b1,.int .u64 c,.int .u64 d] HB.out (Nat.le_refl _))
    clear kc kf e1 HK HR HB
    generalize wb1.setRow w.heap.size #[.int .u64 (Sip.rotl a1 32),.int .u64 b1,.int .u64 c,.int .u64 d]=wa2 at *
    obtain⟨a2,ha2⟩:∃x,x=Sip.rotl a1 32:=⟨_,rfl⟩
    rw[←ha2] at HK'
    have Ha2:=Lib.hid ha2
    clear ha2
    have HK:=HK'
    have HR:=HR'
    have HB:=HB'
    clear HK' HR' HB'
    have kc:=HK.out.cell
    have kf:=HK.out.frozen
    have e1:Hid (wa2.setCell ⟨w.heap.size,2,none⟩ (.int .u64 (IntKind.u64.wrap (c+d)))=wa2.setRow w.heap.size #[.int .u64 a2,.int .u64 b1,.int .u64 (IntKind.u64.wrap (c+d)),.int .u64 d]):=stSet HK.out rfl
    go_upto_region 8 with(fail)
    rw[show wa2.setCell ⟨w.heap.size,2,none⟩ (.int .u64 (IntKind.u64.wrap (c+d)))=wa2.setRow w.heap.size #[.int .u64 a2,.int .u64 b1,.int .u64 (IntKind.u64.wrap (c+d)),.int .u64 d] from e1.out]
    have HK':=Lib.hid (zf #[.int .u64 a2,.int .u64 b1,.int .u64 (IntKind.u64.wrap (c+d)),.int .u64 d] HK.out)
    have HR':=Lib.hid (jq #[.int .u64 a2,.int .u64 b1,.int .u64 (IntKind.u64.wrap (c+d)),.int .u64 d] HR.out (show w.heap.size+1≠w.heap.size by omega))
    have HB':=Lib.hid (qm #[.int .u64 a2,.int .u64 b1,.int .u64 (IntKind.u64.wrap (c+d)),.int .u64 d] HB.out (Nat.le_refl _))
    clear kc kf e1 HK HR HB
    generalize wa2.setRow w.heap.size #[.int .u64 a2,.int .u64 b1,.int .u64 (IntKind.u64.wrap (c+d)),.int .u64 d]=wc1 at *
    obtain⟨c1,hc1⟩:∃x,x=IntKind.u64.wrap (c+d):=⟨_,rfl⟩
    rw[←hc1] at HK'
    have Hc1:=Lib.hid hc1
    clear hc1
    have HK:=HK'
    have HR:=HR'
    have HB:=HB'
    clear HK' HR' HB'
    refine RegC.region 7 (fun k=>match k with|0=>some (.pointer (some ⟨w.heap.size,3,none⟩))|1=>some (.int .u64 d)|2=>some (.int .u64 (Sip.rotl d 16))|3=>some (.pointer (some ⟨w.heap.size,2,none⟩))|4=>some (.int .u64 c1)|5=>some (.int .u64 (Sip.xor (Sip.rotl d 16) c1))|6=>some (.pointer (some ⟨w.heap.size,3,none⟩))|_=>none) (by kernel_rfl) (by kernel_rfl) (Reg4.in_of (n:=72) (by kernel_rfl) rfl) ?_ ?_
    ·intro idx o hj ho a' w' hG hop
     have hj':idx=0∨idx=1∨idx=2∨idx=3∨idx=4∨idx=5∨idx=6:=by omega
     clear hj
     rcases hj' with rfl|rfl|rfl|rfl|rfl|rfl|rfl
     ·obtain rfl:=oi ho
      have h2:a'.tmps[2]?.getD undef=_:=gdt (hop 2 (by simp[Op.operands,Call.operands]))
      refine Reg4.StepOk.mono (R:=fun v W=>v=.pointer (some ⟨w.heap.size,3,none⟩)∧W=w') ?_ (fun v W h=>?_)
      ·go_simp
       all_goals(try exact⟨rfl,rfl⟩)
      ·obtain⟨rfl,rfl⟩:=h
       exact⟨fun x hx=>oi hx,Below.refl _ _⟩
     ·obtain rfl:=oi ho
      have h34:a'.tmps[34]?.getD undef=.pointer (some ⟨w.heap.size,3,none⟩):=gdt (hop 34 (by simp[Op.operands,Call.operands]) _ rfl)
      have kc:=(HK.out.call hG).cell
      refine Reg4.StepOk.mono (R:=fun v W=>v=.int .u64 d∧W=w') ?_ (fun v W h=>?_)
      ·go_simp
       all_goals(try exact⟨rfl,rfl⟩)
      ·obtain⟨rfl,rfl⟩:=h
       exact⟨fun x hx=>oi hx,Below.refl _ _⟩
     ·obtain rfl:=oi ho
      have h35:a'.tmps[35]?.getD undef=.int .u64 d:=gdt (hop 35 (by simp[Op.operands,Call.operands]) _ rfl)
      refine Reg4.StepOk.mono (R:=fun v W=>v=.int .u64 (Sip.rotl d 16)∧Hid (Below w'.heap.size w' W)) ?_ (fun v W h=>?_)
      ·go_simp
       refine(rturn d 16 (by unfold TurnK;simp) _).mono ?_
       rintro e w5 ⟨rfl,rfl⟩
       exact⟨_,rfl,rfl,Below.refl _ _⟩
      ·obtain⟨rfl,hb⟩:=h
       exact⟨fun x hx=>oi hx,hb.out⟩
     ·obtain rfl:=oi ho
      have h2:a'.tmps[2]?.getD undef=_:=gdt (hop 2 (by simp[Op.operands,Call.operands]))
      refine Reg4.StepOk.mono (R:=fun v W=>v=.pointer (some ⟨w.heap.size,2,none⟩)∧W=w') ?_ (fun v W h=>?_)
      ·go_simp
       all_goals(try exact⟨rfl,rfl⟩)
      ·obtain⟨rfl,rfl⟩:=h
       exact⟨fun x hx=>oi hx,Below.refl _ _⟩
     ·obtain rfl:=oi ho
      have h37:a'.tmps[37]?.getD undef=.pointer (some ⟨w.heap.size,2,none⟩):=gdt (hop 37 (by simp[Op.operands,Call.operands]) _ rfl)
      have kc:=(HK.out.call hG).cell
      refine Reg4.StepOk.mono (R:=fun v W=>v=.int .u64 c1∧W=w') ?_ (fun v W h=>?_)
      ·go_simp
       all_goals(try exact⟨rfl,rfl⟩)
      ·obtain⟨rfl,rfl⟩:=h
       exact⟨fun x hx=>oi hx,Below.refl _ _⟩
     ·obtain rfl:=oi ho
      have h36:a'.tmps[36]?.getD undef=.int .u64 (Sip.rotl d 16):=gdt (hop 36 (by simp[Op.operands,Call.operands]) _ rfl)
      have h38:a'.tmps[38]?.getD undef=.int .u64 c1:=gdt (hop 38 (by simp[Op.operands,Call.operands]) _ rfl)
      refine Reg4.StepOk.mono (R:=fun v W=>v=.int .u64 (Sip.xor (Sip.rotl d 16) c1)∧W=w') ?_ (fun v W h=>?_)
      ·go_simp
       all_goals(try exact⟨rfl,rfl⟩)
      ·obtain⟨rfl,rfl⟩:=h
       exact⟨fun x hx=>oi hx,Below.refl _ _⟩
     ·obtain rfl:=oi ho
      have h2:a'.tmps[2]?.getD undef=_:=gdt (hop 2 (by simp[Op.operands,Call.operands]))
      refine Reg4.StepOk.mono (R:=fun v W=>v=.pointer (some ⟨w.heap.size,3,none⟩)∧W=w') ?_ (fun v W h=>?_)
      ·go_simp
       all_goals(try exact⟨rfl,rfl⟩)
      ·obtain⟨rfl,rfl⟩:=h
       exact⟨fun x hx=>oi hx,Below.refl _ _⟩
    ·intro vals w' hG hv
     have hv0:vals 0=.pointer (some ⟨w.heap.size,3,none⟩):=hv 0 _ (by omega) rfl
     have hv1:vals 1=.int .u64 d:=hv 1 _ (by omega) rfl
     have hv2:vals 2=.int .u64 (Sip.rotl d 16):=hv 2 _ (by omega) rfl
     have hv3:vals 3=.pointer (some ⟨w.heap.size,2,none⟩):=hv 3 _ (by omega) rfl
     have hv4:vals 4=.int .u64 c1:=hv 4 _ (by omega) rfl
     have hv5:vals 5=.int .u64 (Sip.xor (Sip.rotl d 16) c1):=hv 5 _ (by omega) rfl
     have hv6:vals 6=.pointer (some ⟨w.heap.size,3,none⟩):=hv 6 _ (by omega) rfl
     simp only[Reg4.puts,Reg4.dstOf,List.range,List.range.loop,if_true,List.drop_succ_cons,List.drop_zero,hv0,hv1,hv2,hv3,hv4,hv5,hv6]
     clear hv hv0 hv1 hv2 hv3 hv4 hv5 hv6
     simp[Act.put]
     have HK2:=Lib.hid (HK.out.call hG)
     have HR2:=Lib.hid (HR.out.call hG)
     have HB2:=Lib.hid (below_call HB.out hG)
     clear HK HR HB hG
     have HK:=HK2
     have HR:=HR2
     have HB:=HB2
     clear HK2 HR2 HB2
     have kc:=HK.out.cell
     have kf:=HK.out.frozen
     have e1:Hid (w'.setCell ⟨w.heap.size,3,none⟩ (.int .u64 (Sip.xor (Sip.rotl d 16) c1))=w'.setRow w.heap.size #[.int .u64 a2,.int .u64 b1,.int .u64 c1,.int .u64 (Sip.xor (Sip.rotl d 16) c1)]):=stSet HK.out rfl
     go_upto_region 9 with(fail)
     rw[show w'.setCell ⟨w.heap.size,3,none⟩ (.int .u64 (Sip.xor (Sip.rotl d 16) c1))=w'.setRow w.heap.size #[.int .u64 a2,.int .u64 b1,.int .u64 c1,.int .u64 (Sip.xor (Sip.rotl d 16) c1)] from e1.out]
     have HK':=Lib.hid (zf #[.int .u64 a2,.int .u64 b1,.int .u64 c1,.int .u64 (Sip.xor (Sip.rotl d 16) c1)] HK.out)
     have HR':=Lib.hid (jq #[.int .u64 a2,.int .u64 b1,.int .u64 c1,.int .u64 (Sip.xor (Sip.rotl d 16) c1)] HR.out (show w.heap.size+1≠w.heap.size by omega))
     have HB':=Lib.hid (qm #[.int .u64 a2,.int .u64 b1,.int .u64 c1,.int .u64 (Sip.xor (Sip.rotl d 16) c1)] HB.out (Nat.le_refl _))
     clear kc kf e1 HK HR HB
     generalize w'.setRow w.heap.size #[.int .u64 a2,.int .u64 b1,.int .u64 c1,.int .u64 (Sip.xor (Sip.rotl d 16) c1)]=wd1 at *
     obtain⟨d1,hd1⟩:∃x,x=Sip.xor (Sip.rotl d 16) c1:=⟨_,rfl⟩
     rw[←hd1] at HK'
     have Hd1:=Lib.hid hd1
     clear hd1
     have HK:=HK'
     have HR:=HR'
     have HB:=HB'
     clear HK' HR' HB'
     have kc:=HK.out.cell
     have kf:=HK.out.frozen
     have e1:Hid (wd1.setCell ⟨w.heap.size,0,none⟩ (.int .u64 (IntKind.u64.wrap (a2+d1)))=wd1.setRow w.heap.size #[.int .u64 (IntKind.u64.wrap (a2+d1)),.int .u64 b1,.int .u64 c1,.int .u64 d1]):=stSet HK.out rfl
     go_upto_region 10 with(fail)
     rw[show wd1.setCell ⟨w.heap.size,0,none⟩ (.int .u64 (IntKind.u64.wrap (a2+d1)))=wd1.setRow w.heap.size #[.int .u64 (IntKind.u64.wrap (a2+d1)),.int .u64 b1,.int .u64 c1,.int .u64 d1] from e1.out]
     have HK':=Lib.hid (zf #[.int .u64 (IntKind.u64.wrap (a2+d1)),.int .u64 b1,.int .u64 c1,.int .u64 d1] HK.out)
     have HR':=Lib.hid (jq #[.int .u64 (IntKind.u64.wrap (a2+d1)),.int .u64 b1,.int .u64 c1,.int .u64 d1] HR.out (show w.heap.size+1≠w.heap.size by omega))
     have HB':=Lib.hid (qm #[.int .u64 (IntKind.u64.wrap (a2+d1)),.int .u64 b1,.int .u64 c1,.int .u64 d1] HB.out (Nat.le_refl _))
     clear kc kf e1 HK HR HB
     generalize wd1.setRow w.heap.size #[.int .u64 (IntKind.u64.wrap (a2+d1)),.int .u64 b1,.int .u64 c1,.int .u64 d1]=wa3 at *
     obtain⟨a3,ha3⟩:∃x,x=IntKind.u64.wrap (a2+d1):=⟨_,rfl⟩
     rw[←ha3] at HK'
     have Ha3:=Lib.hid ha3
     clear ha3
     have HK:=HK'
     have HR:=HR'
     have HB:=HB'
     clear HK' HR' HB'
     refine RegC.region 7 (fun k=>match k with|0=>some (.pointer (some ⟨w.heap.size,3,none⟩))|1=>some (.int .u64 d1)|2=>some (.int .u64 (Sip.rotl d1 21))|3=>some (.pointer (some ⟨w.heap.size,0,none⟩))|4=>some (.int .u64 a3)|5=>some (.int .u64 (Sip.xor (Sip.rotl d1 21) a3))|6=>some (.pointer (some ⟨w.heap.size,3,none⟩))|_=>none) (by kernel_rfl) (by kernel_rfl) (Reg4.in_of (n:=72) (by kernel_rfl) rfl) ?_ ?_
     ·intro idx o hj ho a' w' hG hop
      have hj':idx=0∨idx=1∨idx=2∨idx=3∨idx=4∨idx=5∨idx=6:=by omega
      clear hj
      rcases hj' with rfl|rfl|rfl|rfl|rfl|rfl|rfl
      ·obtain rfl:=oi ho
       have h2:a'.tmps[2]?.getD undef=_:=gdt (hop 2 (by simp[Op.operands,Call.operands]))
       refine Reg4.StepOk.mono (R:=fun v W=>v=.pointer (some ⟨w.heap.size,3,none⟩)∧W=w') ?_ (fun v W h=>?_)
       ·go_simp
        all_goals(try exact⟨rfl,rfl⟩)
       ·obtain⟨rfl,rfl⟩:=h
        exact⟨fun x hx=>oi hx,Below.refl _ _⟩
      ·obtain rfl:=oi ho
       have h47:a'.tmps[47]?.getD undef=.pointer (some ⟨w.heap.size,3,none⟩):=gdt (hop 47 (by simp[Op.operands,Call.operands]) _ rfl)
       have kc:=(HK.out.call hG).cell
       refine Reg4.StepOk.mono (R:=fun v W=>v=.int .u64 d1∧W=w') ?_ (fun v W h=>?_)
       ·go_simp
        all_goals(try exact⟨rfl,rfl⟩)
       ·obtain⟨rfl,rfl⟩:=h
        exact⟨fun x hx=>oi hx,Below.refl _ _⟩
      ·obtain rfl:=oi ho
       have h48:a'.tmps[48]?.getD undef=.int .u64 d1:=gdt (hop 48 (by simp[Op.operands,Call.operands]) _ rfl)
       refine Reg4.StepOk.mono (R:=fun v W=>v=.int .u64 (Sip.rotl d1 21)∧Hid (Below w'.heap.size w' W)) ?_ (fun v W h=>?_)
       ·go_simp
        refine(rturn d1 21 (by unfold TurnK;simp) _).mono ?_
        rintro e w5 ⟨rfl,rfl⟩
        exact⟨_,rfl,rfl,Below.refl _ _⟩
       ·obtain⟨rfl,hb⟩:=h
        exact⟨fun x hx=>oi hx,hb.out⟩
      ·obtain rfl:=oi ho
       have h2:a'.tmps[2]?.getD undef=_:=gdt (hop 2 (by simp[Op.operands,Call.operands]))
       refine Reg4.StepOk.mono (R:=fun v W=>v=.pointer (some ⟨w.heap.size,0,none⟩)∧W=w') ?_ (fun v W h=>?_)
       ·go_simp
        all_goals(try exact⟨rfl,rfl⟩)
       ·obtain⟨rfl,rfl⟩:=h
        exact⟨fun x hx=>oi hx,Below.refl _ _⟩
      ·obtain rfl:=oi ho
       have h50:a'.tmps[50]?.getD undef=.pointer (some ⟨w.heap.size,0,none⟩):=gdt (hop 50 (by simp[Op.operands,Call.operands]) _ rfl)
       have kc:=(HK.out.call hG).cell
       refine Reg4.StepOk.mono (R:=fun v W=>v=.int .u64 a3∧W=w') ?_ (fun v W h=>?_)
       ·go_simp
        all_goals(try exact⟨rfl,rfl⟩)
       ·obtain⟨rfl,rfl⟩:=h
        exact⟨fun x hx=>oi hx,Below.refl _ _⟩
      ·obtain rfl:=oi ho
       have h49:a'.tmps[49]?.getD undef=.int .u64 (Sip.rotl d1 21):=gdt (hop 49 (by simp[Op.operands,Call.operands]) _ rfl)
       have h51:a'.tmps[51]?.getD undef=.int .u64 a3:=gdt (hop 51 (by simp[Op.operands,Call.operands]) _ rfl)
       refine Reg4.StepOk.mono (R:=fun v W=>v=.int .u64 (Sip.xor (Sip.rotl d1 21) a3)∧W=w') ?_ (fun v W h=>?_)
       ·go_simp
        all_goals(try exact⟨rfl,rfl⟩)
       ·obtain⟨rfl,rfl⟩:=h
        exact⟨fun x hx=>oi hx,Below.refl _ _⟩
      ·obtain rfl:=oi ho
       have h2:a'.tmps[2]?.getD undef=_:=gdt (hop 2 (by simp[Op.operands,Call.operands]))
       refine Reg4.StepOk.mono (R:=fun v W=>v=.pointer (some ⟨w.heap.size,3,none⟩)∧W=w') ?_ (fun v W h=>?_)
       ·go_simp
        all_goals(try exact⟨rfl,rfl⟩)
       ·obtain⟨rfl,rfl⟩:=h
        exact⟨fun x hx=>oi hx,Below.refl _ _⟩
     ·intro vals w' hG hv
      have hv0:vals 0=.pointer (some ⟨w.heap.size,3,none⟩):=hv 0 _ (by omega) rfl
      have hv1:vals 1=.int .u64 d1:=hv 1 _ (by omega) rfl
      have hv2:vals 2=.int .u64 (Sip.rotl d1 21):=hv 2 _ (by omega) rfl
      have hv3:vals 3=.pointer (some ⟨w.heap.size,0,none⟩):=hv 3 _ (by omega) rfl
      have hv4:vals 4=.int .u64 a3:=hv 4 _ (by omega) rfl
      have hv5:vals 5=.int .u64 (Sip.xor (Sip.rotl d1 21) a3):=hv 5 _ (by omega) rfl
      have hv6:vals 6=.pointer (some ⟨w.heap.size,3,none⟩):=hv 6 _ (by omega) rfl
      simp only[Reg4.puts,Reg4.dstOf,List.range,List.range.loop,if_true,List.drop_succ_cons,List.drop_zero,hv0,hv1,hv2,hv3,hv4,hv5,hv6]
      clear hv hv0 hv1 hv2 hv3 hv4 hv5 hv6
      simp[Act.put]
      have HK2:=Lib.hid (HK.out.call hG)
      have HR2:=Lib.hid (HR.out.call hG)
      have HB2:=Lib.hid (below_call HB.out hG)
      clear HK HR HB hG
      have HK:=HK2
      have HR:=HR2
      have HB:=HB2
      clear HK2 HR2 HB2
      have kc:=HK.out.cell
      have kf:=HK.out.frozen
      have e1:Hid (w'.setCell ⟨w.heap.size,3,none⟩ (.int .u64 (Sip.xor (Sip.rotl d1 21) a3))=w'.setRow w.heap.size #[.int .u64 a3,.int .u64 b1,.int .u64 c1,.int .u64 (Sip.xor (Sip.rotl d1 21) a3)]):=stSet HK.out rfl
      go_upto_region 11 with(fail)
      rw[show w'.setCell ⟨w.heap.size,3,none⟩ (.int .u64 (Sip.xor (Sip.rotl d1 21) a3))=w'.setRow w.heap.size #[.int .u64 a3,.int .u64 b1,.int .u64 c1,.int .u64 (Sip.xor (Sip.rotl d1 21) a3)] from e1.out]
      have HK':=Lib.hid (zf #[.int .u64 a3,.int .u64 b1,.int .u64 c1,.int .u64 (Sip.xor (Sip.rotl d1 21) a3)] HK.out)
      have HR':=Lib.hid (jq #[.int .u64 a3,.int .u64 b1,.int .u64 c1,.int .u64 (Sip.xor (Sip.rotl d1 21) a3)] HR.out (show w.heap.size+1≠w.heap.size by omega))
      have HB':=Lib.hid (qm #[.int .u64 a3,.int .u64 b1,.int .u64 c1,.int .u64 (Sip.xor (Sip.rotl d1 21) a3)] HB.out (Nat.le_refl _))
      clear kc kf e1 HK HR HB
      generalize w'.setRow w.heap.size #[.int .u64 a3,.int .u64 b1,.int .u64 c1,.int .u64 (Sip.xor (Sip.rotl d1 21) a3)]=wd2 at *
      obtain⟨d2,hd2⟩:∃x,x=Sip.xor (Sip.rotl d1 21) a3:=⟨_,rfl⟩
      rw[←hd2] at HK'
      have Hd2:=Lib.hid hd2
      clear hd2
      have HK:=HK'
      have HR:=HR'
      have HB:=HB'
      clear HK' HR' HB'
      have kc:=HK.out.cell
      have kf:=HK.out.frozen
      have e1:Hid (wd2.setCell ⟨w.heap.size,2,none⟩ (.int .u64 (IntKind.u64.wrap (c1+b1)))=wd2.setRow w.heap.size #[.int .u64 a3,.int .u64 b1,.int .u64 (IntKind.u64.wrap (c1+b1)),.int .u64 d2]):=stSet HK.out rfl
      go_upto_region 12 with(fail)
      rw[show wd2.setCell ⟨w.heap.size,2,none⟩ (.int .u64 (IntKind.u64.wrap (c1+b1)))=wd2.setRow w.heap.size #[.int .u64 a3,.int .u64 b1,.int .u64 (IntKind.u64.wrap (c1+b1)),.int .u64 d2] from e1.out]
      have HK':=Lib.hid (zf #[.int .u64 a3,.int .u64 b1,.int .u64 (IntKind.u64.wrap (c1+b1)),.int .u64 d2] HK.out)
      have HR':=Lib.hid (jq #[.int .u64 a3,.int .u64 b1,.int .u64 (IntKind.u64.wrap (c1+b1)),.int .u64 d2] HR.out (show w.heap.size+1≠w.heap.size by omega))
      have HB':=Lib.hid (qm #[.int .u64 a3,.int .u64 b1,.int .u64 (IntKind.u64.wrap (c1+b1)),.int .u64 d2] HB.out (Nat.le_refl _))
      clear kc kf e1 HK HR HB
      generalize wd2.setRow w.heap.size #[.int .u64 a3,.int .u64 b1,.int .u64 (IntKind.u64.wrap (c1+b1)),.int .u64 d2]=wc2 at *
      obtain⟨c2,hc2⟩:∃x,x=IntKind.u64.wrap (c1+b1):=⟨_,rfl⟩
      rw[←hc2] at HK'
      have Hc2:=Lib.hid hc2
      clear hc2
      have HK:=HK'
      have HR:=HR'
      have HB:=HB'
      clear HK' HR' HB'
      refine RegC.region 7 (fun k=>match k with|0=>some (.pointer (some ⟨w.heap.size,1,none⟩))|1=>some (.int .u64 b1)|2=>some (.int .u64 (Sip.rotl b1 17))|3=>some (.pointer (some ⟨w.heap.size,2,none⟩))|4=>some (.int .u64 c2)|5=>some (.int .u64 (Sip.xor (Sip.rotl b1 17) c2))|6=>some (.pointer (some ⟨w.heap.size,1,none⟩))|_=>none) (by kernel_rfl) (by kernel_rfl) (Reg4.in_of (n:=72) (by kernel_rfl) rfl) ?_ ?_
      ·intro idx o hj ho a' w' hG hop
       have hj':idx=0∨idx=1∨idx=2∨idx=3∨idx=4∨idx=5∨idx=6:=by omega
       clear hj
       rcases hj' with rfl|rfl|rfl|rfl|rfl|rfl|rfl
       ·obtain rfl:=oi ho
        have h2:a'.tmps[2]?.getD undef=_:=gdt (hop 2 (by simp[Op.operands,Call.operands]))
        refine Reg4.StepOk.mono (R:=fun v W=>v=.pointer (some ⟨w.heap.size,1,none⟩)∧W=w') ?_ (fun v W h=>?_)
        ·go_simp
         all_goals(try exact⟨rfl,rfl⟩)
        ·obtain⟨rfl,rfl⟩:=h
         exact⟨fun x hx=>oi hx,Below.refl _ _⟩
       ·obtain rfl:=oi ho
        have h60:a'.tmps[60]?.getD undef=.pointer (some ⟨w.heap.size,1,none⟩):=gdt (hop 60 (by simp[Op.operands,Call.operands]) _ rfl)
        have kc:=(HK.out.call hG).cell
        refine Reg4.StepOk.mono (R:=fun v W=>v=.int .u64 b1∧W=w') ?_ (fun v W h=>?_)
        ·go_simp
         all_goals(try exact⟨rfl,rfl⟩)
        ·obtain⟨rfl,rfl⟩:=h
         exact⟨fun x hx=>oi hx,Below.refl _ _⟩
       ·obtain rfl:=oi ho
        have h61:a'.tmps[61]?.getD undef=.int .u64 b1:=gdt (hop 61 (by simp[Op.operands,Call.operands]) _ rfl)
        refine Reg4.StepOk.mono (R:=fun v W=>v=.int .u64 (Sip.rotl b1 17)∧Hid (Below w'.heap.size w' W)) ?_ (fun v W h=>?_)
        ·go_simp
         refine(rturn b1 17 (by unfold TurnK;simp) _).mono ?_
         rintro e w5 ⟨rfl,rfl⟩
         exact⟨_,rfl,rfl,Below.refl _ _⟩
        ·obtain⟨rfl,hb⟩:=h
         exact⟨fun x hx=>oi hx,hb.out⟩
       ·obtain rfl:=oi ho
        have h2:a'.tmps[2]?.getD undef=_:=gdt (hop 2 (by simp[Op.operands,Call.operands]))
        refine Reg4.StepOk.mono (R:=fun v W=>v=.pointer (some ⟨w.heap.size,2,none⟩)∧W=w') ?_ (fun v W h=>?_)
        ·go_simp
         all_goals(try exact⟨rfl,rfl⟩)
        ·obtain⟨rfl,rfl⟩:=h
         exact⟨fun x hx=>oi hx,Below.refl _ _⟩
       ·obtain rfl:=oi ho
        have h63:a'.tmps[63]?.getD undef=.pointer (some ⟨w.heap.size,2,none⟩):=gdt (hop 63 (by simp[Op.operands,Call.operands]) _ rfl)
        have kc:=(HK.out.call hG).cell
        refine Reg4.StepOk.mono (R:=fun v W=>v=.int .u64 c2∧W=w') ?_ (fun v W h=>?_)
        ·go_simp
         all_goals(try exact⟨rfl,rfl⟩)
        ·obtain⟨rfl,rfl⟩:=h
         exact⟨fun x hx=>oi hx,Below.refl _ _⟩
       ·obtain rfl:=oi ho
        have h62:a'.tmps[62]?.getD undef=.int .u64 (Sip.rotl b1 17):=gdt (hop 62 (by simp[Op.operands,Call.operands]) _ rfl)
        have h64:a'.tmps[64]?.getD undef=.int .u64 c2:=gdt (hop 64 (by simp[Op.operands,Call.operands]) _ rfl)
        refine Reg4.StepOk.mono (R:=fun v W=>v=.int .u64 (Sip.xor (Sip.rotl b1 17) c2)∧W=w') ?_ (fun v W h=>?_)
        ·go_simp
         all_goals(try exact⟨rfl,rfl⟩)
        ·obtain⟨rfl,rfl⟩:=h
         exact⟨fun x hx=>oi hx,Below.refl _ _⟩
       ·obtain rfl:=oi ho
        have h2:a'.tmps[2]?.getD undef=_:=gdt (hop 2 (by simp[Op.operands,Call.operands]))
        refine Reg4.StepOk.mono (R:=fun v W=>v=.pointer (some ⟨w.heap.size,1,none⟩)∧W=w') ?_ (fun v W h=>?_)
        ·go_simp
         all_goals(try exact⟨rfl,rfl⟩)
        ·obtain⟨rfl,rfl⟩:=h
         exact⟨fun x hx=>oi hx,Below.refl _ _⟩
      ·intro vals w' hG hv
       have hv0:vals 0=.pointer (some ⟨w.heap.size,1,none⟩):=hv 0 _ (by omega) rfl
       have hv1:vals 1=.int .u64 b1:=hv 1 _ (by omega) rfl
       have hv2:vals 2=.int .u64 (Sip.rotl b1 17):=hv 2 _ (by omega) rfl
       have hv3:vals 3=.pointer (some ⟨w.heap.size,2,none⟩):=hv 3 _ (by omega) rfl
       have hv4:vals 4=.int .u64 c2:=hv 4 _ (by omega) rfl
       have hv5:vals 5=.int .u64 (Sip.xor (Sip.rotl b1 17) c2):=hv 5 _ (by omega) rfl
       have hv6:vals 6=.pointer (some ⟨w.heap.size,1,none⟩):=hv 6 _ (by omega) rfl
       simp only[Reg4.puts,Reg4.dstOf,List.range,List.range.loop,if_true,List.drop_succ_cons,List.drop_zero,hv0,hv1,hv2,hv3,hv4,hv5,hv6]
       clear hv hv0 hv1 hv2 hv3 hv4 hv5 hv6
       simp[Act.put]
       have HK2:=Lib.hid (HK.out.call hG)
       have HR2:=Lib.hid (HR.out.call hG)
       have HB2:=Lib.hid (below_call HB.out hG)
       clear HK HR HB hG
       have HK:=HK2
       have HR:=HR2
       have HB:=HB2
       clear HK2 HR2 HB2
       have kc:=HK.out.cell
       have kf:=HK.out.frozen
       have e1:Hid (w'.setCell ⟨w.heap.size,1,none⟩ (.int .u64 (Sip.xor (Sip.rotl b1 17) c2))=w'.setRow w.heap.size #[.int .u64 a3,.int .u64 (Sip.xor (Sip.rotl b1 17) c2),.int .u64 c2,.int .u64 d2]):=stSet HK.out rfl
       go_upto_region 13 with(fail)
       rw[show w'.setCell ⟨w.heap.size,1,none⟩ (.int .u64 (Sip.xor (Sip.rotl b1 17) c2))=w'.setRow w.heap.size #[.int .u64 a3,.int .u64 (Sip.xor (Sip.rotl b1 17) c2),.int .u64 c2,.int .u64 d2] from e1.out]
       have HK':=Lib.hid (zf #[.int .u64 a3,.int .u64 (Sip.xor (Sip.rotl b1 17) c2),.int .u64 c2,.int .u64 d2] HK.out)
       have HR':=Lib.hid (jq #[.int .u64 a3,.int .u64 (Sip.xor (Sip.rotl b1 17) c2),.int .u64 c2,.int .u64 d2] HR.out (show w.heap.size+1≠w.heap.size by omega))
       have HB':=Lib.hid (qm #[.int .u64 a3,.int .u64 (Sip.xor (Sip.rotl b1 17) c2),.int .u64 c2,.int .u64 d2] HB.out (Nat.le_refl _))
       clear kc kf e1 HK HR HB
       generalize w'.setRow w.heap.size #[.int .u64 a3,.int .u64 (Sip.xor (Sip.rotl b1 17) c2),.int .u64 c2,.int .u64 d2]=wb2 at *
       obtain⟨b2,hb2⟩:∃x,x=Sip.xor (Sip.rotl b1 17) c2:=⟨_,rfl⟩
       rw[←hb2] at HK'
       have Hb2:=Lib.hid hb2
       clear hb2
       have HK:=HK'
       have HR:=HR'
       have HB:=HB'
       clear HK' HR' HB'
       have kc:=HK.out.cell
       have kf:=HK.out.frozen
       have e1:Hid (wb2.setCell ⟨w.heap.size,2,none⟩ (.int .u64 (Sip.rotl c2 32))=wb2.setRow w.heap.size #[.int .u64 a3,.int .u64 b2,.int .u64 (Sip.rotl c2 32),.int .u64 d2]):=stSet HK.out rfl
       go_wp2_with fail
       refine(rturn c2 32 (by unfold TurnK;simp) _).mono ?_
       rintro e w' ⟨rfl,hw'⟩
       obtain rfl:=hw'.symm
       go_upto_region 3 with(fail)
       rw[show wb2.setCell ⟨w.heap.size,2,none⟩ (.int .u64 (Sip.rotl c2 32))=wb2.setRow w.heap.size #[.int .u64 a3,.int .u64 b2,.int .u64 (Sip.rotl c2 32),.int .u64 d2] from e1.out]
       have HK':=Lib.hid (zf #[.int .u64 a3,.int .u64 b2,.int .u64 (Sip.rotl c2 32),.int .u64 d2] HK.out)
       have HR':=Lib.hid (jq #[.int .u64 a3,.int .u64 b2,.int .u64 (Sip.rotl c2 32),.int .u64 d2] HR.out (show w.heap.size+1≠w.heap.size by omega))
       have HB':=Lib.hid (qm #[.int .u64 a3,.int .u64 b2,.int .u64 (Sip.rotl c2 32),.int .u64 d2] HB.out (Nat.le_refl _))
       clear kc kf e1 HK HR HB
       generalize wb2.setRow w.heap.size #[.int .u64 a3,.int .u64 b2,.int .u64 (Sip.rotl c2 32),.int .u64 d2]=wc3 at *
       obtain⟨c3,hc3⟩:∃x,x=Sip.rotl c2 32:=⟨_,rfl⟩
       rw[←hc3] at HK'
       have Hc3:=Lib.hid hc3
       clear hc3
       have HK:=HK'
       have HR:=HR'
       have HB:=HB'
       clear HK' HR' HB'
       have hr:Sip.rnd ⟨a,b,c,d⟩=⟨a3,b2,c3,d2⟩:=by
        rw[Hc3.out,Hb2.out,Hc2.out,Hd2.out,Ha3.out,Hd1.out,Hc1.out,Ha2.out,Hb1.out,Ha1.out];rfl
       have HS2:=Lib.hid (HS.out.trans hr)
       clear hr
       go_wp2_with fail
       go_roundg (n-(j+1))
       case measure=>omega
       case rel=>exact⟨j+1,by omega,by simp,by rw[HS2.out];exact HK,HR,HB⟩
  ·have hjn':j=n:=by omega
   subst hjn'
   have kc:=HK.out.cell
   have kr:=HR.out.cell
   have kf:=HR.out.frozen
   go_wp2_with fail
   have r1:=zf #[.int .u64 (Sip.rnds j s).a,.int .u64 0,.int .u64 0,.int .u64 0] HR.out
   have r2:=zf #[.int .u64 (Sip.rnds j s).a,.int .u64 (Sip.rnds j s).b,.int .u64 0,.int .u64 0] r1
   have r3:=zf #[.int .u64 (Sip.rnds j s).a,.int .u64 (Sip.rnds j s).b,.int .u64 (Sip.rnds j s).c,.int .u64 0] r2
   have r4:=zf #[.int .u64 (Sip.rnds j s).a,.int .u64 (Sip.rnds j s).b,.int .u64 (Sip.rnds j s).c,.int .u64 (Sip.rnds j s).d] r3
   rw[stSet HR.out (cs':=#[.int .u64 (Sip.rnds j s).a,.int .u64 0,.int .u64 0,.int .u64 0]) rfl,stSet r1 (cs':=#[.int .u64 (Sip.rnds j s).a,.int .u64 (Sip.rnds j s).b,.int .u64 0,.int .u64 0]) rfl,stSet r2 (cs':=#[.int .u64 (Sip.rnds j s).a,.int .u64 (Sip.rnds j s).b,.int .u64 (Sip.rnds j s).c,.int .u64 0]) rfl,stSet r3 (cs':=#[.int .u64 (Sip.rnds j s).a,.int .u64 (Sip.rnds j s).b,.int .u64 (Sip.rnds j s).c,.int .u64 (Sip.rnds j s).d]) rfl]
   have hle:w.heap.size≤w.heap.size+1:=by omega
   refine bodyPost_ret (results_cell_row rfl _ _ (w.heap.size+1) 262 _ (0,0) _ rfl r4 Tryz.underlying262 rfl (by kernel_rfl)) rfl ?_
   exact⟨rfl,Lib.hid (qm _ (qm _ (qm _ (qm _ HB.out hle) hle) hle) hle)⟩
end SipW
namespace SipW
open Go.RowKit
structure Only(g:Nat)(w w':World):Prop where
 os:w'.os=w.os
 tape:w'.tape=w.tape
 output:w'.output=w.output
 size:w.heap.size≤w'.heap.size
 block:∀k,k<w.heap.size→k≠g→w'.heap[k]? = w.heap[k]?
theorem Only.below{base g:Nat}{w0 w w':World}(h:Only g w w')(hb:Below base w0 w)(hg:base≤g)(hs:base≤w.heap.size):Below base w0 w':=
 ⟨h.os.trans hb.os,h.tape.trans hb.tape,h.output.trans hb.output,Nat.le_trans hb.size h.size,fun k hk=>(h.block k (by omega) (by omega)).trans (hb.block k hk)⟩
def sV(s:Sip.S4):Array Value:=#[.int .u64 s.a,.int .u64 s.b,.int .u64 s.c,.int .u64 s.d]
theorem ptr_calls{f:FuncId}{K n:Nat}{s t:Sip.S4}{v:Value}(h:EvS.outC (Ev.runX Tryz.prog Sy.cx EvS.kn K n f [.v (.one (.ptr 0 0)),.v (.one (.con v))] (EvS.st0 s))=some (EvS.cells t))(w:World)(g:Nat)(hB:Blk w g 230 (sV s)) :
  Calls Tryz.prog f #[.pointer (some ⟨g,0,none⟩),v] w fun e w'=>e=.returned (.tuple #[])∧Hid (Only g w w')∧Hid (Blk w' g 230 (sV t)):=by
 unfold EvS.outC at h
 split at h
 ·rename_i S hS
  split at h
  ·rename_i ty cs hg
   split at h
   rotate_left
   ·cases h
   rename_i hty
   cases h
   obtain⟨g1,g2,g3⟩:=Ev.runX_ok EvS.kn_ok Sy.cxOk Sy.mixed K n f _ _ _ _ hS
   have hget:∀j B,(EvS.st0 s).get j=some B→j=0∧B=⟨230,EvS.cells s,none⟩:=fun j B hj=>by
    by_cases e:0=j
    ·subst e
     cases hj
     exact⟨rfl,rfl⟩
    ·exfalso
     simp[EvS.st0,Ev.St.get,Ev.lk,e] at hj
   have H:Ev.Hyp (fun _=>True) (fun _=>g) (EvS.st0 s) w:=by
    refine⟨fun τ hτ=>⟨fun j B _ hj=>?_,fun j j' B B' _ _ h1 h2 _=>by rw[(hget j B h1).1,(hget j' B' h2).1]⟩,fun j B hj=>by rw[(hget j B hj).1];exact Nat.lt_succ_self 0,fun _ _=>trivial⟩
    obtain⟨rfl,rfl⟩:=hget j B hj
    have e0:τ 0=g:=hτ 0 (Nat.lt_succ_self 0)
    rw[e0]
    refine⟨sV s,hB,Nat.le_refl _,rfl,fun i c hi=>?_⟩
    unfold EvS.cells at hi
    unfold sV
    match i,hi with
    | 0,hi=>cases hi;rfl
    | 1,hi=>cases hi;rfl
    | 2,hi=>cases hi;rfl
    | 3,hi=>cases hi;rfl
    | i+4,hi=>simp at hi
   have:=g3 _ _ w H (fun _ _=>trivial) [.pointer (some ⟨g,0,none⟩),v] (fun τ hτ=>by
    have e0:τ 0=g:=hτ 0 (Nat.lt_succ_self 0)
    simp[Ev.XV.den,Ev.TV.den,Ev.SV.den,e0])
   refine this.mono ?_
   rintro e w' ⟨v',rfl,σ1,a1,a2,a3,a4⟩
   obtain⟨s1,e1⟩:=a3 σ1 (Ev.Agr.refl _ _)
   have e0:σ1 0=g:=a1 0 (Nat.lt_succ_self 0)
   obtain⟨cs',c1,c2,c3,c4⟩:=s1.blk 0 _ trivial hg
   rw[e0] at c1
   subst hty
   refine⟨by rw[e1];rfl,⟨a4.os,a4.tape,a4.output,a4.size,fun k hk hne=>a4.keep k hk (fun j B _ _ hj=>?_)⟩,?_⟩
   ·exact Ne.symm hne
   ·have:cs'=sV t:=by
     have hsz:cs'.size=4:=c3
     refine Array.ext (by rw[hsz];rfl) (fun i h1 h2=>?_)
     have hi4:i<4:=by omega
     have key:∀i (s':Ev.SV),(EvS.cells t)[i]? = some s'→cs'[i]? = some (s'.den σ1):=c4
     match i,hi4 with
     | 0,_=>have:=key 0 _ rfl;rw[Array.getElem?_eq_getElem h1] at this;exact oi this
     | 1,_=>have:=key 1 _ rfl;rw[Array.getElem?_eq_getElem h1] at this;exact oi this
     | 2,_=>have:=key 2 _ rfl;rw[Array.getElem?_eq_getElem h1] at this;exact oi this
     | 3,_=>have:=key 3 _ rfl;rw[Array.getElem?_eq_getElem h1] at this;exact oi this
    rw[←this];exact c1
  ·cases h
 ·cases h
theorem word_(s:Sip.S4)(m:Int)(w:World)(g:Nat)(hB:Blk w g 230 (sV s)) :
  Calls Tryz.prog 137 #[.pointer (some ⟨g,0,none⟩),.int .u64 m] w fun e w'=>e=.returned (.tuple #[])∧Hid (Only g w w')∧Hid (Blk w' g 230 (sV (Sip.word s m))):=by
 obtain⟨a,b,c,d⟩:=s
 exact ptr_calls (EvS.word a b c d m) w g hB
theorem rounds_(s:Sip.S4)(w:World)(g:Nat)(hB:Blk w g 230 (sV s)) :
  Calls Tryz.prog 139 #[.pointer (some ⟨g,0,none⟩),.int .i64 4] w fun e w'=>e=.returned (.tuple #[])∧Hid (Only g w w')∧Hid (Blk w' g 230 (sV (Sip.rnds 4 s))):=by
 obtain⟨a,b,c,d⟩:=s
 exact ptr_calls (EvS.rounds4 a b c d) w g hB
end SipW
namespace SipW
open Go.RowKit
theorem data_take{w:World}{b off n c k:Nat}{xs:List Int}(h:EncW.Data w (.slice (some ⟨b,off,none⟩) n c) xs)(hk:k≤n):EncW.Data w (.slice (some ⟨b,off,none⟩) k c) (xs.take k):=by
 obtain⟨A,c',e,h1,h2,h3,h4,h5⟩:=h
 injection e with e1 e2 e3
 subst e1;subst e2;subst e3
 have hl:(xs.take k).length=k:=by rw[List.length_take];omega
 refine⟨_,c,by rw[hl],by omega,h2,fun e=>(by cases e),fun x hx=>h4 x (List.mem_of_mem_take hx),?_⟩
 rcases h5 with rfl|⟨b',off',cs,fz,e,hr,hx⟩
 ·exact .inl (by simp)
 ·refine .inr ⟨b',off',cs,fz,e,hr,fun j x hj=>hx j x ?_⟩
  rw[List.getElem?_take] at hj
  split at hj
  ·exact hj
  ·cases hj
theorem data_drop{w:World}{b off n c k:Nat}{xs:List Int}(h:EncW.Data w (.slice (some ⟨b,off,none⟩) n c) xs)(hk:k≤n):EncW.Data w (.slice (if c=k then some ⟨b,off,none⟩ else some ⟨b,off+k,none⟩) (n-k) (c-k)) (xs.drop k):=by
 obtain⟨A,c',e,h1,h2,h3,h4,h5⟩:=h
 injection e with e1 e2 e3
 subst e1;subst e2;subst e3
 have hl:(xs.drop k).length=xs.length-k:=by rw[List.length_drop]
 refine⟨_,_,by rw[hl],by omega,by omega,fun e=>(by split at e<;>cases e),fun x hx=>h4 x (List.mem_of_mem_drop hx),?_⟩
 by_cases hck:c=k
 ·exact .inl (List.drop_eq_nil_iff.2 (by omega))
 ·rcases h5 with rfl|⟨b',off',cs,fz,e,hr,hx⟩
  ·exact .inl (by simp)
  ·injection e with e;injection e with e1 e2
   subst e1;subst e2
   refine .inr ⟨b,off+k,cs,fz,by rw[if_neg hck],hr,fun j x hj=>?_⟩
   rw[List.getElem?_drop] at hj
   have:=hx (k+j) x hj
   rw[show off+k+j=off+(k+j) by omega];exact this
theorem data_some{w:World}{A:Option Addr}{n c:Nat}{xs:List Int}(h:EncW.Data w (.slice A n c) xs)(hn:0<xs.length):∃b off,A=some ⟨b,off,none⟩:=by
 obtain⟨A',c',e,h1,h2,h3,h4,h5⟩:=h
 injection e with e1 e2 e3
 subst e1
 rcases h5 with rfl|⟨b,off,cs,fz,e,-⟩
 ·simp at hn
 ·exact⟨b,off,e⟩
theorem data_only{g:Nat}{w w':World}{u:Value}{xs:List Int}(h:EncW.Data w u xs)(ho:Only g w w')(hg:∀cs fz,w.heap[g]?≠some (.cells cs 5 fz)):EncW.Data w' u xs:=by
 obtain⟨A,c,e,h1,h2,h3,h4,h5⟩:=h
 refine⟨A,c,e,h1,h2,h3,h4,?_⟩
 rcases h5 with h5|⟨b,off,cs,fz,e1,e2,e3⟩
 ·exact .inl h5
 ·refine .inr ⟨b,off,cs,fz,e1,?_,e3⟩
  rw[ho.block b (Array.getElem?_eq_some_iff.1 e2).1 (fun e=>hg cs fz (e ▸ e2))];exact e2
set_option maxRecDepth 100000 in
set_option maxHeartbeats 2000000 in
theorem sum_(key:Int)(A:Option Addr)(n c:Nat)(xs:List Int)(w:World)(h:EncW.Data w (.slice A n c) xs)(hlen:xs.length≤1000000000):Calls Tryz.prog 118 #[.int .u64 key,.slice A n c] w fun e w'=>e=.returned (.int .u64 (Sip.sum key xs))∧Hid (Below w.heap.size w w'):=by
 obtain⟨A',c',e,h0⟩:=id h
 injection e with e1 e2 e3
 subst e2
 have HD:=Lib.hid h
 clear h0 e1 e3 h
 go_enter Tryz.func118,Tryz.ntmps118
 have hw:IntKind.u64.wrap (xs.length:Int)=xs.length:=by rw[Sip.wrapU];omega
 go_wp2_with fail
 have HK0:=Lib.hid (Blk.new w 230 (sV (Sip.start key (Sip.xor key 6616326155283851669))))
 have HB0:=Lib.hid (below_alloc (Below.refl w.heap.size w) (.cells (sV (Sip.start key (Sip.xor key 6616326155283851669))) 230))
 have HD0:=Lib.hid (EncW.Data.call HD.out (below_new w (.cells (sV (Sip.start key (Sip.xor key 6616326155283851669))) 230)))
 have e1:w.alloc (.cells (sV (Sip.start key (Sip.xor key 6616326155283851669))) 230)=w.alloc (.cells #[.int .u64 (bits .xor .u64 key 8317987319222330741),.int .u64 (bits .xor .u64 (bits .xor .u64 key 6616326155283851669) 7237128888997146477),.int .u64 (bits .xor .u64 key 7816392313619706465),.int .u64 (bits .xor .u64 (bits .xor .u64 key 6616326155283851669) 8387220255154660723)] 230):=rfl
 rw[←e1]
 clear e1
 generalize w.alloc (.cells (sV (Sip.start key (Sip.xor key 6616326155283851669))) 230)=w1 at *
 go_loopg [1] xs.length (fun gg s1 wr=>∃(B:Option Addr) (m c' q:Nat) (t:Sip.S4),q+gg=xs.length∧m=gg∧s1=.slice B m c'∧Hid (EncW.Data wr (.slice B m c') (xs.drop q))∧Hid (Sip.blocks xs.length (xs.drop q) t=Sip.blocks xs.length xs (Sip.start key (Sip.xor key 6616326155283851669)))∧Hid (Blk wr w.heap.size 230 (sV t))∧Hid (Below w.heap.size w wr)∧Hid (w.heap.size<wr.heap.size))
 case atStart=>exact⟨_,_,_,0,_,by omega,rfl,rfl,HD0,rfl,HK0,HB0,HK0.out.lt⟩
 case round=>
  obtain⟨B,m,c2,q,t,hq,rfl,rfl,HD1,HF,HK,HB,HS⟩:=hrel
  obtain⟨_,_,hd1,hd2,_⟩:=id HD1.out
  injection hd1 with hd1 hd3 hd4
  subst hd4
  have hml:(xs.drop q).length=m:=by simp;omega
  rw[hml] at hd2
  by_cases hm:8≤m
  ·have hmz:(8:Int)≤(m:Int):=by omega
   have hcz:(8:Int)≤(c2:Int):=by omega
   have hcn:8≤c2:=by omega
   clear hd1 hd3 hd2 hml
   obtain⟨b,off,rfl⟩:=data_some HD1.out (by simp;omega)
   have HL:=Lib.hid (little (some ⟨b,off,none⟩) 8 c2 ((xs.drop q).take 8) wr (data_take HD1.out hm) (by simp;omega))
   go_wp2_with fail
   refine HL.out.mono ?_
   rintro e w2 ⟨rfl,rfl⟩
   go_wp2_with fail
   have HF2:Hid (Sip.blocks xs.length (xs.drop (q+8)) (Sip.word t (Sip.lit ((xs.drop q).take 8) 0 0))=Sip.blocks xs.length xs (Sip.start key (Sip.xor key 6616326155283851669))):=Lib.hid (by
    rw[←HF.out,Sip.blocks_more (l:=xs.drop q) (by simp;omega),List.drop_drop])
   have HN:Hid (∀cs fz,w2.heap[w.heap.size]?≠some (.cells cs 5 fz)):=Lib.hid (fun cs fz e=>by
    have:=HK.out
    unfold Blk at this
    rw[this] at e
    injection e with e;injection e with e1 e2 e3
    cases e2)
   have hle:=Nat.le_of_lt HS.out
   refine(word_ t (Sip.lit ((xs.drop q).take 8) 0 0) w2 w.heap.size HK.out).mono ?_
   rintro e w3 ⟨rfl,HO,HK3⟩
   have HDr:=Lib.hid (data_drop (k:=8) (data_only HD1.out HO.out HN.out) hm)
   rw[List.drop_drop] at HDr
   have HB3:=Lib.hid (HO.out.below HB.out (Nat.le_refl _) hle)
   have HS3:Hid (w.heap.size<w3.heap.size):=Lib.hid (Nat.lt_of_lt_of_le HS.out HO.out.size)
   clear hle HL HN
   by_cases hck:c2=8
   ·subst hck
    rw[if_pos rfl] at HDr
    clear hcz hcn
    go_wp2_with fail
    go_roundg (m-8)
    case measure=>omega
    case rel=>exact⟨_,_,_,q+8,_,by omega,rfl,rfl,HDr,HF2,HK3,HB3,HS3⟩
   ·rw[if_neg hck] at HDr
    go_wp2_with fail
    go_roundg (m-8)
    case measure=>omega
    case rel=>exact⟨_,_,_,q+8,_,by omega,rfl,rfl,HDr,HF2,HK3,HB3,HS3⟩
  ·have hmz:¬(8:Int)≤(m:Int):=by omega
   clear hd1 hd3 hd2 hml
   have HL:=Lib.hid (little B m c2 (xs.drop q) wr HD1.out (by simp;omega))
   go_wp2_with fail
   refine HL.out.mono ?_
   rintro e w2 ⟨rfl,rfl⟩
   go_wp2_with fail
   have hla:bits .or .u64 (Sip.lit (xs.drop q) 0 0) (IntKind.u64.wrap ((xs.length:Int)*72057594037927936))=Sip.last (xs.drop q) xs.length:=by
    unfold Sip.last Sip.orr Sip.w64
    rw[show(2:Int)^56=72057594037927936 from by decide]
   rw[hla]
   clear hla
   have HF2:Hid (Sip.word t (Sip.last (xs.drop q) xs.length)=Sip.blocks xs.length xs (Sip.start key (Sip.xor key 6616326155283851669))):=Lib.hid (by
    rw[←HF.out,Sip.blocks_last (by simp;omega)])
   have hle:=Nat.le_of_lt HS.out
   refine(word_ t (Sip.last (xs.drop q) xs.length) w2 w.heap.size HK.out).mono ?_
   rintro e w3 ⟨rfl,HO,HK3⟩
   rw[HF2.out] at HK3
   have HB3:=Lib.hid (HO.out.below HB.out (Nat.le_refl _) hle)
   have HS3:Hid (w.heap.size<w3.heap.size):=Lib.hid (Nat.lt_of_lt_of_le HS.out HO.out.size)
   have HSUM:Hid (Sip.sum key xs=Sip.fin (Sip.blocks xs.length xs (Sip.start key (Sip.xor key 6616326155283851669)))):=Lib.hid rfl
   clear hle HL HF2 HF
   generalize Sip.blocks xs.length xs (Sip.start key (Sip.xor key 6616326155283851669))=z at *
   obtain⟨za,zb,zc,zd⟩:=z
   have kc:=HK3.out.cell
   have kf:=HK3.out.frozen
   simp only[sV] at kc
   have e1:Hid (w3.setCell ⟨w.heap.size,2,none⟩ (.int .u64 (bits .xor .u64 zc 255))=w3.setRow w.heap.size (sV ⟨za,zb,bits .xor .u64 zc 255,zd⟩)):=stSet HK3.out rfl
   go_upto_region 9 with(fail)
   rw[e1.out]
   have HK4:=Lib.hid (zf (sV ⟨za,zb,bits .xor .u64 zc 255,zd⟩) HK3.out)
   have HB4:=Lib.hid (qm (sV ⟨za,zb,bits .xor .u64 zc 255,zd⟩) HB3.out (Nat.le_refl w.heap.size))
   have HS4:Hid (w.heap.size<(w3.setRow w.heap.size (sV ⟨za,zb,bits .xor .u64 zc 255,zd⟩)).heap.size):=Lib.hid (by rw[size_setRow];exact HS3.out)
   clear kc kf e1
   generalize w3.setRow w.heap.size (sV ⟨za,zb,bits .xor .u64 zc 255,zd⟩)=w4 at *
   go_wp2_with fail
   have hle4:=Nat.le_of_lt HS4.out
   refine(rounds_ ⟨za,zb,bits .xor .u64 zc 255,zd⟩ w4 w.heap.size HK4.out).mono ?_
   rintro e w5 ⟨rfl,HO5,HK5⟩
   have HB5:=Lib.hid (HO5.out.below HB4.out (Nat.le_refl _) hle4)
   have HFIN:Hid (Sip.fin ⟨za,zb,zc,zd⟩=Sip.xor (Sip.xor (Sip.xor (Sip.rnds 4 ⟨za,zb,bits .xor .u64 zc 255,zd⟩).a (Sip.rnds 4 ⟨za,zb,bits .xor .u64 zc 255,zd⟩).b) (Sip.rnds 4 ⟨za,zb,bits .xor .u64 zc 255,zd⟩).c) (Sip.rnds 4 ⟨za,zb,bits .xor .u64 zc 255,zd⟩).d):=Lib.hid rfl
   clear hle4
   generalize Sip.rnds 4 ⟨za,zb,bits .xor .u64 zc 255,zd⟩=y at *
   obtain⟨ya,yb,yc,yd⟩:=y
   have kc:=HK5.out.cell
   simp only[sV] at kc
   go_wp2_with fail
   go_ret
   exact⟨by rw[HSUM.out,HFIN.out];rfl,HB5⟩
end SipW
end Go.Proofs.YtmadfhgiaonnlaaGreatDoor
