import Derived.Test.YtmadfhgiaonnlaaGreatDoorPk16
import Derived.Test.YtmadfhgiaonnlaaGreatDoorPk29
set_option linter.unusedVariables false
set_option linter.unusedSimpArgs false
namespace Go.Proofs.YtmadfhgiaonnlaaGreatDoor
namespace Ver
open Go.RowKit Cen
open EncW (jb lineC flds)
open Enc (putF)
open MonW (I64)
theorem zf{w:World}{g:Nat}{t:TypeId}{old:Array Value}(cs:Array Value)(h:Blk w g t old):Blk (w.setRow g cs) g t cs:=setRow_heap w g old cs t (0,0) h
theorem qm{s0:Nat}{a w:World}{g:Nat}(cs:Array Value)(h:Below s0 a w)(hg:s0≤g):Below s0 a (w.setRow g cs):=below_setRow h hg cs
set_option maxRecDepth 100000 in
set_option maxHeartbeats 1000000 in
theorem rhash_(pv sq at_:Int)(s1 s2 s3:ByteArray)(sm:Int)(w:World)(h1:I64 sq)(h2:I64 at_)(k1:s1.size≤50000)(k2:s2.size≤50000)(k3:s3.size≤50000) :
  Calls Tryz.prog 73 #[.int .u64 pv,.agg #[i sq,i at_,.string s1,.string s2,.string s3,.int .u64 sm]] w fun e w'=>e=.returned (.int .u64 (jb pv sq at_ s1 s2 s3))∧Hid (Below w.heap.size w w'):=by
 have HC:=Lib.hid (EncW.content_ sq at_ s1 s2 s3 sm (w.alloc (.cells #[i sq,i at_,.string s1,.string s2,.string s3,.int .u64 sm] 69)) h1 h2 k1 k2 k3)
 have HL:=Lib.hid (show(putF (flds sq at_ s1 s2 s3)).length≤1000000000 by have:=EncW.putF_len (EncW.flds_ok h1 h2 k1 k2 k3);rw[show(flds sq at_ s1 s2 s3).length=5 from rfl] at this;omega)
 have HS:Hid (jb pv sq at_ s1 s2 s3=Sip.sum pv (putF (flds sq at_ s1 s2 s3))):=Lib.hid rfl
 have HB0:=Lib.hid (below_new w (.cells #[i sq,i at_,.string s1,.string s2,.string s3,.int .u64 sm] 69))
 generalize putF (flds sq at_ s1 s2 s3)=bs at *
 unfold lineC at *
 clear h1 h2 k1 k2 k3
 go_enter Tryz.func73,Tryz.ntmps73
 go_wp2_with fail
 refine HC.out.mono ?_
 rintro e w1 ⟨A,c,rfl,hd,hb⟩
 have HD:=Lib.hid (SipW.rchain pv A bs.length c bs w1 hd HL.out)
 have HB1:=Lib.hid (below_call HB0.out hb.out)
 clear hd hb
 go_wp2_with fail
 refine HD.out.mono ?_
 rintro e w2 ⟨rfl,hb⟩
 have HB2:=Lib.hid (below_call HB1.out hb.out)
 go_wp2_with fail
 go_ret
 exact⟨by rw[HS.out];rfl,HB2⟩
set_option maxRecDepth 100000 in
set_option maxHeartbeats 4000000 in
theorem right_(A:Option Addr)(n c k:Nat)(l:List Ln)(w:World)(h:LnsAt w (.slice A n c) l)(hc:Chain l)(hk:k<l.length) :
  Calls Tryz.prog 33 #[.slice A n c,i k] w fun e w'=>e=.returned (.bool true)∧Hid (Below w.heap.size w w'):=by
 obtain⟨rfl,hnc,hcm⟩:=h.len
 obtain⟨b,off,rfl,hrng,-⟩:=h.at_ hk
 have hlen:=hc.1
 obtain⟨g1,g2,g3,g4,g5,g6,g7,g8⟩:=hc.2 k _ (List.getElem?_eq_getElem hk)
 have HR:Hid (∀W,Below w.heap.size w W→W.rangeAt b (off+k*6) (lnA l[k]).toList):=fun W hb=>hrng W (Kept.of hb)
 have HPV:Hid (∀j,j+1=k→∃s a,ahead l k=(s,a)∧∀W,Below w.heap.size w W→W.cell? ⟨b,off+j*6+5,none⟩=some (.int .u64 s)∧W.cell? ⟨b,off+j*6+1,none⟩=some (i a)):=fun j hj=>by
  subst hj
  obtain⟨b',off',e,hr',-⟩:=h.at_ (show j<l.length by omega)
  obtain⟨rfl,rfl⟩:b=b'∧off=off':=by simpa using e
  refine⟨l[j].sum,l[j].at_,?_,fun W hb=>⟨?_,?_⟩⟩
  ·exact ahead_succ (List.getElem?_eq_getElem (show j<l.length by omega))
  ·exact hr' W (Kept.of hb) 5 _ rfl
  ·exact hr' W (Kept.of hb) 1 _ rfl
 have HP0:Hid (k=0→ahead l k=(0,0)):=fun e=>by rw[e];rfl
 obtain⟨pv,pa,hpv⟩:∃s a,ahead l k=(s,a):=⟨_,_,rfl⟩
 rw[hpv] at g3 g8 HP0 HPV
 generalize l[k]=x at *
 obtain⟨sq,at_,who,what,on_,sm⟩:=x
 simp only at g1 g2 g3 g4 g5 g6 g7 g8
 have hkn:(k:Int)<(l.length:Int):=by omega
 have hk0':(0:Int)≤(k:Int):=by omega
 have HH:=Lib.hid (fun W=>rhash_ pv sq at_ who what on_ sm W (by unfold I64;omega) (by unfold I64;omega) g5 g6 g7)
 have HS:=Lib.hid g8
 have HU:=Lib.hid Tryz.underlying69
 clear h hc hrng g5 g6 g7 g8 hpv
 generalize hn:l.length=n at *
 clear hn
 subst g1
 have HZ:=Lib.hid (Blk.new w 69 #[i 0,i 0,.string ⟨#[]⟩,.string ⟨#[]⟩,.string ⟨#[]⟩,.int .u64 0])
 have HK:=Lib.hid (zf #[i (k+1),i at_,.string who,.string what,.string on_,.int .u64 sm] HZ.out)
 have HB:=Lib.hid (qm #[i (k+1),i at_,.string who,.string what,.string on_,.int .u64 sm] (below_new w (.cells #[i 0,i 0,.string ⟨#[]⟩,.string ⟨#[]⟩,.string ⟨#[]⟩,.int .u64 0] 69)) (Nat.le_refl _))
 go_enter Tryz.func33,Tryz.ntmps33
 go_upto_if 13 with(first
  | (refine wpList_load_mid rfl 69 (.tmp 10) rfl b (off+k*6) rfl _ _ (HR.out _ (Below.refl _ _)) Tryz.underlying69 rfl (by kernel_rfl) ?_)
  | (refine wpList_store_rowTo rfl 69 (.tmp 5) (.tmp 11) rfl rfl w.heap.size #[i (k+1),i at_,.string who,.string what,.string on_,.int .u64 sm] (by kernel_rfl) (by kernel_rfl) 69 #[i 0,i 0,.string ⟨#[]⟩,.string ⟨#[]⟩,.string ⟨#[]⟩,.int .u64 0] HZ.out (by kernel_rfl) (by kernel_rfl) (by kernel_rfl) ?_))
 generalize (w.alloc (.cells _ 69)).setRow w.heap.size _=wy at *
 go_cut [6,7] (fun s6 s7 wd=>s6=.int .u64 pv∧s7=i pa∧Below wy.heap.size wy wd)
 case first=>
  by_cases hk0:k=0
  ·have hgd:¬(0:Int)<(k:Int):=by omega
   have e:=HP0.out hk0
   injection e with e1 e2
   clear hk0
   go_wp2_with fail
   go_meet
   exact⟨by rw[e1],by rw[e2],Below.refl _ _⟩
  ·have hgd:(0:Int)<(k:Int):=by omega
   obtain⟨j,hj⟩:∃j,k=j+1:=⟨k-1,by omega⟩
   obtain⟨s,a,e,hcl⟩:=HPV.out j hj.symm
   injection e with e1 e2
   subst e1 e2
   obtain⟨l5,l1⟩:=hcl wy HB.out
   have hjz:(k:Int)-1=(j:Int):=by omega
   have hjw:IntKind.i64.wrap (j:Int)=j:=by simp[IntKind.wrap,IntKind.bits,IntKind.signed];omega
   have hjl:(j:Int)<(n:Int):=by omega
   have hj0:(0:Int)≤(j:Int):=by omega
   have hgn:0<k:=by omega
   clear hk0 hj hcl
   go_wp2_with fail
   go_quiet (fail)
   go_wp2_with fail
   go_meet
   exact⟨rfl,rfl,by repeat(first|(with_reducible exact Below.refl _ _)|(with_reducible refine below_drewN' ?_ _)|(with_reducible refine Below.drew ?_)|(with_reducible refine Below.setCell ?_ (by first|(simp;done)|(simp;omega)|omega) _)|(with_reducible refine below_alloc ?_ _)|(with_reducible refine Below.alloc ?_ (by first|(simp;done)|(simp;omega)|omega) _))⟩
 case rest=>
 obtain⟨rfl,rfl,hbq⟩:=hcut
 have HB2:=Lib.hid (below_call HB.out hbq)
 have HK2:=Lib.hid (HK.out.call hbq)
 have hw1:IntKind.i64.wrap ((k:Int)+1)=k+1:=by simp[IntKind.wrap,IntKind.bits,IntKind.signed];omega
 clear HB HK HZ hbq HR HPV HP0
 go_wp2_with fail
 refine RegG.region 29 (fun kz=>match kz with|0=>some (.pointer (some ⟨w.heap.size,0,none⟩))|1=>some (i (k+1))|2=>some (i k)|3=>some (i (k+1))|4=>some (.bool true)|5=>some (.bool true)|6=>some (.pointer (some ⟨w.heap.size,1,none⟩))|7=>some (i at_)|8=>some (.bool true)|9=>some (.bool true)|10=>some (.bool true)|11=>some (.pointer (some ⟨w.heap.size,1,none⟩))|12=>some (i at_)|13=>some (i pa)|14=>some (.bool true)|15=>some (.bool true)|16=>some (.bool true)|17=>some (.pointer (some ⟨w.heap.size,1,none⟩))|18=>some (i at_)|19=>some (.bool true)|20=>some (.bool true)|21=>some (.bool true)|22=>some (.pointer (some ⟨w.heap.size,5,none⟩))|23=>some (.int .u64 sm)|24=>some (.int .u64 pv)|25=>some (.agg #[i (k+1),i at_,.string who,.string what,.string on_,.int .u64 sm])|26=>some (.int .u64 sm)|27=>some (.bool true)|28=>some (.bool true)|_=>none) (by kernel_rfl) (by kernel_rfl) (Reg4.in_of (n:=55) (by kernel_rfl) rfl) ?_ ?_ ?_ ?_
 ·intro idx o hj ho
  have hj':idx=0∨idx=1∨idx=2∨idx=3∨idx=4∨idx=5∨idx=6∨idx=7∨idx=8∨idx=9∨idx=10∨idx=11∨idx=12∨idx=13∨idx=14∨idx=15∨idx=16∨idx=17∨idx=18∨idx=19∨idx=20∨idx=21∨idx=22∨idx=23∨idx=24∨idx=25∨idx=26∨idx=27∨idx=28:=by omega
  clear hj
  rcases hj' with rfl|rfl|rfl|rfl|rfl|rfl|rfl|rfl|rfl|rfl|rfl|rfl|rfl|rfl|rfl|rfl|rfl|rfl|rfl|rfl|rfl|rfl|rfl|rfl|rfl|rfl|rfl|rfl|rfl
  ·obtain rfl:=oi ho
   refine .inr (fun a' w' hG hop=>?_)
   have h5:a'.tmps[5]?.getD undef=_:=gdt (hop 5 (by simp[Op.operands,Call.operands]))
   refine Reg4.StepOk.mono (R:=fun v W=>v=.pointer (some ⟨w.heap.size,0,none⟩)∧W=w') ?_ (fun v W h=>?_)
   ·go_simp
    all_goals(try exact⟨rfl,rfl⟩)
   ·obtain⟨rfl,rfl⟩:=h
    exact⟨fun x hx=>oi hx,Below.refl _ _⟩
  ·obtain rfl:=oi ho
   refine .inr (fun a' w' hG hop=>?_)
   have h26:a'.tmps[26]?.getD undef=.pointer (some ⟨w.heap.size,0,none⟩):=gdt (hop 26 (by simp[Op.operands,Call.operands]) _ rfl)
   have kc:=(HK2.out.call hG).cell
   refine Reg4.StepOk.mono (R:=fun v W=>v=i (k+1)∧W=w') ?_ (fun v W h=>?_)
   ·go_simp
    all_goals(try exact⟨rfl,rfl⟩)
   ·obtain⟨rfl,rfl⟩:=h
    exact⟨fun x hx=>oi hx,Below.refl _ _⟩
  ·obtain rfl:=oi ho
   refine .inr (fun a' w' hG hop=>?_)
   have h1:a'.tmps[1]?.getD undef=_:=gdt (hop 1 (by simp[Op.operands,Call.operands]))
   refine Reg4.StepOk.mono (R:=fun v W=>v=i k∧W=w') ?_ (fun v W h=>?_)
   ·go_simp
    all_goals(try exact⟨rfl,rfl⟩)
   ·obtain⟨rfl,rfl⟩:=h
    exact⟨fun x hx=>oi hx,Below.refl _ _⟩
  ·obtain rfl:=oi ho
   refine .inr (fun a' w' hG hop=>?_)
   have h28:a'.tmps[28]?.getD undef=i k:=gdt (hop 28 (by simp[Op.operands,Call.operands]) _ rfl)
   refine Reg4.StepOk.mono (R:=fun v W=>v=i (k+1)∧W=w') ?_ (fun v W h=>?_)
   ·go_simp
    all_goals(try exact⟨rfl,rfl⟩)
   ·obtain⟨rfl,rfl⟩:=h
    exact⟨fun x hx=>oi hx,Below.refl _ _⟩
  ·obtain rfl:=oi ho
   refine .inr (fun a' w' hG hop=>?_)
   have h27:a'.tmps[27]?.getD undef=i (k+1):=gdt (hop 27 (by simp[Op.operands,Call.operands]) _ rfl)
   have h29:a'.tmps[29]?.getD undef=i (k+1):=gdt (hop 29 (by simp[Op.operands,Call.operands]) _ rfl)
   refine Reg4.StepOk.mono (R:=fun v W=>v=.bool true∧W=w') ?_ (fun v W h=>?_)
   ·go_simp
    all_goals(try exact⟨rfl,rfl⟩)
   ·obtain⟨rfl,rfl⟩:=h
    exact⟨fun x hx=>oi hx,Below.refl _ _⟩
  ·obtain rfl:=oi ho
   refine .inr (fun a' w' hG hop=>?_)
   have h30:a'.tmps[30]?.getD undef=.bool true:=gdt (hop 30 (by simp[Op.operands,Call.operands]) _ rfl)
   refine Reg4.StepOk.mono (R:=fun v W=>v=.bool true∧W=w') ?_ (fun v W h=>?_)
   ·go_simp
    all_goals(try exact⟨rfl,rfl⟩)
   ·obtain⟨rfl,rfl⟩:=h
    exact⟨fun x hx=>oi hx,Below.refl _ _⟩
  ·obtain rfl:=oi ho
   refine .inr (fun a' w' hG hop=>?_)
   have h5:a'.tmps[5]?.getD undef=_:=gdt (hop 5 (by simp[Op.operands,Call.operands]))
   refine Reg4.StepOk.mono (R:=fun v W=>v=.pointer (some ⟨w.heap.size,1,none⟩)∧W=w') ?_ (fun v W h=>?_)
   ·go_simp
    all_goals(try exact⟨rfl,rfl⟩)
   ·obtain⟨rfl,rfl⟩:=h
    exact⟨fun x hx=>oi hx,Below.refl _ _⟩
  ·obtain rfl:=oi ho
   refine .inr (fun a' w' hG hop=>?_)
   have h32:a'.tmps[32]?.getD undef=.pointer (some ⟨w.heap.size,1,none⟩):=gdt (hop 32 (by simp[Op.operands,Call.operands]) _ rfl)
   have kc:=(HK2.out.call hG).cell
   refine Reg4.StepOk.mono (R:=fun v W=>v=i at_∧W=w') ?_ (fun v W h=>?_)
   ·go_simp
    all_goals(try exact⟨rfl,rfl⟩)
   ·obtain⟨rfl,rfl⟩:=h
    exact⟨fun x hx=>oi hx,Below.refl _ _⟩
  ·obtain rfl:=oi ho
   refine .inr (fun a' w' hG hop=>?_)
   have h33:a'.tmps[33]?.getD undef=i at_:=gdt (hop 33 (by simp[Op.operands,Call.operands]) _ rfl)
   refine Reg4.StepOk.mono (R:=fun v W=>v=.bool true∧W=w') ?_ (fun v W h=>?_)
   ·go_simp
    all_goals(try exact⟨rfl,rfl⟩)
   ·obtain⟨rfl,rfl⟩:=h
    exact⟨fun x hx=>oi hx,Below.refl _ _⟩
  ·obtain rfl:=oi ho
   refine .inr (fun a' w' hG hop=>?_)
   have h31:a'.tmps[31]?.getD undef=.bool true:=gdt (hop 31 (by simp[Op.operands,Call.operands]) _ rfl)
   have h34:a'.tmps[34]?.getD undef=.bool true:=gdt (hop 34 (by simp[Op.operands,Call.operands]) _ rfl)
   refine Reg4.StepOk.mono (R:=fun v W=>v=.bool true∧W=w') ?_ (fun v W h=>?_)
   ·go_simp
    all_goals(try exact⟨rfl,rfl⟩)
   ·obtain⟨rfl,rfl⟩:=h
    exact⟨fun x hx=>oi hx,Below.refl _ _⟩
  ·obtain rfl:=oi ho
   refine .inr (fun a' w' hG hop=>?_)
   have h35:a'.tmps[35]?.getD undef=.bool true:=gdt (hop 35 (by simp[Op.operands,Call.operands]) _ rfl)
   refine Reg4.StepOk.mono (R:=fun v W=>v=.bool true∧W=w') ?_ (fun v W h=>?_)
   ·go_simp
    all_goals(try exact⟨rfl,rfl⟩)
   ·obtain⟨rfl,rfl⟩:=h
    exact⟨fun x hx=>oi hx,Below.refl _ _⟩
  ·obtain rfl:=oi ho
   refine .inr (fun a' w' hG hop=>?_)
   have h5:a'.tmps[5]?.getD undef=_:=gdt (hop 5 (by simp[Op.operands,Call.operands]))
   refine Reg4.StepOk.mono (R:=fun v W=>v=.pointer (some ⟨w.heap.size,1,none⟩)∧W=w') ?_ (fun v W h=>?_)
   ·go_simp
    all_goals(try exact⟨rfl,rfl⟩)
   ·obtain⟨rfl,rfl⟩:=h
    exact⟨fun x hx=>oi hx,Below.refl _ _⟩
  ·obtain rfl:=oi ho
   refine .inr (fun a' w' hG hop=>?_)
   have h37:a'.tmps[37]?.getD undef=.pointer (some ⟨w.heap.size,1,none⟩):=gdt (hop 37 (by simp[Op.operands,Call.operands]) _ rfl)
   have kc:=(HK2.out.call hG).cell
   refine Reg4.StepOk.mono (R:=fun v W=>v=i at_∧W=w') ?_ (fun v W h=>?_)
   ·go_simp
    all_goals(try exact⟨rfl,rfl⟩)
   ·obtain⟨rfl,rfl⟩:=h
    exact⟨fun x hx=>oi hx,Below.refl _ _⟩
  ·obtain rfl:=oi ho
   refine .inr (fun a' w' hG hop=>?_)
   have h7:a'.tmps[7]?.getD undef=_:=gdt (hop 7 (by simp[Op.operands,Call.operands]))
   refine Reg4.StepOk.mono (R:=fun v W=>v=i pa∧W=w') ?_ (fun v W h=>?_)
   ·go_simp
    all_goals(try exact⟨rfl,rfl⟩)
   ·obtain⟨rfl,rfl⟩:=h
    exact⟨fun x hx=>oi hx,Below.refl _ _⟩
  ·obtain rfl:=oi ho
   refine .inr (fun a' w' hG hop=>?_)
   have h38:a'.tmps[38]?.getD undef=i at_:=gdt (hop 38 (by simp[Op.operands,Call.operands]) _ rfl)
   have h39:a'.tmps[39]?.getD undef=i pa:=gdt (hop 39 (by simp[Op.operands,Call.operands]) _ rfl)
   refine Reg4.StepOk.mono (R:=fun v W=>v=.bool true∧W=w') ?_ (fun v W h=>?_)
   ·go_simp
    all_goals(try exact⟨rfl,rfl⟩)
   ·obtain⟨rfl,rfl⟩:=h
    exact⟨fun x hx=>oi hx,Below.refl _ _⟩
  ·obtain rfl:=oi ho
   refine .inr (fun a' w' hG hop=>?_)
   have h36:a'.tmps[36]?.getD undef=.bool true:=gdt (hop 36 (by simp[Op.operands,Call.operands]) _ rfl)
   have h40:a'.tmps[40]?.getD undef=.bool true:=gdt (hop 40 (by simp[Op.operands,Call.operands]) _ rfl)
   refine Reg4.StepOk.mono (R:=fun v W=>v=.bool true∧W=w') ?_ (fun v W h=>?_)
   ·go_simp
    all_goals(try exact⟨rfl,rfl⟩)
   ·obtain⟨rfl,rfl⟩:=h
    exact⟨fun x hx=>oi hx,Below.refl _ _⟩
  ·obtain rfl:=oi ho
   refine .inr (fun a' w' hG hop=>?_)
   have h41:a'.tmps[41]?.getD undef=.bool true:=gdt (hop 41 (by simp[Op.operands,Call.operands]) _ rfl)
   refine Reg4.StepOk.mono (R:=fun v W=>v=.bool true∧W=w') ?_ (fun v W h=>?_)
   ·go_simp
    all_goals(try exact⟨rfl,rfl⟩)
   ·obtain⟨rfl,rfl⟩:=h
    exact⟨fun x hx=>oi hx,Below.refl _ _⟩
  ·obtain rfl:=oi ho
   refine .inr (fun a' w' hG hop=>?_)
   have h5:a'.tmps[5]?.getD undef=_:=gdt (hop 5 (by simp[Op.operands,Call.operands]))
   refine Reg4.StepOk.mono (R:=fun v W=>v=.pointer (some ⟨w.heap.size,1,none⟩)∧W=w') ?_ (fun v W h=>?_)
   ·go_simp
    all_goals(try exact⟨rfl,rfl⟩)
   ·obtain⟨rfl,rfl⟩:=h
    exact⟨fun x hx=>oi hx,Below.refl _ _⟩
  ·obtain rfl:=oi ho
   refine .inr (fun a' w' hG hop=>?_)
   have h43:a'.tmps[43]?.getD undef=.pointer (some ⟨w.heap.size,1,none⟩):=gdt (hop 43 (by simp[Op.operands,Call.operands]) _ rfl)
   have kc:=(HK2.out.call hG).cell
   refine Reg4.StepOk.mono (R:=fun v W=>v=i at_∧W=w') ?_ (fun v W h=>?_)
   ·go_simp
    all_goals(try exact⟨rfl,rfl⟩)
   ·obtain⟨rfl,rfl⟩:=h
    exact⟨fun x hx=>oi hx,Below.refl _ _⟩
  ·obtain rfl:=oi ho
   refine .inr (fun a' w' hG hop=>?_)
   have h44:a'.tmps[44]?.getD undef=i at_:=gdt (hop 44 (by simp[Op.operands,Call.operands]) _ rfl)
   refine Reg4.StepOk.mono (R:=fun v W=>v=.bool true∧W=w') ?_ (fun v W h=>?_)
   ·go_simp
    all_goals(try exact⟨rfl,rfl⟩)
   ·obtain⟨rfl,rfl⟩:=h
    exact⟨fun x hx=>oi hx,Below.refl _ _⟩
  ·obtain rfl:=oi ho
   refine .inr (fun a' w' hG hop=>?_)
   have h42:a'.tmps[42]?.getD undef=.bool true:=gdt (hop 42 (by simp[Op.operands,Call.operands]) _ rfl)
   have h45:a'.tmps[45]?.getD undef=.bool true:=gdt (hop 45 (by simp[Op.operands,Call.operands]) _ rfl)
   refine Reg4.StepOk.mono (R:=fun v W=>v=.bool true∧W=w') ?_ (fun v W h=>?_)
   ·go_simp
    all_goals(try exact⟨rfl,rfl⟩)
   ·obtain⟨rfl,rfl⟩:=h
    exact⟨fun x hx=>oi hx,Below.refl _ _⟩
  ·obtain rfl:=oi ho
   refine .inr (fun a' w' hG hop=>?_)
   have h46:a'.tmps[46]?.getD undef=.bool true:=gdt (hop 46 (by simp[Op.operands,Call.operands]) _ rfl)
   refine Reg4.StepOk.mono (R:=fun v W=>v=.bool true∧W=w') ?_ (fun v W h=>?_)
   ·go_simp
    all_goals(try exact⟨rfl,rfl⟩)
   ·obtain⟨rfl,rfl⟩:=h
    exact⟨fun x hx=>oi hx,Below.refl _ _⟩
  ·obtain rfl:=oi ho
   refine .inr (fun a' w' hG hop=>?_)
   have h5:a'.tmps[5]?.getD undef=_:=gdt (hop 5 (by simp[Op.operands,Call.operands]))
   refine Reg4.StepOk.mono (R:=fun v W=>v=.pointer (some ⟨w.heap.size,5,none⟩)∧W=w') ?_ (fun v W h=>?_)
   ·go_simp
    all_goals(try exact⟨rfl,rfl⟩)
   ·obtain⟨rfl,rfl⟩:=h
    exact⟨fun x hx=>oi hx,Below.refl _ _⟩
  ·obtain rfl:=oi ho
   refine .inr (fun a' w' hG hop=>?_)
   have h48:a'.tmps[48]?.getD undef=.pointer (some ⟨w.heap.size,5,none⟩):=gdt (hop 48 (by simp[Op.operands,Call.operands]) _ rfl)
   have kc:=(HK2.out.call hG).cell
   refine Reg4.StepOk.mono (R:=fun v W=>v=.int .u64 sm∧W=w') ?_ (fun v W h=>?_)
   ·go_simp
    all_goals(try exact⟨rfl,rfl⟩)
   ·obtain⟨rfl,rfl⟩:=h
    exact⟨fun x hx=>oi hx,Below.refl _ _⟩
  ·obtain rfl:=oi ho
   refine .inr (fun a' w' hG hop=>?_)
   have h6:a'.tmps[6]?.getD undef=_:=gdt (hop 6 (by simp[Op.operands,Call.operands]))
   refine Reg4.StepOk.mono (R:=fun v W=>v=.int .u64 pv∧W=w') ?_ (fun v W h=>?_)
   ·go_simp
    all_goals(try exact⟨rfl,rfl⟩)
   ·obtain⟨rfl,rfl⟩:=h
    exact⟨fun x hx=>oi hx,Below.refl _ _⟩
  ·obtain rfl:=oi ho
   refine .inr (fun a' w' hG hop=>?_)
   have h5:a'.tmps[5]?.getD undef=_:=gdt (hop 5 (by simp[Op.operands,Call.operands]))
   have kc:=(HK2.out.call hG).cell
   refine Reg4.StepOk.mono (R:=fun v W=>v=.agg #[i (k+1),i at_,.string who,.string what,.string on_,.int .u64 sm]∧W=w') ?_ (fun v W h=>?_)
   ·go_simp
    all_goals(try exact⟨rfl,rfl⟩)
   ·obtain⟨rfl,rfl⟩:=h
    exact⟨fun x hx=>oi hx,Below.refl _ _⟩
  ·obtain rfl:=oi ho
   refine .inr (fun a' w' hG hop=>?_)
   have h50:a'.tmps[50]?.getD undef=.int .u64 pv:=gdt (hop 50 (by simp[Op.operands,Call.operands]) _ rfl)
   have h51:a'.tmps[51]?.getD undef=.agg #[i (k+1),i at_,.string who,.string what,.string on_,.int .u64 sm]:=gdt (hop 51 (by simp[Op.operands,Call.operands]) _ rfl)
   refine Reg4.StepOk.mono (R:=fun v W=>v=.int .u64 sm∧Hid (Below w'.heap.size w' W)) ?_ (fun v W h=>?_)
   ·go_simp
    refine(HH.out _).mono ?_
    rintro e w5 ⟨rfl,hb⟩
    exact⟨_,rfl,by rw[HS.out],hb⟩
   ·obtain⟨rfl,hb⟩:=h
    exact⟨fun x hx=>oi hx,hb.out⟩
  ·obtain rfl:=oi ho
   refine .inr (fun a' w' hG hop=>?_)
   have h49:a'.tmps[49]?.getD undef=.int .u64 sm:=gdt (hop 49 (by simp[Op.operands,Call.operands]) _ rfl)
   have h52:a'.tmps[52]?.getD undef=.int .u64 sm:=gdt (hop 52 (by simp[Op.operands,Call.operands]) _ rfl)
   refine Reg4.StepOk.mono (R:=fun v W=>v=.bool true∧W=w') ?_ (fun v W h=>?_)
   ·go_simp
    all_goals(try exact⟨rfl,rfl⟩)
   ·obtain⟨rfl,rfl⟩:=h
    exact⟨fun x hx=>oi hx,Below.refl _ _⟩
  ·obtain rfl:=oi ho
   refine .inr (fun a' w' hG hop=>?_)
   have h47:a'.tmps[47]?.getD undef=.bool true:=gdt (hop 47 (by simp[Op.operands,Call.operands]) _ rfl)
   have h53:a'.tmps[53]?.getD undef=.bool true:=gdt (hop 53 (by simp[Op.operands,Call.operands]) _ rfl)
   refine Reg4.StepOk.mono (R:=fun v W=>v=.bool true∧W=w') ?_ (fun v W h=>?_)
   ·go_simp
    all_goals(try exact⟨rfl,rfl⟩)
   ·obtain⟨rfl,rfl⟩:=h
    exact⟨fun x hx=>oi hx,Below.refl _ _⟩
 ·intro idx o hj ho j b hg
  have hj':idx=0∨idx=1∨idx=2∨idx=3∨idx=4∨idx=5∨idx=6∨idx=7∨idx=8∨idx=9∨idx=10∨idx=11∨idx=12∨idx=13∨idx=14∨idx=15∨idx=16∨idx=17∨idx=18∨idx=19∨idx=20∨idx=21∨idx=22∨idx=23∨idx=24∨idx=25∨idx=26∨idx=27∨idx=28:=by omega
  clear hj
  rcases hj' with rfl|rfl|rfl|rfl|rfl|rfl|rfl|rfl|rfl|rfl|rfl|rfl|rfl|rfl|rfl|rfl|rfl|rfl|rfl|rfl|rfl|rfl|rfl|rfl|rfl|rfl|rfl|rfl|rfl
  ·obtain rfl:=oi ho
   cases hg
  ·obtain rfl:=oi ho
   cases hg
  ·obtain rfl:=oi ho
   cases hg
  ·obtain rfl:=oi ho
   cases hg
  ·obtain rfl:=oi ho
   cases hg
  ·obtain rfl:=oi ho
   cases hg
  ·obtain rfl:=oi ho
   obtain⟨rfl,rfl⟩:=Prod.mk.inj (oi hg)
   exact⟨_,rfl⟩
  ·obtain rfl:=oi ho
   obtain⟨rfl,rfl⟩:=Prod.mk.inj (oi hg)
   exact⟨_,rfl⟩
  ·obtain rfl:=oi ho
   obtain⟨rfl,rfl⟩:=Prod.mk.inj (oi hg)
   exact⟨_,rfl⟩
  ·obtain rfl:=oi ho
   cases hg
  ·obtain rfl:=oi ho
   cases hg
  ·obtain rfl:=oi ho
   obtain⟨rfl,rfl⟩:=Prod.mk.inj (oi hg)
   exact⟨_,rfl⟩
  ·obtain rfl:=oi ho
   obtain⟨rfl,rfl⟩:=Prod.mk.inj (oi hg)
   exact⟨_,rfl⟩
  ·obtain rfl:=oi ho
   obtain⟨rfl,rfl⟩:=Prod.mk.inj (oi hg)
   exact⟨_,rfl⟩
  ·obtain rfl:=oi ho
   obtain⟨rfl,rfl⟩:=Prod.mk.inj (oi hg)
   exact⟨_,rfl⟩
  ·obtain rfl:=oi ho
   cases hg
  ·obtain rfl:=oi ho
   cases hg
  ·obtain rfl:=oi ho
   obtain⟨rfl,rfl⟩:=Prod.mk.inj (oi hg)
   exact⟨_,rfl⟩
  ·obtain rfl:=oi ho
   obtain⟨rfl,rfl⟩:=Prod.mk.inj (oi hg)
   exact⟨_,rfl⟩
  ·obtain rfl:=oi ho
   obtain⟨rfl,rfl⟩:=Prod.mk.inj (oi hg)
   exact⟨_,rfl⟩
  ·obtain rfl:=oi ho
   cases hg
  ·obtain rfl:=oi ho
   cases hg
  ·obtain rfl:=oi ho
   obtain⟨rfl,rfl⟩:=Prod.mk.inj (oi hg)
   exact⟨_,rfl⟩
  ·obtain rfl:=oi ho
   obtain⟨rfl,rfl⟩:=Prod.mk.inj (oi hg)
   exact⟨_,rfl⟩
  ·obtain rfl:=oi ho
   obtain⟨rfl,rfl⟩:=Prod.mk.inj (oi hg)
   exact⟨_,rfl⟩
  ·obtain rfl:=oi ho
   obtain⟨rfl,rfl⟩:=Prod.mk.inj (oi hg)
   exact⟨_,rfl⟩
  ·obtain rfl:=oi ho
   obtain⟨rfl,rfl⟩:=Prod.mk.inj (oi hg)
   exact⟨_,rfl⟩
  ·obtain rfl:=oi ho
   obtain⟨rfl,rfl⟩:=Prod.mk.inj (oi hg)
   exact⟨_,rfl⟩
  ·obtain rfl:=oi ho
   cases hg
 ·intro idx o hj ho j b hg hk x hx
  have hj':idx=0∨idx=1∨idx=2∨idx=3∨idx=4∨idx=5∨idx=6∨idx=7∨idx=8∨idx=9∨idx=10∨idx=11∨idx=12∨idx=13∨idx=14∨idx=15∨idx=16∨idx=17∨idx=18∨idx=19∨idx=20∨idx=21∨idx=22∨idx=23∨idx=24∨idx=25∨idx=26∨idx=27∨idx=28:=by omega
  clear hj
  rcases hj' with rfl|rfl|rfl|rfl|rfl|rfl|rfl|rfl|rfl|rfl|rfl|rfl|rfl|rfl|rfl|rfl|rfl|rfl|rfl|rfl|rfl|rfl|rfl|rfl|rfl|rfl|rfl|rfl|rfl
  ·obtain rfl:=oi ho
   cases hg
  ·obtain rfl:=oi ho
   cases hg
  ·obtain rfl:=oi ho
   cases hg
  ·obtain rfl:=oi ho
   cases hg
  ·obtain rfl:=oi ho
   cases hg
  ·obtain rfl:=oi ho
   cases hg
  ·obtain rfl:=oi ho
   obtain⟨rfl,rfl⟩:=Prod.mk.inj (oi hg)
   cases hk
  ·obtain rfl:=oi ho
   obtain⟨rfl,rfl⟩:=Prod.mk.inj (oi hg)
   cases hk
  ·obtain rfl:=oi ho
   obtain⟨rfl,rfl⟩:=Prod.mk.inj (oi hg)
   cases hk
  ·obtain rfl:=oi ho
   cases hg
  ·obtain rfl:=oi ho
   cases hg
  ·obtain rfl:=oi ho
   obtain⟨rfl,rfl⟩:=Prod.mk.inj (oi hg)
   cases hk
  ·obtain rfl:=oi ho
   obtain⟨rfl,rfl⟩:=Prod.mk.inj (oi hg)
   cases hk
  ·obtain rfl:=oi ho
   obtain⟨rfl,rfl⟩:=Prod.mk.inj (oi hg)
   cases hk
  ·obtain rfl:=oi ho
   obtain⟨rfl,rfl⟩:=Prod.mk.inj (oi hg)
   cases hk
  ·obtain rfl:=oi ho
   cases hg
  ·obtain rfl:=oi ho
   cases hg
  ·obtain rfl:=oi ho
   obtain⟨rfl,rfl⟩:=Prod.mk.inj (oi hg)
   cases hk
  ·obtain rfl:=oi ho
   obtain⟨rfl,rfl⟩:=Prod.mk.inj (oi hg)
   cases hk
  ·obtain rfl:=oi ho
   obtain⟨rfl,rfl⟩:=Prod.mk.inj (oi hg)
   cases hk
  ·obtain rfl:=oi ho
   cases hg
  ·obtain rfl:=oi ho
   cases hg
  ·obtain rfl:=oi ho
   obtain⟨rfl,rfl⟩:=Prod.mk.inj (oi hg)
   cases hk
  ·obtain rfl:=oi ho
   obtain⟨rfl,rfl⟩:=Prod.mk.inj (oi hg)
   cases hk
  ·obtain rfl:=oi ho
   obtain⟨rfl,rfl⟩:=Prod.mk.inj (oi hg)
   cases hk
  ·obtain rfl:=oi ho
   obtain⟨rfl,rfl⟩:=Prod.mk.inj (oi hg)
   cases hk
  ·obtain rfl:=oi ho
   obtain⟨rfl,rfl⟩:=Prod.mk.inj (oi hg)
   cases hk
  ·obtain rfl:=oi ho
   obtain⟨rfl,rfl⟩:=Prod.mk.inj (oi hg)
   cases hk
  ·obtain rfl:=oi ho
   cases hg
 ·intro vals w' hG hv
  have hv0:vals 0=.pointer (some ⟨w.heap.size,0,none⟩):=hv 0 _ (by omega) rfl
  have hv1:vals 1=i (k+1):=hv 1 _ (by omega) rfl
  have hv2:vals 2=i k:=hv 2 _ (by omega) rfl
  have hv3:vals 3=i (k+1):=hv 3 _ (by omega) rfl
  have hv4:vals 4=.bool true:=hv 4 _ (by omega) rfl
  have hv5:vals 5=.bool true:=hv 5 _ (by omega) rfl
  have hv6:vals 6=.pointer (some ⟨w.heap.size,1,none⟩):=hv 6 _ (by omega) rfl
  have hv7:vals 7=i at_:=hv 7 _ (by omega) rfl
  have hv8:vals 8=.bool true:=hv 8 _ (by omega) rfl
  have hv9:vals 9=.bool true:=hv 9 _ (by omega) rfl
  have hv10:vals 10=.bool true:=hv 10 _ (by omega) rfl
  have hv11:vals 11=.pointer (some ⟨w.heap.size,1,none⟩):=hv 11 _ (by omega) rfl
  have hv12:vals 12=i at_:=hv 12 _ (by omega) rfl
  have hv13:vals 13=i pa:=hv 13 _ (by omega) rfl
  have hv14:vals 14=.bool true:=hv 14 _ (by omega) rfl
  have hv15:vals 15=.bool true:=hv 15 _ (by omega) rfl
  have hv16:vals 16=.bool true:=hv 16 _ (by omega) rfl
  have hv17:vals 17=.pointer (some ⟨w.heap.size,1,none⟩):=hv 17 _ (by omega) rfl
  have hv18:vals 18=i at_:=hv 18 _ (by omega) rfl
  have hv19:vals 19=.bool true:=hv 19 _ (by omega) rfl
  have hv20:vals 20=.bool true:=hv 20 _ (by omega) rfl
  have hv21:vals 21=.bool true:=hv 21 _ (by omega) rfl
  have hv22:vals 22=.pointer (some ⟨w.heap.size,5,none⟩):=hv 22 _ (by omega) rfl
  have hv23:vals 23=.int .u64 sm:=hv 23 _ (by omega) rfl
  have hv24:vals 24=.int .u64 pv:=hv 24 _ (by omega) rfl
  have hv25:vals 25=.agg #[i (k+1),i at_,.string who,.string what,.string on_,.int .u64 sm]:=hv 25 _ (by omega) rfl
  have hv26:vals 26=.int .u64 sm:=hv 26 _ (by omega) rfl
  have hv27:vals 27=.bool true:=hv 27 _ (by omega) rfl
  have hv28:vals 28=.bool true:=hv 28 _ (by omega) rfl
  simp only[Reg4.puts,Reg4.dstOf,List.range,List.range.loop,if_true,List.drop_succ_cons,List.drop_zero,hv0,hv1,hv2,hv3,hv4,hv5,hv6,hv7,hv8,hv9,hv10,hv11,hv12,hv13,hv14,hv15,hv16,hv17,hv18,hv19,hv20,hv21,hv22,hv23,hv24,hv25,hv26,hv27,hv28]
  clear hv hv0 hv1 hv2 hv3 hv4 hv5 hv6 hv7 hv8 hv9 hv10 hv11 hv12 hv13 hv14 hv15 hv16 hv17 hv18 hv19 hv20 hv21 hv22 hv23 hv24 hv25 hv26 hv27 hv28
  simp[Act.put]
  go_wp2_with fail
  go_ret
  exact⟨rfl,below_call HB2.out hG⟩
set_option maxRecDepth 100000 in
set_option maxHeartbeats 1000000 in
theorem verify_(A:Option Addr)(n c:Nat)(l:List Ln)(w:World)(h:LnsAt w (.slice A n c) l)(hc:Chain l) :
  Calls Tryz.prog 13 #[.slice A n c] w fun e w'=>e=.returned (.tuple #[i l.length,i 0])∧Hid (Below w.heap.size w w'):=by
 obtain⟨rfl,hnc,hcm⟩:=h.len
 have hlen:=hc.1
 have HR:=Lib.hid (fun W (hb:Below w.heap.size w W) k hk=>right_ A l.length c k l W (h.call hb) hc hk)
 clear h hc
 generalize l.length=n at *
 go_enter Tryz.func13,Tryz.ntmps13
 go_wp2_with fail
 go_loopg [4] n (fun gg s4 wr=>∃kk:Nat,kk≤n∧n-kk≤gg∧s4=i kk∧Hid (Below w.heap.size w wr))
 case atStart=>exact⟨0,Nat.zero_le _,by omega,rfl,Lib.hid (Below.refl _ _)⟩
 case round=>
  obtain⟨kk,hkk,hg,rfl,HB⟩:=hrel
  by_cases hlt:kk<n
  ·have hltz:(kk:Int)<(n:Int):=by omega
   go_wp2_with fail
   refine(HR.out _ HB.out kk hlt).mono ?_
   rintro e w5 ⟨rfl,hb⟩
   have HB5:=Lib.hid (below_call HB.out hb.out)
   go_wp2_with fail
   go_roundg (n-(kk+1))
   case measure=>omega
   case rel=>exact⟨kk+1,by omega,by omega,by simp,HB5⟩
  ·have hltz:¬(kk:Int)<(n:Int):=by omega
   obtain rfl:kk=n:=by omega
   go_wp2_with fail
   go_ret2
   exact⟨rfl,HB⟩
set_option maxRecDepth 100000 in
set_option maxHeartbeats 1000000 in
theorem head_(A:Option Addr)(n c:Nat)(l:List Ln)(w:World)(h:LnsAt w (.slice A n c) l)(hl:l.length≤4096) :
  Calls Tryz.prog 71 #[.slice A n c] w fun e w'=>e=.returned (.int .u64 (ahead l l.length).1)∧w'=w:=by
 obtain⟨rfl,hnc,hcm⟩:=h.len
 by_cases h0:l.length=0
 ·have hz:(l.length:Int)=0:=by omega
  rw[h0]
  go_enter Tryz.func71,Tryz.ntmps71
  go_wp2_with fail
  go_ret
  exact⟨rfl,rfl⟩
 ·have hz:¬(l.length:Int)=0:=by omega
  obtain⟨j,hj⟩:∃j,l.length=j+1:=⟨l.length-1,by omega⟩
  obtain⟨b,off,rfl,hr,-⟩:=h.at_ (show j<l.length by omega)
  have l5:w.cell? ⟨b,off+j*6+5,none⟩=some (.int .u64 (l[j]'(by omega)).sum):=hr w (Kept.of (Below.refl _ _)) 5 _ rfl
  have e:(ahead l l.length).1=(l[j]'(by omega)).sum:=by
   have e1:=ahead_succ (List.getElem?_eq_getElem (show j<l.length by omega))
   rw[←hj] at e1
   rw[e1]
  rw[e]
  generalize (l[j]'(by omega)).sum=s at *
  have hj4:j<4096:=by omega
  clear h hr e
  generalize l.length=n at *
  subst hj
  have hjz:((j:Int)+1)-1=(j:Int):=by omega
  have hjw:IntKind.i64.wrap (j:Int)=j:=by simp[IntKind.wrap,IntKind.bits,IntKind.signed];omega
  have hjl:(j:Int)<((j+1:Nat):Int):=by omega
  have hjz':((j+1:Nat):Int)-1=(j:Int):=by omega
  have hj0:(0:Int)≤(j:Int):=by omega
  go_enter Tryz.func71,Tryz.ntmps71
  go_wp2_with fail
  go_ret
  exact⟨rfl,rfl⟩
end Ver
end Go.Proofs.YtmadfhgiaonnlaaGreatDoor
