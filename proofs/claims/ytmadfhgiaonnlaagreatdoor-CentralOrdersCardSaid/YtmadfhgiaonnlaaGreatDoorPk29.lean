import Derived.Test.YtmadfhgiaonnlaaGreatDoorPk28
set_option linter.unusedVariables false
set_option linter.unusedSimpArgs false
namespace Go.Proofs.YtmadfhgiaonnlaaGreatDoor
namespace EncW
open Go.RowKit MonW Enc
open Reg4 (StepOk TmpOk headB dstOf puts)
theorem regM{P:Program}{ops:Array Oper}{Q:Exit→Act→World→Prop}{a0:Act}{id:Nat}{w:World}(m:Nat)(Φ:Nat→Value→World→Prop)(hm:P.follows .mixedOrders=true)(hH:headB ops m=true)(hin:∀k d,k<m→dstOf ops k=some d→d<a0.tmps.size)
  (hmono:∀k u W W',Below W.heap.size W W'→Φ k u W→Φ k u W')
  (hstep:∀i o,i<m→ops[i]? = some o→∀(a:Act) (W:World),Below w.heap.size w W→(∀d,Operand.tmp d∈o.op.operands→TmpOk ops m a0 Φ W d (a.tmps.getD d undef))→StepOk P (fun v W'=>Below W.heap.size W W'∧Φ i v W') ((execOp a.eval o).run P W))
  (hfin:∀(vals:Nat→Value) (W:World),Below w.heap.size w W→(∀k,k<m→Φ k (vals k) W)→wpList P ops Q (ops.toList.drop m) (puts ops vals (fun _=>true) (List.range m) a0) W) :
  (Code.region id ops true).wp P Q a0 w:=
 Reg4.region m (fun W=>Below w.heap.size w W) Φ hm hH hin (Below.drew (Below.refl _ _))
  (fun i o hi ho a W hG hop=>(hstep i o hi ho a W hG hop).mono fun v W' h=>⟨below_call hG h.1,h.2,fun k u _ _ _ hk=>hmono k u W W' h.1 hk⟩) hfin
inductive Kd where
 | val (v:Value)
 | dat (xs:List Int)
 | fld (t:Int) (xs:List Int)
 | fls (l:List Fld)
 | tup (l:List Fld)
def Kd.ok:Kd→Value→World→Prop
 | .val v,u,_=>u=v
 | .dat xs,u,W=>IsSl u∧Data W u xs
 | .fld t xs,u,W=>∃y,u=.agg #[i t,y]∧IsSl y∧Data W y xs
 | .fls l,u,W=>OwnF 0 W u l
 | .tup l,u,W=>∃y,u=.tuple #[y,i 0]∧IsSl y∧Data W y (putF l)
theorem Kd.mono{k:Kd}{u:Value}{W W':World}(hb:Below W.heap.size W W')(h:k.ok u W):k.ok u W':=by
 cases k with
 | val v=>exact h
 | dat xs=>exact⟨h.1,h.2.call hb⟩
 | fld t xs=>obtain⟨y,h1,h2,h3⟩:=h;exact⟨y,h1,h2,h3.call hb⟩
 | fls l=>exact Own.mono (Own.call h hb) (FldR.keep (row:=none) ⟨hb.os,hb.tape,hb.output,hb.size,fun k hk _=>hb.block k hk⟩ (fun k hk=>by cases hk))
 | tup l=>obtain⟨y,h1,h2,h3⟩:=h;exact⟨y,h1,h2,h3.call hb⟩
theorem flds_ok{sq at_:Int}{s1 s2 s3:ByteArray}(h1:I64 sq)(h2:I64 at_)(k1:s1.size≤50000)(k2:s2.size≤50000)(k3:s3.size≤50000):OkF (flds sq at_ s1 s2 s3):=by
 refine⟨by simp[flds],fun f hf=>?_,fun k hk=>?_⟩
 ·simp only[flds,List.mem_cons,List.not_mem_nil,or_false] at hf
  rcases hf with rfl|rfl|rfl|rfl|rfl
  ·exact⟨by simp,by simp,by have:=encI_len h1;simp only;omega⟩
  ·exact⟨by simp,by simp,by have:=encI_len h2;simp only;omega⟩
  ·exact⟨by simp,by simp,by simp only[strB_len];omega⟩
  ·exact⟨by simp,by simp,by simp only[strB_len];omega⟩
  ·exact⟨by simp,by simp,by simp only[strB_len];omega⟩
 ·simp only[flds,List.length_cons,List.length_nil] at hk
  have:k=0∨k=1∨k=2∨k=3:=by omega
  rcases this with rfl|rfl|rfl|rfl<;>simp[flds]
theorem putF_len{l:List Fld}(h:OkF l):(putF l).length≤50022*l.length:=by
 have:=pTo_len h l.length (Nat.le_refl _)
 rwa [pTo_all] at this
def lineC(sq at_:Int)(s1 s2 s3:ByteArray)(sm:Int):Array Value:=#[i sq,i at_,.string s1,.string s2,.string s3,.int .u64 sm]
theorem str_data(w:World)(s:ByteArray)(hs:s.size≤50000):∃u W',(convert 9 183 (.string s)).run Tryz.prog w=.ok u W'∧Below w.heap.size w W'∧IsSl u∧Data W' u (strB s):=by
 have hcv:=run_bytes_of_string (P:=Tryz.prog) w 9 183 5 s Tryz.underlying9 Tryz.underlying183 Tryz.underlying5
 have hc1:s.size≤grownCap w s.size 0 5:=grownCap_ge _ _ _ _
 have hc2:grownCap w s.size 0 5≤maxLen:=grownCap_le_maxLen _ _ _ _ (by unfold maxLen;omega)
 have hd:=Data.str w.drew s _ ((bytesRow s (grownCap w s.size 0 5)).size,(bytesRow s (grownCap w s.size 0 5)).size+1) hc1 hc2
 exact⟨_,_,hcv,(Below.refl _ w).drew.alloc (Nat.le_refl _) _,⟨_,_,_,rfl⟩,hd⟩
theorem stepok_of{P:Program}{Q:Value→World→Prop}{r:Result Next}{u:Value}{W':World}(h:r=.ok (.value u) W')(q:Q u W'):StepOk P Q r:=by
 rw[h];exact q
theorem run_w{P:Program}{s:Sem Value}{w w':World}{r:Value}(h:s.run P w=.ok r w'):(do pure (.value (←s)):Sem Next).run P w=.ok (.value r) w':=by
 simp[Sem.run_bind,h]
theorem fls_new(W:World)(l:List Fld)(us:List Value)(cs:Array Value)(hlen:us.length=l.length)(hc:cs.toList=(l.zip us).flatMap (fun p=>[i p.1.tag,p.2]))(hu:∀(j:Nat) (f:Fld) (u:Value),l[j]? = some f→us[j]? = some u→IsSl u∧Data W u f.data)(hn:l.length≤1000) :
  OwnF 0 (W.alloc (.cells cs 188)) (.slice (some ⟨W.heap.size,0,none⟩) l.length l.length) l:=by
 have hfl:∀(l:List Fld) (us:List Value),us.length=l.length→((l.zip us).flatMap (fun p=>[i p.1.tag,p.2])).length=l.length*2:=by
  intro l
  induction l with
  | nil=>intro us h;simp
  | cons f l ih=>
    intro us h
    cases us with
    | nil=>simp at h
    | cons u us=>simp only[List.zip_cons_cons,List.flatMap_cons,List.length_append,ih us (by simpa using h)];simp;omega
 refine⟨(l.zip us).map (fun p=>[i p.1.tag,p.2]),⟨?_,.inr ⟨W.heap.size,l.length,cs,rfl,Nat.zero_le _,heap_alloc_new W _,Nat.le_refl _,by unfold maxLen;omega,?_,?_⟩⟩,?_⟩
 ·rw[←List.flatMap_def,hfl l us hlen]
 ·rw[←Array.length_toList,hc,hfl l us hlen]
 ·rw[hc,List.take_of_length_le (by rw[hfl l us hlen];exact Nat.le_refl _),List.flatMap_def]
 ·refine⟨by simp[hlen],fun j r f h1 h2=>?_⟩
  rw[List.getElem?_map] at h1
  cases hz:(l.zip us)[j]? with
  | none=>rw[hz] at h1;cases h1
  | some p=>
    rw[hz] at h1
    cases h1
    obtain⟨f',u⟩:=p
    rw[List.getElem?_zip_eq_some] at hz
    rw[hz.1] at h2
    cases h2
    obtain⟨q1,q2⟩:=hu j f' u hz.1 hz.2
    exact⟨rfl,u,rfl,q2.call (below_new W _),q1⟩
set_option maxRecDepth 100000 in
set_option maxHeartbeats 4000000 in
theorem hash_(pv sq at_:Int)(s1 s2 s3:ByteArray)(sm:Int)(w:World)(h1:I64 sq)(h2:I64 at_)(k1:s1.size≤50000)(k2:s2.size≤50000)(k3:s3.size≤50000) :
  Calls Tryz.prog 70 #[.int .u64 pv,.agg (lineC sq at_ s1 s2 s3 sm)] w fun e w'=>e=.returned (.int .u64 (jb pv sq at_ s1 s2 s3))∧Hid (Below w.heap.size w w'):=by
 have HOK:=Lib.hid (flds_ok h1 h2 k1 k2 k3)
 have HI:=Lib.hid (And.intro h1 (And.intro h2 (And.intro k1 (And.intro k2 k3))))
 clear h1 h2 k1 k2 k3
 unfold lineC
 go_enter Tryz.func70,Tryz.ntmps70
 have HKB:=Lib.hid (Blk.new w 69 (lineC sq at_ s1 s2 s3 sm))
 have HB0:=Lib.hid (below_alloc (Below.refl w.heap.size w) (.cells (lineC sq at_ s1 s2 s3 sm) 69))
 go_wp2_with fail
 have e1:w.alloc (.cells #[i sq,i at_,.string s1,.string s2,.string s3,.int .u64 sm] 69)=w.alloc (.cells (lineC sq at_ s1 s2 s3 sm) 69):=rfl
 rw[e1]
 clear e1
 generalize w.alloc (.cells (lineC sq at_ s1 s2 s3 sm) 69)=w1 at *
 refine regM 27 (fun k v W=>(match k with|0=>.val (.pointer (some ⟨w.heap.size,0,none⟩))|1=>.val (i sq)|2=>.dat (encI sq)|3=>.fld 1 (encI sq)|4=>.val (.pointer (some ⟨w.heap.size,1,none⟩))|5=>.val (i at_)|6=>.dat (encI at_)|7=>.fld 2 (encI at_)|8=>.val (.pointer (some ⟨w.heap.size,2,none⟩))|9=>.val (.string s1)|10=>.dat (strB s1)|11=>.fld 3 (strB s1)|12=>.val (.pointer (some ⟨w.heap.size,3,none⟩))|13=>.val (.string s2)|14=>.dat (strB s2)|15=>.fld 4 (strB s2)|16=>.val (.pointer (some ⟨w.heap.size,4,none⟩))|17=>.val (.string s3)|18=>.dat (strB s3)|19=>.fld 5 (strB s3)|20=>.fls (flds sq at_ s1 s2 s3)|21=>.tup (flds sq at_ s1 s2 s3)|22=>.tup (flds sq at_ s1 s2 s3)|23=>.dat (putF (flds sq at_ s1 s2 s3))|24=>.val (i 0)|25=>.dat (putF (flds sq at_ s1 s2 s3))|26=>.val (i 0)|_=>Kd.val undef:Kd).ok v W) (by kernel_rfl) (by kernel_rfl) (Reg4.in_of (n:=37) (by kernel_rfl) rfl) (fun k u W W' hb h=>Kd.mono hb h) ?_ ?_
 ·intro j o hj ho a W hG hop
  have hj':j=0∨j=1∨j=2∨j=3∨j=4∨j=5∨j=6∨j=7∨j=8∨j=9∨j=10∨j=11∨j=12∨j=13∨j=14∨j=15∨j=16∨j=17∨j=18∨j=19∨j=20∨j=21∨j=22∨j=23∨j=24∨j=25∨j=26:=by omega
  clear hj
  have HW:=Lib.hid hG
  have HKW:=Lib.hid (HKB.out.call hG)
  rcases hj' with rfl|rfl|rfl|rfl|rfl|rfl|rfl|rfl|rfl|rfl|rfl|rfl|rfl|rfl|rfl|rfl|rfl|rfl|rfl|rfl|rfl|rfl|rfl|rfl|rfl|rfl|rfl
  all_goals(obtain rfl:=oi ho;clear ho hG)
  ·have h3:a.tmps[3]?.getD undef=.pointer (some ⟨w.heap.size,0,none⟩):=gdt (hop 3 (by simp[Op.operands,Call.operands]))
   refine StepOk.mono (R:=fun v W2=>v=.pointer (some ⟨w.heap.size,0,none⟩)∧W2=W) ?_ (fun v W2 h=>?_)
   ·go_simp
    all_goals(try exact⟨rfl,rfl⟩)
   ·obtain⟨rfl,rfl⟩:=h;exact⟨Below.refl _ _,rfl⟩
  ·have h8:a.tmps[8]?.getD undef=.pointer (some ⟨w.heap.size,0,none⟩):=gdt (hop 8 (by simp[Op.operands,Call.operands]))
   have kc:=HKW.out.cell
   unfold lineC at kc
   refine StepOk.mono (R:=fun v W2=>v=i sq∧W2=W) ?_ (fun v W2 h=>?_)
   ·go_simp
    all_goals(try exact⟨rfl,rfl⟩)
   ·obtain⟨rfl,rfl⟩:=h;exact⟨Below.refl _ _,rfl⟩
  ·have h9:a.tmps[9]?.getD undef=i sq:=gdt (hop 9 (by simp[Op.operands,Call.operands]))
   have HP:=Lib.hid (putInt sq W HI.out.1)
   refine StepOk.mono (R:=fun v W2=>OwnB W.heap.size W2 v (encI sq)∧Below W.heap.size W W2) ?_ (fun v W2 h=>⟨h.2,(OwnB.isSl h.1),Data.of h.1⟩)
   go_simp
   refine HP.out.mono ?_
   rintro e W2 ⟨u,rfl,hu,hb⟩
   exact⟨u,rfl,hu,hb⟩
  ·obtain⟨⟨A,n,c,hv⟩,hd⟩:Kd.ok (.dat (encI sq)) (a.tmps.getD 10 undef) W:=hop 10 (by simp[Op.operands,Call.operands])
   have h10:a.tmps[10]?.getD undef=.slice A n c:=gdt hv
   rw[hv] at hd
   have HDD:=Lib.hid hd
   clear hd hv
   refine StepOk.mono (R:=fun v W2=>v=.agg #[i 1,.slice A n c]∧W2=W) ?_ (fun v W2 h=>?_)
   ·go_simp
    all_goals(try exact⟨rfl,rfl⟩)
   ·obtain⟨rfl,rfl⟩:=h;exact⟨Below.refl _ _,_,rfl,⟨_,_,_,rfl⟩,HDD.out⟩
  ·have h3:a.tmps[3]?.getD undef=.pointer (some ⟨w.heap.size,0,none⟩):=gdt (hop 3 (by simp[Op.operands,Call.operands]))
   refine StepOk.mono (R:=fun v W2=>v=.pointer (some ⟨w.heap.size,1,none⟩)∧W2=W) ?_ (fun v W2 h=>?_)
   ·go_simp
    all_goals(try exact⟨rfl,rfl⟩)
   ·obtain⟨rfl,rfl⟩:=h;exact⟨Below.refl _ _,rfl⟩
  ·have h12:a.tmps[12]?.getD undef=.pointer (some ⟨w.heap.size,1,none⟩):=gdt (hop 12 (by simp[Op.operands,Call.operands]))
   have kc:=HKW.out.cell
   unfold lineC at kc
   refine StepOk.mono (R:=fun v W2=>v=i at_∧W2=W) ?_ (fun v W2 h=>?_)
   ·go_simp
    all_goals(try exact⟨rfl,rfl⟩)
   ·obtain⟨rfl,rfl⟩:=h;exact⟨Below.refl _ _,rfl⟩
  ·have h13:a.tmps[13]?.getD undef=i at_:=gdt (hop 13 (by simp[Op.operands,Call.operands]))
   have HP:=Lib.hid (putInt at_ W HI.out.2.1)
   refine StepOk.mono (R:=fun v W2=>OwnB W.heap.size W2 v (encI at_)∧Below W.heap.size W W2) ?_ (fun v W2 h=>⟨h.2,(OwnB.isSl h.1),Data.of h.1⟩)
   go_simp
   refine HP.out.mono ?_
   rintro e W2 ⟨u,rfl,hu,hb⟩
   exact⟨u,rfl,hu,hb⟩
  ·obtain⟨⟨A,n,c,hv⟩,hd⟩:Kd.ok (.dat (encI at_)) (a.tmps.getD 14 undef) W:=hop 14 (by simp[Op.operands,Call.operands])
   have h14:a.tmps[14]?.getD undef=.slice A n c:=gdt hv
   rw[hv] at hd
   have HDD:=Lib.hid hd
   clear hd hv
   refine StepOk.mono (R:=fun v W2=>v=.agg #[i 2,.slice A n c]∧W2=W) ?_ (fun v W2 h=>?_)
   ·go_simp
    all_goals(try exact⟨rfl,rfl⟩)
   ·obtain⟨rfl,rfl⟩:=h;exact⟨Below.refl _ _,_,rfl,⟨_,_,_,rfl⟩,HDD.out⟩
  ·have h3:a.tmps[3]?.getD undef=.pointer (some ⟨w.heap.size,0,none⟩):=gdt (hop 3 (by simp[Op.operands,Call.operands]))
   refine StepOk.mono (R:=fun v W2=>v=.pointer (some ⟨w.heap.size,2,none⟩)∧W2=W) ?_ (fun v W2 h=>?_)
   ·go_simp
    all_goals(try exact⟨rfl,rfl⟩)
   ·obtain⟨rfl,rfl⟩:=h;exact⟨Below.refl _ _,rfl⟩
  ·have h16:a.tmps[16]?.getD undef=.pointer (some ⟨w.heap.size,2,none⟩):=gdt (hop 16 (by simp[Op.operands,Call.operands]))
   have kc:=HKW.out.cell
   unfold lineC at kc
   refine StepOk.mono (R:=fun v W2=>v=.string s1∧W2=W) ?_ (fun v W2 h=>?_)
   ·go_simp
    all_goals(try exact⟨rfl,rfl⟩)
   ·obtain⟨rfl,rfl⟩:=h;exact⟨Below.refl _ _,rfl⟩
  ·have h17:a.tmps[17]?.getD undef=.string s1:=gdt (hop 17 (by simp[Op.operands,Call.operands]))
   obtain⟨u,W2,q1,q2,q3,q4⟩:=str_data W s1 HI.out.2.2.1
   refine stepok_of (u:=u) (W':=W2) ?_ ⟨q2,q3,q4⟩
   ·simp only[execOp]
    refine run_w ?_
    rw[show a.eval (.tmp 17)=.string s1 from(Array.getD_eq_getD_getElem? ..).trans h17]
    exact q1
  ·obtain⟨⟨A,n,c,hv⟩,hd⟩:Kd.ok (.dat (strB s1)) (a.tmps.getD 18 undef) W:=hop 18 (by simp[Op.operands,Call.operands])
   have h18:a.tmps[18]?.getD undef=.slice A n c:=gdt hv
   rw[hv] at hd
   have HDD:=Lib.hid hd
   clear hd hv
   refine StepOk.mono (R:=fun v W2=>v=.agg #[i 3,.slice A n c]∧W2=W) ?_ (fun v W2 h=>?_)
   ·go_simp
    all_goals(try exact⟨rfl,rfl⟩)
   ·obtain⟨rfl,rfl⟩:=h;exact⟨Below.refl _ _,_,rfl,⟨_,_,_,rfl⟩,HDD.out⟩
  ·have h3:a.tmps[3]?.getD undef=.pointer (some ⟨w.heap.size,0,none⟩):=gdt (hop 3 (by simp[Op.operands,Call.operands]))
   refine StepOk.mono (R:=fun v W2=>v=.pointer (some ⟨w.heap.size,3,none⟩)∧W2=W) ?_ (fun v W2 h=>?_)
   ·go_simp
    all_goals(try exact⟨rfl,rfl⟩)
   ·obtain⟨rfl,rfl⟩:=h;exact⟨Below.refl _ _,rfl⟩
  ·have h20:a.tmps[20]?.getD undef=.pointer (some ⟨w.heap.size,3,none⟩):=gdt (hop 20 (by simp[Op.operands,Call.operands]))
   have kc:=HKW.out.cell
   unfold lineC at kc
   refine StepOk.mono (R:=fun v W2=>v=.string s2∧W2=W) ?_ (fun v W2 h=>?_)
   ·go_simp
    all_goals(try exact⟨rfl,rfl⟩)
   ·obtain⟨rfl,rfl⟩:=h;exact⟨Below.refl _ _,rfl⟩
  ·have h21:a.tmps[21]?.getD undef=.string s2:=gdt (hop 21 (by simp[Op.operands,Call.operands]))
   obtain⟨u,W2,q1,q2,q3,q4⟩:=str_data W s2 HI.out.2.2.2.1
   refine stepok_of (u:=u) (W':=W2) ?_ ⟨q2,q3,q4⟩
   ·simp only[execOp]
    refine run_w ?_
    rw[show a.eval (.tmp 21)=.string s2 from(Array.getD_eq_getD_getElem? ..).trans h21]
    exact q1
  ·obtain⟨⟨A,n,c,hv⟩,hd⟩:Kd.ok (.dat (strB s2)) (a.tmps.getD 22 undef) W:=hop 22 (by simp[Op.operands,Call.operands])
   have h22:a.tmps[22]?.getD undef=.slice A n c:=gdt hv
   rw[hv] at hd
   have HDD:=Lib.hid hd
   clear hd hv
   refine StepOk.mono (R:=fun v W2=>v=.agg #[i 4,.slice A n c]∧W2=W) ?_ (fun v W2 h=>?_)
   ·go_simp
    all_goals(try exact⟨rfl,rfl⟩)
   ·obtain⟨rfl,rfl⟩:=h;exact⟨Below.refl _ _,_,rfl,⟨_,_,_,rfl⟩,HDD.out⟩
  ·have h3:a.tmps[3]?.getD undef=.pointer (some ⟨w.heap.size,0,none⟩):=gdt (hop 3 (by simp[Op.operands,Call.operands]))
   refine StepOk.mono (R:=fun v W2=>v=.pointer (some ⟨w.heap.size,4,none⟩)∧W2=W) ?_ (fun v W2 h=>?_)
   ·go_simp
    all_goals(try exact⟨rfl,rfl⟩)
   ·obtain⟨rfl,rfl⟩:=h;exact⟨Below.refl _ _,rfl⟩
  ·have h24:a.tmps[24]?.getD undef=.pointer (some ⟨w.heap.size,4,none⟩):=gdt (hop 24 (by simp[Op.operands,Call.operands]))
   have kc:=HKW.out.cell
   unfold lineC at kc
   refine StepOk.mono (R:=fun v W2=>v=.string s3∧W2=W) ?_ (fun v W2 h=>?_)
   ·go_simp
    all_goals(try exact⟨rfl,rfl⟩)
   ·obtain⟨rfl,rfl⟩:=h;exact⟨Below.refl _ _,rfl⟩
  ·have h25:a.tmps[25]?.getD undef=.string s3:=gdt (hop 25 (by simp[Op.operands,Call.operands]))
   obtain⟨u,W2,q1,q2,q3,q4⟩:=str_data W s3 HI.out.2.2.2.2
   refine stepok_of (u:=u) (W':=W2) ?_ ⟨q2,q3,q4⟩
   ·simp only[execOp]
    refine run_w ?_
    rw[show a.eval (.tmp 25)=.string s3 from(Array.getD_eq_getD_getElem? ..).trans h25]
    exact q1
  ·obtain⟨⟨A,n,c,hv⟩,hd⟩:Kd.ok (.dat (strB s3)) (a.tmps.getD 26 undef) W:=hop 26 (by simp[Op.operands,Call.operands])
   have h26:a.tmps[26]?.getD undef=.slice A n c:=gdt hv
   rw[hv] at hd
   have HDD:=Lib.hid hd
   clear hd hv
   refine StepOk.mono (R:=fun v W2=>v=.agg #[i 5,.slice A n c]∧W2=W) ?_ (fun v W2 h=>?_)
   ·go_simp
    all_goals(try exact⟨rfl,rfl⟩)
   ·obtain⟨rfl,rfl⟩:=h;exact⟨Below.refl _ _,_,rfl,⟨_,_,_,rfl⟩,HDD.out⟩
  ·obtain⟨y0,e0,z0,d0⟩:Kd.ok (.fld 1 (encI sq)) (a.tmps.getD 11 undef) W:=hop 11 (by simp[Op.operands,Call.operands])
   obtain⟨y1,e1,z1,d1⟩:Kd.ok (.fld 2 (encI at_)) (a.tmps.getD 15 undef) W:=hop 15 (by simp[Op.operands,Call.operands])
   obtain⟨y2,e2,z2,d2⟩:Kd.ok (.fld 3 (strB s1)) (a.tmps.getD 19 undef) W:=hop 19 (by simp[Op.operands,Call.operands])
   obtain⟨y3,e3,z3,d3⟩:Kd.ok (.fld 4 (strB s2)) (a.tmps.getD 23 undef) W:=hop 23 (by simp[Op.operands,Call.operands])
   obtain⟨y4,e4,z4,d4⟩:Kd.ok (.fld 5 (strB s3)) (a.tmps.getD 27 undef) W:=hop 27 (by simp[Op.operands,Call.operands])
   refine stepok_of (u:=.slice (some ⟨W.heap.size,0,none⟩) 5 5) (W':=W.alloc (.cells #[i 1,y0,i 2,y1,i 3,y2,i 4,y3,i 5,y4] 188)) ?_ ⟨below_new W _,fls_new W (flds sq at_ s1 s2 s3) [y0,y1,y2,y3,y4] _ rfl rfl (fun j f u q1 q2=>?_) (by simp[flds])⟩
   ·obtain⟨A0,n0,c0,rfl⟩:=z0;obtain⟨A1,n1,c1,rfl⟩:=z1;obtain⟨A2,n2,c2,rfl⟩:=z2;obtain⟨A3,n3,c3,rfl⟩:=z3;obtain⟨A4,n4,c4,rfl⟩:=z4
    have h11:a.tmps[11]?.getD undef=_:=gdt e0
    have h15:a.tmps[15]?.getD undef=_:=gdt e1
    have h19:a.tmps[19]?.getD undef=_:=gdt e2
    have h23:a.tmps[23]?.getD undef=_:=gdt e3
    have h27:a.tmps[27]?.getD undef=_:=gdt e4
    clear HKB HB0 HKW HW HI HOK d0 d1 d2 d3 d4
    go_simp
   ·match j,q1,q2 with
    | 0,q1,q2=>cases q1;cases q2;exact⟨z0,d0⟩
    | 1,q1,q2=>cases q1;cases q2;exact⟨z1,d1⟩
    | 2,q1,q2=>cases q1;cases q2;exact⟨z2,d2⟩
    | 3,q1,q2=>cases q1;cases q2;exact⟨z3,d3⟩
    | 4,q1,q2=>cases q1;cases q2;exact⟨z4,d4⟩
    | j+5,q1,q2=>simp at q2
  ·have ho:OwnF 0 W (a.tmps.getD 28 undef) (flds sq at_ s1 s2 s3):=hop 28 (by simp[Op.operands,Call.operands])
   have h28:a.tmps[28]?.getD undef=a.tmps.getD 28 undef:=(Array.getD_eq_getD_getElem? ..).symm
   have HP:=Lib.hid (put _ _ W (Own.at_ ho (by omega)) HOK.out)
   generalize a.tmps.getD 28 undef=v28 at *
   clear ho
   refine StepOk.mono (R:=fun v W2=>∃y,v=.tuple #[y,i 0]∧OwnB W.heap.size W2 y (putF (flds sq at_ s1 s2 s3))∧Below W.heap.size W W2) ?_ (fun v W2 h=>?_)
   ·go_simp
    refine HP.out.mono ?_
    rintro e W2 ⟨u,rfl,hu,hb⟩
    exact⟨_,rfl,u,rfl,hu,hb⟩
   ·obtain⟨y,rfl,hu,hb⟩:=h;exact⟨hb,y,rfl,OwnB.isSl hu,Data.of hu⟩
  ·have hk:Kd.ok (.tup (flds sq at_ s1 s2 s3)) (a.tmps.getD 29 undef) W:=hop 29 (by simp[Op.operands,Call.operands])
   refine StepOk.mono (R:=fun v W2=>v=a.tmps.getD 29 undef∧W2=W) ?_ (fun v W2 h=>?_)
   ·go_simp
    all_goals(try exact⟨rfl,rfl⟩)
   ·obtain⟨rfl,rfl⟩:=h;exact⟨Below.refl _ _,hk⟩
  ·obtain⟨y,e0,z0,d0⟩:Kd.ok (.tup (flds sq at_ s1 s2 s3)) (a.tmps.getD 7 undef) W:=hop 7 (by simp[Op.operands,Call.operands])
   have h7:a.tmps[7]?.getD undef=.tuple #[y,i 0]:=gdt e0
   have HZ:=Lib.hid (And.intro z0 d0)
   clear z0 d0 e0
   refine StepOk.mono (R:=fun v W2=>v=y∧W2=W) ?_ (fun v W2 h=>?_)
   ·go_simp
    all_goals(try exact⟨rfl,rfl⟩)
   ·obtain⟨rfl,rfl⟩:=h;exact⟨Below.refl _ _,HZ.out⟩
  ·obtain⟨y,e0,z0,d0⟩:Kd.ok (.tup (flds sq at_ s1 s2 s3)) (a.tmps.getD 7 undef) W:=hop 7 (by simp[Op.operands,Call.operands])
   have h7:a.tmps[7]?.getD undef=.tuple #[y,i 0]:=gdt e0
   have HZ:=Lib.hid (And.intro z0 d0)
   clear z0 d0 e0
   refine StepOk.mono (R:=fun v W2=>v=i 0∧W2=W) ?_ (fun v W2 h=>?_)
   ·go_simp
    all_goals(try exact⟨rfl,rfl⟩)
   ·obtain⟨rfl,rfl⟩:=h;exact⟨Below.refl _ _,rfl⟩
  ·have hk:Kd.ok (.dat (putF (flds sq at_ s1 s2 s3))) (a.tmps.getD 30 undef) W:=hop 30 (by simp[Op.operands,Call.operands])
   refine StepOk.mono (R:=fun v W2=>v=a.tmps.getD 30 undef∧W2=W) ?_ (fun v W2 h=>?_)
   ·go_simp
    all_goals(try exact⟨rfl,rfl⟩)
   ·obtain⟨rfl,rfl⟩:=h;exact⟨Below.refl _ _,hk⟩
  ·have hk:Kd.ok (.val (i 0)) (a.tmps.getD 31 undef) W:=hop 31 (by simp[Op.operands,Call.operands])
   refine StepOk.mono (R:=fun v W2=>v=a.tmps.getD 31 undef∧W2=W) ?_ (fun v W2 h=>?_)
   ·go_simp
    all_goals(try exact⟨rfl,rfl⟩)
   ·obtain⟨rfl,rfl⟩:=h;exact⟨Below.refl _ _,hk⟩
 ·intro vals W hG hv
  obtain⟨⟨A,n,c,e25⟩,d25⟩:Kd.ok (.dat (putF (flds sq at_ s1 s2 s3))) (vals 25) W:=hv 25 (by omega)
  have e26:vals 26=i 0:=hv 26 (by omega)
  rw[e25] at d25
  clear hv
  simp only[Reg4.puts,Reg4.dstOf,List.range,List.range.loop,if_true,List.drop_succ_cons,List.drop_zero,e25,e26]
  clear e25 e26
  generalize vals 0=v0
  generalize vals 1=v1
  generalize vals 2=v2
  generalize vals 3=v3
  generalize vals 4=v4
  generalize vals 5=v5
  generalize vals 6=v6
  generalize vals 7=v7
  generalize vals 8=v8
  generalize vals 9=v9
  generalize vals 10=v10
  generalize vals 11=v11
  generalize vals 12=v12
  generalize vals 13=v13
  generalize vals 14=v14
  generalize vals 15=v15
  generalize vals 16=v16
  generalize vals 17=v17
  generalize vals 18=v18
  generalize vals 19=v19
  generalize vals 20=v20
  generalize vals 21=v21
  generalize vals 22=v22
  generalize vals 23=v23
  generalize vals 24=v24
  simp[Act.put]
  obtain⟨A',c',e,_,_⟩:=id d25
  injection e with e1 e2 e3
  subst e2
  have hln:(putF (flds sq at_ s1 s2 s3)).length≤1000000000:=by have:=putF_len HOK.out;rw[show(flds sq at_ s1 s2 s3).length=5 from rfl] at this;omega
  have HC:=Lib.hid (SipW.chain_ pv A _ c _ W d25 hln)
  have HS:Hid (jb pv sq at_ s1 s2 s3=Sip.sum pv (putF (flds sq at_ s1 s2 s3))):=Lib.hid rfl
  have HB1:=Lib.hid (below_call HB0.out hG)
  clear d25 hln hG e1 e3
  generalize putF (flds sq at_ s1 s2 s3)=bs at *
  go_wp2_with fail
  refine HC.out.mono ?_
  rintro e W2 ⟨rfl,hb⟩
  have HB2:=Lib.hid (below_call HB1.out hb.out)
  go_wp2_with fail
  go_ret
  exact⟨by rw[HS.out];rfl,HB2⟩
end EncW
namespace EncW
open Go.RowKit MonW Enc
theorem OwnF.call'{base:Nat}{w w':World}{v:Value}{l:List Fld}(h:OwnF base w v l)(hb:Below w.heap.size w w'):OwnF base w' v l:=
 Own.mono (Own.call h hb) (FldR.keep (row:=none) ⟨hb.os,hb.tape,hb.output,hb.size,fun k hk _=>hb.block k hk⟩ (fun k hk=>by cases hk))
theorem wpList_fld{P:Program}{ops:Array Oper}{rest:List Oper}{o:Oper}{a:Act}{w:World}{Q:Exit→Act→World→Prop}(hgd:o.guard=none)(s x:Operand)(t:TypeId)
  (ho:o.op=.call { callee:=.builtin .append,args:=#[s,x],argTypes:=#[t,t] })
  (i0:TypeInfo) (z:Value) (ht:P.underlying t=some (.slice 188)) (hi:P.info? 188=some i0) (hz:i0.zero=some z)
  (hsize:i0.size=2) (hby:i0.bytes=32) (hzs:z.cells.size=2)
  (base:Nat) (v:Value) (l:List Fld) (hs:a.eval s=v) (hown:OwnF base w v l) (g:Nat) (tag:Int) (xs:List Int) (u:Value) (tt:TypeId) (hx:a.eval x=.slice (some ⟨g,0,none⟩) 1 1)
  (hblk:Blk w g tt #[i tag,u]) (hd:Data w u xs) (hsl:IsSl u) (hn:l.length≤1000) (hbase:base≤w.heap.size)
  (h:∀v' w',OwnF base w' v' (l++[⟨tag,xs⟩])→Below base w w'→IsSl v'→wpList P ops Q rest (a.put o.dst v') w'):wpList P ops Q (o::rest) a w:=by
 have hR:FldR w (#[i tag,u]:Array Value).toList ⟨tag,xs⟩:=⟨u,rfl,hd,hsl⟩
 refine wpList_grow hgd s x t ho i0 z 32 ht hi hz hsize hby hzs (by omega) hs hown g ⟨tag,xs⟩ _ tt hx hblk rfl hR (one_fld _ _ _ hR) (by omega) (by omega) hbase ?_
 intro v' w' ho' hg hb hs'
 refine h v' w' (Own.mono ho' (FldR.keep hg (fun k hk=>?_))) hb hs'
 obtain⟨cs,fz,hh⟩:=OwnF.row hown k hk
 exact⟨cs,_,fz,hh,by decide⟩
theorem flds_take(sq at_:Int)(s1 s2 s3:ByteArray)(k:Nat)(f:Fld)(h:(flds sq at_ s1 s2 s3)[k]? = some f):(flds sq at_ s1 s2 s3).take (k+1)=(flds sq at_ s1 s2 s3).take k++[f]:=by
 obtain⟨hk,e⟩:=List.getElem?_eq_some_iff.1 h
 rw[List.take_succ_eq_append_getElem hk,e]
set_option maxRecDepth 100000 in
set_option maxHeartbeats 4000000 in
theorem content_(sq at_:Int)(s1 s2 s3:ByteArray)(sm:Int)(w:World)(h1:I64 sq)(h2:I64 at_)(k1:s1.size≤50000)(k2:s2.size≤50000)(k3:s3.size≤50000) :
  Calls Tryz.prog 103 #[.agg (lineC sq at_ s1 s2 s3 sm)] w fun e w'=>∃A c,e=.returned (.slice A (putF (flds sq at_ s1 s2 s3)).length c)∧Data w' (.slice A (putF (flds sq at_ s1 s2 s3)).length c) (putF (flds sq at_ s1 s2 s3))∧Hid (Below w.heap.size w w'):=by
 have HOK:=Lib.hid (flds_ok h1 h2 k1 k2 k3)
 have HI:=Lib.hid (And.intro h1 (And.intro h2 (And.intro k1 (And.intro k2 k3))))
 clear h1 h2 k1 k2 k3
 obtain⟨i0,hi0,hz0,hz1,hz2⟩:=info_parts infoF
 have HK0:=Lib.hid (Blk.new w 69 (lineC sq at_ s1 s2 s3 sm))
 have HB0:=Lib.hid (below_alloc (Below.refl w.heap.size w) (.cells (lineC sq at_ s1 s2 s3 sm) 69))
 have HS0:Hid ((w.alloc (.cells (lineC sq at_ s1 s2 s3 sm) 69)).heap.size=w.heap.size+1):=by show _=_;simp
 have kc:=HK0.out.cell
 have HP:=Lib.hid (rputInt sq (w.alloc (.cells (lineC sq at_ s1 s2 s3 sm) 69)) HI.out.1)
 unfold lineC at *
 go_enter Tryz.func103,Tryz.ntmps103
 generalize hw1:w.alloc (.cells #[i sq,i at_,.string s1,.string s2,.string s3,.int .u64 sm] 69)=w1 at *
 have e1:w.alloc (.cells #[i sq,i at_,.string s1,.string s2,.string s3,.int .u64 sm] 69)=w1:=hw1
 clear hw1
 go_wp2_with fail
 try rw[e1]
 clear kc e1
 have HO:Hid (OwnF w1.heap.size w1 (.slice none 0 0) ((flds sq at_ s1 s2 s3).take 0)):=Own.nil
 have HB:=Lib.hid (Below.refl w1.heap.size w1)
 obtain⟨A0,n0,c0,hN⟩:∃(A0:Option Addr) (n0 c0:Nat),(Value.slice none 0 0)=.slice A0 n0 c0:=⟨_,_,_,rfl⟩
 rw[hN] at HO ⊢
 clear hN
 refine HP.out.mono ?_
 rintro e y0 ⟨u,rfl,hu,hbb⟩
 obtain⟨DA0,dn0,dc0,rfl⟩:=OwnB.isSl hu
 have HD:=Lib.hid (Data.of hu)
 clear hu
 have HO1:Hid (OwnF w1.heap.size (y0.alloc (.cells #[i 1,.slice DA0 dn0 dc0] 188)) (.slice A0 n0 c0) ((flds sq at_ s1 s2 s3).take 0)):=OwnF.call' (OwnF.call' HO.out hbb) (below_new _ _)
 have HB1:=Lib.hid (below_alloc (below_call HB.out hbb) (.cells #[i 1,.slice DA0 dn0 dc0] 188))
 have HD1:=Lib.hid (HD.out.call (below_new y0 (.cells #[i 1,.slice DA0 dn0 dc0] 188)))
 clear hbb HO HB HD
 go_wp2_with (at_builtin;refine wpList_fld rfl (.tmp 6) (.tmp 11) 189 rfl i0 _ Tryz.underlying189 hi0 hz0 hz1 hz2 rfl w1.heap.size _ _ rfl HO1.out y0.heap.size 1 (encI sq) _ 188 rfl (Blk.new _ _ _) HD1.out ⟨_,_,_,rfl⟩ (by simp[flds]) HB1.out.size ?_)
 rintro v' x1 hown hbel ⟨A1,n1,c1,rfl⟩
 have HO:Hid (OwnF w1.heap.size x1 (.slice A1 n1 c1) ((flds sq at_ s1 s2 s3).take 1)):=by
  show OwnF _ _ _ _
  rw[flds_take _ _ _ _ _ 0 _ rfl];exact hown
 have HB:=Lib.hid (HB1.out.trans hbel)
 clear hown hbel HO1 HB1 HD1
 clear HP
 have HP:=Lib.hid (rputInt at_ x1 HI.out.2.1)
 have kc:=(HK0.out.call HB.out).cell 1
 simp at kc
 go_wp2_with fail
 refine HP.out.mono ?_
 rintro e y1 ⟨u,rfl,hu,hbb⟩
 obtain⟨DA1,dn1,dc1,rfl⟩:=OwnB.isSl hu
 have HD:=Lib.hid (Data.of hu)
 clear hu
 have HO1:Hid (OwnF w1.heap.size (y1.alloc (.cells #[i 2,.slice DA1 dn1 dc1] 188)) (.slice A1 n1 c1) ((flds sq at_ s1 s2 s3).take 1)):=OwnF.call' (OwnF.call' HO.out hbb) (below_new _ _)
 have HB1:=Lib.hid (below_alloc (below_call HB.out hbb) (.cells #[i 2,.slice DA1 dn1 dc1] 188))
 have HD1:=Lib.hid (HD.out.call (below_new y1 (.cells #[i 2,.slice DA1 dn1 dc1] 188)))
 clear hbb HO HB HD
 go_wp2_with (at_builtin;refine wpList_fld rfl (.tmp 13) (.tmp 18) 189 rfl i0 _ Tryz.underlying189 hi0 hz0 hz1 hz2 rfl w1.heap.size _ _ rfl HO1.out y1.heap.size 2 (encI at_) _ 188 rfl (Blk.new _ _ _) HD1.out ⟨_,_,_,rfl⟩ (by simp[flds]) HB1.out.size ?_)
 rintro v' x2 hown hbel ⟨A2,n2,c2,rfl⟩
 have HO:Hid (OwnF w1.heap.size x2 (.slice A2 n2 c2) ((flds sq at_ s1 s2 s3).take 2)):=by
  show OwnF _ _ _ _
  rw[flds_take _ _ _ _ _ 1 _ rfl];exact hown
 have HB:=Lib.hid (HB1.out.trans hbel)
 clear hown hbel HO1 HB1 HD1
 clear kc
 clear HP
 obtain⟨u2,y2,hcv,hbb,hsl2,hd2⟩:=str_data x2 s1 HI.out.2.2.1
 obtain⟨DA2,dn2,dc2,rfl⟩:=hsl2
 have HD:=Lib.hid hd2
 clear hd2
 have kc:=(HK0.out.call HB.out).cell 2
 simp at kc
 have HO1:Hid (OwnF w1.heap.size (y2.alloc (.cells #[i 3,.slice DA2 dn2 dc2] 188)) (.slice A2 n2 c2) ((flds sq at_ s1 s2 s3).take 2)):=OwnF.call' (OwnF.call' HO.out hbb) (below_new _ _)
 have HB1:=Lib.hid (below_alloc (below_call HB.out hbb) (.cells #[i 3,.slice DA2 dn2 dc2] 188))
 have HD1:=Lib.hid (HD.out.call (below_new y2 (.cells #[i 3,.slice DA2 dn2 dc2] 188)))
 clear hbb HO HB HD
 go_wp2_with (at_builtin;refine wpList_fld rfl (.tmp 20) (.tmp 25) 189 rfl i0 _ Tryz.underlying189 hi0 hz0 hz1 hz2 rfl w1.heap.size _ _ rfl HO1.out y2.heap.size 3 (strB s1) _ 188 rfl (Blk.new _ _ _) HD1.out ⟨_,_,_,rfl⟩ (by simp[flds]) HB1.out.size ?_)
 rintro v' x3 hown hbel ⟨A3,n3,c3,rfl⟩
 have HO:Hid (OwnF w1.heap.size x3 (.slice A3 n3 c3) ((flds sq at_ s1 s2 s3).take 3)):=by
  show OwnF _ _ _ _
  rw[flds_take _ _ _ _ _ 2 _ rfl];exact hown
 have HB:=Lib.hid (HB1.out.trans hbel)
 clear hown hbel HO1 HB1 HD1
 clear kc
 clear hcv
 obtain⟨u3,y3,hcv,hbb,hsl3,hd3⟩:=str_data x3 s2 HI.out.2.2.2.1
 obtain⟨DA3,dn3,dc3,rfl⟩:=hsl3
 have HD:=Lib.hid hd3
 clear hd3
 have kc:=(HK0.out.call HB.out).cell 3
 simp at kc
 have HO1:Hid (OwnF w1.heap.size (y3.alloc (.cells #[i 4,.slice DA3 dn3 dc3] 188)) (.slice A3 n3 c3) ((flds sq at_ s1 s2 s3).take 3)):=OwnF.call' (OwnF.call' HO.out hbb) (below_new _ _)
 have HB1:=Lib.hid (below_alloc (below_call HB.out hbb) (.cells #[i 4,.slice DA3 dn3 dc3] 188))
 have HD1:=Lib.hid (HD.out.call (below_new y3 (.cells #[i 4,.slice DA3 dn3 dc3] 188)))
 clear hbb HO HB HD
 go_wp2_with (at_builtin;refine wpList_fld rfl (.tmp 27) (.tmp 32) 189 rfl i0 _ Tryz.underlying189 hi0 hz0 hz1 hz2 rfl w1.heap.size _ _ rfl HO1.out y3.heap.size 4 (strB s2) _ 188 rfl (Blk.new _ _ _) HD1.out ⟨_,_,_,rfl⟩ (by simp[flds]) HB1.out.size ?_)
 rintro v' x4 hown hbel ⟨A4,n4,c4,rfl⟩
 have HO:Hid (OwnF w1.heap.size x4 (.slice A4 n4 c4) ((flds sq at_ s1 s2 s3).take 4)):=by
  show OwnF _ _ _ _
  rw[flds_take _ _ _ _ _ 3 _ rfl];exact hown
 have HB:=Lib.hid (HB1.out.trans hbel)
 clear hown hbel HO1 HB1 HD1
 clear kc
 clear hcv
 obtain⟨u4,y4,hcv,hbb,hsl4,hd4⟩:=str_data x4 s3 HI.out.2.2.2.2
 obtain⟨DA4,dn4,dc4,rfl⟩:=hsl4
 have HD:=Lib.hid hd4
 clear hd4
 have kc:=(HK0.out.call HB.out).cell 4
 simp at kc
 have HO1:Hid (OwnF w1.heap.size (y4.alloc (.cells #[i 5,.slice DA4 dn4 dc4] 188)) (.slice A4 n4 c4) ((flds sq at_ s1 s2 s3).take 4)):=OwnF.call' (OwnF.call' HO.out hbb) (below_new _ _)
 have HB1:=Lib.hid (below_alloc (below_call HB.out hbb) (.cells #[i 5,.slice DA4 dn4 dc4] 188))
 have HD1:=Lib.hid (HD.out.call (below_new y4 (.cells #[i 5,.slice DA4 dn4 dc4] 188)))
 clear hbb HO HB HD
 go_wp2_with (at_builtin;refine wpList_fld rfl (.tmp 34) (.tmp 39) 189 rfl i0 _ Tryz.underlying189 hi0 hz0 hz1 hz2 rfl w1.heap.size _ _ rfl HO1.out y4.heap.size 5 (strB s3) _ 188 rfl (Blk.new _ _ _) HD1.out ⟨_,_,_,rfl⟩ (by simp[flds]) HB1.out.size ?_)
 rintro v' x5 hown hbel ⟨A5,n5,c5,rfl⟩
 have HO:Hid (OwnF w1.heap.size x5 (.slice A5 n5 c5) ((flds sq at_ s1 s2 s3).take 5)):=by
  show OwnF _ _ _ _
  rw[flds_take _ _ _ _ _ 4 _ rfl];exact hown
 have HB:=Lib.hid (HB1.out.trans hbel)
 clear hown hbel HO1 HB1 HD1
 clear kc
 clear hcv
 have HOF:Hid (OwnF w1.heap.size x5 (.slice A5 n5 c5) (flds sq at_ s1 s2 s3)):=HO.out
 have HP:=Lib.hid (rput _ _ x5 (Own.at_ HOF.out (by omega)) HOK.out)
 clear HO
 go_wp2_with fail
 refine HP.out.mono ?_
 rintro e x6 ⟨u,rfl,hu,hb6⟩
 have HD:=Lib.hid (Data.of hu)
 obtain⟨A6,c6,rfl⟩:=Data.slice HD.out
 have HB6:Hid (Below w.heap.size w x6):=HB0.out.trans ((below_call HB.out hb6).mono (by rw[HS0.out];omega))
 clear hu hb6
 go_wp2_with fail
 go_ret
 exact⟨_,_,rfl,HD.out,HB6⟩
end EncW
end Go.Proofs.YtmadfhgiaonnlaaGreatDoor
