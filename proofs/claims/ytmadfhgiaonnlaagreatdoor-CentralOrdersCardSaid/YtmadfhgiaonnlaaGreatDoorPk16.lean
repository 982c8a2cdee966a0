import Derived.Test.YtmadfhgiaonnlaaGreatDoorPk15
set_option linter.unusedVariables false
set_option linter.unusedSimpArgs false
namespace Go.Proofs.YtmadfhgiaonnlaaGreatDoor
namespace Sy
open Go.RowKit
section
variable{W0:World}{T:Nat→Prop}{w:World}
abbrev accA (a b:ByteArray):Array Value:=#[.string a,.string b]
def StrA(cs:Array Value):Prop:=∀u∈cs.toList,∃s:ByteArray,u=.string s∧s.size≤maxLen
theorem StrA.app{a b:Array Value}(h:StrA a)(k:StrA b):StrA (a++b):=fun u hu=>by
 rw[Array.toList_append,List.mem_append] at hu
 rcases hu with hu|hu
 ·exact h u hu
 ·exact k u hu
theorem StrA.one{s:ByteArray}(h:s.size≤maxLen):StrA [Value.string s].toArray:=fun u hu=>by
 obtain rfl:u=.string s:=by simpa using hu
 exact⟨s,rfl,h⟩
theorem StrA.zero(k:Nat):StrA (Builtin.zeroCells (Value.string ⟨#[]⟩).cells k):=fun u hu=>by
 rw[zeroCells_eq] at hu
 simp only[Array.toList_map,List.mem_map,Array.mem_toList_iff] at hu
 obtain⟨x,-,rfl⟩:=hu
 refine⟨⟨#[]⟩,?_,by decide⟩
 have:(Value.string ⟨#[]⟩).cells.size=1:=rfl
 rw[this,Nat.mod_one]
 rfl
theorem StrA.sub{a:Array Value}{l:List Value}(h:StrA a)(hl:∀u∈l,u∈a.toList):StrA l.toArray:=fun u hu=>h u (hl u (by simpa using hu))
def StrL(base:Nat)(w:World)(v:Value)(n:Nat):Prop:=(v=.slice none 0 0∧n=0) ∨
 ∃g c cur,v=.slice (some ⟨g,0,none⟩) n c∧base≤g∧YtmadfhgiaonnlaaGreatDoor.Blk w g 9 cur∧n≤c∧c≤maxLen∧cur.size=c∧StrA cur
theorem StrL.isSl{base n:Nat}{w:World}{v:Value}(h:StrL base w v n):∃A c,v=.slice A n c:=by
 rcases h with⟨rfl,rfl⟩|⟨g,c,cur,rfl,-⟩<;>exact⟨_,_,rfl⟩
theorem StrL.call{base n:Nat}{w w':World}{v:Value}(h:StrL base w v n)(hb:Below w.heap.size w w'):StrL base w' v n:=by
 rcases h with h|⟨g,c,cur,h1,h2,h3,h4⟩
 ·exact .inl h
 ·exact .inr ⟨g,c,cur,h1,h2,h3.call hb,h4⟩
theorem infoStr:(Tryz.prog.info? 9).map (fun i=>(i.zero,i.size,i.bytes))=some (some (.string ⟨#[]⟩),1,16):=by kernel_rfl
theorem below_grown{base:Nat}{w w':World}{v:Value}(hg:w.grownBy w' v.ownBlock)(hb:base≤w.heap.size)(h:∀k,v.ownBlock=some k→base≤k):Below base w w':=(Below.refl _ _).grown hg hb h
theorem append_str{base n g:Nat}{w:World}{v:Value}{s:ByteArray}{ty:TypeId}(h:StrL base w v n)(hn:n≤8192)(hs:s.size≤maxLen)(hx:YtmadfhgiaonnlaaGreatDoor.Blk w g 9 #[.string s])(hb:base≤w.heap.size) :
  ∃v' w',(Builtin.append_ #[202,202] ty #[v,.slice (some ⟨g,0,none⟩) 1 1]).run Tryz.prog w=.ok v' w'∧StrL base w' v' (n+1)∧Below base w w'∧w.grownBy w' v.ownBlock:=by
 have hml:maxLen=9223372036854775807:=by decide
 obtain⟨i0,hi0,hz0,hz1,hz2⟩:=Stn.info_parts infoStr
 have hnews:∀(j:Nat) (u:Value),([Value.string s]:List Value)[j]? = some u→w.cell? ((⟨g,0,none⟩:Addr).add j)=some u:=fun j u hu=>by
  match j,hu with
  | 0,hu=>cases hu;rw[Addr.add_lit];simpa using hx.cell 0
  | j+1,hu=>simp at hu
 have hone:∀u∈([Value.string s]:List Value),u.oneCell'=true:=fun u hu=>by
  obtain rfl:u=.string s:=by simpa using hu
  rfl
 rcases h with⟨rfl,rfl⟩|⟨gv,c,cur,rfl,h2,h3,h4,h5,h6,h7⟩
 ·have hr:=run_append_nil (P:=Tryz.prog) w 202 ty 9 i0 (.string ⟨#[]⟩) Tryz.underlying202 hi0 hz0 ⟨g,0,none⟩ 1 1 [.string s] (by rw[hz1];rfl) hnews (by omega) (by omega) (by rw[hz2];omega)
  have g1:=grownCap_ge w 1 0 9
  have g2:=grownCap_le_maxLen w 1 0 9 (by omega)
  have hg:w.grownBy (w.drew.alloc (.cells ([Value.string s].toArray++Builtin.zeroCells (Value.string ⟨#[]⟩).cells (grownCap w 1 0 9-1)) 9)) none:=⟨rfl,rfl,rfl,by simp,fun k hk _=>Below.heap_alloc w.drew _ _ hk⟩
  refine⟨_,_,hr,.inr ⟨_,_,_,rfl,hb,World.alloc_heap_new w.drew _,g1,g2,?_,StrA.app (StrA.one hs) (StrA.zero _)⟩,below_grown (v:=.slice none 0 0) hg hb (fun k hk=>by cases hk),hg⟩
  rw[Array.size_append,size_zeroCells]
  show 1+_*1=_
  omega
 ·by_cases hroom:n+1≤c
  ·have hr:=run_append_room (P:=Tryz.prog) w 202 ty 9 i0 Tryz.underlying202 hi0 gv n c cur h3 ⟨g,0,none⟩ 1 1 [.string s] (by rw[hz1];rfl) hnews hone hroom (by rw[hz1];simp;omega)
   rw[hz1,Nat.mul_one] at hr
   have hg:∀cs,w.grownBy (w.setRow gv cs) (some gv):=fun cs=>⟨rfl,rfl,rfl,by simp,fun k _ hk=>setRow_other w gv k _ (fun e=>hk (by simp[e]))⟩
   refine⟨_,_,hr,.inr ⟨_,_,_,rfl,h2,setRow_heap w gv cur _ 9 _ h3,hroom,h5,?_,?_⟩,below_grown (v:=.slice (some ⟨gv,0,none⟩) n c) (hg _) hb (fun k hk=>by obtain rfl:=oi hk;exact h2),hg _⟩
   ·simp only[List.size_toArray,List.length_append,List.length_take,List.length_drop,Array.length_toList,List.length_cons,List.length_nil]
    omega
   ·intro u hu
    simp only[List.mem_append] at hu
    rcases hu with(hu|hu)|hu
    ·exact h7 u (List.mem_of_mem_take hu)
    ·obtain rfl:u=.string s:=by simpa using hu
     exact⟨s,rfl,hs⟩
    ·exact h7 u (List.mem_of_mem_drop hu)
  ·have hr:=run_append_grow (P:=Tryz.prog) w 202 ty 9 i0 (.string ⟨#[]⟩) Tryz.underlying202 hi0 hz0 ⟨gv,0,none⟩ n c (cur.toList.take n) (by rw[hz1];simp;omega) (fun j u hu=>by
    rw[List.getElem?_take] at hu
    split at hu
    ·rw[Addr.add_lit,Nat.zero_add,h3.cell j];simpa using hu
    ·cases hu) ⟨g,0,none⟩ 1 1 [.string s] (by rw[hz1];rfl) hnews (by omega) (by omega) (growslice_fits (need:=n+1) (old:=c) (bytes:=i0.bytes) (by omega) (by rw[hz2];omega))
   have g1:=grownCap_ge w (n+1) c 9
   have g2:=grownCap_le_maxLen w (n+1) c 9 (by omega)
   have hg:∀cs row,w.grownBy (w.drew.alloc (.cells cs 9)) row:=fun cs row=>⟨rfl,rfl,rfl,by simp,fun k hk _=>Below.heap_alloc w.drew _ _ hk⟩
   refine⟨_,_,hr,.inr ⟨_,_,_,rfl,hb,World.alloc_heap_new w.drew _,g1,g2,?_,StrA.app (StrA.app (StrA.sub h7 (fun u hu=>List.mem_of_mem_take hu)) (StrA.one hs)) (StrA.zero _)⟩,below_grown (v:=.slice none 0 0) (hg _ _) hb (fun k hk=>by cases hk),hg _ _⟩
   simp only[Array.size_append,size_zeroCells,List.size_toArray,List.length_take,Array.length_toList,List.length_cons,List.length_nil]
   show _+_*1=_
   omega
theorem wpList_appS{ops:Array Oper}{rest:List Oper}{o:Oper}{a:Act}{w:World}{Q:Exit→Act→World→Prop}(hgd:o.guard=none)(x y:Operand)
  (ho:o.op=.call { callee:=.builtin .append,args:=#[x,y],argTypes:=#[202,202] }) {base n g:Nat} {v:Value} {s:ByteArray} (hxe:a.eval x=v) (hye:a.eval y=.slice (some ⟨g,0,none⟩) 1 1)
  (h:StrL base w v n) (hn:n≤8192) (hs:s.size≤maxLen) (hx:YtmadfhgiaonnlaaGreatDoor.Blk w g 9 #[.string s]) (hb:base≤w.heap.size)
  (hK:∀v' w',StrL base w' v' (n+1)→Below base w w'→w.grownBy w' v.ownBlock→wpList Tryz.prog ops Q rest (a.put o.dst v') w'):wpList Tryz.prog ops Q (o::rest) a w:=by
 obtain⟨v',w',hr,h1,h2,h3⟩:=append_str (ty:=o.type) h hn hs hx hb
 refine wpList_plain hgd fun K hK'=>?_
 unfold Oper.wp
 simp[execOp,ho,resolve,invoke,builtin,hxe,hye,hr,Result.andThen]
 exact hK' _ _ (hK v' w' h1 h2 h3)
theorem StrL.ne{base n r:Nat}{w:World}{v:Value}{o:Obj}(h:StrL base w v n)(ho:w.heap[r]? = some o)(hne:∀cs fr,o≠.cells cs 9 fr):some r≠v.ownBlock:=by
 intro e
 rcases h with⟨rfl,-⟩|⟨g,c,cur,rfl,h2,h3,-⟩
 ·simp[Value.ownBlock] at e
 ·obtain rfl:r=g:=by simpa[Value.ownBlock] using e
  rw[show w.heap[r]? = _ from h3] at ho
  cases ho
  exact hne _ _ rfl
theorem ev_strs{s0 s1:ByteArray}{n2 n3 n4 n5:Int}{s6:ByteArray}{b7:Bool}{n8:Int}{v:Value}(h:xq cx.tb W0 T w 95 (.agg (evA s0 s1 n2 n3 n4 n5 s6 b7 n8 v))):s0.size≤maxLen∧s1.size≤maxLen∧s6.size≤maxLen:=by
 have hfl:cx.tb.flat 95=some [.str maxLen,.str maxLen,full .i64,full .i64,full .i64,full .i64,.str maxLen,.bool,full .i64,.sl 0 156 1024]:=rfl
 rcases h with⟨cs,e,hs,hk⟩|⟨ct,h1,-⟩
 ·cases e
  rw[hfl] at hk
  obtain⟨x0,e0,s,rfl,q0⟩:=hk 0 _ rfl
  obtain⟨x1,e1,s,rfl,q1⟩:=hk 1 _ rfl
  obtain⟨x2,e2,m,rfl,q2⟩:=hk 6 _ rfl
  cases e0;cases e1;cases e2
  exact⟨q0,q1,q2⟩
 ·rw[hfl] at h1;cases h1
theorem acc_plain{s0 s1:ByteArray}(h0:s0.size≤maxLen)(h1:s1.size≤maxLen):xq cx.tb W0 T w 205 (.agg (accA s0 s1)):=by
 have hfk:cx.tb.flat 205=some [.str maxLen,.str maxLen]:=rfl
 refine .inl ⟨_,rfl,rfl,fun k ct hk=>?_⟩
 rw[hfk] at hk
 have hk:([.str maxLen,.str maxLen]:List CT)[k]? = some ct:=hk
 match k,hk with
 | 0,hk=>cases hk;exact⟨_,rfl,s0,rfl,h0⟩
 | 1,hk=>cases hk;exact⟨_,rfl,s1,rfl,h1⟩
 | k+2,hk=>simp at hk
def AccM(W0:World)(T:Nat→Prop)(w1:World)(es:Array MapEntry):Prop:=∀e∈es.toList,xq cx.tb W0 T w1 205 e.key∧∃q,e.val=.bool q
theorem updAcc(r:Nat){es:Array MapEntry}{c:Nat}{w w1:World}{key:Value}{q:Bool}(hk:xq cx.tb W0 T w1 205 key)(hb:w.heap[r]? = some (.map es c))(hes:AccM W0 T w1 es) :
  ∃k es' c',(Instr.mapUpdate 222 (.map (some r)) key (.bool q)).run Tryz.prog w=.ok () (y7 (w.drewN k) r (.map es' c'))∧AccM W0 T w1 es':=by
 have hf:cx.tb.flat 205=some [.str maxLen,.str maxLen]:=rfl
 have hm:Tryz.prog.underlying 222=some (.map 205 4):=by kernel_rfl
 have hks:leafs cx 30 205=some [.str,.str]:=by kernel_rfl
 have hd:tdOf cx 205=some td205:=by kernel_rfl
 have hag:td205.k.agg=true:=rfl
 have hx:=uj (ks:=[.str,.str]) hag hf (by decide) (by kernel_rfl) hk
 have hck:=checkKey_ok (P:=Tryz.prog) (w:=w) cxOk false 30 205 _ td205 hks hd 10000 _ (by omega) hx
 obtain⟨res,hr1,hr2⟩:=findKey_ok (w:=w) cxOk (by decide) hks hd hx es.toList (fun e he=>uj (ks:=[.str,.str]) hag hf (by decide) (by kernel_rfl) (hes e he).1)
 have hgo:(getObj r).run Tryz.prog w=.ok (.map es c) w:=Go.MapKept.run_getObj_map hb
 have hset:∀k o,(setObj r o).run Tryz.prog (w.drewN k)=.ok () (y7 (w.drewN k) r o):=fun k o=>Go.MapKept.run_setObj_map o (w:=w.drewN k) hb
 cases res with
 | none=>
   refine⟨0,es.push { key,val:=.bool q,born:=c },c+1,?_,fun e he=>?_⟩
   ·have:=hset 0 (.map (es.push { key,val:=.bool q,born:=c }) (c+1))
    simp only[World.drewN,Nat.add_zero] at this
    simp[Instr.mapUpdate,Sem.run_bind,run_underlying hm,hgo,hck,hr1,World.drewN,this]
   ·simp only[Array.toList_push,List.mem_append,List.mem_singleton] at he
    rcases he with he|rfl
    ·exact hes e he
    ·exact⟨hk,q,rfl⟩
 | some jv=>
   obtain⟨i,v0⟩:=jv
   obtain⟨k,kv,hkr,hkv⟩:=keyThatStays_ok (P:=Tryz.prog) (w:=w) (((es[i]?).map (·.key)).getD key) key
   refine⟨k,es.modify i fun e=>{ e with key:=kv,val:=.bool q },c,?_,fun e he=>?_⟩
   ·simp[Instr.mapUpdate,Sem.run_bind,run_underlying hm,hgo,hck,hr1,hkr,hset]
   ·have hpk:xq cx.tb W0 T w1 205 kv:=by
     rcases hkv with rfl|rfl
     ·cases hq:es[i]? with
      | none=>exact hk
      | some e0=>exact(hes e0 (by have:=Array.mem_of_getElem? hq;exact this.val)).1
     ·exact hk
    obtain⟨j,hj,rfl⟩:=List.getElem_of_mem he
    simp only[Array.getElem_toList,Array.getElem_modify]
    split
    ·exact⟨hpk,q,rfl⟩
    ·exact hes _ (by rw[←Array.getElem_toList];exact List.getElem_mem _)
theorem lookAcc(r:Nat){es:Array MapEntry}{c:Nat}{w w1:World}{key:Value}(hk:xq cx.tb W0 T w1 205 key)(hb:w.heap[r]? = some (.map es c))(hes:AccM W0 T w1 es) :
  ∃q,(Instr.lookup 222 (.map (some r)) key false).run Tryz.prog w=.ok (.bool q) w:=by
 have hf:cx.tb.flat 205=some [.str maxLen,.str maxLen]:=rfl
 have hm:Tryz.prog.underlying 222=some (.map 205 4):=by kernel_rfl
 have hks:leafs cx 30 205=some [.str,.str]:=by kernel_rfl
 have hd:tdOf cx 205=some td205:=by kernel_rfl
 have hag:td205.k.agg=true:=rfl
 have hx:=uj (ks:=[.str,.str]) hag hf (by decide) (by kernel_rfl) hk
 have hck:=checkKey_ok (w:=w) cxOk es.isEmpty 30 205 _ td205 hks hd 10000 _ (by omega) hx
 obtain⟨res,hr1,hr2⟩:=findKey_ok (w:=w) cxOk (by decide) hks hd hx es.toList (fun e he=>uj (ks:=[.str,.str]) hag hf (by decide) (by kernel_rfl) (hes e he).1)
 have hgo:(getObj r).run Tryz.prog w=.ok (.map es c) w:=Go.MapKept.run_getObj_map hb
 have hz:(zeroValue 4).run Tryz.prog w=.ok (.bool false) w:=by
  have:(Tryz.prog.info? 4).map (·.zero)=some (some (.bool false)):=by kernel_rfl
  cases hi:Tryz.prog.info? 4 with
  | none=>rw[hi] at this;cases this
  | some i0=>
    rw[hi] at this
    simp only[Option.map_some,Option.some.injEq] at this
    simp[zeroValue,typeInfo,hi,this,Sem.run_bind]
 cases res with
 | none=>exact⟨false,by simp[Instr.lookup,Sem.run_bind,run_underlying hm,hgo,hck,hr1,hz]⟩
 | some p=>
   obtain⟨j,v⟩:=p
   obtain⟨e,he,rfl⟩:=hr2 j v rfl
   obtain⟨q,hq⟩:=(hes e he).2
   exact⟨q,by simp[Instr.lookup,Sem.run_bind,run_underlying hm,hgo,hck,hr1,hq]⟩
set_option maxRecDepth 100000 in
set_option maxHeartbeats 2000000 in
theorem active_walk{b off:Nat}{A:Option Addr}{n c:Nat}(hn:n≤8192)(hE:EvsAt W0 T w A n)(hcell:∀W,Below w.heap.size w W→W.cell? ⟨b,off+6,none⟩=some (.slice A n c))(a0 a1:ByteArray) :
  Calls Tryz.prog 114 #[.pointer (some ⟨b,off,none⟩),.agg (accA a0 a1)] w fun e w'=>∃v k,e=.returned v∧k≤n∧Hid (StrL w.heap.size w' v k)∧Hid (Below w.heap.size w w'):=by
 have HE:=Lib.hid hE
 have HC:=Lib.hid hcell
 clear hE hcell
 go_enter Tryz.func114,Tryz.ntmps114
 have hmk:∀W:World,(Instr.makeMap 222 none).run Tryz.prog W=.ok (.map (some W.heap.size)) (W.alloc (.map #[] 0)):=fun W=>run_makeMap 222 W
 have hc0:=HC.out ((w.alloc (.cells (accA a0 a1) 205)).alloc (.map #[] 0)) (below_alloc (below_alloc (Below.refl _ _) _) _)
 have hs1:(w.alloc (.cells (accA a0 a1) 205)).heap.size=w.heap.size+1:=by simp
 go_wp2_with fail
 clear hmk hc0
 go_loopg [19] n (fun gg s19 wr=>∃j:Nat,j+gg=n∧s19=.int .i64 j∧Hid (∃es c',wr.heap[w.heap.size+1]? = some (.map es c')∧AccM W0 T w es)∧Hid (YtmadfhgiaonnlaaGreatDoor.Blk wr w.heap.size 205 (accA a0 a1))∧Hid (Below w.heap.size w wr)∧Hid (w.heap.size+1<wr.heap.size))
 case atStart=>
  refine⟨0,by omega,rfl,⟨#[],0,?_,fun e he=>by simp at he⟩,(YtmadfhgiaonnlaaGreatDoor.Blk.new w 205 (accA a0 a1)).alloc _,below_alloc (below_alloc (Below.refl _ _) _) _,by show _<_;simp⟩
  rw[←hs1];exact heap_alloc_new _ _
 case round=>
  obtain⟨j,hj,rfl,HM,HK,HB,HS⟩:=hrel
  by_cases hjn:j<n
  ·obtain⟨b',off',rfl,s0,s1,n2,n3,n4,n5,s6,b7,n8,B,m,c9,hpe,hpk,hat⟩:=HE.out j hjn
   obtain⟨h0,h1,h2,h3,h4,h5,h6,h7,h8,h9⟩:=hat wr HB.out
   have HPE:=Lib.hid (ev_strs hpe)
   have HKB:=Lib.hid (YtmadfhgiaonnlaaGreatDoor.Blk.new wr 95 #[.string s0,.string s1,.int .i64 n2,.int .i64 n3,.int .i64 n4,.int .i64 n5,.string s6,.bool b7,.int .i64 n8,.slice B m c9])
   clear hpe hpk hat
   by_cases h3':n4=3
   ·subst h3'
    obtain⟨es,c',hM,hT⟩:=HM.out
    have hM':(wr.alloc (.cells #[.string s0,.string s1,.int .i64 n2,.int .i64 n3,.int .i64 3,.int .i64 n5,.string s6,.bool b7,.int .i64 n8,.slice B m c9] 95)).heap[w.heap.size+1]? = some (.map es c'):=(Below.heap_alloc wr _ _ HS.out).trans hM
    obtain⟨kd,es2,c2,hrun,hT2⟩:=updAcc (w.heap.size+1) (q:=true) (acc_plain (w:=w) HPE.out.1 HPE.out.2.1) hM' hT
    have hba:=below_alloc HB.out (.cells #[.string s0,.string s1,.int .i64 n2,.int .i64 n3,.int .i64 3,.int .i64 n5,.string s6,.bool b7,.int .i64 n8,.slice B m c9] 95)
    have HB2:=Lib.hid (below_setMap (o:=.map es2 c2) (r:=w.heap.size+1) (hba.trans (below_drewN' (Below.refl _ _) kd)) (by omega))
    have hsz:w.heap.size+1<(wr.alloc (.cells #[.string s0,.string s1,.int .i64 n2,.int .i64 n3,.int .i64 3,.int .i64 n5,.string s6,.bool b7,.int .i64 n8,.slice B m c9] 95)).heap.size:=by have:=HS.out;simp;omega
    have HM2:Hid (∃es c',(y7 ((wr.alloc (.cells #[.string s0,.string s1,.int .i64 n2,.int .i64 n3,.int .i64 3,.int .i64 n5,.string s6,.bool b7,.int .i64 n8,.slice B m c9] 95)).drewN kd) (w.heap.size+1) (.map es2 c2)).heap[w.heap.size+1]? = some (.map es c')∧AccM W0 T w es):=⟨es2,c2,setMap_at hsz,hT2⟩
    have HK2:Hid (YtmadfhgiaonnlaaGreatDoor.Blk (y7 ((wr.alloc (.cells #[.string s0,.string s1,.int .i64 n2,.int .i64 n3,.int .i64 3,.int .i64 n5,.string s6,.bool b7,.int .i64 n8,.slice B m c9] 95)).drewN kd) (w.heap.size+1) (.map es2 c2)) w.heap.size 205 (accA a0 a1)):=by
     show _=_
     rw[setMap_other (by omega)]
     exact HK.out.alloc _
    have HS2:Hid (w.heap.size+1<(y7 ((wr.alloc (.cells #[.string s0,.string s1,.int .i64 n2,.int .i64 n3,.int .i64 3,.int .i64 n5,.string s6,.bool b7,.int .i64 n8,.slice B m c9] 95)).drewN kd) (w.heap.size+1) (.map es2 c2)).heap.size):=by
     show _<_
     simp only[y7,Array.size_setIfInBounds]
     exact hsz
    clear hba hsz hM hT hM' hT2
    go_wp2_with (refine wpList_mapUpd rfl (.tmp 26) (.tmp 31) (.const (.bool true)) 222 rfl hrun ?_)
    generalize y7 ((wr.alloc (.cells #[.string s0,.string s1,.int .i64 n2,.int .i64 n3,.int .i64 3,.int .i64 n5,.string s6,.bool b7,.int .i64 n8,.slice B m c9] 95)).drewN kd) (w.heap.size+1) (.map es2 c2)=w3 at *
    clear hrun
    go_roundg (n-(j+1))
    case measure=>omega
    case rel=>exact⟨j+1,by omega,by simp,HM2,HK2,HB2,HS2⟩
   ·go_wp2_with fail
    go_roundg (n-(j+1))
    case measure=>omega
    case rel=>
     obtain⟨es,c',hM,hT⟩:=HM.out
     exact⟨j+1,by omega,by simp,⟨es,c',(Below.heap_alloc wr _ _ HS.out).trans hM,hT⟩,HK.out.alloc _,below_alloc HB.out _,by show _<_;have:=HS.out;simp;omega⟩
  ·have hjn':n=j:=by omega
   subst hjn'
   have hc1:=HC.out wr HB.out
   obtain⟨es,c',hM,hT⟩:=HM.out
   have HMM:=Lib.hid (And.intro hM hT)
   clear hM hT HM
   go_wp2_with fail
   clear hc1
   go_loopg [8,39] n (fun gg s8 s39 wr=>∃j k:Nat,j+gg=n∧k≤j∧s39=.int .i64 j∧Hid (StrL w.heap.size wr s8 k)∧Hid (wr.heap[w.heap.size+1]? = some (.map es c'))∧Hid (YtmadfhgiaonnlaaGreatDoor.Blk wr w.heap.size 205 (accA a0 a1))∧Hid (Below w.heap.size w wr))
   case atStart=>exact⟨0,0,by omega,by omega,rfl,.inl ⟨rfl,rfl⟩,HMM.out.1,HK,HB⟩
   case round=>
    obtain⟨j,k,hj,hkj,rfl,HST,HM1,HK1,HB1⟩:=hrel
    by_cases hjn:j<n
    ·obtain⟨b',off',rfl,s0,s1,n2,n3,n4,n5,s6,b7,n8,B,m,c9,hpe,hpk,hat⟩:=HE.out j hjn
     obtain⟨h0,h1,h2,h3,h4,h5,h6,h7,h8,h9⟩:=hat wr HB1.out
     have HPE:=Lib.hid (ev_strs hpe)
     clear hpe hpk hat
     obtain⟨A8,c8,rfl⟩:=StrL.isSl HST.out
     have HW3:=Lib.hid (below_alloc (below_alloc HB1.out (.cells #[.string s0,.string s1,.int .i64 n2,.int .i64 n3,.int .i64 n4,.int .i64 n5,.string s6,.bool b7,.int .i64 n8,.slice B m c9] 95)) (.cells (accA s0 s1) 205))
     have HST3:=Lib.hid ((HST.out.call (below_new wr (.cells #[.string s0,.string s1,.int .i64 n2,.int .i64 n3,.int .i64 n4,.int .i64 n5,.string s6,.bool b7,.int .i64 n8,.slice B m c9] 95))).call (below_new _ (.cells (accA s0 s1) 205)))
     have HKE:=Lib.hid ((YtmadfhgiaonnlaaGreatDoor.Blk.new wr 95 #[.string s0,.string s1,.int .i64 n2,.int .i64 n3,.int .i64 n4,.int .i64 n5,.string s6,.bool b7,.int .i64 n8,.slice B m c9]).alloc (.cells (accA s0 s1) 205))
     have HKK:=Lib.hid (YtmadfhgiaonnlaaGreatDoor.Blk.new (wr.alloc (.cells #[.string s0,.string s1,.int .i64 n2,.int .i64 n3,.int .i64 n4,.int .i64 n5,.string s6,.bool b7,.int .i64 n8,.slice B m c9] 95)) 205 (accA s0 s1))
     have HKA:=Lib.hid ((HK1.out.alloc (.cells #[.string s0,.string s1,.int .i64 n2,.int .i64 n3,.int .i64 n4,.int .i64 n5,.string s6,.bool b7,.int .i64 n8,.slice B m c9] 95)).alloc (.cells (accA s0 s1) 205))
     have hlt:w.heap.size+1<wr.heap.size:=(Array.getElem?_eq_some_iff.1 HM1.out).1
     have HM3:Hid (((wr.alloc (.cells #[.string s0,.string s1,.int .i64 n2,.int .i64 n3,.int .i64 n4,.int .i64 n5,.string s6,.bool b7,.int .i64 n8,.slice B m c9] 95)).alloc (.cells (accA s0 s1) 205)).heap[w.heap.size+1]? = some (.map es c')):=(Below.heap_alloc _ _ _ (by simp;omega)).trans ((Below.heap_alloc wr _ _ hlt).trans HM1.out)
     rw[show(wr.alloc (.cells #[.string s0,.string s1,.int .i64 n2,.int .i64 n3,.int .i64 n4,.int .i64 n5,.string s6,.bool b7,.int .i64 n8,.slice B m c9] 95)).heap.size=wr.heap.size+1 by simp] at HKK
     go_upto_region 13 with(fail)
     generalize (wr.alloc (.cells #[.string s0,.string s1,.int .i64 n2,.int .i64 n3,.int .i64 n4,.int .i64 n5,.string s6,.bool b7,.int .i64 n8,.slice B m c9] 95)).alloc (.cells (accA s0 s1) 205)=w3 at *
     have HG:Hid (w.heap.size≤w3.heap.size):=HW3.out.size
     have HM4:Hid (∃q,(Instr.lookup 222 (.map (some (w.heap.size+1))) (.agg (accA s0 s1)) false).run Tryz.prog w3=.ok (.bool q) w3):=lookAcc (w.heap.size+1) (acc_plain (W0:=W0) (T:=T) (w:=w) HPE.out.1 HPE.out.2.1) HM3.out HMM.out.2
     go_cut [61] (fun s61 wd=>∃q:Bool,s61=.bool q∧wd=w3)
     case first=>
      have ke:=HKE.out.cell
      have kk:=HKK.out.cell
      have ka:=HKA.out.cell
      obtain⟨q,hlk⟩:=HM4.out
      by_cases h41:n4=1
      ·subst h41
       go_wp2_with fail
       all_goals
        go_meet
        exact⟨_,rfl,rfl⟩
      ·have h41':(n4 == 1)=false:=by simpa using h41
       go_wp2_with fail
       go_meet
       exact⟨_,rfl,rfl⟩
     case rest=>
     obtain⟨q,rfl,rfl⟩:=hcut
     cases q with
     | false=>
       go_wp2_with fail
       go_roundg (n-(j+1))
       case measure=>omega
       case rel=>exact⟨j+1,k,by omega,by omega,by simp,HST3,HM3,HKA,HW3⟩
     | true=>
       have k6:=HKE.out.cell 6
       simp at k6
       have HST4:=Lib.hid (HST3.out.call (below_new wc (.cells #[.string s6] 9)))
       have HB4:=Lib.hid (below_alloc HW3.out (.cells #[.string s6] 9))
       have hltc:w.heap.size+1<wc.heap.size:=(Array.getElem?_eq_some_iff.1 HM3.out).1
       have HM5:Hid ((wc.alloc (.cells #[.string s6] 9)).heap[w.heap.size+1]? = some (.map es c')):=(Below.heap_alloc wc _ _ hltc).trans HM3.out
       have HKA5:=Lib.hid (HKA.out.alloc (.cells #[.string s6] 9))
       go_wp2_with (at_builtin;refine wpList_appS rfl (.tmp 62) (.tmp 65) rfl rfl rfl HST4.out (by omega) HPE.out.2.2 (YtmadfhgiaonnlaaGreatDoor.Blk.new wc 9 _) (by have:=HG.out;simp;omega) ?_)
       intro v' w5 hs5 hb5 hg5
       have HST5:=Lib.hid hs5
       have HB5:=Lib.hid (HB4.out.trans hb5)
       have HM6:Hid (w5.heap[w.heap.size+1]? = some (.map es c')):=(hg5.block _ (Array.getElem?_eq_some_iff.1 HM5.out).1 (HST4.out.ne HM5.out (fun cs fr e=>by cases e))).trans HM5.out
       have HKA6:Hid (YtmadfhgiaonnlaaGreatDoor.Blk w5 w.heap.size 205 (accA a0 a1)):=(hg5.block _ HKA5.out.lt (HST4.out.ne HKA5.out (fun cs fr e=>by cases e))).trans HKA5.out
       clear hs5 hb5 hg5 HM5 HKA5 HB4 HST4 k6
       obtain⟨A9,c9',rfl⟩:=StrL.isSl HST5.out
       go_wp2_with fail
       go_roundg (n-(j+1))
       case measure=>omega
       case rel=>exact⟨j+1,k+1,by omega,by omega,by simp,HST5,HM6,HKA6,HB5⟩
    ·have hjn':n=j:=by omega
     subst hjn'
     go_wp2_with fail
     go_ret
     exact⟨_,k,rfl,by omega,HST,HB1⟩
theorem sl_low{m lb base:Nat}{e:TypeId}{v:Value}(h:CV cx.tb W0 T w base (.sl m e lb) v)(hm:m≤1)(base':Nat):CV cx.tb W0 T w base' (.sl 0 e lb) v:=by
 rcases h with h|⟨h0,h⟩|⟨b,off,n,c,h1,h2,h3,h4,h5,h6,h7⟩
 ·exact .inl h
 ·exact .inr (.inl ⟨rfl,h⟩)
 ·exact .inr (.inr ⟨b,off,n,c,h1,h2,h3,h4,h5,fun h=>by omega,h7⟩)
theorem zy{m lb base:Nat}{e:TypeId}{v:Value}(h:CV cx.tb W0 T w base (.sl m e lb) v):∃A n c,v=.slice A n c∧n≤lb:=by
 rcases h with h|⟨-,h⟩|⟨b,off,n,c,h,h1,h2,-⟩
 ·exact⟨_,_,_,h,Nat.zero_le _⟩
 ·cases h with
  | nil=>exact⟨_,_,_,rfl,Nat.zero_le _⟩
  | emp a=>exact⟨_,_,_,rfl,Nat.zero_le _⟩
  | sl f hb hn hl=>exact⟨_,_,_,rfl,hl⟩
 ·exact⟨_,n,_,h,h2⟩
theorem cell_keep{W:World}{b o:Nat}{v:Value}(hb:Below w.heap.size w W)(hc:w.cell? ⟨b,o,none⟩=some v):W.cell? ⟨b,o,none⟩=some v:=by
 have hlt:b<w.heap.size:=by
  rcases Nat.lt_or_ge b w.heap.size with h1|h1
  ·exact h1
  ·simp[World.cell?,Array.getElem?_eq_none h1] at hc
 unfold World.cell? at hc ⊢
 rw[hb.block b hlt]
 exact hc
theorem strs_join(hw:WT cx.tb W0 T w){B k:Nat}{v:Value}(hB:W0.heap.size≤B)(h:StrL B w v k)(hk:k≤1048576)(base:Nat)(hbase:base≤B) :
  ∃T',WT cx.tb W0 T' w∧Ext T w T' w∧(∀b,T' b→T b∨B≤b)∧CV cx.tb W0 T' w base (.sl 1 9 1048576) v:=by
 rcases h with⟨rfl,rfl⟩|⟨g,c,cur,rfl,h2,h3,h4,h5,h6,h7⟩
 ·exact⟨T,hw,Ext.refl _ _,fun _ h=>.inl h,.inl rfl⟩
 ·have hcell:∀(i:Nat) (v:Value),cur[i]? = some v→∃ct,([.str maxLen]:List CT)[i%1]? = some ct∧CV cx.tb W0 T w 0 ct v:=by
   intro i v hv
   obtain⟨s,rfl,hs⟩:=h7 v (by rw[←Array.getElem?_toList] at hv;exact List.mem_of_getElem? hv)
   rw[Nat.mod_one]
   exact⟨_,rfl,s,rfl,hs⟩
  obtain⟨j1,j2⟩:=hw.join (tb:=cx.tb) (Nat.le_trans hB h2) h3 (.inl rfl) (show cx.tb.flat 9=some [.str maxLen] from rfl) (by decide) hcell (ix_no rfl cur)
  refine⟨add T g,j1,j2,fun b hb=>?_,.inr (.inr ⟨g,0,k,c,rfl,h4,hk,h5,.inr rfl,fun h=>by omega,by decide,by decide,cur,(0,0),h3,?_⟩)⟩
  ·rcases hb with hb|rfl
   ·exact .inl hb
   ·exact .inr h2
  ·show 0+c*1≤_
   omega
def c114':Ctr:=⟨[.one (.pt 1 80),.agg [.str maxLen,.str maxLen]],[],[.one (.sl 1 9 1048576)],[],true,none⟩
theorem active_holds:Holds Tryz.prog cx W0 114 c114':=by
 refine⟨⟨_,Tryz.func114,by kernel_rfl,by kernel_rfl⟩,fun T w args hw hty _=>?_⟩
 have hlen:=yt hty
 obtain⟨v,u1,e⟩:∃v u1,args=#[v,u1]:=by
  obtain⟨l⟩:=args
  rcases l with _|⟨a,_|⟨b,_|⟨c,l⟩⟩⟩<;>first|(simp[c114'] at hlen;done)|exact⟨_,_,rfl⟩
 subst e
 obtain⟨hv,⟨cs,rfl,hs,ha⟩,-⟩:=hty
 have hv:CV cx.tb W0 T w w.heap.size (.pt 1 80) v:=hv
 obtain⟨b,off,rfl⟩:∃b off,v=.pointer (some ⟨b,off,none⟩):=by
  obtain⟨b,off,h,-⟩:=hv
  exact⟨b,off,h⟩
 obtain⟨u,hcu,hu⟩:=hw.load hv (k:=6) (ct:=.sl 1 95 8192) rfl
 obtain⟨A,n,c,rfl,hn⟩:=zy hu
 have hs:cs.size=2:=hs
 obtain⟨a0,a1,rfl⟩:∃a0 a1,cs=accA a0 a1:=by
  obtain⟨l⟩:=cs
  rcases l with _|⟨x,_|⟨y,_|⟨z,l⟩⟩⟩<;>first|(simp at hs;done)|skip
  obtain⟨s0,rfl,-⟩:=ha 0 _ _ rfl rfl
  obtain⟨s1,rfl,-⟩:=ha 1 _ _ rfl rfl
  exact⟨s0,s1,rfl⟩
 refine(active_walk hn (evs_at hw (sl_low hu (by omega) _)) (fun W hb=>cell_keep hb hcu) a0 a1).mono ?_
 rintro e w' ⟨v,k,rfl,hk,hst,hb⟩
 obtain⟨w1,w2⟩:=zu hw hb.out
 obtain⟨T',j1,j2,j3,j4⟩:=strs_join w1 hw.size hst.out (by omega) w.heap.size (Nat.le_refl _)
 have hh:=yx (PU:=true) hw hb.out
 exact⟨_,[v],T',rfl,rfl,⟨j4,trivial⟩,(fun l hl=>by cases hl),(fun e he=>by cases he),⟨w2.trans j2,j3,hh.size,hh.os,hh.tape,hh.output,hh.keep⟩,j1⟩
end
open Go.RowKit
def lowCT(E:List TypeId):CT→Bool
 | .sl _ e _=>E.contains e
 | .cs _ e _=>E.contains e
 | .pt _ _=>false
 | .fn _ _ _=>false
 | .mp _ _=>false
 | _=>true
def lowPT(E:List TypeId):PT→Bool
 | .one ct=>lowCT E ct
 | .agg l=>l.all (lowCT E)
 | .con _=>true
def closedE(tb:Tab)(E:List TypeId):Bool:=E.all fun e=>match tb.flat e with
 | some l=>l.all (lowCT E)
 | none=>true
def fil(w:World)(T:Nat→Prop)(E:List TypeId):Nat→Prop:=fun b=>T b∧∃cs e fr,w.heap[b]? = some (.cells cs e fr)∧E.contains e=true
section
variable{P:Program}{cx:Cx}{tb:Tab}{W0:World}{T T':Nat→Prop}{w w':World}{E:List TypeId}{base:Nat}
theorem fil_cv{ct:CT}{v:Value}(hl:lowCT E ct=true)(h:CV tb W0 T w base ct v):CV tb W0 (fil w T E) w base ct v:=by
 cases ct with
 | int k lo hi=>exact h
 | bool=>exact h
 | str lb=>exact h
 | sl m e lb=>
   rcases h with h|h|⟨b,off,n,c,h1,h2,h3,h4,h5,h6,h7,h8,h9⟩
   ·exact .inl h
   ·exact .inr (.inl h)
   ·obtain⟨cs,fr,r1,r2⟩:=id h9
    exact .inr (.inr ⟨b,off,n,c,h1,h2,h3,h4,⟨h5,cs,e,fr,r1,hl⟩,h6,h7,h8,h9⟩)
 | pt m t=>cases hl
 | fn fs l m=>cases hl
 | idx d=>exact h
 | fz b=>cases b<;>exact h
 | cs q e lb=>
   rcases h with h|⟨b,off,n,c,cs,fr,h1,h2,h3,h4,h5,h6,h7,h8,h9,h10⟩
   ·exact .inl h
   ·exact .inr ⟨b,off,n,c,cs,fr,h1,h2,h3,h4,⟨h5,cs,e,fr,h9,hl⟩,h6,h7,h8,h9,h10⟩
 | mp k v=>cases hl
 | any=>exact h
theorem fil_wt(hw:WT tb W0 T w)(hE:closedE tb E=true):WT tb W0 (fil w T E) w:=by
 refine⟨hw.size,hw.alien,fun b hb=>hw.home b hb.1,fun b hb=>?_,fun b hb=>hw.ix b hb.1⟩
 obtain⟨hT,cs,e,fr,h1,h2⟩:=hb
 obtain⟨cs',e',fr',l,q1,q2,q3,q4,q5⟩:=hw.typed b hT
 rw[h1] at q1
 injection q1 with q1
 injection q1 with r1 r2 r3
 subst r1;subst r2;subst r3
 refine⟨cs,e,fr,l,h1,q2,q3,q4,fun i v hv=>?_⟩
 obtain⟨ct,p1,p2⟩:=q5 i v hv
 refine⟨ct,p1,fil_cv ?_ p2⟩
 have he:=List.all_eq_true.1 hE e (by simpa using h2)
 rw[q3] at he
 exact List.all_eq_true.1 he ct (List.mem_of_getElem? p1)
theorem tyVal_low{p:PT}{v:Value}(hl:lowPT E p=true)(h:TyVal tb W0 T w base p v):TyVal tb W0 (fil w T E) w base p v:=by
 cases p with
 | one ct=>exact fil_cv hl h
 | agg l=>
   obtain⟨cs,h1,h2,h3⟩:=h
   exact⟨cs,h1,h2,fun i ct u hi hu=>fil_cv (List.all_eq_true.1 hl ct (List.mem_of_getElem? hi)) (h3 i ct u hi hu)⟩
 | con c=>exact h
theorem tyAll_low:∀{ps:List PT} {vs:List Value},ps.all (lowPT E)=true→TyAll tb W0 T w base ps vs→TyAll tb W0 (fil w T E) w base ps vs
 | [],[],_,_=>trivial
 | p::ps,v::vs,hl,h=>by
   rw[List.all_cons,Bool.and_eq_true] at hl
   exact⟨tyVal_low hl.1 h.1,tyAll_low hl.2 h.2⟩
 | [],_::_,_,h=>h.elim
 | _::_,[],_,h=>h.elim
theorem qf{p:PT}{v:Value}(x:Ext T w T' w')(h:TyVal tb W0 T w base p v):TyVal tb W0 T' w' base p v:=by
 cases p with
 | one ct=>exact CV.mono (ct:=ct) h x (Nat.le_refl _)
 | agg l=>
   obtain⟨cs,h1,h2,h3⟩:=h
   exact⟨cs,h1,h2,fun i ct u hi hu=>(h3 i ct u hi hu).mono x (Nat.le_refl _)⟩
 | con c=>exact h
theorem tyAll_mono(x:Ext T w T' w'):∀{ps:List PT} {vs:List Value},TyAll tb W0 T w base ps vs→TyAll tb W0 T' w' base ps vs
 | [],[],_=>trivial
 | p::ps,v::vs,h=>⟨qf x h.1,tyAll_mono x h.2⟩
 | [],_::_,h=>h.elim
 | _::_,[],h=>h.elim
theorem fil_join{pu:Bool}{T1:Nat→Prop}(hw:WT tb W0 T w)(h1:Hist (fil w T E) w pu T1 w')(hw1:WT tb W0 T1 w') :
  WT tb W0 (fun b=>T b∨T1 b) w'∧Hist T w pu (fun b=>T b∨T1 b) w'∧Ext T1 w' (fun b=>T b∨T1 b) w'∧∀b,b<w.heap.size→¬fil w T E b→w'.heap[b]? = w.heap[b]?:=by
 have hlt:∀b,T b→b<w.heap.size:=fun b hb=>hw.lt hb
 have hfr:∀b,b<w.heap.size→¬fil w T E b→w'.heap[b]? = w.heap[b]?:=fun b hb hn=>h1.keep b hb (.inr hn)
 have x1:Ext T1 w' (fun b=>T b∨T1 b) w':=⟨fun b h=>.inr h,fun _ _ _ _ h=>h,fun _ _ _ _ _ _ h=>h,fun _ _ _ h=>h⟩
 have x0:Ext T w (fun b=>T b∨T1 b) w':=by
  refine⟨fun b h=>.inl h,fun b e n hb hr=>?_,fun b cs e fr hb he hc=>?_,h1.ext.mp⟩
  ·by_cases hf:fil w T E b
   ·exact h1.ext.row b e n hf hr
   ·obtain⟨cs,fr,r1,r2⟩:=hr
    exact⟨cs,fr,by rw[hfr b (hlt b hb) hf];exact r1,r2⟩
  ·by_cases hf:fil w T E b
   ·exact h1.ext.fz b cs e fr hf he hc
   ·rw[hfr b (hlt b hb) hf];exact hc
 refine⟨⟨hw1.size,hw1.alien,fun b hb=>?_,fun b hb=>?_,fun b hb=>?_⟩,⟨x0,fun b hb=>?_,h1.size,h1.os,h1.tape,h1.output,fun b hb hk=>?_⟩,x1,hfr⟩
 ·rcases hb with hb|hb
  ·exact hw.home b hb
  ·exact hw1.home b hb
 ·by_cases ht:T1 b
  ·obtain⟨cs,e,fr,l,q1,q2,q3,q4,q5⟩:=hw1.typed b ht
   exact⟨cs,e,fr,l,q1,q2,q3,q4,fun i v hv=>by obtain⟨ct,p1,p2⟩:=q5 i v hv;exact⟨ct,p1,p2.mono x1 (Nat.le_refl _)⟩⟩
  ·have hT:T b:=hb.resolve_right ht
   have hf:¬fil w T E b:=fun h=>ht (h1.ext.sub b h)
   obtain⟨cs,e,fr,l,q1,q2,q3,q4,q5⟩:=hw.typed b hT
   exact⟨cs,e,fr,l,by rw[hfr b (hlt b hT) hf];exact q1,q2,q3,q4,fun i v hv=>by obtain⟨ct,p1,p2⟩:=q5 i v hv;exact⟨ct,p1,p2.mono x0 (Nat.le_refl _)⟩⟩
 ·by_cases ht:T1 b
  ·exact hw1.ix b ht
  ·have hT:T b:=hb.resolve_right ht
   have hf:¬fil w T E b:=fun h=>ht (h1.ext.sub b h)
   intro cs e fr l hc
   rw[hfr b (hlt b hT) hf] at hc
   exact hw.ix b hT cs e fr l hc
 ·rcases hb with hb|hb
  ·exact .inl hb
  ·rcases h1.new b hb with h|h
   ·exact .inl h.1
   ·exact .inr h
 ·exact h1.keep b hb (hk.imp id fun h hf=>h hf.1)
theorem framed{f:FuncId}{C:Ctr}(hC:Holds P cx W0 f C)(hE:closedE cx.tb E=true)(hp:C.ps.all (lowPT E)=true)(hw:WT cx.tb W0 T w){args:Array Value}(hty:TyAll cx.tb W0 T w w.heap.size C.ps args.toList)
  (hpre:∀l∈C.pre,0≤l.eval (valOf (cellsAll C.ps args.toList))) :
  Calls P f args w fun e w'=>∃v vs T',e=.returned v∧IsRes C.rs v vs∧TyAll cx.tb W0 T' w' w.heap.size C.rs vs∧(∀l∈C.post,0≤l.eval (valOf (cellsAll C.ps args.toList++cellsAll C.rs vs)))∧BeRes C args.toList vs∧Hist T w C.pu T' w'∧WT cx.tb W0 T' w' ∧
   ∀b,b<w.heap.size→¬fil w T E b→w'.heap[b]? = w.heap[b]?:=by
 refine(hC.2 (fil w T E) w args (fil_wt hw hE) (tyAll_low hp hty) hpre).mono ?_
 rintro e w' ⟨v,vs,T1,h1,h2,h3,h4,h5,h6,h7⟩
 obtain⟨j1,j2,j3,j4⟩:=fil_join hw h6 h7
 exact⟨v,vs,_,h1,h2,tyAll_mono j3 h3,h4,h5,j2,j1,j4⟩
end
end Sy
namespace Reg9G
def asB:Value→Option Bool
 | .bool b=>some b
 | _=>none
open Go.RowKit Reg4
section
variable{P:Program}{ops:Array Oper}{Q:Exit→Act→World→Prop}{m:Nat}{a0:Act}{S:(Nat→Bool)→(Nat→Value)→World→Prop}
theorem yielded_of{ops:Array Oper}{tmps:Array Value}{j:Nat}{d:Tmp}(h:dstOf ops j=some d):yielded ops tmps j=asB (tmps.getD d undef):=by
 unfold yielded
 have:(ops[j]?).bind (·.dst)=some d:=h
 rw[this]
 simp only[Option.bind_some]
 rw[Array.getD_eq_getD_getElem?]
 cases tmps[d]? with
 | none=>rfl
 | some v=>cases v<;>rfl
def opG(ops:Array Oper)(m i:Nat):Bool:=match ops[i]? with
 | some o=>(match o.guard with|none=>true|some (j,_)=>decide (j<m) && waits o j && (dstOf ops j).isSome) && o.after.all (fun e=>!Region.binds .any e || decide (e.on<i)) &&
    o.op.operands.all (fun x=>match x with|.tmp d=>(List.range m).all (fun k=>dstOf ops k != some d || waits o k)|_=>true) &&
    (List.range m).all (fun k=>k == i || dstOf ops i == none || dstOf ops k != dstOf ops i)
 | none=>false
def headG(ops:Array Oper)(m:Nat):Bool:=
 decide (m≤ops.size) && (List.range m).all (opG ops m) && (List.range ops.size).all (fun i=>decide (i<m) || tailB ops m i) && Region.seqB .any ops (ops.size-m) m (marks m ops.size)
structure Inv(ops:Array Oper)(m:Nat)(a0:Act)(S:(Nat→Bool)→(Nat→Value)→World→Prop)(vals:Nat→Value)(listed:Array Bool)(a:Act)(w:World):Prop where
 size:listed.size=ops.size
 tail:∀i,m≤i→i<ops.size→listed.getD i true=false
 act:a=puts ops vals (fun k=>listed.getD k false) (List.range m) a0
 s:S (fun k=>listed.getD k false) vals w
 down:∀(k:Nat) (o:Oper),ops[k]? = some o→listed.getD k false=true→∀e∈o.after,Region.binds .any e=true→listed.getD e.on false=true
theorem main(hH:headG ops m=true)(hin:∀k d,k<m→dstOf ops k=some d→d<a0.tmps.size)
  (hstep:∀i o,i<m→ops[i]? = some o→∀(L:Nat→Bool) (vals:Nat→Value) (a:Act) (w:World),L i=false→S L vals w→(∀e∈o.after,Region.binds .any e=true→L e.on=true)→(∀d,Operand.tmp d∈o.op.operands→match idxOf ops m d with|some k=>L k=true∧a.tmps.getD d undef=vals k|none=>a.tmps.getD d undef=a0.tmps.getD d undef)→(∀j b,o.guard=some (j,b)→j<m∧L j=true) →
    if Region.wanted o (fun j=>asB (vals j))=true then StepOk P (fun v w'=>S (fun k=>if k=i then true else L k) (fun k=>if k=i then v else vals k) w') ((execOp a.eval o).run P w) else S (fun k=>if k=i then true else L k) (fun k=>if k=i then undef else vals k) w)
  (hfin:∀(L:Nat→Bool) (vals:Nat→Value) (w:World),(∀k,k<m→L k=true)→S L vals w→wpList P ops Q (ops.toList.drop m) (puts ops vals (fun _=>true) (List.range m) a0) w) :
  ∀(c:Nat) (vals:Nat→Value) (listed:Array Bool) (a:Act) (w:World),Inv ops m a0 S vals listed a w→left m listed=c→wpAny P .any ops Q (c+(ops.size-m)) listed a w:=by
 simp only[headG,Bool.and_eq_true,decide_eq_true_eq,List.all_eq_true,List.mem_range,Bool.or_eq_true] at hH
 obtain⟨⟨⟨hmn,hop⟩,htail⟩,hseq⟩:=hH
 have hopx:∀i o,i<m→ops[i]? = some o→(∀j b,o.guard=some (j,b)→j<m∧waits o j=true∧∃d,dstOf ops j=some d)∧(∀e∈o.after,Region.binds .any e=true→e.on<i)∧(∀d,Operand.tmp d∈o.op.operands→∀k,k<m→dstOf ops k=some d→waits o k=true)∧(∀k,k<m→k≠i→∀d,dstOf ops i=some d→dstOf ops k≠some d):=by
  intro i o hi ho
  have h:=hop i hi
  unfold opG at h
  rw[ho] at h
  simp only[Bool.and_eq_true,Array.all_eq_true_iff_forall_mem,decide_eq_true_eq,List.all_eq_true,List.mem_range,Bool.or_eq_true,bne_iff_ne,beq_iff_eq] at h
  obtain⟨⟨⟨h1,h2⟩,h3⟩,h4⟩:=h
  refine⟨fun j b hg=>(by rw[hg] at h1;simp only[Bool.and_eq_true,decide_eq_true_eq] at h1;exact⟨h1.1.1,h1.1.2,Option.isSome_iff_exists.1 h1.2⟩),fun e he hb=>(h2 e he).resolve_left (by rw[hb];decide),fun d hd k hk hkd=>?_,fun k hk hne d hd hkd=>?_⟩
  ·have:=h3 _ hd
   simp only[List.all_eq_true,List.mem_range,Bool.or_eq_true,bne_iff_ne] at this
   rcases this k hk with h|h
   ·exact absurd hkd h
   ·exact h
  ·rcases h4 k hk with(h|h)|h
   ·exact hne h
   ·rw[h] at hd;cases hd
   ·rw[hd,hkd] at h;exact h rfl
 intro c
 induction c with
 | zero=>
   intro vals listed a w inv hc
   have hall:∀k,k<m→listed.getD k false=true:=by
    intro k hk
    unfold left at hc
    have:=List.eq_nil_of_length_eq_zero hc
    have h2:=List.filter_eq_nil_iff.1 this k (List.mem_range.2 hk)
    simpa using h2
   have hl:listed=marks m ops.size:=by
    refine Array.ext (by simp[marks,inv.size];omega) (fun k h1 h2=>?_)
    by_cases hk:k<m
    ·have e1:=hall k hk
     rw[Array.getD_eq_getD_getElem?,Array.getElem?_eq_getElem h1] at e1
     have e2:(marks m ops.size)[k]=true:=by simp[marks,hk]
     rw[e2];simpa using e1
    ·have e1:=inv.tail k (by omega) (by rw[←inv.size];exact h1)
     rw[Array.getD_eq_getD_getElem?,Array.getElem?_eq_getElem h1] at e1
     have e2:(marks m ops.size)[k]=false:=by simp[marks,Array.getElem_append,hk]
     rw[e2];simpa using e1
   have ha:a=puts ops vals (fun _=>true) (List.range m) a0:=by
    rw[inv.act]
    exact puts_congr _ _ (fun k hk=>⟨hall k (List.mem_range.1 hk),rfl⟩)
   subst ha
   have hlen:(ops.toList.drop m).length=ops.size-m:=by simp
   have:=wpAny_of_seq (md:=.any) (Q':=Q) (P:=P) (ops:=ops) (ops.toList.drop m) m listed _ w (fun j=>by simp) (by rw[hlen,hl];exact hseq) (hfin _ vals w hall inv.s)
   rw[hlen] at this
   rw[Nat.zero_add]
   exact this
 | succ c ih=>
   intro vals listed a w inv hc
   rw[show c+1+(ops.size-m)=(c+(ops.size-m))+1 by omega]
   have hex:∃i,i<m∧listed.getD i false=false:=by
    unfold left at hc
    rcases hl:(List.range m).filter (fun k=>!listed.getD k false) with _|⟨i,l⟩
    ·rw[hl] at hc;simp at hc
    ·have:i∈(List.range m).filter (fun k=>!listed.getD k false):=by rw[hl];simp
     rw[List.mem_filter,List.mem_range] at this
     exact⟨i,this.1,by simpa using this.2⟩
   refine⟨fun hr=>?_,fun i hi=>?_⟩
   ·
    exfalso
    obtain⟨i,⟨hi,hu⟩,hmin⟩:∃i,(i<m∧listed.getD i false=false)∧∀j,j<i→listed.getD j false=true:=by
     obtain⟨i,hi,hu⟩:=hex
     induction i using Nat.strongRecOn with
     | _ i ihs=>
       by_cases hb:∃j,j<i∧listed.getD j false=false
       ·obtain⟨j,hj,hju⟩:=hb
        exact ihs j hj (by omega) hju
       ·exact⟨i,⟨hi,hu⟩,fun j hj=>by
         cases hv:listed.getD j false with
         | true=>rfl
         | false=>exact absurd ⟨j,hj,hv⟩ hb⟩
    have ho:∃o,ops[i]? = some o:=⟨ops[i]'(by omega),Array.getElem?_eq_getElem _⟩
    obtain⟨o,ho⟩:=ho
    have:i∈Region.ready .any ops listed:=mem_ready.2 ⟨by rw[getD_tf _ _ (by rw[inv.size];omega)];exact hu,o,ho,fun e he hb=>hmin _ ((hopx i o hi ho).2.1 e he hb)⟩
    rw[hr] at this
    cases this
   ·obtain⟨hu,o,ho,hed⟩:=mem_ready.1 hi
    have hin':i<ops.size:=(Array.getElem?_eq_some_iff.1 ho).1
    have his:i<listed.size:=by rw[inv.size];exact hin'
    have hu':listed.getD i false=false:=by rw[←getD_tf _ _ his];exact hu
    have him:i<m:=by
     rcases Nat.lt_or_ge i m with h|h
     ·exact h
     ·exfalso
      obtain⟨k,hk,hku⟩:=hex
      have ht:=htail i hin'
      rcases ht with ht|ht
      ·omega
      ·unfold tailB at ht
       simp only[List.all_eq_true,List.mem_range] at ht
       have:=reach_listed inv.down _ i o k ho hed (ht k hk)
       rw[hku] at this
       cases this
    obtain⟨g1,g2,g3,g4⟩:=hopx i o him ho
    have hval:∀k d,k<m→dstOf ops k=some d→waits o k=true→listed.getD k false=true∧a.tmps.getD d undef=vals k:=by
     intro k d hkm hkd hw
     unfold waits at hw
     rw[Array.any_eq_true'] at hw
     obtain⟨e,he,hb⟩:=hw
     simp only[Bool.and_eq_true,beq_iff_eq] at hb
     have hlk:=hed e he hb.1
     rw[hb.2] at hlk
     refine⟨hlk,?_⟩
     rw[inv.act]
     refine puts_at hkd hlk (List.range m) a0 List.nodup_range (List.mem_range.2 hkm) (hin k d hkm hkd) (fun j hj hne hjd=>?_)
     have hj':j<m:=List.mem_range.1 hj
     have hoj:∃oj,ops[j]? = some oj:=⟨ops[j]'(by omega),Array.getElem?_eq_getElem _⟩
     obtain⟨oj,hoj⟩:=hoj
     exact(hopx j oj hj' hoj).2.2.2 k hkm (fun e=>hne e.symm) d hjd hkd
    have hstep':=hstep i o him ho _ vals a w hu' inv.s hed (fun d hx=>by
     split
     ·rename_i k hk
      unfold idxOf at hk
      have hkm:k<m:=List.mem_range.1 (List.mem_of_find?_eq_some hk)
      have hkd:dstOf ops k=some d:=by simpa using List.find?_some hk
      exact hval k d hkm hkd (g3 d hx k hkm hkd)
     ·rename_i hk
      unfold idxOf at hk
      have hno:∀k∈List.range m,dstOf ops k≠some d:=fun k hk'=>by
       have:=List.find?_eq_none.1 hk k hk'
       simpa using this
      rw[inv.act]
      exact puts_none _ _ hno) (fun j b hg=>⟨(g1 j b hg).1,(hval j _ (g1 j b hg).1 (g1 j b hg).2.2.choose_spec (g1 j b hg).2.1).1⟩)
    have hGe:(fun k=>(listed.setIfInBounds i true).getD k false)=(fun k=>if k=i then true else listed.getD k false):=funext fun k=>getD_set _ _ _ _ his
    have hK:∀(v:Value) (w':World),S (fun k=>if k=i then true else listed.getD k false) (fun k=>if k=i then v else vals k) w'→wpAny P .any ops Q (c+(ops.size-m)) (listed.setIfInBounds i true) (a.put o.dst v) w':=by
     intro v w' hG
     refine ih (fun k=>if k=i then v else vals k) _ _ _ ⟨by simp[inv.size],fun j hj hjn=>?_,?_,by rw[hGe];exact hG,fun k ok hok hlk e he hbe=>?_⟩ ?_
     ·rw[getD_set _ _ _ _ his,if_neg (by omega)]
      exact inv.tail j hj hjn
     ·have hdst:o.dst=dstOf ops i:=by unfold dstOf;rw[ho];rfl
      rw[hdst,inv.act,←puts_ins (List.range m) a0 List.nodup_range (List.mem_range.2 him) hu' (fun k hk hne d h1=>g4 k (List.mem_range.1 hk) hne d h1)]
      refine puts_congr _ _ (fun k hk=>⟨?_,rfl⟩)
      rw[getD_set _ _ _ _ his]
      by_cases e:k=i
      ·simp[e]
      ·simp[e]
     ·have hlo:listed.getD e.on false=true:=by
       by_cases ek:k=i
       ·subst ek
        rw[ho] at hok
        injection hok with hok
        subst hok
        exact hed e he hbe
       ·rw[getD_set _ _ _ _ his,if_neg ek] at hlk
        exact inv.down k ok hok hlk e he hbe
      rw[getD_set _ _ _ _ his]
      split
      ·rfl
      ·exact hlo
     ·have:=left_set (m:=m) him his hu'
      omega
    unfold wpOp
    rw[ho]
    have hwant:Region.wanted o (yielded ops a.tmps)=Region.wanted o (fun j=>asB (vals j)):=by
     unfold Region.wanted
     split
     ·rfl
     ·rename_i j want hg
      obtain⟨h1,h2,d,h3⟩:=g1 j want hg
      rw[yielded_of h3,(hval j d h1 h3 h2).2]
    show(if Region.wanted o (yielded ops a.tmps)=true then _∨_ else _)
    rw[hwant]
    by_cases hW:Region.wanted o (fun j=>asB (vals j))=true
    ·rw[if_pos hW] at hstep' ⊢
     left
     unfold Oper.wp
     generalize (execOp a.eval o).run P w=r at hstep'
     cases r with
     | ok nx w'=>
       cases nx<;>simp only[StepOk] at hstep'<;>simp only[Oper.upon]
       ·exact hK _ _ hstep'
       ·exact hK _ _ hstep'
       ·exact hstep'.mono fun e w'' ⟨v,he,hR⟩=>by subst he;exact hK v w'' hR
     | halt x w'=>simp only[StepOk] at hstep'
    ·rw[if_neg hW] at hstep' ⊢
     exact hK _ _ hstep'
theorem region{id:Nat}{w:World}(m:Nat)(S:(Nat→Bool)→(Nat→Value)→World→Prop)(hm:P.follows .mixedOrders=true)(hH:headG ops m=true)(hin:∀k d,k<m→dstOf ops k=some d→d<a0.tmps.size)(hG:S (fun _=>false) (fun _=>undef) w.drew)
  (hstep:∀i o,i<m→ops[i]? = some o→∀(L:Nat→Bool) (vals:Nat→Value) (a:Act) (w:World),L i=false→S L vals w→(∀e∈o.after,Region.binds .any e=true→L e.on=true)→(∀d,Operand.tmp d∈o.op.operands→match idxOf ops m d with|some k=>L k=true∧a.tmps.getD d undef=vals k|none=>a.tmps.getD d undef=a0.tmps.getD d undef)→(∀j b,o.guard=some (j,b)→j<m∧L j=true) →
    if Region.wanted o (fun j=>asB (vals j))=true then StepOk P (fun v w'=>S (fun k=>if k=i then true else L k) (fun k=>if k=i then v else vals k) w') ((execOp a.eval o).run P w) else S (fun k=>if k=i then true else L k) (fun k=>if k=i then undef else vals k) w)
  (hfin:∀(L:Nat→Bool) (vals:Nat→Value) (w:World),(∀k,k<m→L k=true)→S L vals w→wpList P ops Q (ops.toList.drop m) (puts ops vals (fun _=>true) (List.range m) a0) w) :
  (Code.region id ops true).wp P Q a0 w:=by
 refine wp_region_any hm ?_
 have hmn:m≤ops.size:=by
  simp only[headG,Bool.and_eq_true,decide_eq_true_eq] at hH
  exact hH.1.1.1
 have hz:∀k b,k<ops.size→(Array.replicate ops.size false).getD k b=false:=fun k b hk=>by
  rw[Array.getD_eq_getD_getElem?,Array.getElem?_replicate,if_pos hk];rfl
 have hl:left m (Array.replicate ops.size false)=m:=by
  unfold left
  rw[List.filter_eq_self.2 (fun k hk=>by rw[hz k false (by have:=List.mem_range.1 hk;omega)];rfl),List.length_range]
 have hGz:S (fun _=>false) (fun _=>undef) w.drew→S (fun k=>(Array.replicate ops.size false).getD k false) (fun _=>undef) w.drew:=fun h=>by
  have e:(fun k=>(Array.replicate ops.size false).getD k false)=(fun _=>false):=funext fun k=>by
   rw[Array.getD_eq_getD_getElem?,Array.getElem?_replicate]
   split<;>rfl
  rw[e];exact h
 have:=main (P:=P) (Q:=Q) (a0:=a0) (S:=S) hH hin hstep hfin m (fun _=>undef) (Array.replicate ops.size false) a0 w.drew ⟨by simp,fun i _ hi=>hz i true hi,?_,hGz hG,fun k o ho h=>?_⟩ hl
 ·rw[show m+(ops.size-m)=ops.size by omega] at this
  exact this
 ·have:∀(ks:List Nat) (a:Act),(∀k∈ks,k<ops.size)→puts ops (fun _=>undef) (fun k=>(Array.replicate ops.size false).getD k false) ks a=a:=by
   intro ks
   induction ks with
   | nil=>intro a _;rfl
   | cons k ks ih=>
     intro a h
     unfold puts
     rw[hz k false (h k (by simp))]
     exact ih a (fun j hj=>h j (by simp[hj]))
  exact(this _ _ (fun k hk=>by have:=List.mem_range.1 hk;omega)).symm
 ·rw[hz k false (Array.getElem?_eq_some_iff.1 ho).1] at h;cases h
end
end Reg9G
namespace RegG
open Go.RowKit Reg4
section
variable{P:Program}{ops:Array Oper}{Q:Exit→Act→World→Prop}{a0:Act}
theorem region{id:Nat}{w:World}(m:Nat)(K:Nat→Option Value)(hm:P.follows .mixedOrders=true)(hH:Reg9G.headG ops m=true)(hin:∀k d,k<m→dstOf ops k=some d→d<a0.tmps.size)
  (hstep:∀i o,i<m→ops[i]? = some o→(∃j b,o.guard=some (j,b)∧(∃c,K j=some (.bool c)∧c≠b)∧∀x,K i=some x→x=undef)∨(∀(a:Act) (W:World),Below w.heap.size w W→(∀d,Operand.tmp d∈o.op.operands→RegA.OpV ops m a0 K d (a.tmps.getD d undef))→StepOk P (fun v W'=>(∀x,K i=some x→v=x)∧Below W.heap.size W W') ((execOp a.eval o).run P W)))
  (hgrd:∀i o,i<m→ops[i]? = some o→∀j b,o.guard=some (j,b)→∃c,K j=some (.bool c))
  (hoff:∀i o,i<m→ops[i]? = some o→∀j b,o.guard=some (j,b)→K j=some (.bool (!b))→∀x,K i=some x→x=undef)
  (hfin:∀(vals:Nat→Value) (W:World),Below w.heap.size w W→(∀k x,k<m→K k=some x→vals k=x)→wpList P ops Q (ops.toList.drop m) (puts ops vals (fun _=>true) (List.range m) a0) W) :
  (Code.region id ops true).wp P Q a0 w:=by
 refine Reg9G.region m (fun L vals W=>Below w.heap.size w W∧∀k x,L k=true→K k=some x→vals k=x) hm hH hin ⟨Below.drew (Below.refl _ _),fun _ _ h=>(by cases h)⟩ ?_ ?_
 ·intro i o hi ho L vals a W hL hS hw hop hg
  obtain⟨hb,hv⟩:=hS
  have hskip:(∀x,K i=some x→x=undef)→Below w.heap.size w W∧∀k x,(if k=i then true else L k)=true→K k=some x→(if k=i then undef else vals k)=x:=by
   intro hx
   refine⟨hb,fun k x hk hx'=>?_⟩
   by_cases ek:k=i
   ·subst ek
    simp only[if_true]
    exact(hx x hx').symm
   ·simp only[if_neg ek] at hk ⊢
    exact hv k x hk hx'
  by_cases hW:Region.wanted o (fun j=>Reg9G.asB (vals j))=true
  ·rw[if_pos hW]
   rcases hstep i o hi ho with⟨j,b,h1,⟨c,h2,h3⟩,h4⟩|hstep
   ·exfalso
    unfold Region.wanted at hW
    rw[h1] at hW
    simp only[beq_iff_eq] at hW
    rw[hv j _ (hg j b h1).2 h2] at hW
    exact h3 (by injection hW)
   refine Reg4.StepOk.mono (hstep a W hb (fun d hd=>?_)) ?_
   ·have:=hop d hd
    unfold RegA.OpV
    split
    ·rename_i k hk
     rw[hk] at this
     exact fun y hy=>this.2.trans (hv k y this.1 hy)
    ·rename_i hk
     rw[hk] at this
     exact this
   ·rintro v W' ⟨hx,hbc⟩
    refine⟨hb.trans (hbc.mono hb.size),fun k x hk hx'=>?_⟩
    by_cases ek:k=i
    ·subst ek
     simp only[if_true]
     exact hx x hx'
    ·simp only[if_neg ek] at hk ⊢
     exact hv k x hk hx'
  ·rw[if_neg hW]
   refine hskip ?_
   cases hgo:o.guard with
   | none=>unfold Region.wanted at hW;rw[hgo] at hW;simp at hW
   | some p=>
     obtain⟨j,b⟩:=p
     obtain⟨c,hc⟩:=hgrd i o hi ho j b hgo
     refine hoff i o hi ho j b hgo ?_
     rw[hc]
     unfold Region.wanted at hW
     rw[hgo] at hW
     simp only[beq_iff_eq] at hW
     rw[hv j _ (hg j b hgo).2 hc] at hW
     cases c<;>cases b<;>first|rfl|exact absurd rfl hW
 ·intro L vals W hall hS
  exact hfin vals W hS.1 (fun k x hk hx=>hS.2 k x (hall k hk) hx)
end
end RegG
end Go.Proofs.YtmadfhgiaonnlaaGreatDoor
