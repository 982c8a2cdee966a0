import Derived.Test.YtmadfhgiaonnlaaGreatDoorPk14
set_option linter.unusedVariables false
set_option linter.unusedSimpArgs false
namespace Go.Proofs.YtmadfhgiaonnlaaGreatDoor
namespace Sy
open Go.RowKit
def evA(s0 s1:ByteArray)(n2 n3 n4 n5:Int)(s6:ByteArray)(b7:Bool)(n8:Int)(v9:Value):Array Value:=#[.string s0,.string s1,.int .i64 n2,.int .i64 n3,.int .i64 n4,.int .i64 n5,.string s6,.bool b7,.int .i64 n8,v9]
theorem run_makeMap_hint{P:Program}{t k e:TypeId}{q:IntKind}{n:Int}(g:P.underlying t=some (.map k e))(W:World):(Instr.makeMap t (some (.int q n))).run P W=.ok (.map (some W.heap.size)) (W.alloc (.map #[] 0)):=by
 have h:(Instr.makeMap t (some (.int q n))).run P W=(Instr.makeMap t none).run P W:=by
  unfold Instr.makeMap
  simp[Sem.run_bind,run_underlying g,asInt,asIntOf]
 rw[h]
 exact run_makeMap t W
theorem wpList_mapUpd{P:Program}{w w2:World}{ops:Array Oper}{rest:List Oper}{o:Oper}{a:Act}{Q:Exit→Act→World→Prop}
  (hg:o.guard=none) (m x v:Operand) (t:TypeId) (hop:o.op=Op.mapUpdate t m x v) (hrun:(Instr.mapUpdate t (a.eval m) (a.eval x) (a.eval v)).run P w=.ok () w2) (hK:wpList P ops Q rest (a.put o.dst undef) w2):wpList P ops Q (o::rest) a w:=by
 refine wpList_plain hg fun K' hK'=>?_
 unfold Oper.wp
 simp[execOp,hop,hrun,Result.andThen]
 exact hK' _ _ hK
section
variable{W0:World}{T:Nat→Prop}{w:World}
set_option maxRecDepth 100000 in
set_option maxHeartbeats 1000000 in
theorem keyOf_walk(s0 s1:ByteArray)(n2 n3 n4 n5:Int)(s6:ByteArray)(b7:Bool)(n8:Int)(A:Option Addr)(m c:Nat)(w:World) :
  Calls Tryz.prog 153 #[.agg (evA s0 s1 n2 n3 n4 n5 s6 b7 n8 (.slice A m c))] w fun e w'=>e=.returned (.agg #[.string s0,.string s1,.int .i64 n3])∧Hid (Below w.heap.size w w'):=by
 unfold evA
 go_enter Tryz.func153,Tryz.ntmps153
 go_wp2_with fail
 refine bodyPost_ret (results_cell_row rfl _ _ (w.heap.size+1) 250 #[.string s0,.string s1,.int .i64 n3] (0,0) _ rfl (by simpa using heap_alloc_new (w.alloc _) _) Tryz.underlying250 rfl (by kernel_rfl)) rfl ?_
 exact⟨rfl,Lib.hid (below_alloc (below_alloc (Below.refl _ _) _) _)⟩
def EvAt(b off j:Nat)(W:World)(s0 s1:ByteArray)(n2 n3 n4 n5:Int)(s6:ByteArray)(b7:Bool)(n8:Int)(B:Option Addr)(m c:Nat):Prop:=W.cell? ⟨b,off+j*10,none⟩=some (.string s0)∧W.cell? ⟨b,off+j*10+1,none⟩=some (.string s1)∧W.cell? ⟨b,off+j*10+2,none⟩=some (.int .i64 n2)∧W.cell? ⟨b,off+j*10+3,none⟩=some (.int .i64 n3)∧W.cell? ⟨b,off+j*10+4,none⟩=some (.int .i64 n4)∧W.cell? ⟨b,off+j*10+5,none⟩=some (.int .i64 n5)∧W.cell? ⟨b,off+j*10+6,none⟩=some (.string s6)∧W.cell? ⟨b,off+j*10+7,none⟩=some (.bool b7)∧W.cell? ⟨b,off+j*10+8,none⟩=some (.int .i64 n8)∧W.cell? ⟨b,off+j*10+9,none⟩=some (.slice B m c)
def EvsAt(W0:World)(T:Nat→Prop)(w:World)(A:Option Addr)(n:Nat):Prop:=∀j,j<n→∃b off,A=some ⟨b,off,none⟩∧∃s0 s1 n2 n3 n4 n5 s6 b7 n8 B m c,xq cx.tb W0 T w 95 (.agg (evA s0 s1 n2 n3 n4 n5 s6 b7 n8 (.slice B m c)))∧xq cx.tb W0 T w 250 (.agg #[.string s0,.string s1,.int .i64 n3]) ∧
 ∀W,Below w.heap.size w W→EvAt b off j W s0 s1 n2 n3 n4 n5 s6 b7 n8 B m c
theorem evs_at{A:Option Addr}{n c:Nat}(hw:WT cx.tb W0 T w)(h:CV cx.tb W0 T w w.heap.size (.sl 0 95 8192) (.slice A n c)):EvsAt W0 T w A n:=by
 intro j hj
 obtain⟨b,off,rfl⟩:∃b off,A=some ⟨b,off,none⟩:=by
  rcases h with h|⟨-,h⟩|⟨b,off,_,_,h,-⟩
  ·injection h with h1 h2 h3;omega
  ·cases h with
   | nil=>omega
   | emp=>omega
   | sl=>exact⟨_,_,rfl⟩
  ·injection h with h1 h2 h3;exact⟨b,off,h1⟩
 have hel:=h.elem (i:=j) hj
 have hsz:cx.tb.sz 95=10:=rfl
 have hfl:cx.tb.flat 95=some [.str maxLen,.str maxLen,full .i64,full .i64,full .i64,full .i64,.str maxLen,.bool,full .i64,.sl 0 156 1024]:=rfl
 have hfk:cx.tb.flat 250=some [.str maxLen,.str maxLen,full .i64]:=rfl
 rw[hsz] at hel
 refine⟨b,off,rfl,?_⟩
 have ld:∀(k:Nat) (ct:CT),([.str maxLen,.str maxLen,full .i64,full .i64,full .i64,full .i64,.str maxLen,.bool,full .i64,.sl 0 156 1024]:List CT)[k]? = some ct→∃v,w.cell? ⟨b,off+j*10+k,none⟩=some v∧CV cx.tb W0 T w 0 ct v:=fun k ct hk=>hw.load hel (by rw[hfl];exact hk)
 have keep:∀(W:World) (k:Nat) (v:Value),Below w.heap.size w W→w.cell? ⟨b,off+j*10+k,none⟩=some v→W.cell? ⟨b,off+j*10+k,none⟩=some v:=fun W k v hb hc=>by
  have hlt:b<w.heap.size:=by
   rcases Nat.lt_or_ge b w.heap.size with h1|h1
   ·exact h1
   ·simp[World.cell?,Array.getElem?_eq_none h1] at hc
  unfold World.cell? at hc ⊢
  rw[hb.block b hlt]
  exact hc
 obtain⟨v0,c0,s0,rfl,t0⟩:=ld 0 _ rfl
 obtain⟨v1,c1,s1,rfl,t1⟩:=ld 1 _ rfl
 obtain⟨v2,c2,n2,rfl,t2⟩:=ld 2 _ rfl
 obtain⟨v3,c3,n3,rfl,t3⟩:=ld 3 _ rfl
 obtain⟨v4,c4,n4,rfl,t4⟩:=ld 4 _ rfl
 obtain⟨v5,c5,n5,rfl,t5⟩:=ld 5 _ rfl
 obtain⟨v6,c6,s6,rfl,t6⟩:=ld 6 _ rfl
 obtain⟨v7,c7,b7,rfl⟩:=ld 7 _ rfl
 obtain⟨v8,c8,n8,rfl,t8⟩:=ld 8 _ rfl
 obtain⟨v9,c9,t9⟩:=ld 9 _ rfl
 have t9':=CV.vt t9 rfl
 obtain⟨B,m,c',rfl⟩:∃B m c',v9=.slice B m c':=by
  rcases t9'.2 with h|⟨-,h⟩|⟨_,_,_,_,h,-⟩
  ·exact⟨_,_,_,h⟩
  ·cases h<;>exact⟨_,_,_,rfl⟩
  ·exact⟨_,_,_,h⟩
 refine⟨s0,s1,n2,n3,n4,n5,s6,b7,n8,B,m,c',.inl ⟨_,rfl,rfl,fun k ct hk=>?_⟩,.inl ⟨_,rfl,rfl,fun k ct hk=>?_⟩,fun W hb=>⟨keep W 0 _ hb c0,keep W 1 _ hb c1,keep W 2 _ hb c2,keep W 3 _ hb c3,keep W 4 _ hb c4,keep W 5 _ hb c5,keep W 6 _ hb c6,keep W 7 _ hb c7,keep W 8 _ hb c8,keep W 9 _ hb c9⟩⟩
 ·rw[hfl] at hk
  have hk:([.str maxLen,.str maxLen,full .i64,full .i64,full .i64,full .i64,.str maxLen,.bool,full .i64,.sl 0 156 1024]:List CT)[k]? = some ct:=hk
  match k,hk with
  | 0,hk=>cases hk;exact⟨_,rfl,s0,rfl,t0⟩
  | 1,hk=>cases hk;exact⟨_,rfl,s1,rfl,t1⟩
  | 2,hk=>cases hk;exact⟨_,rfl,n2,rfl,t2⟩
  | 3,hk=>cases hk;exact⟨_,rfl,n3,rfl,t3⟩
  | 4,hk=>cases hk;exact⟨_,rfl,n4,rfl,t4⟩
  | 5,hk=>cases hk;exact⟨_,rfl,n5,rfl,t5⟩
  | 6,hk=>cases hk;exact⟨_,rfl,s6,rfl,t6⟩
  | 7,hk=>cases hk;exact⟨_,rfl,b7,rfl⟩
  | 8,hk=>cases hk;exact⟨_,rfl,n8,rfl,t8⟩
  | 9,hk=>cases hk;exact⟨_,rfl,t9'⟩
  | k+10,hk=>simp at hk
 ·rw[hfk] at hk
  have hk:([.str maxLen,.str maxLen,full .i64]:List CT)[k]? = some ct:=hk
  match k,hk with
  | 0,hk=>cases hk;exact⟨_,rfl,s0,rfl,t0⟩
  | 1,hk=>cases hk;exact⟨_,rfl,s1,rfl,t1⟩
  | 2,hk=>cases hk;exact⟨_,rfl,n3,rfl,t3⟩
  | k+3,hk=>simp at hk
theorem updEv(r:Nat){es:Array MapEntry}{c:Nat}{w w1:World}{key val:Value}(hk:xq cx.tb W0 T w1 250 key)(hv:xq cx.tb W0 T w1 95 val)(hb:w.heap[r]? = some (.map es c))(hes:MapT cx.tb W0 T w1 250 95 es) :
  ∃k es' c',(Instr.mapUpdate 247 (.map (some r)) key val).run Tryz.prog w=.ok () (y7 (w.drewN k) r (.map es' c'))∧MapT cx.tb W0 T w1 250 95 es':=
 mapUpdate_ok (ks:=[.str,.str,.int .i64]) (d:=td250) (fk:=[.str maxLen,.str maxLen,full .i64]) cxOk (by kernel_rfl) (by kernel_rfl) (by kernel_rfl) rfl rfl (by decide) (by kernel_rfl) hk hv hb hes
set_option maxRecDepth 100000 in
set_option maxHeartbeats 1000000 in
theorem index_walk{A:Option Addr}{n c:Nat}(hn:n≤8192)(hE:EvsAt W0 T w A n) :
  Calls Tryz.prog 152 #[.slice A n c] w fun e w'=>∃r es c',e=.returned (.map (some r))∧Hid (w'.heap[r]? = some (.map es c')∧MapT cx.tb W0 T w 250 95 es)∧Hid (Below w.heap.size w w'):=by
 have HE:=Lib.hid hE
 clear hE
 go_enter Tryz.func152,Tryz.ntmps152
 have hmk:∀W:World,(Instr.makeMap 247 (some (.int .i64 (n:Int)))).run Tryz.prog W=.ok (.map (some W.heap.size)) (W.alloc (.map #[] 0)):=fun W=>run_makeMap_hint (k:=250) (e:=95) (by kernel_rfl) W
 go_wp2_with fail
 clear hmk
 go_loopg [11] n (fun gg s11 wr=>∃j:Nat,j+gg=n∧s11=.int .i64 j∧Hid (∃es c',wr.heap[w.heap.size]? = some (.map es c')∧MapT cx.tb W0 T w 250 95 es)∧Hid (Below w.heap.size w wr)∧Hid (w.heap.size<wr.heap.size))
 case atStart=>exact⟨0,by omega,rfl,⟨#[],0,heap_alloc_new w _,fun e he=>by simp at he⟩,below_alloc (Below.refl _ _) _,by show _<_;simp⟩
 case round=>
  obtain⟨j,hj,rfl,HM,HB,HS⟩:=hrel
  by_cases hjn:j<n
  ·obtain⟨b,off,rfl,s0,s1,n2,n3,n4,n5,s6,b7,n8,B,m,c9,hpe,hpk,hat⟩:=HE.out j hjn
   obtain⟨h0,h1,h2,h3,h4,h5,h6,h7,h8,h9⟩:=hat wr HB.out
   have HPE:=Lib.hid hpe
   have HPK:=Lib.hid hpk
   clear hpe hpk hat
   have HKB:=Lib.hid (YtmadfhgiaonnlaaGreatDoor.Blk.new wr 95 #[.string s0,.string s1,.int .i64 n2,.int .i64 n3,.int .i64 n4,.int .i64 n5,.string s6,.bool b7,.int .i64 n8,.slice B m c9])
   go_wp2_with fail
   refine RegC.region 4 (fun kz=>match kz with|0=>some (.map (some w.heap.size))|1=>some (.agg (evA s0 s1 n2 n3 n4 n5 s6 b7 n8 (.slice B m c9)))|2=>some (.agg #[.string s0,.string s1,.int .i64 n3])|3=>some (.agg (evA s0 s1 n2 n3 n4 n5 s6 b7 n8 (.slice B m c9)))|_=>none) (by kernel_rfl) (by kernel_rfl) (Reg4.in_of (n:=21) (by kernel_rfl) rfl) ?_ ?_
   ·intro idx o hj ho a' w' hG hop
    have hj':idx=0∨idx=1∨idx=2∨idx=3:=by omega
    clear hj
    rcases hj' with rfl|rfl|rfl|rfl
    ·obtain rfl:=oi ho
     have h3:a'.tmps[3]?.getD undef=_:=gdt (hop 3 (by simp[Op.operands,Call.operands]))
     refine Reg4.StepOk.mono (R:=fun v W=>v=.map (some w.heap.size)∧W=w') ?_ (fun v W h=>?_)
     ·go_simp
      all_goals(try exact⟨rfl,rfl⟩)
     ·obtain⟨rfl,rfl⟩:=h
      exact⟨fun x hx=>oi hx,Below.refl _ _⟩
    ·obtain rfl:=oi ho
     have h5:a'.tmps[5]?.getD undef=_:=gdt (hop 5 (by simp[Op.operands,Call.operands]))
     have kc:=(HKB.out.call hG).cell
     unfold evA
     refine Reg4.StepOk.mono (R:=fun v W=>v=.agg (evA s0 s1 n2 n3 n4 n5 s6 b7 n8 (.slice B m c9))∧W=w') ?_ (fun v W h=>?_)
     ·go_simp
      all_goals(try exact⟨rfl,rfl⟩)
     ·obtain⟨rfl,rfl⟩:=h
      exact⟨fun x hx=>oi hx,Below.refl _ _⟩
    ·obtain rfl:=oi ho
     have h16:a'.tmps[16]?.getD undef=.agg (evA s0 s1 n2 n3 n4 n5 s6 b7 n8 (.slice B m c9)):=gdt (hop 16 (by simp[Op.operands,Call.operands]) _ rfl)
     refine Reg4.StepOk.mono (R:=fun v W=>v=.agg #[.string s0,.string s1,.int .i64 n3]∧Hid (Below w'.heap.size w' W)) ?_ (fun v W h=>?_)
     ·go_simp
      refine(keyOf_walk _ _ _ _ _ _ _ _ _ _ _ _ _).mono ?_
      rintro e w5 ⟨rfl,hb⟩
      exact⟨_,rfl,rfl,hb⟩
     ·obtain⟨rfl,hb⟩:=h
      exact⟨fun x hx=>oi hx,hb.out⟩
    ·obtain rfl:=oi ho
     have h5:a'.tmps[5]?.getD undef=_:=gdt (hop 5 (by simp[Op.operands,Call.operands]))
     have kc:=(HKB.out.call hG).cell
     unfold evA
     refine Reg4.StepOk.mono (R:=fun v W=>v=.agg (evA s0 s1 n2 n3 n4 n5 s6 b7 n8 (.slice B m c9))∧W=w') ?_ (fun v W h=>?_)
     ·go_simp
      all_goals(try exact⟨rfl,rfl⟩)
     ·obtain⟨rfl,rfl⟩:=h
      exact⟨fun x hx=>oi hx,Below.refl _ _⟩
   ·intro vals w' hG hv
    have hv0:vals 0=.map (some w.heap.size):=hv 0 _ (by omega) rfl
    have hv1:vals 1=.agg (evA s0 s1 n2 n3 n4 n5 s6 b7 n8 (.slice B m c9)):=hv 1 _ (by omega) rfl
    have hv2:vals 2=.agg #[.string s0,.string s1,.int .i64 n3]:=hv 2 _ (by omega) rfl
    have hv3:vals 3=.agg (evA s0 s1 n2 n3 n4 n5 s6 b7 n8 (.slice B m c9)):=hv 3 _ (by omega) rfl
    simp only[Reg4.puts,Reg4.dstOf,List.range,List.range.loop,if_true,List.drop_succ_cons,List.drop_zero,hv0,hv1,hv2,hv3]
    clear hv hv0 hv1 hv2 hv3
    simp[Act.put]
    obtain⟨es,c',hM,hT⟩:=HM.out
    have hlt:w.heap.size<wr.heap.size:=HS.out
    have hM':w'.heap[w.heap.size]? = some (.map es c'):=by
     rw[hG.block _ (by simp;omega)]
     exact(Below.heap_alloc wr _ _ hlt).trans hM
    obtain⟨kd,es2,c2,hrun,hT2⟩:=updEv w.heap.size HPK.out HPE.out hM' hT
    have HB2:=Lib.hid (below_setMap (o:=.map es2 c2) (r:=w.heap.size) ((below_call (below_alloc HB.out _) hG).trans (below_drewN' (Below.refl _ _) kd)) (Nat.le_refl _))
    have HS2:Hid (w.heap.size<(y7 (w'.drewN kd) w.heap.size (.map es2 c2)).heap.size):=by
     show _<_
     have:=hG.size
     simp[y7] at this ⊢
     omega
    have HM2:Hid (∃es c',(y7 (w'.drewN kd) w.heap.size (.map es2 c2)).heap[w.heap.size]? = some (.map es c')∧MapT cx.tb W0 T w 250 95 es):=⟨es2,c2,setMap_at (by have:=hG.size;simp at this ⊢;omega),hT2⟩
    refine wpList_mapUpd rfl (.tmp 15) (.tmp 17) (.tmp 18) 247 rfl hrun ?_
    generalize y7 (w'.drewN kd) w.heap.size (.map es2 c2)=w3 at *
    clear hrun hM' hM hT hT2
    go_wp2_with fail
    go_roundg (n-(j+1))
    case measure=>omega
    case rel=>exact⟨j+1,by omega,by simp,HM2,HB2,HS2⟩
  ·have hjn':n=j:=by omega
   subst hjn'
   go_wp2_with fail
   go_ret
   obtain⟨es,c',hM,hT⟩:=HM.out
   exact⟨w.heap.size,es,c',rfl,⟨hM,hT⟩,HB⟩
def c152':Ctr:=⟨[.one (.sl 0 95 8192)],[],[.one (.mp 250 95)],[],false,none⟩
theorem index_holds:Holds Tryz.prog cx W0 152 c152':=by
 refine holds_one (ct:=.mp 250 95) ⟨_,Tryz.func152,by kernel_rfl,by kernel_rfl⟩ rfl rfl rfl fun T w args hw hty _=>?_
 obtain⟨v,rfl⟩:∃v,args=[v]:=by
  have:=yt hty
  rcases args with _|⟨v,_|⟨u,l⟩⟩
  ·cases this
  ·exact⟨v,rfl⟩
  ·simp[c152'] at this
 have hv:CV cx.tb W0 T w w.heap.size (.sl 0 95 8192) v:=hty.1
 obtain⟨A,n,c,rfl,hn⟩:∃A n c,v=.slice A n c∧n≤8192:=by
  rcases hv with h|⟨-,h⟩|⟨b,off,n,c,h,h1,h2,-⟩
  ·exact⟨_,_,_,h,Nat.zero_le _⟩
  ·cases h with
   | nil=>exact⟨_,_,_,rfl,Nat.zero_le _⟩
   | emp a=>exact⟨_,_,_,rfl,Nat.zero_le _⟩
   | sl f hb hn hl=>exact⟨_,_,_,rfl,hl⟩
  ·exact⟨_,n,_,h,h2⟩
 refine(index_walk hn (evs_at hw hv)).mono ?_
 rintro e w' ⟨r,es,c',rfl,hM,hB⟩
 exact⟨_,rfl,.inr ⟨r,es,c',rfl,hM.out.1,MapT.mono hM.out.2 (zu hw hB.out).2⟩,hB.out⟩
end
set_option maxRecDepth 100000
def P(t:Nat):PT:=match tdOf cx t with
 | some ⟨.pt e,_,_,_,_⟩=>.one (.pt 1 e)
 | some d=>if d.k.agg then .agg ((tbs.flat t).getD []) else .one (((tbs.flat t).getD []).getD 0 .any)
 | none=>.one .any
def Rm(t:Nat):PT:=match P t with
 | .one (.sl _ e lb)=>.one (.sl 1 e lb)
 | p=>p
def c7:Ctr:=⟨[(P 3),(P 3)],[],[(Rm 51),(Rm 52)],[],false,none⟩
def c18:Ctr:=⟨[(P 51),(P 9)],[],[(Rm 3)],[⟨1,[(1,14)]⟩,⟨-1,[(1,1),(-1,14)]⟩],false,none⟩
def c78:Ctr:=⟨[(P 3)],[],[(Rm 3),(Rm 4)],[],false,none⟩
def c38:Ctr:=⟨[(P 3),(P 3)],[],[(Rm 3),(Rm 4)],[],false,none⟩
def c39:Ctr:=⟨[(P 31)],[],[(Rm 3)],[],false,none⟩
def c40:Ctr:=⟨[(P 31),(P 3)],[],[(Rm 4)],[],false,none⟩
def c29:Ctr:=⟨[(P 9)],[],[(Rm 4)],[],true,none⟩
def c41:Ctr:=⟨[(P 31),(P 3)],[],[(Rm 4)],[],false,none⟩
def c105:Ctr:=⟨[(P 28)],[],[(Rm 4)],[],false,none⟩
def c106:Ctr:=⟨[(P 28)],[],[(Rm 4)],[],false,none⟩
def c127:Ctr:=⟨[(P 3)],[],[(Rm 3)],[],false,none⟩
def c107:Ctr:=⟨[(P 28)],[],[(Rm 52)],[],false,none⟩
def c79:Ctr:=⟨[(P 28)],[],[(Rm 52)],[],false,none⟩
def c75:Ctr:=⟨[(P 34)],[],[(Rm 52)],[],false,none⟩
def c80:Ctr:=⟨[(P 34)],[],[(Rm 52)],[],false,none⟩
def c42:Ctr:=⟨[(P 31),(P 3)],[],[(Rm 52)],[],false,none⟩
def c19:Ctr:=⟨[(P 31)],[],[(Rm 52)],[],false,none⟩
def c47:Ctr:=⟨[(P 40)],[],[(Rm 40)],[],false,none⟩
def c45:Ctr:=⟨[(P 29)],[],[(Rm 29)],[],false,none⟩
def c82:Ctr:=⟨[(P 23)],[],[(Rm 23)],[],false,none⟩
def c146:Ctr:=⟨[(P 26)],[],[(Rm 26)],[],false,none⟩
def c128:Ctr:=⟨[(P 28)],[],[(Rm 28)],[],false,none⟩
def c109:Ctr:=⟨[(P 31)],[],[(Rm 31)],[],false,none⟩
def c108:Ctr:=⟨[(P 58),(.one (.fn [109] [] []))],[],[(Rm 58)],[⟨0,[(-1,0),(1,2)]⟩,⟨0,[(1,0),(-1,2)]⟩],false,none⟩
def c81:Ctr:=⟨[(P 82)],[],[(Rm 82)],[],false,none⟩
def c44:Ctr:=⟨[(P 84)],[],[(Rm 84)],[],false,none⟩
def c43:Ctr:=⟨[(P 38),(.one (.fn [44] [] []))],[],[(Rm 38)],[⟨0,[(-1,0),(1,2)]⟩,⟨0,[(1,0),(-1,2)]⟩],false,none⟩
def c46:Ctr:=⟨[(P 39)],[],[(Rm 39)],[],false,none⟩
def c49:Ctr:=⟨[(P 95)],[],[(Rm 95)],[],false,none⟩
def c48:Ctr:=⟨[(P 43),(.one (.fn [49] [] []))],[],[(Rm 43)],[⟨0,[(-1,0),(1,2)]⟩,⟨0,[(1,0),(-1,2)]⟩],false,none⟩
def c51:Ctr:=⟨[(P 98)],[],[(Rm 98)],[],false,none⟩
def c50:Ctr:=⟨[(P 44),(.one (.fn [51] [] []))],[],[(Rm 44)],[⟨0,[(-1,0),(1,2)]⟩,⟨0,[(1,0),(-1,2)]⟩],false,none⟩
def c52:Ctr:=⟨[(.one (.cs 0 69 8192))],[],[(.one (.cs 0 69 8192))],[⟨0,[(-1,0),(1,1)]⟩,⟨0,[(1,0),(-1,1)]⟩],false,none⟩
def c85:Ctr:=⟨[(P 170)],[],[(Rm 170)],[],false,none⟩
def c84:Ctr:=⟨[(P 174)],[],[(Rm 174)],[],false,none⟩
def c83:Ctr:=⟨[(P 131),(.one (.fn [84] [] []))],[],[(Rm 131)],[⟨0,[(-1,0),(1,2)]⟩,⟨0,[(1,0),(-1,2)]⟩],false,none⟩
def c54:Ctr:=⟨[(P 133)],[],[(Rm 133)],[],false,none⟩
def c53:Ctr:=⟨[(P 46),(.one (.fn [54] [] []))],[],[(Rm 46)],[⟨0,[(-1,0),(1,2)]⟩,⟨0,[(1,0),(-1,2)]⟩],false,none⟩
def c57:Ctr:=⟨[(P 136)],[],[(Rm 136)],[],false,none⟩
def c56:Ctr:=⟨[(P 138)],[],[(Rm 138)],[],false,none⟩
def c55:Ctr:=⟨[(P 47),(.one (.fn [56] [] []))],[],[(Rm 47)],[⟨0,[(-1,0),(1,2)]⟩,⟨0,[(1,0),(-1,2)]⟩],false,none⟩
def c20:Ctr:=⟨[(P 51)],[],[(Rm 51)],[⟨0,[(-1,1),(1,14)]⟩,⟨0,[(1,1),(-1,14)]⟩],false,none⟩
def c21:Ctr:=⟨[(P 143)],[],[(Rm 85)],[],true,none⟩
def c58:Ctr:=⟨[(P 31)],[],[(Rm 4)],[],false,none⟩
def c86:Ctr:=⟨[(P 23)],[],[(Rm 23)],[],false,none⟩
def c87:Ctr:=⟨[(P 26)],[],[(Rm 26)],[],false,none⟩
def c88:Ctr:=⟨[(P 29)],[],[(Rm 29)],[],false,none⟩
def c60:Ctr:=⟨[(P 58)],[],[(Rm 58)],[⟨0,[(-1,0),(1,1)]⟩,⟨0,[(1,0),(-1,1)]⟩],false,none⟩
def c59:Ctr:=⟨[(P 82)],[],[(Rm 82)],[⟨0,[(-1,3),(1,11)]⟩,⟨0,[(1,3),(-1,11)]⟩,⟨0,[(-1,4),(1,12)]⟩,⟨0,[(1,4),(-1,12)]⟩,⟨0,[(-1,7),(1,15)]⟩,⟨0,[(1,7),(-1,15)]⟩],false,none⟩
def c90:Ctr:=⟨[(P 31),(.one (.pt 1 31))],[],[(Rm 4)],[],false,none⟩
def c110:Ctr:=⟨[(P 58),(.one (.fn [90] [] [(1,31)]))],[],[(Rm 3)],[],false,none⟩
def c89:Ctr:=⟨[(P 58),(.one (.fn [90] [] [(1,31)]))],[],[(Rm 4)],[],false,none⟩
def c61:Ctr:=⟨[(P 31),(P 58)],[],[(Rm 4)],[],false,none⟩
def c22:Ctr:=⟨[(P 82),(P 31)],[],[(Rm 82),(Rm 58),(Rm 58),(Rm 58)],[],false,none⟩
def c23:Ctr:=⟨[(P 143),(P 31),(P 31)],[],[],[],false,none⟩
def c62:Ctr:=⟨[(P 31),(P 52)],[],[(Rm 31)],[],false,none⟩
def c111:Ctr:=⟨[(P 31),(P 3)],[],[(Rm 31)],[],false,none⟩
def c91:Ctr:=⟨[(P 143),(P 31)],[],[(Rm 31)],[],false,none⟩
def c92:Ctr:=⟨[(P 143),(P 31)],[],[(Rm 31)],[],false,none⟩
def c112:Ctr:=⟨[(P 3),(P 3),(P 3)],[],[(Rm 4)],[],false,some (.and (.ge ⟨0,[(1,0),(-1,1)]⟩) (.ge ⟨0,[(-1,0),(1,2)]⟩))⟩
def c93:Ctr:=⟨[(P 143),(P 31)],[],[(Rm 31)],[],false,none⟩
def c126:Ctr:=⟨[(P 5)],[],[(Rm 5)],[],false,none⟩
def c104:Ctr:=⟨[(P 9),(P 9)],[],[(Rm 4)],[],false,none⟩
def c76:Ctr:=⟨[(P 29),(P 9)],[],[(Rm 3)],[⟨1,[(1,2)]⟩,⟨-1,[(1,0),(-1,2)]⟩],false,none⟩
def c166:Ctr:=⟨[(P 29),(P 9)],[],[(Rm 34),(Rm 4)],[],false,none⟩
def c167:Ctr:=⟨[(P 34),(P 3)],[],[(Rm 3)],[],false,none⟩
def c147:Ctr:=⟨[(P 219),(P 29),(P 3)],[],[(Rm 200),(Rm 4)],[],false,none⟩
def c169:Ctr:=⟨[(P 9),(.one (.pt 1 219))],[],[(Rm 4)],[],false,none⟩
def c182:Ctr:=⟨[(P 202),(.one (.fn [169] [] [(1,219)]))],[],[(Rm 3)],[],false,none⟩
def c168:Ctr:=⟨[(P 202),(.one (.fn [169] [] [(1,219)]))],[],[(Rm 4)],[],false,none⟩
def c148:Ctr:=⟨[(P 219)],[],[(Rm 4)],[],false,none⟩
def c130:Ctr:=⟨[(P 219)],[],[(Rm 200),(Rm 4)],[],false,none⟩
def c131:Ctr:=⟨[(P 219)],[],[(Rm 200),(Rm 4)],[],false,none⟩
def c129:Ctr:=⟨[(P 241)],[],[(Rm 200)],[],false,none⟩
def c113:Ctr:=⟨[(P 29),(P 9),(P 202),(P 3)],[],[(Rm 200)],[],false,none⟩
def c114:Ctr:=⟨[(P 143),(P 205)],[],[(Rm 202)],[],true,none⟩
def c94:Ctr:=⟨[(P 143),(P 31)],[],[(Rm 31)],[],false,none⟩
def c132:Ctr:=⟨[(P 28)],[],[(Rm 4)],[],false,none⟩
def c149:Ctr:=⟨[(P 95)],[],[(Rm 52)],[⟨0,[(1,10)]⟩],true,none⟩
def c150:Ctr:=⟨[(P 95)],[],[(Rm 52)],[⟨0,[(1,10)]⟩],true,none⟩
def c133:Ctr:=⟨[(P 95)],[],[(Rm 52)],[⟨0,[(1,10)]⟩],true,none⟩
def c115:Ctr:=⟨[(P 9),(P 31)],[],[(Rm 95),(Rm 52)],[],false,none⟩
def c183:Ctr:=⟨[(P 40)],[],[(Rm 3)],[],true,none⟩
def c184:Ctr:=⟨[(P 9),(P 9)],[],[(.one (.int .i64 (-1) 1))],[],true,none⟩
def c172:Ctr:=⟨[(P 250),(P 250)],[],[(Rm 3)],[],true,none⟩
def c151:Ctr:=⟨[(P 43),(P 9),(P 9)],[],[(Rm 3),(Rm 3)],[⟨0,[(1,3)]⟩,⟨0,[(-1,3),(1,4)]⟩,⟨0,[(1,0),(-1,4)]⟩],true,none⟩
def c152:Ctr:=⟨[(P 43)],[],[(.one (.mp 250 95))],[],false,none⟩
def c153:Ctr:=⟨[(P 95)],[],[(Rm 250)],[],true,none⟩
def c173:Ctr:=⟨[(P 23),(P 23)],[],[(Rm 4)],[],false,none⟩
def c154:Ctr:=⟨[(P 95),(P 95)],[],[(Rm 4)],[],false,none⟩
def c155:Ctr:=⟨[(P 95),(P 95)],[],[(Rm 4)],[],true,none⟩
def c156:Ctr:=⟨[(.one (.sl 1 95 8192)),(.one (.sl 0 95 8192))],[⟨8192,[(-1,0),(-1,1)]⟩],[(.one (.sl 1 95 8192))],[⟨0,[(1,0),(1,1),(-1,2)]⟩,⟨0,[(-1,0),(-1,1),(1,2)]⟩],false,none⟩
def c134:Ctr:=⟨[(.one (.sl 1 95 8192)),(P 95)],[],[(.one (.sl 1 95 8192)),(P 52)],[],false,none⟩
def c174:Ctr:=⟨[(P 43)],[],[(Rm 43)],[⟨0,[(1,0),(-1,1)]⟩,⟨0,[(-1,0),(1,1)]⟩],true,none⟩
def c176:Ctr:=⟨[(P 95),(P 95)],[],[(Rm 3)],[],false,none⟩
def c189:Ctr:=⟨[(.one (.sl 1 95 8192)),(P 3),(P 3),(.one (.fn [176] [] []))],[⟨0,[(1,1)]⟩,⟨0,[(-1,1),(1,2)]⟩,⟨0,[(1,0),(-1,2)]⟩],[],[],false,none⟩
def c193:Ctr:=⟨[(.one (.sl 1 95 8192)),(P 3),(P 3),(P 3),(.one (.fn [176] [] []))],[⟨0,[(1,1)]⟩,⟨0,[(1,2)]⟩,⟨0,[(1,3)]⟩,⟨0,[(1,0),(-1,1),(-1,3)]⟩,⟨0,[(1,0),(-1,2),(-1,3)]⟩],[],[],false,none⟩
def c192:Ctr:=⟨[(.one (.sl 1 95 8192)),(P 3),(P 3),(P 3),(.one (.fn [176] [] []))],[⟨0,[(1,1)]⟩,⟨-1,[(-1,1),(1,2)]⟩,⟨-1,[(-1,2),(1,3)]⟩,⟨0,[(1,0),(-1,3)]⟩],[],[],false,none⟩
def c190_0:Ctr:=⟨[(.one (.sl 1 95 8192)),(P 3),(P 3),(P 3),(.one (.fn [176] [] []))],[⟨0,[(1,1)]⟩,⟨-1,[(-1,1),(1,2)]⟩,⟨-1,[(-1,2),(1,3)]⟩,⟨0,[(1,0),(-1,3)]⟩,⟨3,[(1,1),(-1,3)]⟩,⟨0,[(1,0),(-1,2)]⟩],[],[],false,none⟩
def c190_1:Ctr:=⟨[(.one (.sl 1 95 8192)),(P 3),(P 3),(P 3),(.one (.fn [176] [] []))],[⟨0,[(1,1)]⟩,⟨-1,[(-1,1),(1,2)]⟩,⟨-1,[(-1,2),(1,3)]⟩,⟨0,[(1,0),(-1,3)]⟩,⟨6,[(1,1),(-1,3)]⟩,⟨0,[(1,0),(-1,2)]⟩],[],[],false,none⟩
def c190_2:Ctr:=⟨[(.one (.sl 1 95 8192)),(P 3),(P 3),(P 3),(.one (.fn [176] [] []))],[⟨0,[(1,1)]⟩,⟨-1,[(-1,1),(1,2)]⟩,⟨-1,[(-1,2),(1,3)]⟩,⟨0,[(1,0),(-1,3)]⟩,⟨12,[(1,1),(-1,3)]⟩,⟨0,[(1,0),(-1,2)]⟩],[],[],false,none⟩
def c190_3:Ctr:=⟨[(.one (.sl 1 95 8192)),(P 3),(P 3),(P 3),(.one (.fn [176] [] []))],[⟨0,[(1,1)]⟩,⟨-1,[(-1,1),(1,2)]⟩,⟨-1,[(-1,2),(1,3)]⟩,⟨0,[(1,0),(-1,3)]⟩,⟨24,[(1,1),(-1,3)]⟩,⟨0,[(1,0),(-1,2)]⟩],[],[],false,none⟩
def c190_4:Ctr:=⟨[(.one (.sl 1 95 8192)),(P 3),(P 3),(P 3),(.one (.fn [176] [] []))],[⟨0,[(1,1)]⟩,⟨-1,[(-1,1),(1,2)]⟩,⟨-1,[(-1,2),(1,3)]⟩,⟨0,[(1,0),(-1,3)]⟩,⟨48,[(1,1),(-1,3)]⟩,⟨0,[(1,0),(-1,2)]⟩],[],[],false,none⟩
def c190_5:Ctr:=⟨[(.one (.sl 1 95 8192)),(P 3),(P 3),(P 3),(.one (.fn [176] [] []))],[⟨0,[(1,1)]⟩,⟨-1,[(-1,1),(1,2)]⟩,⟨-1,[(-1,2),(1,3)]⟩,⟨0,[(1,0),(-1,3)]⟩,⟨96,[(1,1),(-1,3)]⟩,⟨0,[(1,0),(-1,2)]⟩],[],[],false,none⟩
def c190_6:Ctr:=⟨[(.one (.sl 1 95 8192)),(P 3),(P 3),(P 3),(.one (.fn [176] [] []))],[⟨0,[(1,1)]⟩,⟨-1,[(-1,1),(1,2)]⟩,⟨-1,[(-1,2),(1,3)]⟩,⟨0,[(1,0),(-1,3)]⟩,⟨192,[(1,1),(-1,3)]⟩,⟨0,[(1,0),(-1,2)]⟩],[],[],false,none⟩
def c190_7:Ctr:=⟨[(.one (.sl 1 95 8192)),(P 3),(P 3),(P 3),(.one (.fn [176] [] []))],[⟨0,[(1,1)]⟩,⟨-1,[(-1,1),(1,2)]⟩,⟨-1,[(-1,2),(1,3)]⟩,⟨0,[(1,0),(-1,3)]⟩,⟨384,[(1,1),(-1,3)]⟩,⟨0,[(1,0),(-1,2)]⟩],[],[],false,none⟩
def c190_8:Ctr:=⟨[(.one (.sl 1 95 8192)),(P 3),(P 3),(P 3),(.one (.fn [176] [] []))],[⟨0,[(1,1)]⟩,⟨-1,[(-1,1),(1,2)]⟩,⟨-1,[(-1,2),(1,3)]⟩,⟨0,[(1,0),(-1,3)]⟩,⟨768,[(1,1),(-1,3)]⟩,⟨0,[(1,0),(-1,2)]⟩],[],[],false,none⟩
def c190_9:Ctr:=⟨[(.one (.sl 1 95 8192)),(P 3),(P 3),(P 3),(.one (.fn [176] [] []))],[⟨0,[(1,1)]⟩,⟨-1,[(-1,1),(1,2)]⟩,⟨-1,[(-1,2),(1,3)]⟩,⟨0,[(1,0),(-1,3)]⟩,⟨1536,[(1,1),(-1,3)]⟩,⟨0,[(1,0),(-1,2)]⟩],[],[],false,none⟩
def c190_10:Ctr:=⟨[(.one (.sl 1 95 8192)),(P 3),(P 3),(P 3),(.one (.fn [176] [] []))],[⟨0,[(1,1)]⟩,⟨-1,[(-1,1),(1,2)]⟩,⟨-1,[(-1,2),(1,3)]⟩,⟨0,[(1,0),(-1,3)]⟩,⟨3072,[(1,1),(-1,3)]⟩,⟨0,[(1,0),(-1,2)]⟩],[],[],false,none⟩
def c190_11:Ctr:=⟨[(.one (.sl 1 95 8192)),(P 3),(P 3),(P 3),(.one (.fn [176] [] []))],[⟨0,[(1,1)]⟩,⟨-1,[(-1,1),(1,2)]⟩,⟨-1,[(-1,2),(1,3)]⟩,⟨0,[(1,0),(-1,3)]⟩,⟨6144,[(1,1),(-1,3)]⟩,⟨0,[(1,0),(-1,2)]⟩],[],[],false,none⟩
def c190_12:Ctr:=⟨[(.one (.sl 1 95 8192)),(P 3),(P 3),(P 3),(.one (.fn [176] [] []))],[⟨0,[(1,1)]⟩,⟨-1,[(-1,1),(1,2)]⟩,⟨-1,[(-1,2),(1,3)]⟩,⟨0,[(1,0),(-1,3)]⟩,⟨12288,[(1,1),(-1,3)]⟩,⟨0,[(1,0),(-1,2)]⟩],[],[],false,none⟩
def c190:Ctr:=⟨[(.one (.sl 1 95 8192)),(P 3),(P 3),(P 3),(.one (.fn [176] [] []))],[⟨0,[(1,1)]⟩,⟨-1,[(-1,1),(1,2)]⟩,⟨-1,[(-1,2),(1,3)]⟩,⟨0,[(1,0),(-1,3)]⟩,⟨12288,[(1,1),(-1,3)]⟩,⟨0,[(1,0),(-1,2)]⟩],[],[],false,none⟩
def c185:Ctr:=⟨[(.one (.sl 1 95 8192)),(P 3),(.one (.fn [176] [] []))],[⟨0,[(1,1)]⟩,⟨0,[(1,0),(-1,1)]⟩],[],[],false,none⟩
def c175:Ctr:=⟨[(.one (.sl 1 95 8192)),(.one (.fn [176] [] []))],[],[],[],false,none⟩
def c157:Ctr:=⟨[(.one (.sl 0 95 8192))],[⟨-1,[(1,0)]⟩],[(.one (.sl 1 95 8192)),(P 52)],[⟨0,[(1,0),(-1,1)]⟩,⟨-1,[(1,1),(1,2)]⟩],false,none⟩
def c158:Ctr:=⟨[(P 43)],[],[(Rm 4)],[],false,none⟩
def c186:Ctr:=⟨[(P 23)],[],[(Rm 4)],[],true,none⟩
def c177:Ctr:=⟨[(P 23),(P 23)],[],[(.one (.sl 1 156 1024)),(P 52)],[],false,none⟩
def c159:Ctr:=⟨[(P 43)],[],[(.one (.sl 1 156 1024)),(P 52)],[],false,none⟩
def c178:Ctr:=⟨[(P 23),(P 3)],[],[(Rm 52)],[],true,none⟩
def c180:Ctr:=⟨[(P 3),(P 3),(P 3)],[],[(Rm 3),(Rm 52)],[],true,none⟩
def c160:Ctr:=⟨[(P 23),(P 3)],[],[(Rm 3),(Rm 52)],[],true,none⟩
def c135:Ctr:=⟨[(P 43),(P 3)],[],[(Rm 98),(Rm 52)],[],false,none⟩
def c136:Ctr:=⟨[(P 43),(P 9),(P 9)],[],[(Rm 43)],[],false,none⟩
def c116:Ctr:=⟨[(P 143),(P 95)],[],[(Rm 52)],[],false,none⟩
def c95:Ctr:=⟨[(P 143),(P 31)],[],[(Rm 31)],[],false,none⟩
def c31:Ctr:=⟨[(.one (.cs 0 69 8192)),(P 3),(P 9),(P 9),(P 9)],[],[(.one (.cs 0 69 8192)),(P 52)],[],true,none⟩
def c32:Ctr:=⟨[(P 3)],[],[(.one (.str 21))],[],true,none⟩
def c96:Ctr:=⟨[(P 143),(P 31)],[],[(Rm 31)],[],false,none⟩
def c97:Ctr:=⟨[(P 143),(P 31)],[],[(Rm 31)],[],false,none⟩
def c63:Ctr:=⟨[(P 143),(P 3)],[],[(.one (.fn [91,92,93,94,95,96,97] [(1,80)] []))],[],false,none⟩
def c64:Ctr:=⟨[(P 82),(P 31)],[],[(Rm 82),(Rm 52)],[],false,none⟩
def c24:Ctr:=⟨[(P 143),(P 31)],[],[(Rm 31)],[],false,none⟩
def c9:Ctr:=⟨[(P 51),(P 9),(P 31)],[],[(Rm 51),(Rm 58)],[],false,none⟩
def c74:Ctr:=⟨[(P 3),(P 3)],[],[(Rm 4)],[],false,none⟩
def c34:Ctr:=⟨[(P 3),(P 3),(P 3)],[],[(Rm 82),(Rm 52)],[],false,none⟩
def c14:Ctr:=⟨[(P 51),(P 9),(P 3)],[],[(Rm 51),(Rm 52)],[],false,none⟩
def c30:Ctr:=⟨[(P 82),(P 31)],[],[(Rm 82),(Rm 3),(Rm 52)],[],false,none⟩
def c12:Ctr:=⟨[(P 51),(P 9),(P 9),(P 31)],[],[(Rm 51),(Rm 52)],[],false,none⟩
def c35:Ctr:=⟨[(P 82),(P 3)],[],[(Rm 4)],[],false,none⟩
def c36:Ctr:=⟨[(P 82),(P 3)],[],[(Rm 82),(Rm 58),(Rm 58)],[],false,none⟩
def c15:Ctr:=⟨[(P 51),(P 3)],[],[(Rm 51),(Rm 55)],[],false,none⟩
def c77:Ctr:=⟨[(P 9)],[],[(Rm 9)],[],false,none⟩
def c37:Ctr:=⟨[(P 29),(P 34)],[],[(P 29),(P 52)],[],false,none⟩
def c16:Ctr:=⟨[(P 51),(P 34)],[],[(Rm 51),(Rm 52)],[],false,none⟩
def c17:Ctr:=⟨[(P 51),(P 36)],[],[(Rm 31)],[],false,none⟩
def c8:Ctr:=⟨[(P 51),(P 36)],[],[(Rm 51),(Rm 55),(Rm 52)],[],false,none⟩
end Sy
end Go.Proofs.YtmadfhgiaonnlaaGreatDoor
