import Derived.RangeFuncNested
import Derived.RangeFuncBound
import Derived.RangeFuncLeaves
import Derived.Shelf.Abstract
import Derived.TacticsInMore
import Derived.LoopNIn
import Derived.LoopIn
import Derived.Test.YtmadfhgiaonnlaaGreatDoorPk19
import Derived.Test.YtmadfhgiaonnlaaGreatDoorPk22
import Derived.Test.YtmadfhgiaonnlaaGreatDoorPk31
set_option linter.unusedVariables false
set_option linter.unusedSimpArgs false
namespace Go.Proofs.YtmadfhgiaonnlaaGreatDoor
namespace Nbr
open Go.RowKit
attribute [local go_sem] Oper.semAt_some
abbrev i (n:Int):Value:=.int .i64 n
def intOf:Value→Int
 | .int _ n=>n
 | _=>0
abbrev rdgV (x:Int×Int):Value:=.agg #[i x.1,i x.2]
abbrev nbV (f:Nat→Int×Int) (x:Nat):Array Value:=#[rdgV (f x),rdgV (f (x+1))]
def KpN(n₀ Bs:Nat)(W W':World):Prop:=Below n₀ W W'∧W'.heap[Bs]? = W.heap[Bs]?
theorem KpN.trans{n₀ Bs:Nat}{A B C:World}(h:KpN n₀ Bs A B)(k:KpN n₀ Bs B C):KpN n₀ Bs A C:=⟨h.1.trans k.1,k.2.trans h.2⟩
theorem KpN.refl(n₀ Bs:Nat)(W:World):KpN n₀ Bs W W:=⟨Below.refl _ _,rfl⟩
theorem KpN.cell{n₀ Bs:Nat}{A B:World}(h:KpN n₀ Bs A B)(o:Nat):B.cell? ⟨Bs,o,none⟩=A.cell? ⟨Bs,o,none⟩:=by unfold World.cell?;simp only[h.2]
def Rds(W:World)(n₀:Nat)(A:Option Addr)(len:Nat)(f:Nat→Int×Int):Prop:=∀j,j<len→∃b off,A=some ⟨b,off,none⟩∧b<n₀∧W.cell? ⟨b,off+j*2,none⟩=some (i (f j).1)∧W.cell? ⟨b,off+j*2+1,none⟩=some (i (f j).2)
theorem Rds.below{W W':World}{n₀:Nat}{A:Option Addr}{len:Nat}{f:Nat→Int×Int}(h:Rds W n₀ A len f)(hb:Below n₀ W W'):Rds W' n₀ A len f:=fun j hj=>by
 obtain⟨b,off,e,h1,h2,h3⟩:=h j hj
 exact⟨b,off,e,h1,(hb.cell (p:=⟨b,_,none⟩) h1).trans h2,(hb.cell (p:=⟨b,_,none⟩) h1).trans h3⟩
set_option maxRecDepth 100000 in
set_option maxHeartbeats 2000000 in
theorem nb1(F:Fence)(n:Nat)(hf:F.fn 187)(hro:F.round=none)(hn:1≤n)(l' Bs n₀:Nat)(A:Option Addr)(len c:Nat)(f:Nat→Int×Int)(hlen:len≤1048576)(J Jx:List Nat→World→Prop)
  (hY:∀pre x W,J pre W→pre.length<len→YieldAt F (n-1) Tryz.prog l' (nbV f x) W fun e W'=>
    (e=.returned (.bool true)∧J (pre++[x]) W'∧KpN n₀ Bs W W')∨(e=.returned (.bool false)∧Jx (pre++[x]) W'))
  (W:World) (hBs:W.cell? ⟨Bs,0,none⟩=some (.slice A len c))
  (hR:Rds W n₀ A len f) (h0:J [] W) (hJd:∀pre W,J pre W→J pre W.drew) :
  CallsIn F n Tryz.prog 187 #[.func (.yield l') #[] #[],.pointer (some ⟨Bs,0,none⟩)] W fun e W'=>(∃v,e=.returned v) ∧
   ((∃ys,True∧J ys W')∨(∃pre,True∧Jx pre W')):=by
 refine callsIn_of_wp Tryz.func187 rfl hf ?_ hro
 simp only[Tryz.ntmps187,List.size_toArray,List.length_cons,List.length_nil,Nat.reduceAdd,Nat.reduceSub,Array.replicate_succ,Array.replicate_zero,List.push_toArray,List.append_toArray,List.nil_append,List.cons_append]
 have HR:=Lib.hid hR
 clear hR
 gi_wp2
 gi_loopw [3] (fun s3 wr=>∃(k:Nat) (pre:List Nat),pre.length+1=k∧(k≤len∨k=1)∧s3=i k∧J pre wr∧Hid (KpN n₀ Bs W wr))
  (fun s3 _=>len-(intOf s3).toNat)
 case atStart=>exact⟨1,[],rfl,.inr rfl,rfl,h0,KpN.refl _ _ _⟩
 case round=>
  obtain⟨k,pre,hpl,hkl,rfl,hJs,HB⟩:=hrel
  have cBs:wr.cell? ⟨Bs,0,none⟩=some (.slice A len c):=(HB.out.cell 0).trans hBs
  by_cases hlt:k<len
  ·obtain⟨j,rfl⟩:∃j,k=j+1:=⟨k-1,by omega⟩
   have hJ':pre.length<len:=by omega
   obtain⟨fn,tmps,assign,body,hy,hRd⟩:=hY pre j wr.drew (hJd _ _ hJs) hJ'
   dsimp only[nbV] at hy
   have hltz:((j+1:Nat):Int)<(len:Int):=by omega
   have hjz:((j+1:Nat):Int)-1=(j:Int):=by omega
   have hjw:IntKind.i64.wrap (j:Int)=(j:Int):=IntWalk.i64_in _ (by omega)
   obtain⟨b,off,rfl,hb0,q0,q1⟩:=HR.out.below HB.out.1 j (by omega)
   obtain⟨b',off',e,-,z0,z1⟩:=HR.out.below HB.out.1 (j+1) hlt
   obtain⟨rfl,rfl⟩:b=b'∧off=off':=by simpa using e
   clear e
   generalize f j=xa at *
   generalize f (j+1)=xb at *
   obtain⟨a0,a1⟩:=xa
   obtain⟨b0,b1⟩:=xb
   simp only at *
   gi_wp2
   refine Reg5.quiet 10 (fun k=>match k with|0=>(.func (.yield l') #[] #[])|1=>(.slice (some ⟨b,off,none⟩) len c)|2=>(i ((j+1:Nat):Int))|3=>(i (j:Int))|4=>(.pointer (some ⟨b,off+j*2,none⟩))|5=>(.agg #[i a0,i a1])|6=>(.slice (some ⟨b,off,none⟩) len c)|7=>(i ((j+1:Nat):Int))|8=>(.pointer (some ⟨b,off+(j+1)*2,none⟩))|9=>(.agg #[i b0,i b1])|_=>undef) (by kernel_rfl) (by kernel_rfl) (by kernel_rfl) ?_ ?_ ?_
   ·exact Reg4.in_of (n:=22) (by kernel_rfl) rfl
   ·intro j o hj ho a hop
    have hj':j=0∨j=1∨j=2∨j=3∨j=4∨j=5∨j=6∨j=7∨j=8∨j=9:=by omega
    rcases hj' with rfl|rfl|rfl|rfl|rfl|rfl|rfl|rfl|rfl|rfl
    all_goals
     obtain rfl:=oi ho
     clear ho hj
    ·have h0:a.tmps[0]?.getD undef=(.func (.yield l') #[] #[]):=gdt (hop 0 (by simp[Op.operands]))
     go_simp
    ·have h1:a.tmps[1]?.getD undef=(.pointer (some ⟨Bs,0,none⟩)):=gdt (hop 1 (by simp[Op.operands]))
     go_simp
    ·have h3:a.tmps[3]?.getD undef=(i ((j+1:Nat):Int)):=gdt (hop 3 (by simp[Op.operands]))
     go_simp
    ·have h12:a.tmps[12]?.getD undef=(i ((j+1:Nat):Int)):=gdt (hop 12 (by simp[Op.operands]))
     go_simp
    ·have h11:a.tmps[11]?.getD undef=(.slice (some ⟨b,off,none⟩) len c):=gdt (hop 11 (by simp[Op.operands]))
     have h13:a.tmps[13]?.getD undef=(i (j:Int)):=gdt (hop 13 (by simp[Op.operands]))
     go_simp
     all_goals(try(intro hx;exfalso;omega))
    ·have h14:a.tmps[14]?.getD undef=(.pointer (some ⟨b,off+j*2,none⟩)):=gdt (hop 14 (by simp[Op.operands]))
     go_simp
    ·have h1:a.tmps[1]?.getD undef=(.pointer (some ⟨Bs,0,none⟩)):=gdt (hop 1 (by simp[Op.operands]))
     go_simp
    ·have h3:a.tmps[3]?.getD undef=(i ((j+1:Nat):Int)):=gdt (hop 3 (by simp[Op.operands]))
     go_simp
    ·have h16:a.tmps[16]?.getD undef=(.slice (some ⟨b,off,none⟩) len c):=gdt (hop 16 (by simp[Op.operands]))
     have h17:a.tmps[17]?.getD undef=(i ((j+1:Nat):Int)):=gdt (hop 17 (by simp[Op.operands]))
     go_simp
     all_goals(try(intro hx;exfalso;omega))
    ·have h18:a.tmps[18]?.getD undef=(.pointer (some ⟨b,off+(j+1)*2,none⟩)):=gdt (hop 18 (by simp[Op.operands]))
     go_simp
   ·simp only[Reg4.puts,Reg4.dstOf,List.range,List.range.loop,if_true,List.drop_succ_cons,List.drop_zero]
    gi_wp2
    refine hRd.mono ?_
    rintro e W3 (⟨rfl,hJ3,hk3⟩|⟨rfl,hJx3⟩)
    ·gi_wp2
     go_roundw
     case rel=>exact⟨j+2,_,by simp;omega,by omega,by go_num,hJ3,⟨HB.out.1.trans ((Below.refl n₀ wr).drew.trans hk3.1),hk3.2.trans HB.out.2⟩⟩
     case measure=>simp[intOf];omega
    ·gi_wp2
     refine bodyPost_ret (results_none rfl _ _ _) rfl ?_
     first|exact⟨⟨_,rfl⟩,.inr ⟨_,trivial,hJx3⟩⟩|exact⟨⟨_,rfl⟩,.inr ⟨_,hJx3⟩⟩|exact .inr ⟨_,hJx3⟩
  ·have hltz:¬(k:Int)<(len:Int):=by omega
   gi_wp2
   go_end0
   first|exact⟨⟨_,rfl⟩,.inl ⟨_,trivial,hJs⟩⟩|exact⟨⟨_,rfl⟩,.inl ⟨_,hJs⟩⟩|exact .inl ⟨_,hJs⟩
set_option maxHeartbeats 1000000 in
theorem nb(F:Fence)(n:Nat)(hf:F.fn 179)(hro:F.round=none)(A:Option Addr)(len c:Nat)(w:World) :
  CallsIn F n Tryz.prog 179 #[.slice A len c] w fun e w'=>e=.returned (.func (.func 187) #[] #[.pointer (some ⟨w.heap.size,0,none⟩)])∧w'=w.alloc (.cells #[.slice A len c] 23):=by
 refine callsIn_of_wp Tryz.func179 rfl hf ?_ hro
 simp only[Tryz.ntmps179,List.size_toArray,List.length_cons,List.length_nil,Nat.reduceAdd,Nat.reduceSub,Array.replicate_succ,Array.replicate_zero,List.push_toArray,List.append_toArray,List.nil_append,List.cons_append]
 gi_wp2
 go_ret
 exact⟨rfl,rfl⟩
theorem nb_stops(F:Fence)(n:Nat)(hf:F.fn 187)(hro:F.round=none)(hn:1≤n)(Bs n₀:Nat)(A:Option Addr)(len c:Nat)(f:Nat→Int×Int)(hlen:len≤1048576)(w:World)(hBs:Bs<w.heap.size)(hn₀:n₀≤w.heap.size)
  (hc:w.cell? ⟨Bs,0,none⟩=some (.slice A len c)) (hR:Rds w n₀ A len f) :
  SeqStopsK F n Tryz.prog 187 #[.pointer (some ⟨Bs,0,none⟩)] (nbV f) (KpN n₀ Bs) (fun _=>True) (fun _=>True) len w:=fun l' J Jx W hW hJ _ hY h0=>by
 refine nb1 F n hf hro hn l' Bs n₀ A len c f hlen J Jx hY W ((hW.cell (p:=⟨Bs,0,none⟩) (by show Bs<_;omega)).trans hc) (hR.below (hW.mono hn₀)) h0 (fun pre W' h=>?_)
 exact hJ pre W' W'.drew none h ⟨rfl,rfl,rfl,Nat.le_refl _,fun _ _ _=>rfl⟩ (fun r e=>by cases e)
end Nbr
namespace Sy
open Go.RowKit Nbr
attribute [local go_sem] Oper.semAt_some
section
variable{W0:World}{T:Nat→Prop}{w:World}
theorem blk_own{X Y:World}{row:Option Nat}{B:Nat}{t:TypeId}{cs:Array Value}(h:YtmadfhgiaonnlaaGreatDoor.Blk X B t cs)(hg:X.grownBy Y row)(hr:∀r,row=some r→∃o:Obj,X.heap[r]? = some o∧o.isCells=false):YtmadfhgiaonnlaaGreatDoor.Blk Y B t cs:=
 (hg.block B h.lt (fun e=>by obtain⟨o,ho,hc⟩:=hr B e.symm;rw[show X.heap[B]? = _ from h] at ho;cases ho;cases hc)).trans h
theorem ret1{W:World}{tmps:Array Value}{B:Nat}{v:Value}{t:TypeId}(h:tmps.getD 2 undef=.pointer (some ⟨B,0,none⟩))(k:Boxed W B t v):(results Tryz.f186 tmps).run Tryz.prog W=.ok v W:=by
 have c:=k.cell
 rw[Array.getD_eq_getD_getElem?] at h
 simp[results,Tryz.f186,go_sem,h,c]
set_option maxRecDepth 100000 in
set_option maxHeartbeats 2000000 in
theorem asc_walk(A:Option Addr)(len c:Nat)(f:Nat→Int×Int)(hlen:len≤1048576)(w:World)(hR:Rds w w.heap.size A len f) :
  Calls Tryz.prog 186 #[.slice A len c] w fun e w'=>∃q:Bool,e=.returned (.bool q)∧Hid (Below w.heap.size w w'):=by
 refine(callsIn_wide (n:=9)).1 ?_
 have hro:Fence.wide.round=none:=rfl
 have hn1:1≤9:=by omega
 have HR:=Lib.hid hR
 clear hR
 refine callsIn_of_wp_marks Tryz.func186 rfl trivial ?_ hro
 simp only[Tryz.ntmps186,List.size_toArray,List.length_cons,List.length_nil,Nat.reduceAdd,Nat.reduceSub,Array.replicate_succ,Array.replicate_zero,List.push_toArray,List.append_toArray,List.nil_append,List.cons_append]
 gi_wp2_with (refine⟨trivial,?_⟩;gi_at_call 179;refine(nb Fence.wide 8 trivial hro _ _ _ _).mono ?_;rintro e w6 ⟨rfl,rfl⟩)
 have hb0:=below_alloc (below_alloc (Below.refl w.heap.size w) (.cells #[.bool false] 4)) (.cells #[.slice A len c] 23)
 have k2:=(Boxed.new w 4 (.bool false)).alloc (.cells #[.slice A len c] 23)
 have ks:=Boxed.new (w.alloc (.cells #[.bool false] 4)) 23 (.slice A len c)
 rw[World.size_alloc] at ks
 have hsz:((w.alloc (.cells #[.bool false] 4)).alloc (.cells #[.slice A len c] 23)).heap.size=w.heap.size+2:=by simp
 generalize (w.alloc (.cells #[.bool false] 4)).alloc (.cells #[.slice A len c] 23)=w1 at *
 have HRS:=Lib.hid (HR.out.below hb0)
 have HB0:=Lib.hid hb0
 have hbs:=ks.cell
 refine wpIn_rangeFunc_ownH hro hn1 (gf:=187) (lb:=#[.pointer (some ⟨w.heap.size+1,0,none⟩)]) rfl trivial (enters_of Tryz.func187 (by kernel_rfl) rfl)
  (nb_stops Fence.wide 8 trivial hro (by omega) (w.heap.size+1) w.heap.size A len c f hlen w1 (by omega) HB0.out.size hbs HRS.out) KpN.trans (fun W l' o o' hl hlo _ _=>⟨belowK_b HB0.out.size W l' o o' hl hlo ‹_› ‹_›,by rw[World.putObj_heap_other (by omega)]⟩) (Below.refl _ _) (fun _=>rfl)
  (fun pre W=>Boxed W w.heap.size 4 (.bool false)∧Boxed W (w.heap.size+1) 23 (.slice A len c)∧Below w.heap.size w W)
  (fun cc pre W=>cc=.ret∧(∃q:Bool,Boxed W w.heap.size 4 (.bool q))∧Below w.heap.size w W)
  ?hI ?hIx ⟨k2,ks,hb0⟩
  (fun x a' W=>∃B3 B4,YtmadfhgiaonnlaaGreatDoor.Blk W B3 156 #[Nbr.i (f x).1,Nbr.i (f x).2]∧YtmadfhgiaonnlaaGreatDoor.Blk W B4 156 #[Nbr.i (f (x+1)).1,Nbr.i (f (x+1)).2]∧a'={ tmps:=#[.slice A len c,undef,.pointer (some ⟨w.heap.size,0,none⟩),.pointer (some ⟨B3,0,none⟩),.pointer (some ⟨B4,0,none⟩),.slice A len c,.func (.func 187) #[] #[.pointer (some ⟨w.heap.size+1,0,none⟩)],rdgV (f x),rdgV (f (x+1)),undef,undef,undef,undef,undef],defers:=[] })
  ?hAx ?assign ?body ?done ?stop
 case hI=>
  intro s X Y row hs hg hr
  obtain⟨h1,h2,h3⟩:=hs
  have hr2:∀r,row=some r→∃o:Obj,X.heap[r]? = some o∧o.isCells=false:=fun r e=>(hr r e).2
  exact⟨boxed_own _ _ (fun _:Unit=>.bool false) () X Y row h1 hg hr2,boxed_own _ _ (fun _:Unit=>.slice A len c) () X Y row h2 hg hr2,ownFrom_below (Nat.le_refl _) (by omega) () X Y row h3 hg hr⟩
 case hIx=>
  intro cc s X Y row hs hg hr
  obtain⟨h0,⟨q,h1⟩,h3⟩:=hs
  have hr2:∀r,row=some r→∃o:Obj,X.heap[r]? = some o∧o.isCells=false:=fun r e=>(hr r e).2
  exact⟨h0,⟨q,boxed_own _ _ (fun _:Unit=>.bool q) () X Y row h1 hg hr2⟩,ownFrom_below (Nat.le_refl _) (by omega) () X Y row h3 hg hr⟩
 case hAx=>
  intro x a' _ X Y row hs hg hr
  obtain⟨B3,B4,p1,p2,p3⟩:=hs
  exact⟨B3,B4,blk_own p1 hg (fun r e=>(hr r e).2),blk_own p2 hg (fun r e=>(hr r e).2),p3⟩
 case assign=>
  rintro l' pre x W K ⟨h1,h2,h3⟩ hK
  have hs3:=h3.size
  gi_wp2
  refine hK _ _ (((KeepsOthers.alloc _ _).trans (KeepsOthers.alloc _ _)).from _) ⟨((Below.refl _ W).alloc hs3 _).alloc (by simp;omega) _,((h2.alloc _).alloc _).trans h2.symm⟩ ⟨(h1.alloc _).alloc _,(h2.alloc _).alloc _,(h3.alloc hs3 _).alloc (by simp;omega) _⟩ ⟨W.heap.size,W.heap.size+1,(YtmadfhgiaonnlaaGreatDoor.Blk.new W _ _).alloc _,?_,rfl⟩
  have:=YtmadfhgiaonnlaaGreatDoor.Blk.new (W.alloc (.cells #[Nbr.i (f x).1,Nbr.i (f x).2] 156)) 156 #[Nbr.i (f (x+1)).1,Nbr.i (f (x+1)).2]
  rwa [World.size_alloc] at this
 case body=>
  rintro l' pre x a' W hl' ⟨r,hr⟩ ⟨h1,h2,h3⟩ ⟨B3,B4,p3,p4,rfl⟩ hlt
  have c3:=p3.cell 0
  have c4:=p4.cell 0
  simp at c3 c4
  have f2:=h1.frozen
  have c2:=h1.cell
  by_cases hle:(f (x+1)).1≤(f x).1
  ·gi_wp2
   exact⟨(KeepsOthers.setCell _ _ _).from _,rfl,⟨false,h1.set _⟩,h3.setCell (p:=⟨w.heap.size,0,none⟩) (Nat.le_refl _) _⟩
  ·gi_wp2
   exact⟨KeepsFrom.refl _ _,KpN.refl _ _ _,h1,h2,h3⟩
 case done=>
  rintro D ys W hD _ ⟨h1,h2,h3⟩ hK
  have c2:=h1.cell
  have f2:=h1.frozen
  gi_wp2
  have hK':=(KeepsOthers.setCell W ⟨w.heap.size,0,none⟩ (.bool true)).same D _ hK rfl
  refine⟨by simp,.inl ⟨_,_,rfl,run_takeDeferred hK',?_⟩⟩
  exact⟨.bool true,ret1 rfl ((h1.set (.bool true)).kept (grownBy_putObj' _ D _) (fun e=>by cases e;omega)),true,rfl,(h3.setCell (p:=⟨w.heap.size,0,none⟩) (Nat.le_refl _) _).trans (belowK_b (w:=w) (Nat.le_refl _) _ D _ _ (by omega) hK' rfl rfl)⟩
 case stop=>
  rintro D c pre W hD _ ⟨rfl,⟨q,h1⟩,h3⟩ hK
  have c2:=h1.cell
  gi_wp2
  refine⟨by simp,.inl ⟨_,_,rfl,run_takeDeferred hK,?_⟩⟩
  exact⟨.bool q,ret1 rfl (h1.kept (grownBy_putObj' _ D _) (fun e=>by cases e;omega)),q,rfl,h3.trans (belowK_b (w:=w) (Nat.le_refl _) _ D _ _ (by omega) hK rfl rfl)⟩
def R64(n:Int):Prop:=-9223372036854775808≤n∧n≤9223372036854775807
theorem ret2{W:World}{tmps:Array Value}{B4 B5:Nat}{v:Value}{e:Int}{t4 t5:TypeId}(h4:tmps.getD 4 undef=.pointer (some ⟨B4,0,none⟩))(h5:tmps.getD 5 undef=.pointer (some ⟨B5,0,none⟩))
  (k4:Boxed W B4 t4 v) (k5:Boxed W B5 t5 (Nbr.i e)):(results Tryz.f160 tmps).run Tryz.prog W=.ok (.tuple #[v,Nbr.i e]) W:=by
 have c4:=k4.cell
 have c5:=k5.cell
 rw[Array.getD_eq_getD_getElem?] at h4 h5
 simp[results,Tryz.f160,go_sem,h4,h5,c4,c5]
def TotPost(w:World)(e:Ending)(w':World):Prop:=∃z k:Int,e=.returned (.tuple #[Nbr.i z,Nbr.i k])∧R64 z∧R64 k∧Hid (Below w.heap.size w w')
theorem boxes(m:Int){w w1:World}(hb:Below (((w.alloc (.cells #[Nbr.i m] 3)).alloc (.cells #[.int .i64 0] 3)).alloc (.cells #[.int .i64 0] 52)).heap.size (((w.alloc (.cells #[Nbr.i m] 3)).alloc (.cells #[.int .i64 0] 3)).alloc (.cells #[.int .i64 0] 52)) w1) :
  Boxed w1 w.heap.size 3 (Nbr.i m)∧Boxed w1 (w.heap.size+1) 3 (Nbr.i 0)∧Boxed w1 (w.heap.size+1+1) 52 (Nbr.i 0)∧Hid (Below w.heap.size w w1):=by
 have b3:=((Boxed.new w 3 (Nbr.i m)).alloc (.cells #[Nbr.i 0] 3)).alloc (.cells #[Nbr.i 0] 52)
 have b4:=(Boxed.new (w.alloc (.cells #[Nbr.i m] 3)) 3 (Nbr.i 0)).alloc (.cells #[Nbr.i 0] 52)
 have b5:=Boxed.new ((w.alloc (.cells #[Nbr.i m] 3)).alloc (.cells #[Nbr.i 0] 3)) 52 (Nbr.i 0)
 simp only[World.size_alloc] at b4 b5
 exact⟨(hb.block _ b3.lt).trans b3,(hb.block _ b4.lt).trans b4,(hb.block _ b5.lt).trans b5,below_call (below_alloc (below_alloc (below_alloc (Below.refl _ _) _) _) _) hb⟩
structure TI(s0 B7:Nat)(S:Value)(m:Int)(w W:World):Prop where
 b3:Boxed W s0 3 (Nbr.i m)
 b4:Boxed W (s0+1) 3 (Nbr.i 0)
 b5:Boxed W (s0+1+1) 52 (Nbr.i 0)
 b7:∃z,Boxed W B7 3 (Nbr.i z)∧R64 z
 bs:Boxed W (B7+1) 23 S
 bw:Below s0 w W
theorem TI.alloc{s0 B7:Nat}{S:Value}{m:Int}{w W:World}{o:Obj}(h:TI s0 B7 S m w W)(hs:s0≤w.heap.size):TI s0 B7 S m w (W.alloc o):=by
 obtain⟨z,h7,h8⟩:=h.b7
 exact⟨h.b3.alloc o,h.b4.alloc o,h.b5.alloc o,⟨z,h7.alloc o,h8⟩,h.bs.alloc o,h.bw.alloc (by have:=h.bw.size;omega) o⟩
theorem TI.below{s0 B7:Nat}{S:Value}{m:Int}{w W W':World}(h:TI s0 B7 S m w W)(hb:Below W.heap.size W W'):TI s0 B7 S m w W':=by
 obtain⟨z,h7,h8⟩:=h.b7
 exact⟨(hb.block _ h.b3.lt).trans h.b3,(hb.block _ h.b4.lt).trans h.b4,(hb.block _ h.b5.lt).trans h.b5,⟨z,(hb.block _ h7.lt).trans h7,h8⟩,(hb.block _ h.bs.lt).trans h.bs,h.bw.trans (hb.mono (by have:=h.b3.lt;omega))⟩
theorem TI.own{N0 s0 B7:Nat}{S:Value}{m:Int}{w:World}(h2:s0≤w.heap.size)(h4:s0≤N0):OwnFrom N0 (fun(_:List Nat) W=>TI s0 B7 S m w W):=by
 intro s X Y row h hg hr
 have hr2:∀r,row=some r→∃o:Obj,X.heap[r]? = some o∧o.isCells=false:=fun r e=>(hr r e).2
 obtain⟨z,h7,h8⟩:=h.b7
 exact⟨boxed_own _ _ (fun _:Unit=>Nbr.i m) () X Y row h.b3 hg hr2,boxed_own _ _ (fun _:Unit=>Nbr.i 0) () X Y row h.b4 hg hr2,boxed_own _ _ (fun _:Unit=>Nbr.i 0) () X Y row h.b5 hg hr2,⟨z,boxed_own _ _ (fun _:Unit=>Nbr.i z) () X Y row h7 hg hr2,h8⟩,boxed_own _ _ (fun _:Unit=>S) () X Y row h.bs hg hr2,ownFrom_below h2 h4 () X Y row h.bw hg hr⟩
theorem wrap64_R64(n:Int):R64 (wrap64 n):=by
 unfold R64 wrap64
 omega
set_option maxRecDepth 100000 in
set_option maxHeartbeats 2000000 in
theorem tot_walk(A:Option Addr)(len c:Nat)(f:Nat→Int×Int)(m:Int)(hlen:len≤1048576)(w:World)(hR:Rds w w.heap.size A len f)(hf:∀k,R64 (f k).1∧R64 (f k).2)
  (hV:∀W,Below w.heap.size w W→Calls Tryz.prog 178 #[.slice A len c,Nbr.i m] W fun e w'=>∃k,e=.returned (Nbr.i k)∧R64 k∧Below W.heap.size W w')
  (hD:∀W a b,Below w.heap.size w W→R64 a→R64 b→Calls Tryz.prog 180 #[Nbr.i a,Nbr.i b,Nbr.i m] W fun e w'=>∃z k,e=.returned (.tuple #[Nbr.i z,Nbr.i k])∧R64 k∧Below W.heap.size W w') :
  Calls Tryz.prog 160 #[.slice A len c,Nbr.i m] w (TotPost w):=by
 have HV:Hid (∀W,Below w.heap.size w W→CallsIn Fence.wide 8 Tryz.prog 178 #[.slice A len c,Nbr.i m] W fun e w'=>∃k,e=.returned (Nbr.i k)∧R64 k∧Below W.heap.size W w'):=fun W hb=>callsIn_wide.2 (hV W hb)
 have HDL:=Lib.hid hD
 refine(callsIn_wide (n:=9)).1 ?_
 have hro:Fence.wide.round=none:=rfl
 have hn1:1≤9:=by omega
 have HR:=Lib.hid hR
 clear hR hV hD
 refine callsIn_of_wp_marks Tryz.func160 rfl trivial ?_ hro
 simp only[Tryz.ntmps160,List.size_toArray,List.length_cons,List.length_nil,Nat.reduceAdd,Nat.reduceSub,Array.replicate_succ,Array.replicate_zero,List.push_toArray,List.append_toArray,List.nil_append,List.cons_append]
 gi_wp2_with (refine⟨trivial,?_⟩;gi_at_call 178;refine(HV.out _ (below_alloc (below_alloc (below_alloc (Below.refl _ _) _) _) _)).mono ?_)
 rintro e w2 ⟨k,rfl,hk,hb⟩
 obtain⟨b3,b4,b5,HB⟩:=boxes m hb
 clear hb
 have c3:=b3.cell
 have c4:=b4.cell
 have c5:=b5.cell
 have f4:=b4.frozen
 have f5:=b5.frozen
 by_cases h0:k=0
 ·subst h0
  gi_wp2_with (refine⟨trivial,?_⟩;gi_at_call 179;refine(nb Fence.wide 8 trivial hro _ _ _ _).mono ?_;rintro e w6 ⟨rfl,rfl⟩)
  have hsz2:=HB.out.size
  have g7:=(Boxed.new w2 3 (Nbr.i 0)).alloc (.cells #[.slice A len c] 23)
  have gs:=Boxed.new (w2.alloc (.cells #[Nbr.i 0] 3)) 23 (.slice A len c)
  rw[World.size_alloc] at gs
  have hTI:TI w.heap.size w2.heap.size (.slice A len c) m w ((w2.alloc (.cells #[Nbr.i 0] 3)).alloc (.cells #[.slice A len c] 23)):=
   ⟨(b3.alloc _).alloc _,(b4.alloc _).alloc _,(b5.alloc _).alloc _,⟨0,g7,by unfold R64;omega⟩,gs,below_alloc (below_alloc HB.out _) _⟩
  have hsz:((w2.alloc (.cells #[Nbr.i 0] 3)).alloc (.cells #[.slice A len c] 23)).heap.size=w2.heap.size+2:=by simp
  have hl5:=b5.lt
  clear c3 c4 c5 f4 f5 b3 b4 b5 g7 gs
  generalize hB7:w2.heap.size=B7 at *
  generalize (w2.alloc (.cells #[Nbr.i 0] 3)).alloc (.cells #[.slice A len c] 23)=w1 at *
  have HRS:=Lib.hid (HR.out.below hTI.bw)
  have hbs:=hTI.bs.cell
  refine wpIn_rangeFunc_ownH hro hn1 (gf:=187) (lb:=#[.pointer (some ⟨B7+1,0,none⟩)]) rfl trivial (enters_of Tryz.func187 (by kernel_rfl) rfl)
   (nb_stops Fence.wide 8 trivial hro (by omega) (B7+1) w.heap.size A len c f hlen w1 (by omega) hTI.bw.size hbs HRS.out) KpN.trans (fun W l' o o' hl hlo _ _=>⟨belowK_b hTI.bw.size W l' o o' hl hlo ‹_› ‹_›,by rw[World.putObj_heap_other (by omega)]⟩) (Below.refl _ _) (fun _=>rfl)
   (fun pre W=>TI w.heap.size B7 (.slice A len c) m w W)
   (fun cc pre W=>cc=.ret∧(∃z k:Int,Boxed W (w.heap.size+1) 3 (Nbr.i z)∧Boxed W (w.heap.size+1+1) 52 (Nbr.i k)∧R64 z∧R64 k)∧Below w.heap.size w W)
   (TI.own (Nat.le_refl _) (by omega)) ?hIx hTI
   (fun x a' W=>∃B8 B9,YtmadfhgiaonnlaaGreatDoor.Blk W B8 156 #[Nbr.i (f x).1,Nbr.i (f x).2]∧YtmadfhgiaonnlaaGreatDoor.Blk W B9 156 #[Nbr.i (f (x+1)).1,Nbr.i (f (x+1)).2]∧a'={ tmps:=#[.slice A len c,Nbr.i m,undef,.pointer (some ⟨w.heap.size,0,none⟩),.pointer (some ⟨w.heap.size+1,0,none⟩),.pointer (some ⟨w.heap.size+1+1,0,none⟩),Nbr.i 0,.pointer (some ⟨B7,0,none⟩),.pointer (some ⟨B8,0,none⟩),.pointer (some ⟨B9,0,none⟩),undef,undef,.slice A len c,Nbr.i m,Nbr.i 0,Nbr.i 0,.bool false,undef,.slice A len c,.func (.func 187) #[] #[.pointer (some ⟨B7+1,0,none⟩)],rdgV (f x),rdgV (f (x+1)),undef,undef,undef,undef,undef,undef,undef,undef,undef,undef,undef,undef,undef,undef,undef,undef],defers:=[] })
   ?hAx ?assign ?body ?done ?stop
  case hIx=>
   intro cc s X Y row hs hg hr
   obtain⟨h0,⟨z,k,h1,h2,h4⟩,h3⟩:=hs
   have hr2:∀r,row=some r→∃o:Obj,X.heap[r]? = some o∧o.isCells=false:=fun r e=>(hr r e).2
   exact⟨h0,⟨z,k,boxed_own _ _ (fun _:Unit=>Nbr.i z) () X Y row h1 hg hr2,boxed_own _ _ (fun _:Unit=>Nbr.i k) () X Y row h2 hg hr2,h4⟩,ownFrom_below (Nat.le_refl _) (by omega) () X Y row h3 hg hr⟩
  case hAx=>
   intro x a' _ X Y row hs hg hr
   obtain⟨B8,B9,p1,p2,p3⟩:=hs
   exact⟨B8,B9,blk_own p1 hg (fun r e=>(hr r e).2),blk_own p2 hg (fun r e=>(hr r e).2),p3⟩
  case assign=>
   rintro l' pre x W K hi hK
   have hs3:=hi.bw.size
   gi_wp2
   refine hK _ _ (((KeepsOthers.alloc _ _).trans (KeepsOthers.alloc _ _)).from _) ⟨((Below.refl _ W).alloc hs3 _).alloc (by simp;omega) _,((hi.bs.alloc _).alloc _).trans hi.bs.symm⟩ ((hi.alloc (Nat.le_refl _)).alloc (Nat.le_refl _)) ⟨W.heap.size,W.heap.size+1,(YtmadfhgiaonnlaaGreatDoor.Blk.new W _ _).alloc _,?_,rfl⟩
   have:=YtmadfhgiaonnlaaGreatDoor.Blk.new (W.alloc (.cells #[Nbr.i (f x).1,Nbr.i (f x).2] 156)) 156 #[Nbr.i (f (x+1)).1,Nbr.i (f (x+1)).2]
   rwa [World.size_alloc] at this
  case body=>
   rintro l' pre x a' W hl' ⟨r,hr⟩ hi ⟨B8,B9,p8,p9,rfl⟩ hlt
   have c8:=p8.cell 1
   have c9:=p9.cell 1
   simp at c8 c9
   have c3:=hi.b3.cell
   have HI:=Lib.hid hi
   obtain⟨q1,q2⟩:=hf x
   obtain⟨q3,q4⟩:=hf (x+1)
   have HD2:=Lib.hid (fun W hb=>HDL.out W (f x).2 (f (x+1)).2 hb q2 q4)
   generalize (f x).2=ra at *
   generalize (f (x+1)).2=rb at *
   gi_wp2_with (refine⟨trivial,?_⟩;gi_at_call 180;refine(CallsIn.inRound l' (callsIn_wide.2 (HD2.out _ HI.out.bw))).mono ?_)
   rintro e W2 ⟨z,k,rfl,hk,hb⟩
   have hi2:=HI.out.below hb
   have HI2:=Lib.hid hi2
   have c4:=hi2.b4.cell
   have c5:=hi2.b5.cell
   have f4:=hi2.b4.frozen
   have f5:=hi2.b5.frozen
   obtain⟨s7,h7,h8⟩:=hi2.b7
   have c7:=h7.cell
   have f7:=h7.frozen
   have hkf:KeepsFrom w1.heap.size W W2:=⟨hb.size,fun j o _ hj _=>(hb.block j (Array.getElem?_eq_some_iff.1 hj).1).trans hj⟩
   have hkp:KpN w.heap.size (B7+1) W W2:=⟨hb.mono (by have:=HI.out.b3.lt;omega),hi2.bs.trans HI.out.bs.symm⟩
   by_cases h0:k=0
   ·subst h0
    gi_wp2
    exact⟨hkf.trans ((KeepsOthers.setCell _ _ _).from _),hkp.trans ⟨(Below.refl _ W2).setCell (p:=⟨B7,0,none⟩) (by omega) _,hi2.bs.other (by omega) _ |>.trans hi2.bs.symm⟩,hi2.b3.other (by omega) _,hi2.b4.other (by omega) _,hi2.b5.other (by omega) _,⟨_,h7.set _,wrap64_R64 _⟩,hi2.bs.other (by omega) _,hi2.bw.setCell (p:=⟨B7,0,none⟩) (by omega) _⟩
   ·have hkz:(k != 0)=true:=by simpa using h0
    gi_wp2
    exact⟨hkf.trans (((KeepsOthers.setCell _ _ _).trans (KeepsOthers.setCell _ _ _)).from _),rfl,⟨0,k,(hi2.b4.set _).other (by omega) _,(hi2.b5.other (by omega) _).set _,by unfold R64;omega,hk⟩,(hi2.bw.setCell (p:=⟨w.heap.size+1,0,none⟩) (by simp) _).setCell (p:=⟨w.heap.size+1+1,0,none⟩) (by simp;omega) _⟩
  case done=>
   rintro D ys W hD _ hi hK
   obtain⟨z,h7,h8⟩:=hi.b7
   have c7:=h7.cell
   have f4:=hi.b4.frozen
   have c4:=hi.b4.cell
   have f5:=hi.b5.frozen
   have c5:=hi.b5.cell
   gi_wp2
   have hK':=(KeepsOthers.setCell _ ⟨w.heap.size+1+1,0,none⟩ (Nbr.i 0)).same D _ ((KeepsOthers.setCell W ⟨w.heap.size+1,0,none⟩ (Nbr.i z)).same D _ hK rfl) rfl
   refine⟨by simp,.inl ⟨_,_,rfl,run_takeDeferred hK',?_⟩⟩
   exact⟨.tuple #[Nbr.i z,Nbr.i 0],ret2 rfl rfl (((hi.b4.set (Nbr.i z)).other (by omega) _).kept (grownBy_putObj' _ D _) (fun e=>by cases e;omega)) (((hi.b5.other (by omega) _).set _).kept (grownBy_putObj' _ D _) (fun e=>by cases e;omega)),z,0,rfl,h8,by unfold R64;omega,((hi.bw.setCell (p:=⟨w.heap.size+1,0,none⟩) (by simp) _).setCell (p:=⟨w.heap.size+1+1,0,none⟩) (by simp;omega) _).trans (belowK_b (w:=w) (Nat.le_refl _) _ D _ _ (by omega) hK' rfl rfl)⟩
  case stop=>
   rintro D c pre W hD _ ⟨rfl,⟨z,k,h1,h2,h4,h5⟩,h3⟩ hK
   have c4:=h1.cell
   have c5:=h2.cell
   gi_wp2
   refine⟨by simp,.inl ⟨_,_,rfl,run_takeDeferred hK,?_⟩⟩
   exact⟨.tuple #[Nbr.i z,Nbr.i k],ret2 rfl rfl (h1.kept (grownBy_putObj' _ D _) (fun e=>by cases e;omega)) (h2.kept (grownBy_putObj' _ D _) (fun e=>by cases e;omega)),z,k,rfl,h4,h5,h3.trans (belowK_b (w:=w) (Nat.le_refl _) _ D _ _ (by omega) hK rfl rfl)⟩
 ·have hkz:(k != 0)=true:=by simpa using h0
  gi_wp2
  exact⟨.tuple #[Nbr.i 0,Nbr.i k],ret2 rfl rfl ((b4.set _).other (by omega) _) ((b5.other (by omega) _).set _),0,k,rfl,by unfold R64;omega,hk,(HB.out.setCell (p:=⟨w.heap.size+1,0,none⟩) (by simp) _).setCell (p:=⟨w.heap.size+1+1,0,none⟩) (by simp;omega) _⟩
theorem rds_at{A:Option Addr}{n c:Nat}(hw:WT cx.tb W0 T w)(h:CV cx.tb W0 T w w.heap.size (.sl 0 156 1024) (.slice A n c)):∃f,Rds w w.heap.size A n f∧∀k,R64 (f k).1∧R64 (f k).2:=by
 have hx:∀j,∃p:Int×Int,(R64 p.1∧R64 p.2)∧(j<n→∃b off,A=some ⟨b,off,none⟩∧b<w.heap.size∧w.cell? ⟨b,off+j*2,none⟩=some (Nbr.i p.1)∧w.cell? ⟨b,off+j*2+1,none⟩=some (Nbr.i p.2)):=by
  intro j
  by_cases hj:j<n
  ·obtain⟨b,off,rfl⟩:∃b off,A=some ⟨b,off,none⟩:=by
    rcases h with h|⟨-,h⟩|⟨b,off,_,_,h,-⟩
    ·injection h with h1 h2 h3;omega
    ·cases h with
     | nil=>omega
     | emp=>omega
     | sl=>exact⟨_,_,rfl⟩
    ·injection h with h1 h2 h3;exact⟨b,off,h1⟩
   have hel:=h.elem (i:=j) hj
   have hsz:cx.tb.sz 156=2:=rfl
   rw[hsz] at hel
   obtain⟨v0,c0,n0,rfl,t0⟩:=hw.load hel (k:=0) (ct:=full .i64) rfl
   obtain⟨v1,c1,n1,rfl,t1⟩:=hw.load hel (k:=1) (ct:=full .i64) rfl
   refine⟨(n0,n1),⟨t0,t1⟩,fun _=>⟨b,off,rfl,?_,c0,c1⟩⟩
   rcases Nat.lt_or_ge b w.heap.size with h1|h1
   ·exact h1
   ·simp[World.cell?,Array.getElem?_eq_none h1] at c0
  ·exact⟨(0,0),⟨by unfold R64;omega,by unfold R64;omega⟩,fun h=>absurd h hj⟩
 obtain⟨f,hf⟩:=Classical.axiomOfChoice hx
 exact⟨f,fun j hj=>(hf j).2 hj,fun k=>(hf k).1⟩
theorem sl_form'{lb base:Nat}{e:TypeId}{v:Value}(h:CV cx.tb W0 T w base (.sl 0 e lb) v):∃A n c,v=.slice A n c∧n≤lb:=by
 rcases h with h|⟨-,h⟩|⟨b,off,n,c,h,h1,h2,-⟩
 ·exact⟨_,_,_,h,Nat.zero_le _⟩
 ·cases h with
  | nil=>exact⟨_,_,_,rfl,Nat.zero_le _⟩
  | emp a=>exact⟨_,_,_,rfl,Nat.zero_le _⟩
  | sl f hb hn hl=>exact⟨_,_,_,rfl,hl⟩
 ·exact⟨_,n,_,h,h2⟩
def c186':Ctr:=⟨[.one (.sl 0 156 1024)],[],[.one .bool],[],true,none⟩
theorem asc_holds:Holds Tryz.prog cx W0 186 c186':=by
 refine holds_one (ct:=.bool) ⟨_,Tryz.func186,by kernel_rfl,by kernel_rfl⟩ rfl rfl rfl fun T w args hw hty _=>?_
 rcases args with _|⟨v,_|⟨u,l⟩⟩
 ·exact hty.elim
 ·have hv:CV cx.tb W0 T w w.heap.size (.sl 0 156 1024) v:=hty.1
  obtain⟨A,n,c,rfl,hn⟩:=sl_form' hv
  obtain⟨f,hf,-⟩:=rds_at hw hv
  refine(asc_walk A n c f (by omega) w hf).mono ?_
  rintro e w' ⟨q,rfl,hb⟩
  exact⟨_,rfl,⟨q,rfl⟩,hb.out⟩
 ·exact hty.2.elim
theorem hist_below'{w':World}{T':Nat→Prop}(h:Hist T w true T' w'):Below w.heap.size w w':=⟨h.os,h.tape,h.output,h.size,fun b hb=>h.keep b hb (.inl rfl)⟩
def c160':Ctr:=⟨[.one (.sl 0 156 1024),.one (full .i64)],[],[.one (full .i64),.one (full .i64)],[],true,none⟩
theorem tot_holds(h178:Holds Tryz.prog cx W0 178 c178)(h180:Holds Tryz.prog cx W0 180 c180):Holds Tryz.prog cx W0 160 c160':=by
 refine⟨⟨_,Tryz.func160,by kernel_rfl,by kernel_rfl⟩,fun T w args hw hty _=>?_⟩
 have hlen:=yt hty
 obtain⟨v,u1,e⟩:∃v u1,args=#[v,u1]:=by
  obtain⟨l⟩:=args
  rcases l with _|⟨a,_|⟨b,_|⟨c,l⟩⟩⟩<;>first|(simp[c160'] at hlen;done)|exact⟨_,_,rfl⟩
 subst e
 obtain⟨hv,⟨m,rfl,m1,m2⟩,-⟩:=hty
 have hv:CV cx.tb W0 T w w.heap.size (.sl 0 156 1024) v:=hv
 obtain⟨A,n,c,rfl,hn⟩:=sl_form' hv
 obtain⟨f,hf,hr⟩:=rds_at hw hv
 refine(tot_walk A n c f m (by omega) w hf hr ?_ ?_).mono ?_
 ·intro W hb
  obtain⟨hW,hx⟩:=zu hw hb
  refine(h178.2 T W #[.slice A n c,Nbr.i m] hW ⟨show CV cx.tb W0 T W W.heap.size (.sl 0 156 1024) _ from ?_,⟨m,rfl,m1,m2⟩,trivial⟩ (fun l hl=>by cases hl)).mono ?_
  ·rcases hv.mono hx (Nat.le_refl _) with h|h|⟨b,off,n',c',a1,a2,a3,a4,a5,a6,a7⟩
   ·exact .inl h
   ·exact .inr (.inl h)
   ·exact .inr (.inr ⟨b,off,n',c',a1,a2,a3,a4,a5,fun h=>by omega,a7⟩)
  ·rintro e w' ⟨v,vs,T',rfl,hr,hty,-,-,hh,-⟩
   have hr:vs=[v]:=hr
   subst hr
   obtain⟨⟨k,rfl,k1,k2⟩,-⟩:=hty
   exact⟨k,rfl,⟨k1,k2⟩,hist_below' hh⟩
 ·intro W a b hb ha hb2
  obtain⟨hW,hx⟩:=zu hw hb
  refine(h180.2 T W #[Nbr.i a,Nbr.i b,Nbr.i m] hW ⟨⟨a,rfl,ha.1,ha.2⟩,⟨b,rfl,hb2.1,hb2.2⟩,⟨m,rfl,m1,m2⟩,trivial⟩ (fun l hl=>by cases hl)).mono ?_
  rintro e w' ⟨v,vs,T',rfl,hr,hty,-,-,hh,-⟩
  have hl2:=yt hty
  obtain⟨x,y,rfl⟩:∃x y,vs=[x,y]:=by
   rcases vs with _|⟨a,_|⟨b,_|⟨c,l⟩⟩⟩<;>first|(simp[c180] at hl2;done)|exact⟨_,_,rfl⟩
  have hr:v=.tuple #[x,y]:=hr
  subst hr
  obtain⟨⟨z,rfl,-⟩,⟨k,rfl,k1,k2⟩,-⟩:=hty
  exact⟨z,k,rfl,⟨k1,k2⟩,hist_below' hh⟩
 ·rintro e w' ⟨z,k,rfl,z1,k1,hb⟩
  obtain⟨w1,w2⟩:=zu hw hb.out
  exact⟨_,[Nbr.i z,Nbr.i k],T,rfl,rfl,⟨⟨z,rfl,z1.1,z1.2⟩,⟨k,rfl,k1.1,k1.2⟩,trivial⟩,(fun l hl=>by cases hl),(fun e he=>by cases he),yx hw hb.out,w1⟩
end
set_option maxRecDepth 100000
section
variable{W0:World}
theorem h185(hT:Tab10 W0):Holds Tryz.prog cx W0 185 c185:=qx cxOk (qy (h176 hT) (by kernel_rfl) <| qy (h189 hT) (by kernel_rfl) <| qy (h190 hT) (by kernel_rfl) <| qj) mixed (fn:=Tryz.f185) [⟨[(7,full .i64),(8,full .i64)],[],[⟨0,[(1,7)]⟩,⟨-20,[(-1,7),(1,8)]⟩,⟨20,[(1,7),(-1,8)]⟩,⟨0,[(1,1),(-1,7)]⟩],⟨0,[(1,1),(-1,7)]⟩⟩,⟨[(6,full .i64),(7,full .i64),(8,full .i64)],[],[⟨-1,[(1,6)]⟩],⟨0,[(1,1),(-1,6)]⟩⟩,⟨[(7,full .i64),(8,full .i64)],[],[⟨0,[(1,7)]⟩,⟨0,[(-2,6),(-1,7),(1,8)]⟩,⟨0,[(2,6),(1,7),(-1,8)]⟩,⟨0,[(1,1),(-1,7)]⟩,⟨-1,[(-1,6),(-1,7),(1,8)]⟩],⟨0,[(1,1),(-1,7)]⟩⟩] (by kernel_rfl) (by kernel_rfl)
theorem h175(hT:Tab10 W0):Holds Tryz.prog cx W0 175 c175:=qx cxOk (qy (h176 hT) (by kernel_rfl) <| qy (h185 hT) (by kernel_rfl) <| qj) mixed (fn:=Tryz.f175) [] (by kernel_rfl) (by kernel_rfl)
theorem h157(hT:Tab10 W0):Holds Tryz.prog cx W0 157 c157:=qx cxOk (qy (h133 hT) (by kernel_rfl) <| qy (h154 hT) (by kernel_rfl) <| qy (h174 hT) (by kernel_rfl) <| qy (h175 hT) (by kernel_rfl) <| qy (h176 hT) (by kernel_rfl) <| qj) mixed (fn:=Tryz.f157) [⟨[(2,(.sl 2 95 LM)),(3,full .i64),(16,full .i64)],[],[⟨0,[(1,0),(-1,16)]⟩,⟨0,[(1,16)]⟩],⟨0,[(1,0),(-1,16)]⟩⟩,⟨[(2,(.sl 2 95 LM)),(3,full .i64),(28,full .i64)],[],[⟨0,[(1,0),(-1,28)]⟩,⟨0,[(1,28)]⟩],⟨0,[(1,0),(-1,28)]⟩⟩,⟨[(2,(.sl 2 95 LM)),(3,full .i64),(55,full .i64),(10,(.sl 2 95 LM))],[],[⟨0,[(1,9),(-1,55)]⟩,⟨0,[(1,55)]⟩,⟨0,[(-1,10),(1,55)]⟩,⟨0,[(8192,10),(-1,55)]⟩],⟨0,[(1,9),(-1,55)]⟩⟩] (by kernel_rfl) (by kernel_rfl)
theorem h158(hT:Tab10 W0):Holds Tryz.prog cx W0 158 c158:=qx cxOk (qj) mixed (fn:=Tryz.f158) [⟨[(3,.bool),(4,.bool),(9,(full .i64))],[],[⟨0,[(1,0),(-1,9)]⟩,⟨0,[(1,9)]⟩,⟨1,[(1,9)]⟩,⟨0,[(1,7),(-1,9)]⟩,⟨0,[(1,8),(-1,9)]⟩],⟨0,[(1,0),(-1,9)]⟩⟩] (by kernel_rfl) (by kernel_rfl)
theorem h186(hT:Tab10 W0):Holds Tryz.prog cx W0 186 c186:=(by rw[show c186=c186' from by kernel_rfl];exact asc_holds)
theorem h177(hT:Tab10 W0):Holds Tryz.prog cx W0 177 c177:=qx cxOk (qy (h186 hT) (by kernel_rfl) <| qj) mixed (fn:=Tryz.f177) [⟨[(4,(.sl 2 156 LM)),(5,full .i64),(7,full .i64),(8,full .i64),(6,(.sl 2 156 LM))],[],[⟨0,[(1,7)]⟩,⟨0,[(1,8)]⟩,⟨0,[(1,0),(-1,7)]⟩,⟨0,[(1,1),(-1,8)]⟩,⟨0,[(-1,6),(1,7),(1,8)]⟩],⟨0,[(1,0),(1,1),(-1,7),(-1,8)]⟩⟩] (by kernel_rfl) (by kernel_rfl)
theorem h159(hT:Tab10 W0):Holds Tryz.prog cx W0 159 c159:=qx cxOk (qy (h177 hT) (by kernel_rfl) <| qj) mixed (fn:=Tryz.f159) [⟨[(2,(.sl 2 156 LM)),(3,full .i64),(4,(.sl 1 156 1024)),(10,full .i64)],[],[⟨0,[(1,10)]⟩,⟨0,[(1,0),(-1,10)]⟩],⟨0,[(1,0),(-1,10)]⟩⟩] (by kernel_rfl) (by kernel_rfl)
theorem h178(hT:Tab10 W0):Holds Tryz.prog cx W0 178 c178:=qx cxOk (qj) mixed (fn:=Tryz.f178) [⟨[(4,(full .i64)),(21,(full .i64))],[],[⟨0,[(1,0),(-1,21)]⟩,⟨0,[(1,4)]⟩,⟨1,[(1,4)]⟩,⟨0,[(1,21)]⟩,⟨1,[(1,21)]⟩,⟨0,[(-1,4),(1,21)]⟩,⟨0,[(1,0),(-1,4)]⟩,⟨0,[(1,1),(-1,4)]⟩,⟨0,[(-1,4),(1,7)]⟩,⟨0,[(-1,4),(1,10)]⟩,⟨0,[(-1,4),(1,13)]⟩,⟨0,[(-1,4),(1,14)]⟩,⟨0,[(-1,4),(1,16)]⟩,⟨0,[(-1,4),(1,17)]⟩,⟨0,[(-1,4),(1,19)]⟩,⟨0,[(-1,4),(1,20)]⟩,⟨0,[(1,13),(-1,21)]⟩,⟨0,[(1,14),(-1,21)]⟩,⟨0,[(1,16),(-1,21)]⟩,⟨0,[(1,17),(-1,21)]⟩],⟨0,[(1,0),(-1,21)]⟩⟩] (by kernel_rfl) (by kernel_rfl)
theorem h180(hT:Tab10 W0):Holds Tryz.prog cx W0 180 c180:=qx cxOk (qj) mixed (fn:=Tryz.f180) [] (by kernel_rfl) (by kernel_rfl)
theorem h160(hT:Tab10 W0):Holds Tryz.prog cx W0 160 c160:=(by rw[show c160=c160' from by kernel_rfl];exact tot_holds (h178 hT) (h180 hT))
theorem h135(hT:Tab10 W0):Holds Tryz.prog cx W0 135 c135:=qx cxOk (qy (h157 hT) (by kernel_rfl) <| qy (h158 hT) (by kernel_rfl) <| qy (h159 hT) (by kernel_rfl) <| qy (h160 hT) (by kernel_rfl) <| qj) mixed (fn:=Tryz.f135) [⟨[(5,(full .i64)),(10,.bool),(43,(full .i64))],[],[⟨0,[(1,5)]⟩,⟨1,[(1,5)]⟩,⟨0,[(1,43)]⟩,⟨1,[(1,43)]⟩,⟨0,[(-1,5),(1,43)]⟩,⟨0,[(1,0),(-1,5)]⟩],⟨0,[(1,6),(-1,43)]⟩⟩] (by kernel_rfl) (by kernel_rfl)
theorem h136(hT:Tab10 W0):Holds Tryz.prog cx W0 136 c136:=qx cxOk (qy (h151 hT) (by kernel_rfl) <| qy (h156 hT) (by kernel_rfl) <| qj) mixed (fn:=Tryz.f136) [] (by kernel_rfl) (by kernel_rfl)
theorem h116(hT:Tab10 W0):Holds Tryz.prog cx W0 116 c116:=(by rw[show c116=c116' from by kernel_rfl];exact collect_holds (h134 hT) (h135 hT) (h136 hT))
theorem h95(hT:Tab10 W0):Holds Tryz.prog cx W0 95 c95:=qx cxOk (qy (h21 hT) (by kernel_rfl) <| qy (h62 hT) (by kernel_rfl) <| qy (h111 hT) (by kernel_rfl) <| qy (h113 hT) (by kernel_rfl) <| qy (h114 hT) (by kernel_rfl) <| qy (h115 hT) (by kernel_rfl) <| qy (h116 hT) (by kernel_rfl) <| qj) mixed (fn:=Tryz.f95) [] (by kernel_rfl) (by kernel_rfl)
theorem h31(hT:Tab10 W0):Holds Tryz.prog cx W0 31 c31:=(by rw[show c31=c31' from by kernel_rfl];exact append_holds)
theorem h32(hT:Tab10 W0):Holds Tryz.prog cx W0 32 c32:=hand32 hT
theorem h96(hT:Tab10 W0):Holds Tryz.prog cx W0 96 c96:=qx cxOk (qy (h21 hT) (by kernel_rfl) <| qy (h31 hT) (by kernel_rfl) <| qy (h32 hT) (by kernel_rfl) <| qy (h111 hT) (by kernel_rfl) <| qj) mixed (fn:=Tryz.f96) [] (by kernel_rfl) (by kernel_rfl)
theorem h97(hT:Tab10 W0):Holds Tryz.prog cx W0 97 c97:=qx cxOk (qy (h62 hT) (by kernel_rfl) <| qj) mixed (fn:=Tryz.f97) [] (by kernel_rfl) (by kernel_rfl)
theorem h63(hT:Tab10 W0):Holds Tryz.prog cx W0 63 c63:=qx cxOk (qy (h91 hT) (by kernel_rfl) <| qy (h92 hT) (by kernel_rfl) <| qy (h93 hT) (by kernel_rfl) <| qy (h94 hT) (by kernel_rfl) <| qy (h95 hT) (by kernel_rfl) <| qy (h96 hT) (by kernel_rfl) <| qy (h97 hT) (by kernel_rfl) <| qj) mixed (fn:=Tryz.f63) [] (by kernel_rfl) (by kernel_rfl)
theorem h64(hT:Tab10 W0):Holds Tryz.prog cx W0 64 c64:=qx cxOk (qy (h19 hT) (by kernel_rfl) <| qy (h58 hT) (by kernel_rfl) <| qy (h59 hT) (by kernel_rfl) <| qy (h60 hT) (by kernel_rfl) <| qy (h61 hT) (by kernel_rfl) <| qj) mixed (fn:=Tryz.f64) [] (by kernel_rfl) (by kernel_rfl)
theorem h24(hT:Tab10 W0):Holds Tryz.prog cx W0 24 c24:=qx cxOk (qy (h21 hT) (by kernel_rfl) <| qy (h62 hT) (by kernel_rfl) <| qy (h63 hT) (by kernel_rfl) <| qy (h64 hT) (by kernel_rfl) <| qy (h91 hT) (by kernel_rfl) <| qy (h92 hT) (by kernel_rfl) <| qy (h93 hT) (by kernel_rfl) <| qy (h94 hT) (by kernel_rfl) <| qy (h95 hT) (by kernel_rfl) <| qy (h96 hT) (by kernel_rfl) <| qy (h97 hT) (by kernel_rfl) <| qj) mixed (fn:=Tryz.f24) [] (by kernel_rfl) (by kernel_rfl)
theorem h9(hT:Tab10 W0):Holds Tryz.prog cx W0 9 c9:=qx cxOk (qy (h18 hT) (by kernel_rfl) <| qy (h19 hT) (by kernel_rfl) <| qy (h20 hT) (by kernel_rfl) <| qy (h21 hT) (by kernel_rfl) <| qy (h22 hT) (by kernel_rfl) <| qy (h23 hT) (by kernel_rfl) <| qy (h24 hT) (by kernel_rfl) <| qj) mixed (fn:=Tryz.f9) [] (by kernel_rfl) (by kernel_rfl)
theorem h74(hT:Tab10 W0):Holds Tryz.prog cx W0 74 c74:=qx cxOk (qj) mixed (fn:=Tryz.f74) [] (by kernel_rfl) (by kernel_rfl)
theorem h34(hT:Tab10 W0):Holds Tryz.prog cx W0 34 c34:=qx cxOk (qy (h74 hT) (by kernel_rfl) <| qj) mixed (fn:=Tryz.f34) [] (by kernel_rfl) (by kernel_rfl)
theorem h14(hT:Tab10 W0):Holds Tryz.prog cx W0 14 c14:=qx cxOk (qy (h18 hT) (by kernel_rfl) <| qy (h20 hT) (by kernel_rfl) <| qy (h29 hT) (by kernel_rfl) <| qy (h34 hT) (by kernel_rfl) <| qj) mixed (fn:=Tryz.f14) [] (by kernel_rfl) (by kernel_rfl)
end
set_option maxRecDepth 100000
section
variable{W0:World}
theorem h30(hT:Tab10 W0):Holds Tryz.prog cx W0 30 c30:=qx cxOk (qy (h19 hT) (by kernel_rfl) <| qy (h59 hT) (by kernel_rfl) <| qy (h60 hT) (by kernel_rfl) <| qj) mixed (fn:=Tryz.f30) [] (by kernel_rfl) (by kernel_rfl)
theorem h12(hT:Tab10 W0):Holds Tryz.prog cx W0 12 c12:=qx cxOk (qy (h18 hT) (by kernel_rfl) <| qy (h20 hT) (by kernel_rfl) <| qy (h29 hT) (by kernel_rfl) <| qy (h30 hT) (by kernel_rfl) <| qy (h31 hT) (by kernel_rfl) <| qy (h32 hT) (by kernel_rfl) <| qj) mixed (fn:=Tryz.f12) [] (by kernel_rfl) (by kernel_rfl)
theorem h35(hT:Tab10 W0):Holds Tryz.prog cx W0 35 c35:=qx cxOk (qj) mixed (fn:=Tryz.f35) [⟨[(4,.bool),(14,(full .i64))],[],[⟨2,[(-1,14)]⟩,⟨0,[(1,14)]⟩,⟨1,[(1,14)]⟩],⟨2,[(-1,14)]⟩⟩,⟨[(4,.bool),(19,(full .i64))],[],[⟨0,[(1,6),(-1,19)]⟩,⟨0,[(1,19)]⟩,⟨1,[(1,19)]⟩,⟨0,[(1,16),(-1,19)]⟩,⟨0,[(1,17),(-1,19)]⟩,⟨0,[(1,18),(-1,19)]⟩],⟨0,[(1,6),(-1,19)]⟩⟩] (by kernel_rfl) (by kernel_rfl)
theorem h36(hT:Tab10 W0):Holds Tryz.prog cx W0 36 c36:=qx cxOk (qy (h59 hT) (by kernel_rfl) <| qy (h60 hT) (by kernel_rfl) <| qj) mixed (fn:=Tryz.f36) [] (by kernel_rfl) (by kernel_rfl)
theorem h15(hT:Tab10 W0):Holds Tryz.prog cx W0 15 c15:=qx cxOk (qy (h20 hT) (by kernel_rfl) <| qy (h30 hT) (by kernel_rfl) <| qy (h35 hT) (by kernel_rfl) <| qy (h36 hT) (by kernel_rfl) <| qj) mixed (fn:=Tryz.f15) [⟨[(7,(.sl 2 58 LM)),(37,(full .i64))],[],[⟨0,[(1,35),(-1,37)]⟩,⟨0,[(1,37)]⟩,⟨1,[(1,37)]⟩,⟨0,[(-1,7),(1,37)]⟩,⟨0,[(1,7),(-1,37)]⟩,⟨0,[(-1,7),(1,31)]⟩,⟨0,[(-1,7),(1,32)]⟩,⟨0,[(-1,7),(1,35)]⟩,⟨0,[(-1,7),(1,36)]⟩,⟨0,[(1,31),(-1,37)]⟩,⟨0,[(1,32),(-1,37)]⟩],⟨0,[(1,35),(-1,37)]⟩⟩] (by kernel_rfl) (by kernel_rfl)
theorem h77(hT:Tab10 W0):Holds Tryz.prog cx W0 77 c77:=qx cxOk (qj) mixed (fn:=Tryz.f77) [⟨[(10,(full .i64))],[],[⟨0,[(1,3),(-1,10)]⟩,⟨0,[(1,10)]⟩,⟨1,[(1,10)]⟩,⟨0,[(1,0),(-1,10)]⟩,⟨0,[(1,6),(-1,10)]⟩,⟨0,[(1,7),(-1,10)]⟩,⟨0,[(1,8),(-1,10)]⟩,⟨0,[(1,9),(-1,10)]⟩],⟨0,[(1,3),(-1,10)]⟩⟩] (by kernel_rfl) (by kernel_rfl)
theorem h37(hT:Tab10 W0):Holds Tryz.prog cx W0 37 c37:=qx cxOk (qy (h75 hT) (by kernel_rfl) <| qy (h76 hT) (by kernel_rfl) <| qy (h77 hT) (by kernel_rfl) <| qj) mixed (fn:=Tryz.f37) [⟨[(9,(full .i64))],[],[⟨0,[(1,0),(-1,9)]⟩,⟨0,[(1,9)]⟩,⟨1,[(1,9)]⟩],⟨0,[(1,0),(-1,9)]⟩⟩] (by kernel_rfl) (by kernel_rfl)
theorem h16(hT:Tab10 W0):Holds Tryz.prog cx W0 16 c16:=qx cxOk (qy (h20 hT) (by kernel_rfl) <| qy (h37 hT) (by kernel_rfl) <| qj) mixed (fn:=Tryz.f16) [] (by kernel_rfl) (by kernel_rfl)
theorem h17(hT:Tab10 W0):Holds Tryz.prog cx W0 17 c17:=qx cxOk (qj) mixed (fn:=Tryz.f17) [⟨[(10,(full .i64))],[],[⟨0,[(1,8),(-1,10)]⟩,⟨0,[(1,10)]⟩,⟨1,[(1,10)]⟩,⟨0,[(1,9),(-1,10)]⟩],⟨0,[(1,8),(-1,10)]⟩⟩] (by kernel_rfl) (by kernel_rfl)
theorem h8(hT:Tab10 W0):Holds Tryz.prog cx W0 8 c8:=qx cxOk (qy (h9 hT) (by kernel_rfl) <| qy (h12 hT) (by kernel_rfl) <| qy (h14 hT) (by kernel_rfl) <| qy (h15 hT) (by kernel_rfl) <| qy (h16 hT) (by kernel_rfl) <| qy (h17 hT) (by kernel_rfl) <| qj) mixed (fn:=Tryz.f8) [] (by kernel_rfl) (by kernel_rfl)
end
set_option maxRecDepth 100000
section
variable{W0:World}
end
end Sy
end Go.Proofs.YtmadfhgiaonnlaaGreatDoor
