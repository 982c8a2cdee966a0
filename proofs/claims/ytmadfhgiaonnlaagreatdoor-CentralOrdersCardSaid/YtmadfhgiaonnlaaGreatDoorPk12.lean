import Derived.Great.BuildSlice
import Derived.Laws.CopyOwn
import Derived.Test.YtmadfhgiaonnlaaGreatDoorPk11
set_option linter.unusedVariables false
set_option linter.unusedSimpArgs false
namespace Go.Proofs.YtmadfhgiaonnlaaGreatDoor
namespace Reg9
open Go.RowKit Reg4
section
variable{P:Program}{ops:Array Oper}{Q:Exit→Act→World→Prop}{m:Nat}{a0:Act}{S:(Nat→Bool)→(Nat→Value)→World→Prop}
structure Inv(ops:Array Oper)(m:Nat)(a0:Act)(S:(Nat→Bool)→(Nat→Value)→World→Prop)(vals:Nat→Value)(listed:Array Bool)(a:Act)(w:World):Prop where
 size:listed.size=ops.size
 tail:∀i,m≤i→i<ops.size→listed.getD i true=false
 act:a=puts ops vals (fun k=>listed.getD k false) (List.range m) a0
 s:S (fun k=>listed.getD k false) vals w
 down:∀(k:Nat) (o:Oper),ops[k]? = some o→listed.getD k false=true→∀e∈o.after,Region.binds .any e=true→listed.getD e.on false=true
theorem main(hH:headB ops m=true)(hin:∀k d,k<m→dstOf ops k=some d→d<a0.tmps.size)
  (hstep:∀i o,i<m→ops[i]? = some o→∀(L:Nat→Bool) (vals:Nat→Value) (a:Act) (w:World),L i=false→S L vals w→(∀e∈o.after,Region.binds .any e=true→L e.on=true)→(∀d,Operand.tmp d∈o.op.operands→match idxOf ops m d with|some k=>L k=true∧a.tmps.getD d undef=vals k|none=>a.tmps.getD d undef=a0.tmps.getD d undef) →
    StepOk P (fun v w'=>S (fun k=>if k=i then true else L k) (fun k=>if k=i then v else vals k) w') ((execOp a.eval o).run P w))
  (hfin:∀(L:Nat→Bool) (vals:Nat→Value) (w:World),(∀k,k<m→L k=true)→S L vals w→wpList P ops Q (ops.toList.drop m) (puts ops vals (fun _=>true) (List.range m) a0) w) :
  ∀(c:Nat) (vals:Nat→Value) (listed:Array Bool) (a:Act) (w:World),Inv ops m a0 S vals listed a w→left m listed=c→wpAny P .any ops Q (c+(ops.size-m)) listed a w:=by
 simp only[headB,Bool.and_eq_true,decide_eq_true_eq,List.all_eq_true,List.mem_range,Bool.or_eq_true] at hH
 obtain⟨⟨⟨hmn,hop⟩,htail⟩,hseq⟩:=hH
 have hopx:∀i o,i<m→ops[i]? = some o→o.guard=none∧(∀e∈o.after,Region.binds .any e=true→e.on<i)∧(∀d,Operand.tmp d∈o.op.operands→∀k,k<m→dstOf ops k=some d→waits o k=true)∧(∀k,k<m→k≠i→∀d,dstOf ops i=some d→dstOf ops k≠some d):=by
  intro i o hi ho
  have h:=hop i hi
  unfold opB at h
  rw[ho] at h
  simp only[Bool.and_eq_true,Option.isNone_iff_eq_none,Array.all_eq_true_iff_forall_mem,decide_eq_true_eq,List.all_eq_true,List.mem_range,Bool.or_eq_true,bne_iff_ne,beq_iff_eq] at h
  obtain⟨⟨⟨h1,h2⟩,h3⟩,h4⟩:=h
  refine⟨h1,fun e he hb=>(h2 e he).resolve_left (by rw[hb];decide),fun d hd k hk hkd=>?_,fun k hk hne d hd hkd=>?_⟩
  ·have:=h3 _ hd
   simp only[List.all_eq_true,List.mem_range,Bool.or_eq_true,bne_iff_ne] at this
   rcases this k hk with h|h
   ·exact absurd hkd h
   ·exact h
  ·rcases h4 k hk with(h|h)|h
   ·exact hne h
   ·rw[h] at hd;cases hd
   ·rw[hd,hkd] at h;exact h rfl
 intro c
 induction c with
 | zero=>
   intro vals listed a w inv hc
   have hall:∀k,k<m→listed.getD k false=true:=by
    intro k hk
    unfold left at hc
    have:=List.eq_nil_of_length_eq_zero hc
    have h2:=List.filter_eq_nil_iff.1 this k (List.mem_range.2 hk)
    simpa using h2
   have hl:listed=marks m ops.size:=by
    refine Array.ext (by simp[marks,inv.size];omega) (fun k h1 h2=>?_)
    by_cases hk:k<m
    ·have e1:=hall k hk
     rw[Array.getD_eq_getD_getElem?,Array.getElem?_eq_getElem h1] at e1
     have e2:(marks m ops.size)[k]=true:=by simp[marks,hk]
     rw[e2];simpa using e1
    ·have e1:=inv.tail k (by omega) (by rw[←inv.size];exact h1)
     rw[Array.getD_eq_getD_getElem?,Array.getElem?_eq_getElem h1] at e1
     have e2:(marks m ops.size)[k]=false:=by simp[marks,Array.getElem_append,hk]
     rw[e2];simpa using e1
   have ha:a=puts ops vals (fun _=>true) (List.range m) a0:=by
    rw[inv.act]
    exact puts_congr _ _ (fun k hk=>⟨hall k (List.mem_range.1 hk),rfl⟩)
   subst ha
   have hlen:(ops.toList.drop m).length=ops.size-m:=by simp
   have:=wpAny_of_seq (md:=.any) (Q':=Q) (P:=P) (ops:=ops) (ops.toList.drop m) m listed _ w (fun j=>by simp) (by rw[hlen,hl];exact hseq) (hfin _ vals w hall inv.s)
   rw[hlen] at this
   rw[Nat.zero_add]
   exact this
 | succ c ih=>
   intro vals listed a w inv hc
   rw[show c+1+(ops.size-m)=(c+(ops.size-m))+1 by omega]
   have hex:∃i,i<m∧listed.getD i false=false:=by
    unfold left at hc
    rcases hl:(List.range m).filter (fun k=>!listed.getD k false) with _|⟨i,l⟩
    ·rw[hl] at hc;simp at hc
    ·have:i∈(List.range m).filter (fun k=>!listed.getD k false):=by rw[hl];simp
     rw[List.mem_filter,List.mem_range] at this
     exact⟨i,this.1,by simpa using this.2⟩
   refine⟨fun hr=>?_,fun i hi=>?_⟩
   ·
    exfalso
    obtain⟨i,⟨hi,hu⟩,hmin⟩:∃i,(i<m∧listed.getD i false=false)∧∀j,j<i→listed.getD j false=true:=by
     obtain⟨i,hi,hu⟩:=hex
     induction i using Nat.strongRecOn with
     | _ i ihs=>
       by_cases hb:∃j,j<i∧listed.getD j false=false
       ·obtain⟨j,hj,hju⟩:=hb
        exact ihs j hj (by omega) hju
       ·exact⟨i,⟨hi,hu⟩,fun j hj=>by
         cases hv:listed.getD j false with
         | true=>rfl
         | false=>exact absurd ⟨j,hj,hv⟩ hb⟩
    have ho:∃o,ops[i]? = some o:=⟨ops[i]'(by omega),Array.getElem?_eq_getElem _⟩
    obtain⟨o,ho⟩:=ho
    have:i∈Region.ready .any ops listed:=mem_ready.2 ⟨by rw[getD_tf _ _ (by rw[inv.size];omega)];exact hu,o,ho,fun e he hb=>hmin _ ((hopx i o hi ho).2.1 e he hb)⟩
    rw[hr] at this
    cases this
   ·obtain⟨hu,o,ho,hed⟩:=mem_ready.1 hi
    have hin':i<ops.size:=(Array.getElem?_eq_some_iff.1 ho).1
    have his:i<listed.size:=by rw[inv.size];exact hin'
    have hu':listed.getD i false=false:=by rw[←getD_tf _ _ his];exact hu
    have him:i<m:=by
     rcases Nat.lt_or_ge i m with h|h
     ·exact h
     ·exfalso
      obtain⟨k,hk,hku⟩:=hex
      have ht:=htail i hin'
      rcases ht with ht|ht
      ·omega
      ·unfold tailB at ht
       simp only[List.all_eq_true,List.mem_range] at ht
       have:=reach_listed inv.down _ i o k ho hed (ht k hk)
       rw[hku] at this
       cases this
    obtain⟨g1,g2,g3,g4⟩:=hopx i o him ho
    have hstep':=hstep i o him ho _ vals a w hu' inv.s hed (fun d hx=>by
     split
     ·rename_i k hk
      unfold idxOf at hk
      have hkm:k<m:=List.mem_range.1 (List.mem_of_find?_eq_some hk)
      have hkd:dstOf ops k=some d:=by simpa using List.find?_some hk
      have hw:=g3 d hx k hkm hkd
      unfold waits at hw
      rw[Array.any_eq_true'] at hw
      obtain⟨e,he,hb⟩:=hw
      simp only[Bool.and_eq_true,beq_iff_eq] at hb
      have hlk:=hed e he hb.1
      rw[hb.2] at hlk
      have:a.tmps.getD d undef=vals k:=by
       rw[inv.act]
       refine puts_at hkd hlk (List.range m) a0 List.nodup_range (List.mem_range.2 hkm) (hin k d hkm hkd) (fun j hj hne hjd=>?_)
       have hj':j<m:=List.mem_range.1 hj
       have hoj:∃oj,ops[j]? = some oj:=⟨ops[j]'(by omega),Array.getElem?_eq_getElem _⟩
       obtain⟨oj,hoj⟩:=hoj
       exact(hopx j oj hj' hoj).2.2.2 k hkm (fun e=>hne e.symm) d hjd hkd
      exact⟨hlk,this⟩
     ·rename_i hk
      unfold idxOf at hk
      have hno:∀k∈List.range m,dstOf ops k≠some d:=fun k hk'=>by
       have:=List.find?_eq_none.1 hk k hk'
       simpa using this
      rw[inv.act]
      exact puts_none _ _ hno)
    have hGe:(fun k=>(listed.setIfInBounds i true).getD k false)=(fun k=>if k=i then true else listed.getD k false):=funext fun k=>getD_set _ _ _ _ his
    have hK:∀(v:Value) (w':World),S (fun k=>if k=i then true else listed.getD k false) (fun k=>if k=i then v else vals k) w'→wpAny P .any ops Q (c+(ops.size-m)) (listed.setIfInBounds i true) (a.put o.dst v) w':=by
     intro v w' hG
     refine ih (fun k=>if k=i then v else vals k) _ _ _ ⟨by simp[inv.size],fun j hj hjn=>?_,?_,by rw[hGe];exact hG,fun k ok hok hlk e he hbe=>?_⟩ ?_
     ·rw[getD_set _ _ _ _ his,if_neg (by omega)]
      exact inv.tail j hj hjn
     ·have hdst:o.dst=dstOf ops i:=by unfold dstOf;rw[ho];rfl
      rw[hdst,inv.act,←puts_ins (List.range m) a0 List.nodup_range (List.mem_range.2 him) hu' (fun k hk hne d h1=>g4 k (List.mem_range.1 hk) hne d h1)]
      refine puts_congr _ _ (fun k hk=>⟨?_,rfl⟩)
      rw[getD_set _ _ _ _ his]
      by_cases e:k=i
      ·simp[e]
      ·simp[e]
     ·have hlo:listed.getD e.on false=true:=by
       by_cases ek:k=i
       ·subst ek
        rw[ho] at hok
        injection hok with hok
        subst hok
        exact hed e he hbe
       ·rw[getD_set _ _ _ _ his,if_neg ek] at hlk
        exact inv.down k ok hok hlk e he hbe
      rw[getD_set _ _ _ _ his]
      split
      ·rfl
      ·exact hlo
     ·have:=left_set (m:=m) him his hu'
      omega
    unfold wpOp
    rw[ho]
    have hwant:Region.wanted o (yielded ops a.tmps)=true:=by simp[Region.wanted,g1]
    simp only[hwant,if_true]
    left
    unfold Oper.wp
    generalize (execOp a.eval o).run P w=r at hstep'
    cases r with
    | ok nx w'=>
      cases nx<;>simp only[StepOk] at hstep'<;>simp only[Oper.upon]
      ·exact hK _ _ hstep'
      ·exact hK _ _ hstep'
      ·exact hstep'.mono fun e w'' ⟨v,he,hR⟩=>by subst he;exact hK v w'' hR
    | halt x w'=>simp only[StepOk] at hstep'
theorem region{id:Nat}{w:World}(m:Nat)(S:(Nat→Bool)→(Nat→Value)→World→Prop)(hm:P.follows .mixedOrders=true)(hH:headB ops m=true)(hin:∀k d,k<m→dstOf ops k=some d→d<a0.tmps.size)(hG:S (fun _=>false) (fun _=>undef) w.drew)
  (hstep:∀i o,i<m→ops[i]? = some o→∀(L:Nat→Bool) (vals:Nat→Value) (a:Act) (w:World),L i=false→S L vals w→(∀e∈o.after,Region.binds .any e=true→L e.on=true)→(∀d,Operand.tmp d∈o.op.operands→match idxOf ops m d with|some k=>L k=true∧a.tmps.getD d undef=vals k|none=>a.tmps.getD d undef=a0.tmps.getD d undef) →
    StepOk P (fun v w'=>S (fun k=>if k=i then true else L k) (fun k=>if k=i then v else vals k) w') ((execOp a.eval o).run P w))
  (hfin:∀(L:Nat→Bool) (vals:Nat→Value) (w:World),(∀k,k<m→L k=true)→S L vals w→wpList P ops Q (ops.toList.drop m) (puts ops vals (fun _=>true) (List.range m) a0) w) :
  (Code.region id ops true).wp P Q a0 w:=by
 refine wp_region_any hm ?_
 have hmn:m≤ops.size:=by
  simp only[headB,Bool.and_eq_true,decide_eq_true_eq] at hH
  exact hH.1.1.1
 have hz:∀k b,k<ops.size→(Array.replicate ops.size false).getD k b=false:=fun k b hk=>by
  rw[Array.getD_eq_getD_getElem?,Array.getElem?_replicate,if_pos hk];rfl
 have hl:left m (Array.replicate ops.size false)=m:=by
  unfold left
  rw[List.filter_eq_self.2 (fun k hk=>by rw[hz k false (by have:=List.mem_range.1 hk;omega)];rfl),List.length_range]
 have hGz:S (fun _=>false) (fun _=>undef) w.drew→S (fun k=>(Array.replicate ops.size false).getD k false) (fun _=>undef) w.drew:=fun h=>by
  have e:(fun k=>(Array.replicate ops.size false).getD k false)=(fun _=>false):=funext fun k=>by
   rw[Array.getD_eq_getD_getElem?,Array.getElem?_replicate]
   split<;>rfl
  rw[e];exact h
 have:=main (P:=P) (Q:=Q) (a0:=a0) (S:=S) hH hin hstep hfin m (fun _=>undef) (Array.replicate ops.size false) a0 w.drew ⟨by simp,fun i _ hi=>hz i true hi,?_,hGz hG,fun k o ho h=>?_⟩ hl
 ·rw[show m+(ops.size-m)=ops.size by omega] at this
  exact this
 ·have:∀(ks:List Nat) (a:Act),(∀k∈ks,k<ops.size)→puts ops (fun _=>undef) (fun k=>(Array.replicate ops.size false).getD k false) ks a=a:=by
   intro ks
   induction ks with
   | nil=>intro a _;rfl
   | cons k ks ih=>
     intro a h
     unfold puts
     rw[hz k false (h k (by simp))]
     exact ih a (fun j hj=>h j (by simp[hj]))
  exact(this _ _ (fun k hk=>by have:=List.mem_range.1 hk;omega)).symm
 ·rw[hz k false (Array.getElem?_eq_some_iff.1 ho).1] at h;cases h
end
end Reg9
namespace RegA
open Go.RowKit Reg4
section
variable{P:Program}{ops:Array Oper}{Q:Exit→Act→World→Prop}{a0:Act}{Γ:Type}
def OpV(ops:Array Oper)(m:Nat)(a0:Act)(K:Nat→Option Value)(d:Tmp)(v:Value):Prop:=match idxOf ops m d with
 | some k=>∀y,K k=some y→v=y
 | none=>v=a0.tmps.getD d undef
theorem storeRun{o:Oper}{a:Act}{W:World}(ty:TypeId)(x y:Operand)(ho:o.op=.store ty x y)(p:Nat)(hx:a.eval x=.pointer (some ⟨p,0,none⟩))(cs old:Array Value)(hy:a.eval y=.agg cs)(hg:Blk W p ty old)
  (hi:(P.info? ty).map (·.size)=some cs.size) (hold:old.size=cs.size) (h1:cs.all (·.oneCell')=true) {R:Value→World→Prop} (hR:R undef (W.setRow p cs)):StepOk P R ((execOp a.eval o).run P W):=by
 unfold execOp
 simp only[ho,hx,hy,Instr.storeAt,Instr.sureAddr,Sem.run_bind,Sem.run_pure,Result.andThen_ok,run_storeVar_row W p ty ty old cs hg hi hold h1]
 exact hR
end
end RegA
namespace RegC
open Go.RowKit Reg4
section
variable{P:Program}{ops:Array Oper}{Q:Exit→Act→World→Prop}{a0:Act}
theorem region{id:Nat}{w:World}(m:Nat)(K:Nat→Option Value)(hm:P.follows .mixedOrders=true)(hH:headB ops m=true)(hin:∀k d,k<m→dstOf ops k=some d→d<a0.tmps.size)
  (hstep:∀i o,i<m→ops[i]? = some o→∀(a:Act) (W:World),Below w.heap.size w W→(∀d,Operand.tmp d∈o.op.operands→RegA.OpV ops m a0 K d (a.tmps.getD d undef))→StepOk P (fun v W'=>(∀x,K i=some x→v=x)∧Below W.heap.size W W') ((execOp a.eval o).run P W))
  (hfin:∀(vals:Nat→Value) (W:World),Below w.heap.size w W→(∀k x,k<m→K k=some x→vals k=x)→wpList P ops Q (ops.toList.drop m) (puts ops vals (fun _=>true) (List.range m) a0) W) :
  (Code.region id ops true).wp P Q a0 w:=by
 refine Reg9.region m (fun L vals W=>Below w.heap.size w W∧∀k x,L k=true→K k=some x→vals k=x) hm hH hin ⟨Below.drew (Below.refl _ _),fun _ _ h=>(by cases h)⟩ ?_ ?_
 ·intro i o hi ho L vals a W hL hS hw hop
  obtain⟨hb,hv⟩:=hS
  refine Reg4.StepOk.mono (hstep i o hi ho a W hb (fun d hd=>?_)) ?_
  ·have:=hop d hd
   unfold RegA.OpV
   split
   ·rename_i k hk
    rw[hk] at this
    exact fun y hy=>this.2.trans (hv k y this.1 hy)
   ·rename_i hk
    rw[hk] at this
    exact this
  ·rintro v W' ⟨hx,hbc⟩
   refine⟨hb.trans (hbc.mono hb.size),fun k x hk hx'=>?_⟩
   by_cases ek:k=i
   ·subst ek
    simp only[if_true]
    exact hx x hx'
   ·simp only[if_neg ek] at hk ⊢
    exact hv k x hk hx'
 ·intro L vals W hall hS
  exact hfin vals W hS.1 (fun k x hk hx=>hS.2 k x (hall k hk) hx)
end
end RegC
namespace Reg9g
open Go.RowKit Reg4
def wantV(o:Oper)(vals:Nat→Value):Bool:=match o.guard with
 | none=>true
 | some (j,want)=>match vals j with
   | .bool b=>b == want
   | _=>false
def opG(ops:Array Oper)(m i:Nat):Bool:=match ops[i]? with
 | some o=>(match o.guard with
    | none=>true
    | some (j,_)=>waits o j && decide (j<m) && (dstOf ops j).isSome) && o.after.all (fun e=>!Region.binds .any e || decide (e.on<i)) &&
    o.op.operands.all (fun x=>match x with|.tmp d=>(List.range m).all (fun k=>dstOf ops k != some d || waits o k)|_=>true) &&
    (List.range m).all (fun k=>k == i || dstOf ops i == none || dstOf ops k != dstOf ops i)
 | none=>false
def headG(ops:Array Oper)(m:Nat):Bool:=
 decide (m≤ops.size) && (List.range m).all (opG ops m) && (List.range ops.size).all (fun i=>decide (i<m) || tailB ops m i) && Region.seqB .any ops (ops.size-m) m (marks m ops.size)
theorem puts_sz{ops:Array Oper}{vals:Nat→Value}{L:Nat→Bool}:∀(ks:List Nat) (a:Act),(puts ops vals L ks a).tmps.size=a.tmps.size
 | [],a=>rfl
 | k::ks,a=>by
   unfold puts
   rw[puts_sz ks]
   split
   ·cases dstOf ops k<;>simp[Act.put]
   ·rfl
section
variable{P:Program}{ops:Array Oper}{Q:Exit→Act→World→Prop}{m:Nat}{a0:Act}{S:(Nat→Bool)→(Nat→Value)→World→Prop}
structure Inv(ops:Array Oper)(m:Nat)(a0:Act)(S:(Nat→Bool)→(Nat→Value)→World→Prop)(vals:Nat→Value)(listed:Array Bool)(a:Act)(w:World):Prop where
 size:listed.size=ops.size
 tail:∀i,m≤i→i<ops.size→listed.getD i true=false
 act:a=puts ops vals (fun k=>listed.getD k false) (List.range m) a0
 s:S (fun k=>listed.getD k false) vals w
 down:∀(k:Nat) (o:Oper),ops[k]? = some o→listed.getD k false=true→∀e∈o.after,Region.binds .any e=true→listed.getD e.on false=true
theorem main(hH:headG ops m=true)(hin:∀k d,k<m→dstOf ops k=some d→d<a0.tmps.size)
  (hstep:∀i o,i<m→ops[i]? = some o→∀(L:Nat→Bool) (vals:Nat→Value) (a:Act) (w:World),L i=false→S L vals w→(∀e∈o.after,Region.binds .any e=true→L e.on=true)→(∀d,Operand.tmp d∈o.op.operands→match idxOf ops m d with|some k=>L k=true∧a.tmps.getD d undef=vals k|none=>a.tmps.getD d undef=a0.tmps.getD d undef) →
    (wantV o vals=true→StepOk P (fun v w'=>S (fun k=>if k=i then true else L k) (fun k=>if k=i then v else vals k) w') ((execOp a.eval o).run P w))∧(wantV o vals=false→S (fun k=>if k=i then true else L k) (fun k=>if k=i then undef else vals k) w))
  (hfin:∀(L:Nat→Bool) (vals:Nat→Value) (w:World),(∀k,k<m→L k=true)→S L vals w→wpList P ops Q (ops.toList.drop m) (puts ops vals (fun _=>true) (List.range m) a0) w) :
  ∀(c:Nat) (vals:Nat→Value) (listed:Array Bool) (a:Act) (w:World),Inv ops m a0 S vals listed a w→left m listed=c→wpAny P .any ops Q (c+(ops.size-m)) listed a w:=by
 simp only[headG,Bool.and_eq_true,decide_eq_true_eq,List.all_eq_true,List.mem_range,Bool.or_eq_true] at hH
 obtain⟨⟨⟨hmn,hop⟩,htail⟩,hseq⟩:=hH
 have hopx:∀i o,i<m→ops[i]? = some o→(∀j want,o.guard=some (j,want)→waits o j=true∧j<m∧∃d,dstOf ops j=some d)∧(∀e∈o.after,Region.binds .any e=true→e.on<i)∧(∀d,Operand.tmp d∈o.op.operands→∀k,k<m→dstOf ops k=some d→waits o k=true)∧(∀k,k<m→k≠i→∀d,dstOf ops i=some d→dstOf ops k≠some d):=by
  intro i o hi ho
  have h:=hop i hi
  unfold opG at h
  rw[ho] at h
  simp only[Bool.and_eq_true,Array.all_eq_true_iff_forall_mem,decide_eq_true_eq,List.all_eq_true,List.mem_range,Bool.or_eq_true,bne_iff_ne,beq_iff_eq] at h
  obtain⟨⟨⟨h1,h2⟩,h3⟩,h4⟩:=h
  refine⟨fun j want hg=>(by rw[hg] at h1;simp only[Bool.and_eq_true,decide_eq_true_eq,Option.isSome_iff_exists] at h1;exact⟨h1.1.1,h1.1.2,h1.2⟩),fun e he hb=>(h2 e he).resolve_left (by rw[hb];decide),fun d hd k hk hkd=>?_,fun k hk hne d hd hkd=>?_⟩
  ·have:=h3 _ hd
   simp only[List.all_eq_true,List.mem_range,Bool.or_eq_true,bne_iff_ne] at this
   rcases this k hk with h|h
   ·exact absurd hkd h
   ·exact h
  ·rcases h4 k hk with(h|h)|h
   ·exact hne h
   ·rw[h] at hd;cases hd
   ·rw[hd,hkd] at h;exact h rfl
 intro c
 induction c with
 | zero=>
   intro vals listed a w inv hc
   have hall:∀k,k<m→listed.getD k false=true:=by
    intro k hk
    unfold left at hc
    have:=List.eq_nil_of_length_eq_zero hc
    have h2:=List.filter_eq_nil_iff.1 this k (List.mem_range.2 hk)
    simpa using h2
   have hl:listed=marks m ops.size:=by
    refine Array.ext (by simp[marks,inv.size];omega) (fun k h1 h2=>?_)
    by_cases hk:k<m
    ·have e1:=hall k hk
     rw[Array.getD_eq_getD_getElem?,Array.getElem?_eq_getElem h1] at e1
     have e2:(marks m ops.size)[k]=true:=by simp[marks,hk]
     rw[e2];simpa using e1
    ·have e1:=inv.tail k (by omega) (by rw[←inv.size];exact h1)
     rw[Array.getD_eq_getD_getElem?,Array.getElem?_eq_getElem h1] at e1
     have e2:(marks m ops.size)[k]=false:=by simp[marks,Array.getElem_append,hk]
     rw[e2];simpa using e1
   have ha:a=puts ops vals (fun _=>true) (List.range m) a0:=by
    rw[inv.act]
    exact puts_congr _ _ (fun k hk=>⟨hall k (List.mem_range.1 hk),rfl⟩)
   subst ha
   have hlen:(ops.toList.drop m).length=ops.size-m:=by simp
   have:=wpAny_of_seq (md:=.any) (Q':=Q) (P:=P) (ops:=ops) (ops.toList.drop m) m listed _ w (fun j=>by simp) (by rw[hlen,hl];exact hseq) (hfin _ vals w hall inv.s)
   rw[hlen] at this
   rw[Nat.zero_add]
   exact this
 | succ c ih=>
   intro vals listed a w inv hc
   rw[show c+1+(ops.size-m)=(c+(ops.size-m))+1 by omega]
   have hex:∃i,i<m∧listed.getD i false=false:=by
    unfold left at hc
    rcases hl:(List.range m).filter (fun k=>!listed.getD k false) with _|⟨i,l⟩
    ·rw[hl] at hc;simp at hc
    ·have:i∈(List.range m).filter (fun k=>!listed.getD k false):=by rw[hl];simp
     rw[List.mem_filter,List.mem_range] at this
     exact⟨i,this.1,by simpa using this.2⟩
   refine⟨fun hr=>?_,fun i hi=>?_⟩
   ·
    exfalso
    obtain⟨i,⟨hi,hu⟩,hmin⟩:∃i,(i<m∧listed.getD i false=false)∧∀j,j<i→listed.getD j false=true:=by
     obtain⟨i,hi,hu⟩:=hex
     induction i using Nat.strongRecOn with
     | _ i ihs=>
       by_cases hb:∃j,j<i∧listed.getD j false=false
       ·obtain⟨j,hj,hju⟩:=hb
        exact ihs j hj (by omega) hju
       ·exact⟨i,⟨hi,hu⟩,fun j hj=>by
         cases hv:listed.getD j false with
         | true=>rfl
         | false=>exact absurd ⟨j,hj,hv⟩ hb⟩
    have ho:∃o,ops[i]? = some o:=⟨ops[i]'(by omega),Array.getElem?_eq_getElem _⟩
    obtain⟨o,ho⟩:=ho
    have:i∈Region.ready .any ops listed:=mem_ready.2 ⟨by rw[getD_tf _ _ (by rw[inv.size];omega)];exact hu,o,ho,fun e he hb=>hmin _ ((hopx i o hi ho).2.1 e he hb)⟩
    rw[hr] at this
    cases this
   ·obtain⟨hu,o,ho,hed⟩:=mem_ready.1 hi
    have hin':i<ops.size:=(Array.getElem?_eq_some_iff.1 ho).1
    have his:i<listed.size:=by rw[inv.size];exact hin'
    have hu':listed.getD i false=false:=by rw[←getD_tf _ _ his];exact hu
    have him:i<m:=by
     rcases Nat.lt_or_ge i m with h|h
     ·exact h
     ·exfalso
      obtain⟨k,hk,hku⟩:=hex
      have ht:=htail i hin'
      rcases ht with ht|ht
      ·omega
      ·unfold tailB at ht
       simp only[List.all_eq_true,List.mem_range] at ht
       have:=reach_listed inv.down _ i o k ho hed (ht k hk)
       rw[hku] at this
       cases this
    obtain⟨g1,g2,g3,g4⟩:=hopx i o him ho
    have hstep':=hstep i o him ho _ vals a w hu' inv.s hed (fun d hx=>by
     split
     ·rename_i k hk
      unfold idxOf at hk
      have hkm:k<m:=List.mem_range.1 (List.mem_of_find?_eq_some hk)
      have hkd:dstOf ops k=some d:=by simpa using List.find?_some hk
      have hw:=g3 d hx k hkm hkd
      unfold waits at hw
      rw[Array.any_eq_true'] at hw
      obtain⟨e,he,hb⟩:=hw
      simp only[Bool.and_eq_true,beq_iff_eq] at hb
      have hlk:=hed e he hb.1
      rw[hb.2] at hlk
      have:a.tmps.getD d undef=vals k:=by
       rw[inv.act]
       refine puts_at hkd hlk (List.range m) a0 List.nodup_range (List.mem_range.2 hkm) (hin k d hkm hkd) (fun j hj hne hjd=>?_)
       have hj':j<m:=List.mem_range.1 hj
       have hoj:∃oj,ops[j]? = some oj:=⟨ops[j]'(by omega),Array.getElem?_eq_getElem _⟩
       obtain⟨oj,hoj⟩:=hoj
       exact(hopx j oj hj' hoj).2.2.2 k hkm (fun e=>hne e.symm) d hjd hkd
      exact⟨hlk,this⟩
     ·rename_i hk
      unfold idxOf at hk
      have hno:∀k∈List.range m,dstOf ops k≠some d:=fun k hk'=>by
       have:=List.find?_eq_none.1 hk k hk'
       simpa using this
      rw[inv.act]
      exact puts_none _ _ hno)
    have hGe:(fun k=>(listed.setIfInBounds i true).getD k false)=(fun k=>if k=i then true else listed.getD k false):=funext fun k=>getD_set _ _ _ _ his
    have hK:∀(v:Value) (w':World),S (fun k=>if k=i then true else listed.getD k false) (fun k=>if k=i then v else vals k) w'→wpAny P .any ops Q (c+(ops.size-m)) (listed.setIfInBounds i true) (a.put o.dst v) w':=by
     intro v w' hG
     refine ih (fun k=>if k=i then v else vals k) _ _ _ ⟨by simp[inv.size],fun j hj hjn=>?_,?_,by rw[hGe];exact hG,fun k ok hok hlk e he hbe=>?_⟩ ?_
     ·rw[getD_set _ _ _ _ his,if_neg (by omega)]
      exact inv.tail j hj hjn
     ·have hdst:o.dst=dstOf ops i:=by unfold dstOf;rw[ho];rfl
      rw[hdst,inv.act,←puts_ins (List.range m) a0 List.nodup_range (List.mem_range.2 him) hu' (fun k hk hne d h1=>g4 k (List.mem_range.1 hk) hne d h1)]
      refine puts_congr _ _ (fun k hk=>⟨?_,rfl⟩)
      rw[getD_set _ _ _ _ his]
      by_cases e:k=i
      ·simp[e]
      ·simp[e]
     ·have hlo:listed.getD e.on false=true:=by
       by_cases ek:k=i
       ·subst ek
        rw[ho] at hok
        injection hok with hok
        subst hok
        exact hed e he hbe
       ·rw[getD_set _ _ _ _ his,if_neg ek] at hlk
        exact inv.down k ok hok hlk e he hbe
      rw[getD_set _ _ _ _ his]
      split
      ·rfl
      ·exact hlo
     ·have:=left_set (m:=m) him his hu'
      omega
    have hval:∀k d,k<m→dstOf ops k=some d→waits o k=true→listed.getD k false=true∧a.tmps.getD d undef=vals k:=by
     intro k d hkm hkd hw
     unfold waits at hw
     rw[Array.any_eq_true'] at hw
     obtain⟨e,he,hb⟩:=hw
     simp only[Bool.and_eq_true,beq_iff_eq] at hb
     have hlk:=hed e he hb.1
     rw[hb.2] at hlk
     refine⟨hlk,?_⟩
     rw[inv.act]
     refine puts_at hkd hlk (List.range m) a0 List.nodup_range (List.mem_range.2 hkm) (hin k d hkm hkd) (fun j hj hne hjd=>?_)
     have hj':j<m:=List.mem_range.1 hj
     have hoj:∃oj,ops[j]? = some oj:=⟨ops[j]'(by omega),Array.getElem?_eq_getElem _⟩
     obtain⟨oj,hoj⟩:=hoj
     exact(hopx j oj hj' hoj).2.2.2 k hkm (fun e=>hne e.symm) d hjd hkd
    have hwv:Region.wanted o (yielded ops a.tmps)=wantV o vals:=by
     unfold Region.wanted wantV
     cases hg:o.guard with
     | none=>rfl
     | some p=>
       obtain⟨j,want⟩:=p
       obtain⟨q1,q2,d,q3⟩:=g1 j want hg
       have hv:=(hval j d q2 q3 q1).2
       have hsz:d<a.tmps.size:=by rw[inv.act,puts_sz];exact hin j d q2 q3
       have hv2:a.tmps[d]? = some (vals j):=by
        rw[Array.getD_eq_getD_getElem?] at hv
        rw[Array.getElem?_eq_getElem hsz] at hv ⊢
        simpa using hv
       have:yielded ops a.tmps j=match vals j with|.bool b=>some b|_=>none:=by
        unfold yielded
        unfold dstOf at q3
        rw[q3,Option.bind_some,hv2]
        generalize vals j=vj
        cases vj<;>rfl
       simp only[this]
       generalize vals j=vj
       cases vj<;>try rfl
    unfold wpOp
    rw[ho]
    simp only[hwv]
    cases hW:wantV o vals with
    | false=>
      simp only[Bool.false_eq_true,if_false]
      exact hK undef w (hstep'.2 hW)
    | true=>
      have hstep'':=hstep'.1 hW
      simp only[if_true]
      left
      unfold Oper.wp
      generalize (execOp a.eval o).run P w=r at hstep''
      cases r with
      | ok nx w'=>
        cases nx<;>simp only[StepOk] at hstep''<;>simp only[Oper.upon]
        ·exact hK _ _ hstep''
        ·exact hK _ _ hstep''
        ·exact hstep''.mono fun e w'' ⟨v,he,hR⟩=>by subst he;exact hK v w'' hR
      | halt x w'=>simp only[StepOk] at hstep''
theorem region{id:Nat}{w:World}(m:Nat)(S:(Nat→Bool)→(Nat→Value)→World→Prop)(hm:P.follows .mixedOrders=true)(hH:headG ops m=true)(hin:∀k d,k<m→dstOf ops k=some d→d<a0.tmps.size)(hG:S (fun _=>false) (fun _=>undef) w.drew)
  (hstep:∀i o,i<m→ops[i]? = some o→∀(L:Nat→Bool) (vals:Nat→Value) (a:Act) (w:World),L i=false→S L vals w→(∀e∈o.after,Region.binds .any e=true→L e.on=true)→(∀d,Operand.tmp d∈o.op.operands→match idxOf ops m d with|some k=>L k=true∧a.tmps.getD d undef=vals k|none=>a.tmps.getD d undef=a0.tmps.getD d undef) →
    (wantV o vals=true→StepOk P (fun v w'=>S (fun k=>if k=i then true else L k) (fun k=>if k=i then v else vals k) w') ((execOp a.eval o).run P w))∧(wantV o vals=false→S (fun k=>if k=i then true else L k) (fun k=>if k=i then undef else vals k) w))
  (hfin:∀(L:Nat→Bool) (vals:Nat→Value) (w:World),(∀k,k<m→L k=true)→S L vals w→wpList P ops Q (ops.toList.drop m) (puts ops vals (fun _=>true) (List.range m) a0) w) :
  (Code.region id ops true).wp P Q a0 w:=by
 refine wp_region_any hm ?_
 have hmn:m≤ops.size:=by
  simp only[headG,Bool.and_eq_true,decide_eq_true_eq] at hH
  exact hH.1.1.1
 have hz:∀k b,k<ops.size→(Array.replicate ops.size false).getD k b=false:=fun k b hk=>by
  rw[Array.getD_eq_getD_getElem?,Array.getElem?_replicate,if_pos hk];rfl
 have hl:left m (Array.replicate ops.size false)=m:=by
  unfold left
  rw[List.filter_eq_self.2 (fun k hk=>by rw[hz k false (by have:=List.mem_range.1 hk;omega)];rfl),List.length_range]
 have hGz:S (fun _=>false) (fun _=>undef) w.drew→S (fun k=>(Array.replicate ops.size false).getD k false) (fun _=>undef) w.drew:=fun h=>by
  have e:(fun k=>(Array.replicate ops.size false).getD k false)=(fun _=>false):=funext fun k=>by
   rw[Array.getD_eq_getD_getElem?,Array.getElem?_replicate]
   split<;>rfl
  rw[e];exact h
 have:=main (P:=P) (Q:=Q) (a0:=a0) (S:=S) hH hin hstep hfin m (fun _=>undef) (Array.replicate ops.size false) a0 w.drew ⟨by simp,fun i _ hi=>hz i true hi,?_,hGz hG,fun k o ho h=>?_⟩ hl
 ·rw[show m+(ops.size-m)=ops.size by omega] at this
  exact this
 ·have:∀(ks:List Nat) (a:Act),(∀k∈ks,k<ops.size)→puts ops (fun _=>undef) (fun k=>(Array.replicate ops.size false).getD k false) ks a=a:=by
   intro ks
   induction ks with
   | nil=>intro a _;rfl
   | cons k ks ih=>
     intro a h
     unfold puts
     rw[hz k false (h k (by simp))]
     exact ih a (fun j hj=>h j (by simp[hj]))
  exact(this _ _ (fun k hk=>by have:=List.mem_range.1 hk;omega)).symm
 ·rw[hz k false (Array.getElem?_eq_some_iff.1 ho).1] at h;cases h
end
end Reg9g
namespace Sy
open Go.RowKit
def maskE(acc:List Nat):List Edge→Nat
 | []=>0
 | e::r=>(if Region.binds .any e then 2^e.on ||| acc.getD e.on 0 else 0) ||| maskE acc r
def masks:List Oper→List Nat→List Nat
 | [],acc=>acc
 | o::r,acc=>masks r (acc++[maskE acc o.after.toList])
def Down(ops:Array Oper)(L:Nat→Bool):Prop:=∀(k:Nat) (o:Oper),ops[k]? = some o→L k=true→∀e∈o.after,Region.binds .any e=true→L e.on=true
theorem maskE_ok{L:Nat→Bool}{acc:List Nat}(ha:∀j i,(acc.getD j 0).testBit i=true→L j=true→L i=true):∀{es:List Edge},(∀e∈es,Region.binds .any e=true→L e.on=true)→∀i,(maskE acc es).testBit i=true→L i=true
 | [],_,i,h=>by simp[maskE] at h
 | e::r,he,i,h=>by
   simp only[maskE,Nat.testBit_or,Bool.or_eq_true] at h
   rcases h with h|h
   ·split at h
    ·rename_i hb
     have hl:=he e (by simp) hb
     simp only[Nat.testBit_or,Bool.or_eq_true] at h
     rcases h with h|h
     ·rw[Nat.testBit_two_pow] at h
      have:=of_decide_eq_true h
      rw[←this];exact hl
     ·exact ha _ _ h hl
    ·simp at h
   ·exact maskE_ok ha (fun e' he'=>he e' (by simp[he'])) i h
theorem masks_ok{ops:Array Oper}{L:Nat→Bool}(hd:Down ops L):∀(l:List Oper) (acc:List Nat),(∀j,l[j]? = ops[acc.length+j]?)→(∀j i,(acc.getD j 0).testBit i=true→L j=true→L i=true) →
  ∀j i,((masks l acc).getD j 0).testBit i=true→L j=true→L i=true
 | [],acc,_,ha=>ha
 | o::r,acc,hl,ha=>by
   unfold masks
   refine masks_ok hd r _ (fun j=>by have:=hl (j+1);simpa[Nat.add_assoc,Nat.add_comm 1 j] using this) ?_
   intro j i h hj
   rw[List.getD_eq_getElem?_getD] at h
   by_cases hlt:j<acc.length
   ·rw[List.getElem?_append_left hlt,←List.getD_eq_getElem?_getD] at h
    exact ha j i h hj
   ·by_cases heq:j=acc.length
    ·subst heq
     rw[List.getElem?_append_right (Nat.le_refl _),Nat.sub_self] at h
     have ho:=hl 0
     simp only[List.getElem?_cons_zero,Nat.add_zero] at ho
     exact maskE_ok (es:=o.after.toList) ha (fun e he hb=>hd _ o ho.symm hj e (Array.mem_toList_iff.1 he) hb) i (by simpa using h)
    ·rw[List.getElem?_eq_none (by rw[List.length_append,List.length_singleton];omega)] at h
     simp at h
def bit(ms:List Nat)(i k:Nat):Bool:=(ms.getD i 0).testBit k
theorem uz{ops:Array Oper}{L:Nat→Bool}(hd:Down ops L)(i k:Nat)(h:bit (masks ops.toList []) i k=true)(hi:L i=true):L k=true:=
 masks_ok hd ops.toList [] (fun j=>by simp) (fun j i h=>by simp at h) i k h hi
theorem vz{ops:Array Oper}{L:Nat→Bool}(hd:Down ops L){i:Nat}{o:Oper}(ho:ops[i]? = some o)(he:∀e∈o.after,Region.binds .any e=true→L e.on=true)(k:Nat)(h:bit (masks ops.toList []) i k=true)(hself:i≠k):L k=true:=by
 have hd':Down ops (fun x=>if x=i then true else L x):=by
  intro k' o' ho' hk' e' he' hb'
  simp only
  by_cases hk:k'=i
  ·subst hk
   rw[ho] at ho'
   cases ho'
   split
   ·rfl
   ·exact he e' he' hb'
  ·simp only[if_neg hk] at hk'
   split
   ·rfl
   ·exact hd k' o' ho' hk' e' he' hb'
 have:=uz hd' i k h (by simp)
 simpa[Ne.symm hself] using this
structure Pt where
 j:Nat
 n:Nat
 off:Nat
 vs:List SV
def covers(n idx:Nat)(p:Pt):Bool:=decide (p.n=n∧p.off≤idx∧idx<p.off+p.vs.length)
def ptOf(j:Nat)(r:Res):List Pt:=match r.ef with
 | .put n off vs=>[⟨j,n,off,vs⟩]
 | _=>[]
structure Plan where
 S0:St
 rs:List (Nat×Res)
def Plan.v(p:Plan)(k:Nat):Nat:=(p.rs.getD k (0,⟨mk0 (.tup []),.no,true⟩)).1
def Plan.r(p:Plan)(k:Nat):Res:=(p.rs.getD k (0,⟨mk0 (.tup []),.no,true⟩)).2
def Plan.pts(p:Plan):List Pt:=(List.range p.rs.length).flatMap fun k=>ptOf k (p.r k)
def cellL(pts:List Pt)(L:Nat→Option Bool)(n idx:Nat)(c:Option SV):Option SV:=match pts.find? (covers n idx) with
 | none=>c
 | some p=>match L p.j with
   | some true=>p.vs[idx-p.off]?
   | some false=>c
   | none=>none
def yg(pts:List Pt)(L:Nat→Option Bool)(n:Nat):Nat→List (Option SV)→List (Option SV)
 | _,[]=>[]
 | i,c::r=>cellL pts L n i c::yg pts L n (i+1) r
theorem xm(pts:List Pt)(L:Nat→Option Bool)(n:Nat):∀(l:List (Option SV)) (i:Nat),(yg pts L n i l).length=l.length
 | [],_=>rfl
 | c::r,i=>by simp[yg,xm pts L n r]
theorem cellsL_get(pts:List Pt)(L:Nat→Option Bool)(n:Nat):∀(l:List (Option SV)) (i j:Nat),(yg pts L n i l)[j]? = (l[j]?).map (cellL pts L n (i+j))
 | [],i,j=>by simp[yg]
 | c::r,i,0=>by simp[yg]
 | c::r,i,j+1=>by
   simp only[yg,List.getElem?_cons_succ]
   rw[cellsL_get pts L n r (i+1) j,show i+1+j=i+(j+1) by omega]
def ut(p:Plan)(k:Nat):List Box:=match(p.r k).ef with
 | .box t cs=>[⟨p.v k,t,cs.map some⟩]
 | _=>[]
def selT{α:Type}(p:Plan)(L:Nat→Bool)(f:Nat→List α):List α:=(List.range p.rs.length).flatMap fun k=>if L k then f k else []
def Plan.st(p:Plan)(nv:Nat)(env:List (Nat×XV))(L:Nat→Bool)(L3:Nat→Option Bool):St:=
 { nv:=nv,env:=env,ty:=p.S0.ty++selT p L (fun k=>number (p.v k) (p.r k).out.tys),fs:=p.S0.fs++selT p L (fun k=>(p.r k).out.fs),
   bx:=(p.S0.bx++selT p L (ut p)).map fun b=>{ b with cs:=yg p.pts L3 b.n 0 b.cs } }
theorem xy{α:Type}{p:Plan}{L:Nat→Bool}{f:Nat→List α}{x:α}:x∈selT p L f↔∃k,k<p.rs.length∧L k=true∧x∈f k:=by
 unfold selT
 simp only[List.mem_flatMap,List.mem_range]
 constructor
 ·rintro⟨k,h1,h2⟩
  split at h2
  ·rename_i hL;exact⟨k,h1,hL,h2⟩
  ·cases h2
 ·rintro⟨k,h1,h2,h3⟩
  exact⟨k,h1,by rw[if_pos h2];exact h3⟩
section
variable{P:Program}{cx:Cx}{W0:World}{base:Nat}{ρ:Val}{T T':Nat→Prop}{w w':World}
theorem plan_sub{p:Plan}{nv nv':Nat}{env env':List (Nat×XV)}{L M:Nat→Bool}{L3 M3:Nat→Option Bool}(h:SatW cx.tb W0 (p.st nv env L L3) base ρ T w)(hLM:∀k,M k=true→L k=true)(h3:∀q∈p.pts,∀b,M3 q.j=some b→L3 q.j=some b) :
  SatW cx.tb W0 (p.st nv' env' M M3) base ρ T w:=by
 obtain⟨g1,g2,g3,g4,g5,g6,g7⟩:=h
 have hbx:∀b∈(p.st nv' env' M M3).bx,∃b0∈p.S0.bx++selT p L (ut p),b={ b0 with cs:=yg p.pts M3 b0.n 0 b0.cs }:=by
  intro b hb
  obtain⟨b0,hb0,rfl⟩:=List.mem_map.1 hb
  refine⟨b0,?_,rfl⟩
  rcases List.mem_append.1 hb0 with h|h
  ·exact List.mem_append.2 (.inl h)
  ·obtain⟨k,q1,q2,q3⟩:=xy.1 h
   exact List.mem_append.2 (.inr (xy.2 ⟨k,q1,hLM k q2,q3⟩))
 refine⟨g1,g2,g3,fun n ct hm=>g4 n ct ?_,fun f hf=>g5 f ?_,fun b hb=>?_,fun b hb c hc=>?_⟩
 ·rcases List.mem_append.1 hm with h|h
  ·exact List.mem_append.2 (.inl h)
  ·obtain⟨k,q1,q2,q3⟩:=xy.1 h
   exact List.mem_append.2 (.inr (xy.2 ⟨k,q1,hLM k q2,q3⟩))
 ·rcases List.mem_append.1 hf with h|h
  ·exact List.mem_append.2 (.inl h)
  ·obtain⟨k,q1,q2,q3⟩:=xy.1 h
   exact List.mem_append.2 (.inr (xy.2 ⟨k,q1,hLM k q2,q3⟩))
 ·obtain⟨b0,hb0,rfl⟩:=hbx b hb
  obtain⟨g,cs,c1,c2,c3,c4,c5,c6⟩:=g6 { b0 with cs:=yg p.pts L3 b0.n 0 b0.cs } (List.mem_map.2 ⟨b0,hb0,rfl⟩)
  refine⟨g,cs,c1,c2,c3,c4,by rw[c5];simp[xm],fun i s hs=>c6 i s ?_⟩
  simp only[cellsL_get,Nat.zero_add] at hs ⊢
  cases hq:b0.cs[i]? with
  | none=>rw[hq] at hs;cases hs
  | some c=>
    rw[hq] at hs
    simp only[Option.map_some,Option.some.injEq] at hs ⊢
    unfold cellL at hs ⊢
    split at hs
    ·exact hs
    ·rename_i q hfind
     have hqm:=List.mem_of_find?_eq_some hfind
     split at hs
     ·rename_i hM;rw[h3 q hqm _ hM];exact hs
     ·rename_i hM;rw[h3 q hqm _ hM];exact hs
     ·cases hs
 ·obtain⟨b0,hb0,rfl⟩:=hbx b hb
  obtain⟨c0,hc0,rfl⟩:=hbx c hc
  exact g7 { b0 with cs:=yg p.pts L3 b0.n 0 b0.cs } (List.mem_map.2 ⟨b0,hb0,rfl⟩) { c0 with cs:=yg p.pts L3 c0.n 0 c0.cs } (List.mem_map.2 ⟨c0,hc0,rfl⟩)
end
open Go.RowKit
def eqLins:List Lin→List Lin→Bool
 | [],[]=>true
 | a::r,b::s=>eqL a b && eqLins r s
 | _,_=>false
theorem eqLins_ok:∀{a b:List Lin},eqLins a b=true→a=b
 | [],[],_=>rfl
 | a::r,b::s,h=>by
   simp only[eqLins,Bool.and_eq_true] at h
   rw[eqL_ok h.1,eqLins_ok h.2]
 | [],_::_,h=>by cases h
 | _::_,[],h=>by cases h
def eqEf:Ef→Ef→Bool
 | .no,.no=>true
 | .box t cs,.box t' cs'=>decide (t=t') && eqLs cs cs'
 | .put n o vs,.put n' o' vs'=>decide (n=n'∧o=o') && eqLs vs vs'
 | _,_=>false
theorem eqEf_ok{a b:Ef}(h:eqEf a b=true):a=b:=by
 unfold eqEf at h
 split at h
 ·rfl
 ·simp only[Bool.and_eq_true,decide_eq_true_eq] at h;rw[h.1,eqLs_ok h.2]
 ·simp only[Bool.and_eq_true,decide_eq_true_eq] at h;rw[h.1.1,h.1.2,eqLs_ok h.2]
 ·cases h
def eqR(a b:Res):Bool:=eqX a.out.v b.out.v && decide (a.out.tys=b.out.tys) && eqLins a.out.fs b.out.fs && eqEf a.ef b.ef && decide (a.pu=b.pu)
theorem eqR_ok{a b:Res}(h:eqR a b=true):a=b:=by
 simp only[eqR,Bool.and_eq_true,decide_eq_true_eq] at h
 obtain⟨⟨⟨⟨h1,h2⟩,h3⟩,h4⟩,h5⟩:=h
 obtain⟨⟨v,tys,fs⟩,ef,pu⟩:=a
 obtain⟨⟨v',tys',fs'⟩,ef',pu'⟩:=b
 simp only at h1 h2 h3 h4 h5
 rw[eqX_ok h1,h2,eqLins_ok h3,eqEf_ok h4,h5]
def liOf(ms:List Nat)(i k:Nat):Bool:=bit ms i k && decide (k≠i)
def l3Of(ms:List Nat)(i j:Nat):Option Bool:=if liOf ms i j then some true else if bit ms j i then some false else none
def gdOf(ops:Array Oper)(k:Nat):Option (Nat×Bool):=(ops[k]?).bind (·.guard)
def liB(ops:Array Oper)(ms:List Nat)(i:Nat)(g:Option (Nat×Bool))(k:Nat):Bool:=liOf ms i k && match gdOf ops k with
 | none=>true
 | some g'=>decide (g=some g')
def liG(ops:Array Oper)(ms:List Nat)(i k:Nat):Bool:=liB ops ms i (gdOf ops i) k
def envI(ops:Array Oper)(p:Plan)(Li:Nat→Bool)(xs:List Operand):List (Nat×XV):=xs.filterMap fun x=>match x with
 | .tmp d=>match Reg4.idxOf ops ops.size d with
   | some k=>if Li k then some (d,(p.r k).out.v) else none
   | none=>(look p.S0.env d).map fun x=>(d,x)
 | _=>none
def selS(S:St)(x:XV):Option BE:=match x with
 | .v (.one s)=>S.be s
 | _=>none
def addG(ops:Array Oper)(ms:List Nat)(p:Plan)(i:Nat)(S:St):St:=match gdOf ops i with
 | none=>S
 | some (j,want)=>if liG ops ms i j then match selS S (p.r j).out.v with
    | some b=>{ S with fs:=S.fs++facts S.rng S.fs want b }
    | none=>S
   else S
def Plan.sti0(ops:Array Oper)(ms:List Nat)(p:Plan)(nv i:Nat)(o:Oper):St:=p.st nv (envI ops p (liG ops ms i) o.op.operands.toList) (liG ops ms i) (l3Of ms i)
def Plan.sti(ops:Array Oper)(ms:List Nat)(p:Plan)(nv i:Nat)(o:Oper):St:=addG ops ms p i (p.sti0 ops ms nv i o)
def pickG(ops:Array Oper)(ms:List Nat)(p:Plan)(nv i:Nat)(o:Oper):Option Res:=match o.op with
 | .pick (.tmp c) (.tmp x) (.const (.bool false))=>match Reg4.idxOf ops ops.size c,Reg4.idxOf ops ops.size x with
   | some j,some k=>if liOf ms i j && liOf ms i k && decide (gdOf ops j=none∧gdOf ops k=some (j,true)) then
      match selS (p.st nv [] (liB ops ms i none) (l3Of ms i)) (p.r j).out.v,selS (p.st nv [] (liB ops ms i (some (j,true))) (l3Of ms i)) (p.r k).out.v with
      | some b,some q=>some ⟨mkS (.be (.and b q)),.no,true⟩
      | _,_=>none
     else none
   | _,_=>none
 | .pick (.tmp c) (.const (.bool true)) (.tmp x)=>match Reg4.idxOf ops ops.size c,Reg4.idxOf ops ops.size x with
   | some j,some k=>if liOf ms i j && liOf ms i k && decide (gdOf ops j=none∧gdOf ops k=some (j,false)) then
      match selS (p.st nv [] (liB ops ms i none) (l3Of ms i)) (p.r j).out.v,selS (p.st nv [] (liB ops ms i (some (j,false))) (l3Of ms i)) (p.r k).out.v with
      | some b,some q=>some ⟨mkS (.be (.or b q)),.no,true⟩
      | _,_=>none
     else none
   | _,_=>none
 | _=>none
def stepP(step:x9)(ops:Array Oper)(ms:List Nat)(p:Plan)(nv i:Nat)(o:Oper):Option Res:=match pickG ops ms p nv i o with
 | some r=>some r
 | none=>step (Plan.sti ops ms p nv i o) o
def plan1(step:x9)(ops:Array Oper)(ms:List Nat)(S:St):List Oper→Nat→Nat→List (Nat×Res)→Option (List (Nat×Res))
 | [],_,_,rs=>some rs
 | o::r,i,nv,rs=>match stepP step ops ms ⟨S,rs⟩ nv i o with
   | some res=>plan1 step ops ms S r (i+1) (nv+res.out.tys.length) (rs++[(nv,res)])
   | none=>none
def opOk(step:x9)(N:Nat)(PU:Bool)(ops:Array Oper)(ms:List Nat)(p:Plan)(nvE i:Nat):Bool:=match ops[i]? with
 | some o=>(match stepP step ops ms p (p.v i) i o with|some r=>eqR r (p.r i)|none=>false) && fits N o.dst && (!PU || (p.r i).pu) &&
    decide (p.S0.nv≤p.v i∧p.v i+(p.r i).out.tys.length≤nvE) && (List.range i).all (fun j=>decide (p.v j+(p.r j).out.tys.length≤p.v i)) &&
    (match(p.r i).ef with
      | .no=>true
      | .box _ _=>decide (gdOf ops i=none) && decide ((p.r i).out.tys.length=1) && p.pts.all (fun q=>decide (q.n≠p.v i) || bit ms q.j i)
      | .put n off vs=>decide (gdOf ops i=none) && p.pts.all (fun q=>decide (q.j=i) || decide (q.n≠n) || decide (q.off+q.vs.length≤off) || decide (off+vs.length≤q.off)) &&
         (p.S0.bx++selT p (fun _=>true) (ut p)).all (fun b=>decide (b.n=n→off+vs.length≤b.cs.length)) && (p.sti0 ops ms (p.v i) i o).bx.any (fun b=>decide (b.n=n)))
 | none=>false
def envE(ops:Array Oper)(p:Plan):List (Nat×XV):=((List.range ops.size).filterMap fun k=>if gdOf ops k=none then(Reg4.dstOf ops k).map fun d=>(d,(p.r k).out.v) else none)++p.S0.env.filter fun e=>(Reg4.idxOf ops ops.size e.1).isNone
def planOk(step:x9)(N:Nat)(PU:Bool)(ops:Array Oper)(ms:List Nat)(p:Plan)(nvE:Nat):Bool:=decide (p.rs.length=ops.size) && decide (p.S0.nv≤nvE) && (List.range ops.size).all (opOk step N PU ops ms p nvE)
def endSt(ops:Array Oper)(p:Plan)(nvE:Nat):St:=p.st nvE (envE ops p) (fun k=>decide (k<ops.size∧gdOf ops k=none)) (fun _=>some true)
def anyDraw(step:x9)(N:Nat)(PU:Bool)(ops:Array Oper)(S:St):Option (List St):=if Reg9g.headG ops ops.size then match plan1 step ops (masks ops.toList []) S ops.toList 0 S.nv [] with
  | some rs=>if planOk step N PU ops (masks ops.toList []) ⟨S,rs⟩ (rs.foldl (fun n x=>n+x.2.out.tys.length) S.nv) then some [endSt ops ⟨S,rs⟩ (rs.foldl (fun n x=>n+x.2.out.tys.length) S.nv)] else none
  | none=>none
 else none
section
variable{P:Program}{cx:Cx}{W0:World}{base:Nat}{ρ:Val}{T T':Nat→Prop}{w w':World}
theorem satW_sub{tb:Tab}{S S':St}(h:SatW tb W0 S base ρ T w)(h1:∀x∈S'.ty,x∈S.ty)(h2:∀f∈S'.fs,f∈S.fs)
  (h3:∀b∈S'.bx,∃c∈S.bx,c.n=b.n∧c.t=b.t∧c.cs.length=b.cs.length∧∀(i:Nat) (s:SV),b.cs[i]? = some (some s)→c.cs[i]? = some (some s)):SatW tb W0 S' base ρ T w:=by
 obtain⟨g1,g2,g3,g4,g5,g6,g7⟩:=h
 refine⟨g1,g2,g3,fun n ct hm=>g4 n ct (h1 _ hm),fun f hf=>g5 f (h2 f hf),fun b hb=>?_,fun b hb c hc=>?_⟩
 ·obtain⟨c,q1,q2,q3,q4,q5⟩:=h3 b hb
  obtain⟨g,cs,c1,c2,c3,c4,c5,c6⟩:=g6 c q1
  exact⟨g,cs,by rw[←q2];exact c1,c2,c3,by rw[←q3];exact c4,by rw[c5,q4],fun i s hs=>c6 i s (q5 i s hs)⟩
 ·obtain⟨b',b1,b2,-⟩:=h3 b hb
  obtain⟨c',c1,c2,-⟩:=h3 c hc
  rw[←b2,←c2]
  exact g7 b' b1 c' c1
theorem ptOf_j{j:Nat}{r:Res}{q:Pt}(h:q∈ptOf j r):q.j=j∧r.ef=.put q.n q.off q.vs:=by
 unfold ptOf at h
 split at h
 ·rename_i n off vs he
  simp only[List.mem_singleton] at h
  subst h
  exact⟨rfl,he⟩
 ·cases h
theorem pts_mem{p:Plan}{q:Pt}(h:q∈p.pts):q.j<p.rs.length∧(p.r q.j).ef=.put q.n q.off q.vs:=by
 unfold Plan.pts at h
 simp only[List.mem_flatMap,List.mem_range] at h
 obtain⟨k,h1,h2⟩:=h
 obtain⟨h3,h4⟩:=ptOf_j h2
 rw[h3]
 exact⟨h1,h4⟩
theorem cellL_congr{pts:List Pt}{L L':Nat→Option Bool}{n idx:Nat}{c:Option SV}(h:∀q∈pts,covers n idx q=true→L q.j=L' q.j):cellL pts L n idx c=cellL pts L' n idx c:=by
 unfold cellL
 cases hf:pts.find? (covers n idx) with
 | none=>rfl
 | some q=>simp only[h q (List.mem_of_find?_eq_some hf) (List.find?_some hf)]
def L'(L:Nat→Bool)(i:Nat):Nat→Bool:=fun k=>if k=i then true else L k
theorem newBox_n{p:Plan}{k:Nat}{b:Box}(h:b∈ut p k):∃t cs,(p.r k).ef=.box t cs∧b=⟨p.v k,t,cs.map some⟩:=by
 unfold ut at h
 split at h
 ·rename_i t cs he
  simp only[List.mem_singleton] at h
  exact⟨t,cs,he,h⟩
 ·cases h
theorem plan_next{p:Plan}{L:Nat→Bool}{i:Nat}(hi:L i=false)
  (hbox:∀t cs,(p.r i).ef=.box t cs→∀q∈p.pts,q.n=p.v i→L q.j=false)
  (hput:∀n off vs,(p.r i).ef=.put n off vs→(∀q∈p.pts,q.j=i∨q.n≠n∨q.off+q.vs.length≤off∨off+vs.length≤q.off)∧i<p.rs.length∧∀b∈p.S0.bx++selT p L (ut p),b.n=n→off+vs.length≤b.cs.length)
  (h:SatW cx.tb W0 (upd (p.st (p.v i) [] L (fun j=>some (L j))) none (p.r i)) base ρ T w):SatW cx.tb W0 (p.st 0 [] (L' L i) (fun j=>some (L' L i j))) base ρ T w:=by
 have hsel:∀{α:Type} {f:Nat→List α} {x:α},x∈selT p (L' L i) f→x∈f i∨x∈selT p L f:=by
  intro α f x hx
  obtain⟨k,h1,h2,h3⟩:=xy.1 hx
  by_cases hk:k=i
  ·subst hk;exact .inl h3
  ·simp only[L',if_neg hk] at h2
   exact .inr (xy.2 ⟨k,h1,h2,h3⟩)
 refine satW_sub h (fun x hx=>?_) (fun f hf=>?_) (fun b hb=>?_)
 ·simp only[upd,Plan.st] at hx ⊢
  rcases List.mem_append.1 hx with hx|hx
  ·simp[hx]
  ·rcases hsel hx with hx|hx<;>simp[hx]
 ·simp only[upd,Plan.st] at hf ⊢
  rcases List.mem_append.1 hf with hx|hx
  ·simp[hx]
  ·rcases hsel hx with hx|hx<;>simp[hx]
 ·simp only[Plan.st] at hb
  obtain⟨b0,hb0,rfl⟩:=List.mem_map.1 hb
  have hb1:b0∈ut p i∨b0∈p.S0.bx++selT p L (ut p):=by
   rcases List.mem_append.1 hb0 with h|h
   ·exact .inr (List.mem_append.2 (.inl h))
   ·rcases hsel h with h|h
    ·exact .inl h
    ·exact .inr (List.mem_append.2 (.inr h))
  have hget:∀(M:Nat→Option Bool) (n:Nat) (l:List (Option SV)) (idx:Nat),(yg p.pts M n 0 l)[idx]? = (l[idx]?).map (cellL p.pts M n idx):=fun M n l idx=>by rw[cellsL_get,Nat.zero_add]
  rcases hb1 with hn|ho
  ·obtain⟨t,cs,he,rfl⟩:=newBox_n hn
   refine⟨⟨p.v i,t,cs.map some⟩,?_,rfl,rfl,by simp[xm],fun idx s hs=>?_⟩
   ·simp only[upd,he,bxOf]
    exact List.mem_cons_self
   ·simp only[hget] at hs
    cases hq:(cs.map some)[idx]? with
    | none=>rw[hq] at hs;cases hs
    | some c=>
      rw[hq] at hs
      simp only[Option.map_some,Option.some.injEq] at hs
      rw[←hs]
      congr 1
      symm
      unfold cellL
      cases hf:p.pts.find? (covers (p.v i) idx) with
      | none=>rfl
      | some q=>
        have hqm:=List.mem_of_find?_eq_some hf
        have hqc:=List.find?_some hf
        have hqn:=(of_decide_eq_true hqc).1
        have h1:=hbox t cs he q hqm hqn
        have h2:q.j≠i:=fun e=>by
         have:=(pts_mem hqm).2
         rw[e,he] at this
         cases this
        simp only[L',if_neg h2,h1]
  ·have hmem:{ b0 with cs:=yg p.pts (fun j=>some (L j)) b0.n 0 b0.cs }∈(p.st (p.v i) [] L (fun j=>some (L j))).bx:=List.mem_map.2 ⟨b0,ho,rfl⟩
   have hsame:∀idx,(∀q∈p.pts,covers b0.n idx q=true→q.j≠i)→∀s,(yg p.pts (fun j=>some (L' L i j)) b0.n 0 b0.cs)[idx]? = some (some s)→(yg p.pts (fun j=>some (L j)) b0.n 0 b0.cs)[idx]? = some (some s):=by
    intro idx hq s hs
    rw[hget] at hs ⊢
    rw[←hs]
    cases b0.cs[idx]? with
    | none=>rfl
    | some c=>
      simp only[Option.map_some,Option.some.injEq]
      exact cellL_congr (fun q h1 h2=>by simp only[L',if_neg (hq q h1 h2)])
   cases he:(p.r i).ef with
   | no=>
     refine⟨{ b0 with cs:=yg p.pts (fun j=>some (L j)) b0.n 0 b0.cs },?_,rfl,rfl,by simp[xm],fun idx s hs=>hsame idx (fun q h1 h2 e=>?_) s hs⟩
     ·simp only[upd,he,bxOf];exact hmem
     ·have:=(pts_mem h1).2
      rw[e,he] at this;cases this
   | box t cs=>
     refine⟨{ b0 with cs:=yg p.pts (fun j=>some (L j)) b0.n 0 b0.cs },?_,rfl,rfl,by simp[xm],fun idx s hs=>hsame idx (fun q h1 h2 e=>?_) s hs⟩
     ·simp only[upd,he,bxOf];exact List.mem_cons_of_mem _ hmem
     ·have:=(pts_mem h1).2
      rw[e,he] at this;cases this
   | put n off vs=>
     obtain⟨hd,hil,hle⟩:=hput n off vs he
     have hpi:∀q∈p.pts,q.j=i→q.n=n∧q.off=off∧q.vs=vs:=fun q h1 h2=>by
      have:=(pts_mem h1).2
      rw[h2,he] at this
      injection this with e1 e2 e3
      exact⟨e1.symm,e2.symm,e3.symm⟩
     by_cases hn:b0.n=n
     ·have hle':=hle b0 ho hn
      have hcl:off+vs.length≤(yg p.pts (fun j=>some (L j)) b0.n 0 b0.cs).length:=by rw[xm];exact hle'
      refine⟨{ b0 with cs:=spl (yg p.pts (fun j=>some (L j)) b0.n 0 b0.cs) off vs },?_,rfl,rfl,by simp only[spl_len hcl,xm],fun idx s hs=>?_⟩
      ·simp only[upd,he,bxOf]
       exact List.mem_map.2 ⟨_,hmem,by rw[if_pos hn]⟩
      ·rw[show({ b0 with cs:=spl (yg p.pts (fun j=>some (L j)) b0.n 0 b0.cs) off vs }:Box).cs=spl (yg p.pts (fun j=>some (L j)) b0.n 0 b0.cs) off vs from rfl,spl_get hcl]
       by_cases hr:off≤idx∧idx<off+vs.length
       ·rw[if_pos hr]
        have hs':(yg p.pts (fun j=>some (L' L i j)) b0.n 0 b0.cs)[idx]? = some (some s):=hs
        rw[hget] at hs'
        obtain⟨c,hc⟩:∃c,b0.cs[idx]? = some c:=⟨b0.cs[idx]'(by omega),List.getElem?_eq_getElem _⟩
        rw[hc] at hs'
        simp only[Option.map_some,Option.some.injEq] at hs'
        have hex:∃q0,p.pts.find? (covers b0.n idx)=some q0:=by
         cases hf:p.pts.find? (covers b0.n idx) with
         | some q0=>exact⟨q0,rfl⟩
         | none=>
           have:=List.find?_eq_none.1 hf ⟨i,n,off,vs⟩ (by
            unfold Plan.pts
            simp only[List.mem_flatMap,List.mem_range]
            exact⟨i,hil,by simp[ptOf,he]⟩)
           exact absurd (decide_eq_true (by exact⟨hn.symm,hr.1,hr.2⟩)) this
        obtain⟨q0,hf⟩:=hex
        have hqm:=List.mem_of_find?_eq_some hf
        have hqc0:=List.find?_some hf
        have hqc:=of_decide_eq_true hqc0
        have hj:q0.j=i:=by
         rcases hd q0 hqm with h|h|h|h
         ·exact h
         ·exact absurd (hqc.1.trans hn) h
         ·omega
         ·omega
        obtain⟨e1,e2,e3⟩:=hpi q0 hqm hj
        unfold cellL at hs'
        rw[hf] at hs'
        simp only[L',if_pos hj,e2,e3] at hs'
        rw[hs'];rfl
       ·rw[if_neg hr]
        refine hsame idx (fun q h1 h2 e=>?_) s hs
        obtain⟨e1,e2,e3⟩:=hpi q h1 e
        have:=of_decide_eq_true h2
        rw[e2,e3] at this
        exact hr this.2
     ·refine⟨{ b0 with cs:=yg p.pts (fun j=>some (L j)) b0.n 0 b0.cs },?_,rfl,rfl,by simp[xm],fun idx s hs=>hsame idx (fun q h1 h2 e=>?_) s hs⟩
      ·simp only[upd,he,bxOf]
       exact List.mem_map.2 ⟨_,hmem,by rw[if_neg hn]⟩
      ·obtain⟨e1,e2,e3⟩:=hpi q h1 e
       exact hn ((of_decide_eq_true h2).1.symm.trans e1)
end
end Sy
end Go.Proofs.YtmadfhgiaonnlaaGreatDoor
