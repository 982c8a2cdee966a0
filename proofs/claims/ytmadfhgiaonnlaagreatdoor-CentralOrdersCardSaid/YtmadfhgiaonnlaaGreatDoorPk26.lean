import Derived.LoopN
import Derived.Test.YtmadfhgiaonnlaaGreatDoorPk14
import Derived.Test.YtmadfhgiaonnlaaGreatDoorPk25
set_option linter.unusedVariables false
set_option linter.unusedSimpArgs false
namespace Go.Proofs.YtmadfhgiaonnlaaGreatDoor
namespace Ev
open Go.RowKit
open Reg4 (dstOf idxOf waits puts StepOk puts_at puts_none)
open Reg9g (headG wantV opG)
open Sy (Cx TD TdOk CxOk masks bit Down uz vz)
section
variable{P:Program}{cx:Cx}{M:Nat→Prop}{N m:Nat}{σ0 σ:Nat→Nat}{S S':St}{env env':Env}{a a':Act}{w w0 w1 w':World}{o:Oper}{r:y8}{ms:List Nat}{rs:List (XV×St)}{ops:Array Oper}{L:Nat→Bool}{vals:Nat→Value}
theorem head_op(h:headG ops m=true){i:Nat}{o:Oper}(hi:i<m)(ho:ops[i]? = some o):(∀j want,o.guard=some (j,want)→waits o j=true∧j<m∧∃d,dstOf ops j=some d)∧(∀e∈o.after,Region.binds .any e=true→e.on<i) ∧
  (∀d,Operand.tmp d∈o.op.operands→∀k,k<m→dstOf ops k=some d→waits o k=true)∧(∀k,k<m→k≠i→∀d,dstOf ops i=some d→dstOf ops k≠some d):=by
 simp only[headG,Bool.and_eq_true,decide_eq_true_eq,List.all_eq_true,List.mem_range,Bool.or_eq_true] at h
 obtain⟨⟨⟨hmn,hop⟩,htail⟩,hseq⟩:=h
 have h:=hop i hi
 unfold opG at h
 rw[ho] at h
 simp only[Bool.and_eq_true,Array.all_eq_true_iff_forall_mem,decide_eq_true_eq,List.all_eq_true,List.mem_range,Bool.or_eq_true,bne_iff_ne,beq_iff_eq] at h
 obtain⟨⟨⟨h1,h2⟩,h3⟩,h4⟩:=h
 refine⟨fun j want hg=>(by rw[hg] at h1;simp only[Bool.and_eq_true,decide_eq_true_eq,Option.isSome_iff_exists] at h1;exact⟨h1.1.1,h1.1.2,h1.2⟩),fun e he hb=>(h2 e he).resolve_left (by rw[hb];decide),fun d hd k hk hkd=>?_,fun k hk hne d hd hkd=>?_⟩
 ·have:=h3 _ hd
  simp only[List.all_eq_true,List.mem_range,Bool.or_eq_true,bne_iff_ne] at this
  rcases this k hk with h|h
  ·exact absurd hkd h
  ·exact h
 ·rcases h4 k hk with(h|h)|h
  ·exact hne h
  ·rw[h] at hd;cases hd
  ·rw[hd,hkd] at h;exact h rfl
theorem waits_on{k:Nat}(h:waits o k=true):∃e∈o.after,Region.binds .any e=true∧e.on=k:=by
 unfold waits at h
 rw[Array.any_eq_true'] at h
 obtain⟨e,he,hb⟩:=h
 simp only[Bool.and_eq_true,beq_iff_eq] at hb
 exact⟨e,he,hb⟩
theorem dst_at{k:Nat}{o:Oper}(h:ops[k]? = some o):dstOf ops k=o.dst:=by unfold dstOf;rw[h];rfl
theorem list_at{k:Nat}:ops.toList[k]? = ops[k]?:=by simp
theorem idx_some{d k:Nat}(h:idxOf ops m d=some k):k<m∧dstOf ops k=some d:=by
 unfold idxOf at h
 exact⟨List.mem_range.1 (List.mem_of_find?_eq_some h),by simpa using List.find?_some h⟩
theorem idx_none{d:Nat}(h:idxOf ops m d=none):∀k,k<m→dstOf ops k≠some d:=by
 unfold idxOf at h
 intro k hk
 have:=List.find?_eq_none.1 h k (List.mem_range.2 hk)
 simpa using this
theorem lk_at(hH:headG ops m=true)(hsz:m=ops.size)(hlen:rs.length=m){i k d:Nat}(hk:k<i)(hi:i≤m)(hd:dstOf ops k=some d):lk (envP ops.toList rs env i) d=some (RP S rs k).1:=by
 have hkm:k<m:=by omega
 obtain⟨o,ho⟩:∃o,ops[k]? = some o:=⟨ops[k]'(by omega),Array.getElem?_eq_getElem _⟩
 have hp:rs[k]? = some (RP S rs k):=by
  simp only[RP,List.getD_eq_getElem?_getD]
  rw[List.getElem?_eq_getElem (by omega)];rfl
 refine lk_envP_some (o:=o) (p:=RP S rs k) hk (by rw[list_at];exact ho) hp (by rw[←dst_at ho];exact hd) (fun k' o' h1 h2 h3 h4=>?_)
 rw[list_at] at h3
 exact(head_op hH hkm ho).2.2.2 k' (by omega) h2 d hd (by rw[dst_at h3];exact h4)
theorem lk_out{i d:Nat}(hi:i≤m)(h:∀k,k<m→dstOf ops k≠some d):lk (envP ops.toList rs env i) d=lk env d:=
 lk_envP_none (fun k o' hk ho'=>by rw[list_at] at ho';rw[←dst_at ho'];exact h k (by omega))
theorem ctx_of(hcx:CxOk P cx)(hr:ug P r)(hp:passX P cx r ops ops.toList env S=some rs):Ctx0 ops.size S rs∧∀i o,i<ops.size→ops[i]? = some o→atP P cx r ops (envP ops.toList rs env i) (stP S rs i) o (RP S rs i):=by
 obtain⟨h1,h2⟩:=passX_ok hp
 have hlen:rs.length=ops.size:=by rw[h1];simp
 have hat:∀i o,i<ops.size→ops[i]? = some o→atP P cx r ops (envP ops.toList rs env i) (stP S rs i) o (RP S rs i):=fun i o hi ho=>by
  refine h2 i o _ (by rw[list_at];exact ho) ?_
  simp only[RP,List.getD_eq_getElem?_getD]
  rw[List.getElem?_eq_getElem (by omega)];rfl
 refine⟨⟨hlen,fun i hi=>?_⟩,hat⟩
 obtain⟨o,ho⟩:∃o,ops[i]? = some o:=⟨ops[i]'hi,Array.getElem?_eq_getElem _⟩
 rw[vk (by omega)]
 rcases hat i o hi ho with⟨-,h⟩|⟨-,h⟩
 ·exact(opX_ok hcx hr (x:=(RP S rs i).1) (S':=(RP S rs i).2) (by rw[h])).1
 ·rw[h];exact Gos.refl _
theorem ctx_full(c:Ctx0 ops.size S rs)(hck:checkX (masks ops.toList []) S rs 0 S.nx rs=true)(hfw:fwdX 0 (masks ops.toList [])=true)(hlt:∀g B,S.get g=some B→g<S.nx):Ctx (masks ops.toList []) ops.size S rs:=by
 have hrp:∀i,i<ops.size→rs[i]? = some (RP S rs i):=fun i hi=>by
  simp only[RP,List.getD_eq_getElem?_getD]
  rw[List.getElem?_eq_getElem (by rw[c.len];exact hi)];rfl
 have hat:=fun i (hi:i<ops.size)=>checkX_ok hck i (RP S rs i) (hrp i hi)
 have hwrac:∀i g,i<ops.size→WR S rs i g→AC S rs i g:=fun i g hi hw=>(hat i hi).1 g hw
 have hn:∀j,j<ops.size→∀n,(n=if j=0 then S.nx else match rs[j-1]? with|some q=>q.2.nx|none=>0)→n=(stP S rs j).nx:=fun j hj n hn=>by
  cases j with
  | zero=>exact hn
  | succ j=>
    rw[hn,if_neg (by omega),Nat.add_sub_cancel,hrp j (by omega),vk (by rw[c.len];omega)]
 refine⟨c,hlt,hwrac,fun i g hi hg=>by rw[vk (by rw[c.len];exact hi)];exact(hat i hi).2.1 g hg,fun i j hi hj hne hb g hg hgn=>?_,fun i k hb=>by have:=fwdX_ok hfw i k hb;omega,fun i j hi hj hne hb1 hb2 g hac hw=>?_⟩
 ·obtain⟨-,-,n,h1,h2,h3⟩:=hat j hj
  have e:=hn j hj n h1
  subst e
  rw[vk (i:=j) (by rw[c.len];exact hj)] at hgn
  by_cases h0:(RP S rs j).2.wr=0
  ·have:=h2 h0;omega
  ·have:=(pairOk_ok (h3 h0) i _ (hrp i hi) (by omega)).1 (by rw[Nat.zero_add,Nat.zero_add];exact hb)
   have h4:=and_zero this hg
   rw[Nat.zero_add] at *
   have h5:=newM_bit.2 hgn
   rw[h5] at h4;cases h4
 ·obtain⟨-,-,n,h1,h2,h3⟩:=hat j hj
  have h0:¬(RP S rs j).2.wr=0:=fun e=>by
   have:(RP S rs j).2.wr.testBit g=true:=hw
   rw[e,Nat.zero_testBit] at this;cases this
  have:=(pairOk_ok (h3 h0) i _ (hrp i hi) (by omega)).2 (by rw[Nat.zero_add,Nat.zero_add];exact hb1) (by rw[Nat.zero_add,Nat.zero_add];exact hb2)
  have h4:=and_zero this hac
  have h5:(RP S rs j).2.wr.testBit g=true:=hw
  rw[h5] at h4;cases h4
theorem drawX_gos(hcx:CxOk P cx)(hr:ug P r)(h:drawX P cx r N ops env S=some (env',S')):Gos S S':=by
 unfold drawX at h
 split at h
 ·split at h
  ·rename_i rs hp
   split at h
   ·rename_i hck
    cases h
    simp only[Bool.and_eq_true] at hck
    obtain⟨c,hat⟩:=ctx_of hcx hr hp
    have hget:∀g,St.get { stP S rs ops.size with ac:=S.ac ||| orM (fun p=>p.2.ac) rs,wr:=S.wr ||| orM (fun p=>p.2.wr) rs } g=(stP S rs ops.size).get g:=fun g=>rfl
    refine⟨c.nx (show 0≤ops.size by omega) (Nat.le_refl _),fun hl g B hB=>?_,fun g B hg hB=>?_,fun g hg hw=>?_,fun g hg=>?_,fun g hg=>?_,fun hl g B hg hB=>?_⟩
    ·exact(ctx_full c hck.1 hck.2 hl).ltP (Nat.le_refl _) hB
    ·exact c.old (i:=0) (by omega) (Nat.le_refl _) hg hB
    ·refine c.hold (i:=0) (by omega) (Nat.le_refl _) hg (fun k _ hk hw'=>?_)
     have hw2:(S.wr ||| orM (fun p=>p.2.wr) rs).testBit g=false:=hw
     rw[tb_or,Bool.or_eq_false_iff] at hw2
     have:(orM (fun p=>p.2.wr) rs).testBit g=true:=orM_bit.2 ⟨k,RP S rs k,by
      simp only[RP,List.getD_eq_getElem?_getD]
      rw[List.getElem?_eq_getElem (by rw[c.len];omega)];rfl,hw'⟩
     rw[this] at hw2;cases hw2.2
    ·show(S.ac ||| orM (fun p=>p.2.ac) rs).testBit g=true
     rw[tb_or,hg];rfl
    ·show(S.wr ||| orM (fun p=>p.2.wr) rs).testBit g=true
     rw[tb_or,hg];rfl
    ·obtain⟨k,h1,h2⟩:=(ctx_full c hck.1 hck.2 hl).made (Nat.le_refl _) hg hB
     show(S.wr ||| orM (fun p=>p.2.wr) rs).testBit g=true
     have:(orM (fun p=>p.2.wr) rs).testBit g=true:=orM_bit.2 ⟨k,RP S rs k,by
      simp only[RP,List.getD_eq_getElem?_getD]
      rw[List.getElem?_eq_getElem (by rw[c.len];omega)];rfl,h2⟩
     rw[tb_or,this,Bool.or_true]
   ·cases h
  ·cases h
 ·cases h
end
end Ev
namespace Ev
open Go.RowKit
open Reg4 (dstOf idxOf waits puts StepOk puts_at puts_none)
open Reg9g (headG wantV opG)
open Sy (Cx TD TdOk CxOk masks bit Down uz vz)
section
variable{P:Program}{cx:Cx}{M:Nat→Prop}{N m:Nat}{σ0 σ:Nat→Nat}{S S':St}{env env':Env}{a a0 a':Act}{w w0 w1 w':World}{o:Oper}{r:y8}{ms:List Nat}{rs:List (XV×St)}{ops:Array Oper}{L:Nat→Bool}{vals:Nat→Value}
theorem env_at(hH:headG ops ops.size=true)(c:Ctx (masks ops.toList []) ops.size S rs)(inv:RInv M σ0 w0 ops.size S rs L vals w σ)(henv:∀τ,Agr S.nx σ0 τ→EnvOk τ env a0){i:Nat}{o:Oper}(hi:i<ops.size)(ho:ops[i]? = some o)
  (hop:∀d,Operand.tmp d∈o.op.operands→match idxOf ops ops.size d with|some k=>L k=true∧a.tmps.getD d undef=vals k|none=>a.tmps.getD d undef=a0.tmps.getD d undef) :
  ∀τ,Agr (stP S rs i).nx σ τ→EnvOn τ (envP ops.toList rs env i) o.op a:=by
 intro τ hτ t ht x hx
 have h1:=hop t ht
 have hnx0:S.nx≤(stP S rs i).nx:=c.nx (show 0≤i by omega) (by omega)
 obtain⟨g1,g2,g3,g4⟩:=head_op hH hi ho
 split at h1
 ·rename_i k hk
  obtain⟨hkm,hkd⟩:=idx_some hk
  obtain⟨e,he,hb,hon⟩:=waits_on (g3 t ht k hkm hkd)
  have hki:k<i:=by rw[←hon];exact g2 e he hb
  rw[lk_at (S:=S) hH rfl c.len hki (by omega) hkd] at hx
  cases hx
  rw[h1.2,inv.vals k hkm h1.1]
  refine XV.congr _ (fun g hg=>(hτ g ?_).symm)
  exact Nat.lt_of_lt_of_le (c.idnx k g hkm (ids_x hg)) (c.nx (by omega) (by omega))
 ·rename_i hk
  rw[lk_out (by omega) (idx_none hk)] at hx
  rw[h1]
  exact henv τ (inv.agr.trans hτ hnx0) t x hx
theorem want_at(hH:headG ops ops.size=true)(c:Ctx (masks ops.toList []) ops.size S rs)(inv:RInv M σ0 w0 ops.size S rs L vals w σ){i:Nat}{o:Oper}{b:Bool}(hi:i<ops.size)(ho:ops[i]? = some o)
  (hed:∀e∈o.after,Region.binds .any e=true→L e.on=true) (hw:wantE ops (envP ops.toList rs env i) o=some b):wantV o vals=b:=by
 obtain⟨g1,g2,g3,g4⟩:=head_op hH hi ho
 unfold wantE at hw
 unfold wantV
 cases hg:o.guard with
 | none=>rw[hg] at hw;cases hw;rfl
 | some p=>
   obtain⟨j,want⟩:=p
   rw[hg] at hw
   simp only at hw ⊢
   obtain⟨q1,q2,d,q3⟩:=g1 j want hg
   obtain⟨e,he,hb,hon⟩:=waits_on q1
   have hji:j<i:=by rw[←hon];exact g2 e he hb
   have hLj:L j=true:=by rw[←hon];exact hed e he hb
   have q3':(ops[j]?).bind (·.dst)=some d:=q3
   rw[q3'] at hw
   simp only at hw
   rw[lk_at (S:=S) hH rfl c.len hji (by omega) q3] at hw
   split at hw
   ·rename_i β hβ
    cases hw
    rw[inv.vals j q2 hLj,oi hβ]
    show _=isB want β
    cases β<;>rfl
   ·cases hw
theorem drawX_ok(hcx:CxOk P cx)(hr:ug P r)(hmix:P.follows .mixedOrders=true){id:Nat}(h:drawX P cx r N ops env S=some (env',S')){M:Nat→Prop}{σ:Nat→Nat}{a:Act}{w:World}{Q:Exit→Act→World→Prop}(hm:Mod M N σ S env a w)(hM:∀g,S'.ac.testBit g=true→M g)
  (hQ:∀a' w',Nx M N σ S w S' env' a' w'→Q .normal a' w'):(Code.region id ops true).wp P Q a w:=by
 unfold drawX at h
 split at h
 ·rename_i hhead
  split at h
  ·rename_i rs hp
   split at h
   ·rename_i hck
    cases h
    simp only[Bool.and_eq_true] at hck hhead
    obtain⟨hH,hdst⟩:=hhead
    obtain⟨c0,hat⟩:=ctx_of hcx hr hp
    have c:=ctx_full c0 hck.1 hck.2 hm.hyp.lt
    have hdN:∀k d,k<ops.size→dstOf ops k=some d→d<a.tmps.size:=fun k d hk hd=>by
     rw[hm.size]
     obtain⟨o,ho⟩:∃o,ops[k]? = some o:=⟨ops[k]'hk,Array.getElem?_eq_getElem _⟩
     rw[dst_at ho] at hd
     exact dstOk_ok (List.all_eq_true.1 hdst o (by rw[←list_at] at ho;exact List.mem_of_getElem? ho)) d hd
    have hacM:∀i g,i<ops.size→AC S rs i g→M g:=fun i g hi hac=>hM g (by
     show(S.ac ||| orM (fun p=>p.2.ac) rs).testBit g=true
     have:(orM (fun p=>p.2.ac) rs).testBit g=true:=orM_bit.2 ⟨i,RP S rs i,by
      simp only[RP,List.getD_eq_getElem?_getD]
      rw[List.getElem?_eq_getElem (by rw[c.len];omega)];rfl,hac⟩
     rw[tb_or,this,Bool.or_true])
    have hs0:=hm.hyp.sat σ (Agr.refl _ _)
    have hcont0:∀g B,Cont S rs ops.size (fun _=>false) g B→S.get g=some B:=fun g B h=>by
     rcases h with⟨k,h1,-⟩|⟨-,h2⟩
     ·cases h1.2.1
     ·exact h2
    refine Reg9g.region ops.size (fun L vals w1=>Down ops L∧∃σ1,RInv M σ w ops.size S rs L vals w1 σ1) hmix hH hdN ⟨fun k o _ hk=>(by cases hk),σ,⟨Agr.refl _ _,fun _ _=>rfl,fun k _ hk=>(by cases hk),fun g B k _ hl _=>(by cases hl.2.1),fun g B hmg _ hB τ hτ=>?_,fun g g' B B' h1 h2 h3 h4 e=>hs0.inj g g' B B' h1 h2 (hcont0 g B h3) (hcont0 g' B' h4) e,Nat.le_refl _,rfl,rfl,rfl,fun _ _ _=>rfl,fun g B hg hc=>?_⟩⟩ ?_ ?_
    ·exact(hm.hyp.sat τ hτ).blk g B hmg hB
    ·have:=hm.hyp.lt g B (hcont0 g B hc);omega
    ·intro i o hi ho L vals a1 w1 hL hS hed hop
     obtain⟨hdn,σ1,inv⟩:=hS
     have hdo:∀k,bit (masks ops.toList []) i k=true→i≠k→L k=true:=fun k hb hne=>vz hdn ho hed k hb hne
     have hall:∀j k,bit (masks ops.toList []) j k=true→L j=true→L k=true:=fun j k hb hj=>uz hdn j k hb hj
     have hdn':Down ops (fun k=>if k=i then true else L k):=by
      intro k o' ho' hk e he hb
      simp only at hk ⊢
      by_cases hki:k=i
      ·subst hki
       rw[ho] at ho'
       cases ho'
       split
       ·rfl
       ·exact hed e he hb
      ·rw[if_neg hki] at hk
       split
       ·rfl
       ·exact hdn k o' ho' hk e he hb
     have hyp:=inv.hyp c hi hL hdo hall hacM
     have henv:=env_at hH c inv hm.env hi ho hop
     have hfin:∀v w2,Aft (Mi S rs i) σ1 (zeroM (stP S rs i)) w1 (RP S rs i).1 (stP S rs (i+1)) v w2→Down ops (fun k=>if k=i then true else L k)∧∃σ2,RInv M σ w ops.size S rs (fun k=>if k=i then true else L k) (fun k=>if k=i then v else vals k) w2 σ2:=
      fun v w2 ha=>⟨hdn',inv.step c hi hL hdo hall hacM ha⟩
     rcases hat i o hi ho with⟨hw,hx⟩|⟨hw,hx⟩
     ·have hwv:=want_at (env:=env) hH c inv hi ho hed hw
      refine⟨fun _=>?_,fun e=>by rw[hwv] at e;cases e⟩
      obtain⟨k1,k2⟩:=opX_ok hcx hr (x:=(RP S rs i).1) (S':=(RP S rs i).2) (by rw[hx])
      have hst:=k2 hyp henv (fun g hg=>.inl hg)
      unfold StepX at hst
      refine hst.mono (fun v w2 ha=>hfin v w2 ?_)
      rw[vk (by rw[c.len];exact hi)]
      exact ha
     ·have hwv:=want_at (env:=env) hH c inv hi ho hed hw
      refine⟨fun e=>by(rw[hwv] at e;cases e),fun _=>hfin undef w1 ?_⟩
      rw[vk (by rw[c.len];exact hi),hx]
      exact aft_same hyp rfl (fun _=>rfl) (fun _ _=>rfl)
    ·intro L vals w1 hall hS
     obtain⟨-,σ1,inv⟩:=hS
     have hnil:ops.toList.drop ops.size=[]:=by rw[List.drop_eq_nil_iff];simp
     rw[hnil]
     show Q .normal _ _
     refine hQ _ _ ?_
     have hnx0:S.nx≤(stP S rs ops.size).nx:=c.nx (show 0≤ops.size by omega) (Nat.le_refl _)
     have hcfin:∀g B,(stP S rs ops.size).get g=some B→Cont S rs ops.size L g B:=fun g B hB=>by
      rcases last_or (S:=S) (rs:=rs) (m:=ops.size) L g with⟨k,hk⟩|hn
      ·refine .inl ⟨k,hk,?_⟩
       rw[←hB]
       exact(c.hold (show k+1≤ops.size by have:=hk.1;omega) (Nat.le_refl _) (c.idnx k g hk.1 (ids_ac (c.wrac k g hk.1 hk.2.2.1))) (fun k' q1 q2 q3=>hk.2.2.2 k' (by omega) q2 (hall k' q2) q3)).symm
      ·refine .inr ⟨hn,?_⟩
       have hgS:g<S.nx:=by
        rcases Nat.lt_or_ge g S.nx with h1|h1
        ·exact h1
        ·exfalso
         obtain⟨k,q1,q2⟩:=c.made (Nat.le_refl _) h1 hB
         exact hn k q1 (hall k q1) q2
       rw[←hB]
       exact(c.hold (show 0≤ops.size by omega) (Nat.le_refl _) hgS (fun k' q1 q2 q3=>hn k' q2 (hall k' q2) q3)).symm
     have hsat:∀τ,Agr (stP S rs ops.size).nx σ1 τ→Sat M τ { stP S rs ops.size with ac:=S.ac ||| orM (fun p=>p.2.ac) rs,wr:=S.wr ||| orM (fun p=>p.2.wr) rs } w1:=fun τ hτ=>by
      refine⟨fun g B hmg hB=>?_,fun g g' B B' h1 h2 h3 h4 e=>?_⟩
      ·have hB':(stP S rs ops.size).get g=some B:=hB
       have hlt:=c.ltP (Nat.le_refl _) hB'
       rw[hτ g hlt]
       rcases hcfin g B hB' with⟨k,h1,h2⟩|⟨h1,h2⟩
       ·refine(inv.blk1 g B k hmg h1 h2).congr (fun j hj=>(hτ j ?_).symm)
        exact Nat.lt_of_lt_of_le (c.idnx k j h1.1 (ids_blk (by rw[c.len];exact h1.1) h1.2.2.1 h2 j hj)) (c.nx (by have:=h1.1;omega) (Nat.le_refl _))
       ·have:=inv.blk0 g B hmg h1 h2 τ (inv.agr.trans hτ hnx0)
        rw[hτ g hlt] at this
        exact this
      ·have h3':(stP S rs ops.size).get g=some B:=h3
       have h4':(stP S rs ops.size).get g'=some B':=h4
       exact inv.inj g g' B B' h1 h2 (hcfin g B h3') (hcfin g' B' h4') (by rw[←hτ g (c.ltP (Nat.le_refl _) h3'),←hτ g' (c.ltP (Nat.le_refl _) h4')];exact e)
     refine⟨σ1,inv.agr,inv.out,⟨⟨hsat,fun g B hB=>c.ltP (Nat.le_refl _) hB,fun g hg=>hm.hyp.new g (Nat.le_trans hnx0 hg)⟩,fun τ hτ t x hx=>?_,by rw[Reg9g.puts_sz];exact hm.size,?_⟩,⟨inv.size,inv.os,inv.tape,inv.output,fun b hb hn=>inv.keep b hb (fun g B k h1 h2 h3 h4 h5=>hn g B h1 ?_ h5),fun g B hg hB=>?_⟩⟩
     ·have hτ':Agr (stP S rs ops.size).nx σ1 τ:=hτ
      cases hk:idxOf ops ops.size t with
      | some k=>
        obtain⟨hkm,hkd⟩:=idx_some hk
        rw[lk_at (S:=S) hH rfl c.len hkm (Nat.le_refl _) hkd] at hx
        cases hx
        obtain⟨o,ho⟩:∃o,ops[k]? = some o:=⟨ops[k]'hkm,Array.getElem?_eq_getElem _⟩
        rw[puts_at hkd rfl (List.range ops.size) a List.nodup_range (List.mem_range.2 hkm) (hdN k t hkm hkd) (fun j hj hne hjd=>(head_op hH hkm ho).2.2.2 j (List.mem_range.1 hj) hne t hkd hjd)]
        rw[inv.vals k hkm (hall k hkm)]
        refine XV.congr _ (fun g hg=>(hτ' g ?_).symm)
        exact Nat.lt_of_lt_of_le (c.idnx k g hkm (ids_x hg)) (c.nx (by omega) (Nat.le_refl _))
      | none=>
        have hno:=idx_none hk
        rw[lk_out (Nat.le_refl _) hno] at hx
        rw[puts_none _ _ (fun k hk'=>hno k (List.mem_range.1 hk'))]
        exact hm.env τ (inv.agr.trans hτ' hnx0) t x hx
     ·have:∀(ks:List Nat) (a:Act),(puts ops vals (fun _=>true) ks a).defers=a.defers:=by
       intro ks
       induction ks with
       | nil=>intro a;rfl
       | cons k ks ih=>
         intro a
         unfold puts
         rw[ih]
         simp only[if_true]
         exact put_defers _ _ _
      rw[this];exact hm.defers
     ·show(S.wr ||| orM (fun p=>p.2.wr) rs).testBit g=true
      have:(orM (fun p=>p.2.wr) rs).testBit g=true:=orM_bit.2 ⟨k,RP S rs k,by
       simp only[RP,List.getD_eq_getElem?_getD]
       rw[List.getElem?_eq_getElem (by rw[c.len];omega)];rfl,h4⟩
      rw[tb_or,this,Bool.or_true]
     ·rcases inv.new g B hg (hcfin g B hB) with h5|⟨g0,B0,k,q1,q2,q3,q4,q5,q6⟩
      ·exact .inl h5
      ·refine .inr ⟨g0,B0,q1,q2,?_,q6⟩
       show(S.wr ||| orM (fun p=>p.2.wr) rs).testBit g0=true
       have:(orM (fun p=>p.2.wr) rs).testBit g0=true:=orM_bit.2 ⟨k,RP S rs k,by
        simp only[RP,List.getD_eq_getElem?_getD]
        rw[List.getElem?_eq_getElem (by rw[c.len];omega)];rfl,q5⟩
       rw[tb_or,this,Bool.or_true]
   ·cases h
  ·cases h
 ·cases h
end
end Ev
namespace Ev
open Go.RowKit
open Sy (Cx TD TdOk CxOk Ex unBlock Enters rv results_eq)
def loopX(f:Env→St→Option (Ex×Env×St)):Nat→Env→St→Option (Ex×Env×St)
 | 0,_,_=>none
 | n+1,env,S=>match f env S with
   | some (.nrm,e,S')=>loopX f n e S'
   | some (.ext i,e,S')=>some (.ext i,e,S')
   | some (.ret,e,S')=>some (.ret,e,S')
   | none=>none
def codeX(P:Program)(cx:Cx)(r:y8)(N K:Nat):Code→Env→St→Option (Ex×Env×St)
 | .skip,env,S=>some (.nrm,env,S)
 | .label _,env,S=>some (.nrm,env,S)
 | .ret,env,S=>some (.ret,env,S)
 | .exit id,env,S=>some (.ext id,env,S)
 | .region _ ops false,env,S=>if ops.toList.all (fun o=>dstOk N o.dst) then match seqX P cx r ops ops.toList env S with
    | some (e,S')=>some (.nrm,e,S')
    | none=>none
   else none
 | .region _ ops true,env,S=>match drawX P cx r N ops env S with
   | some (e,S')=>some (.nrm,e,S')
   | none=>none
 | .seq a b,env,S=>match codeX P cx r N K a env S with
   | some (.nrm,e,S')=>codeX P cx r N K b e S'
   | some (.ext i,e,S')=>some (.ext i,e,S')
   | some (.ret,e,S')=>some (.ret,e,S')
   | none=>none
 | .cond x a b,env,S=>match con1 env x with
   | some (.bool true)=>codeX P cx r N K a env S
   | some (.bool false)=>codeX P cx r N K b env S
   | _=>none
 | .block id b,env,S=>match codeX P cx r N K b env S with
   | some (x,e,S')=>some (unBlock id x,e,S')
   | none=>none
 | .scope b,env,S=>codeX P cx r N K b env S
 | .loop b,env,S=>loopX (codeX P cx r N K b) K env S
 | _,_,_=>none
def envArgs:Nat→List XV→Env
 | _,[]=>[]
 | i,x::r=>(i,x)::envArgs (i+1) r
def resX(cx:Cx)(env:Env):List ResultVar→St→Option (List TV×St)
 | [],S=>some ([],S)
 | .tmp t::r,S=>match lk env t with
   | some (.v tv)=>match resX cx env r S with
     | some (l,S')=>some (tv::l,S')
     | none=>none
   | _=>none
 | .cell ad t::r,S=>match lk env ad with
   | some (.v (.one s))=>match loadX cx S t s with
     | some (.v tv,S1)=>match resX cx env r S1 with
       | some (l,S')=>some (tv::l,S')
       | none=>none
     | _=>none
   | _=>none
def outX:List TV→XV
 | [t]=>.v t
 | l=>.tup l
def isExt:Ex→Bool
 | .ext _=>true
 | _=>false
def callX(P:Program)(cx:Cx)(K:Nat)(r:y8):y8:=fun f args S=>match P.funcs[f]? with
 | some fn=>match fn.body with
   | some code=>if(fn.name != "runtime.NumGoroutine") && decide (args.length≤fn.ntmps) then match codeX P cx r fn.ntmps K code (envArgs 0 args) S with
      | some (ex,env,S1)=>if isExt ex then none else match resX cx env fn.results.toList S1 with
        | some (tvs,S2)=>some (outX tvs,S2)
        | none=>none
      | none=>none
     else none
   | none=>none
 | none=>none
section
variable{P:Program}{cx:Cx}{M:Nat→Prop}{N K:Nat}{σ0 σ:Nat→Nat}{S S' S1:St}{env env':Env}{a a':Act}{w w':World}{r:y8}
def Post(M:Nat→Prop)(N:Nat)(σ:Nat→Nat)(S:St)(w:World)(ex:Ex)(env':Env)(S':St):Exit→Act→World→Prop:=fun e a' w'=>e=ex.exit∧Nx M N σ S w S' env' a' w'
def CodeOk(P:Program)(N:Nat)(c:Code)(f:Env→St→Option (Ex×Env×St)):Prop:=∀env S ex env' S',f env S=some (ex,env',S')→Gos S S'∧∀{M:Nat→Prop} {σ:Nat→Nat} {a:Act} {w:World},Mod M N σ S env a w→(∀g,S'.ac.testBit g=true→M g)→c.wp P (Post M N σ S w ex env' S') a w
theorem wp_step{c:Code}{ex:Ex}(g1:Gos S S1)(g2:Gos S1 S'){σ1:Nat→Nat}{w1:World}{a1:Act}(h1:Agr S.nx σ σ1)(h2:∀g,S1.nx≤g→σ1 g=σ g)(h4:Fr σ σ1 S S1 w w1)(h:c.wp P (Post M N σ1 S1 w1 ex env' S') a1 w1):c.wp P (Post M N σ S w ex env' S') a1 w1:=
 wp_mono h (fun e a2 w2 ⟨e1,hn⟩=>⟨e1,Nx.step g1 g2 h1 h2 h4 hn⟩)
theorem loopX_gos{c:Code}{f:Env→St→Option (Ex×Env×St)}(hf:CodeOk P N c f):∀(n:Nat) {env:Env} {S:St} {ex:Ex} {env':Env} {S':St},loopX f n env S=some (ex,env',S')→Gos S S'
 | 0,env,S,ex,env',S',h=>by cases h
 | n+1,env,S,ex,env',S',h=>by
   unfold loopX at h
   split at h
   ·rename_i e S1 h1
    exact(hf env S _ _ _ h1).1.trans (loopX_gos hf n h)
   ·rename_i i e S1 h1
    cases h
    exact(hf env S _ _ _ h1).1
   ·rename_i e S1 h1
    cases h
    exact(hf env S _ _ _ h1).1
   ·cases h
theorem loopX_ok{c:Code}{f:Env→St→Option (Ex×Env×St)}(hf:CodeOk P N c f):∀(n:Nat) {env:Env} {S:St} {ex:Ex} {env':Env} {S':St} {σ:Nat→Nat} {a:Act} {w:World},loopX f n env S=some (ex,env',S')→Mod M N σ S env a w→(∀g,S'.ac.testBit g=true→M g) →
  Code.rounds P c (Post M N σ S w ex env' S') n a w
 | 0,env,S,ex,env',S',σ,a,w,h,_,_=>by cases h
 | n+1,env,S,ex,env',S',σ,a,w,h,hm,hM=>by
   unfold loopX at h
   rw[rounds_succ]
   split at h
   ·rename_i e S1 h1
    have g2:=loopX_gos hf n h
    obtain⟨g1,hw⟩:=hf env S _ _ _ h1
    refine wp_mono (hw hm (fun g hg=>hM g (g2.ac g hg))) ?_
    rintro e1 a1 w1 ⟨rfl,σ1,n1,n2,n3,n4⟩
    have:=loopX_ok hf n h n3 hM
    refine rounds_mono n _ _ this (fun e2 a2 w2 ⟨q1,q2⟩=>⟨q1,Nx.step g1 g2 n1 n2 n4 q2⟩)
   ·rename_i i e S1 h1
    cases h
    obtain⟨g1,hw⟩:=hf env S _ _ _ h1
    refine wp_mono (hw hm hM) ?_
    rintro e1 a1 w1 ⟨rfl,hn⟩
    exact⟨rfl,hn⟩
   ·rename_i e S1 h1
    cases h
    obtain⟨g1,hw⟩:=hf env S _ _ _ h1
    refine wp_mono (hw hm hM) ?_
    rintro e1 a1 w1 ⟨rfl,hn⟩
    exact⟨rfl,hn⟩
   ·cases h where
 rounds_mono {c:Code} {Q Q':Exit→Act→World→Prop}:∀(n:Nat) (a:Act) (w:World),Code.rounds P c Q n a w→(∀e a w,Q e a w→Q' e a w)→Code.rounds P c Q' n a w
 | 0,_,_,h,_=>h
 | n+1,a,w,h,hq=>by
   rw[rounds_succ] at h ⊢
   refine wp_mono h (fun e a1 w1 he=>?_)
   cases e with
   | normal=>exact rounds_mono n a1 w1 he hq
   | exit i=>exact hq _ _ _ he
   | goto l=>exact hq _ _ _ he
   | ret=>exact hq _ _ _ he
   | panic ch=>exact hq _ _ _ he
   | outgrown=>exact hq _ _ _ he
theorem jc(hcx:CxOk P cx)(hr:ug P r)(hmix:P.follows .mixedOrders=true):∀c:Code,CodeOk P N c (codeX P cx r N K c)
 | .skip=>fun env S ex env' S' h=>by
   simp only[codeX,Option.some.injEq,Prod.mk.injEq] at h
   obtain⟨rfl,rfl,rfl⟩:=h
   exact⟨Gos.refl _,fun hm hM=>wp_skip ⟨rfl,Nx.refl hm⟩⟩
 | .label l=>fun env S ex env' S' h=>by
   simp only[codeX,Option.some.injEq,Prod.mk.injEq] at h
   obtain⟨rfl,rfl,rfl⟩:=h
   exact⟨Gos.refl _,fun hm hM=>wp_label ⟨rfl,Nx.refl hm⟩⟩
 | .ret=>fun env S ex env' S' h=>by
   simp only[codeX,Option.some.injEq,Prod.mk.injEq] at h
   obtain⟨rfl,rfl,rfl⟩:=h
   exact⟨Gos.refl _,fun hm hM=>wp_ret ⟨rfl,Nx.refl hm⟩⟩
 | .exit id=>fun env S ex env' S' h=>by
   simp only[codeX,Option.some.injEq,Prod.mk.injEq] at h
   obtain⟨rfl,rfl,rfl⟩:=h
   exact⟨Gos.refl _,fun hm hM=>wp_exit ⟨rfl,Nx.refl hm⟩⟩
 | .region id ops false=>fun env S ex env' S' h=>by
   simp only[codeX] at h
   split at h
   ·rename_i hd
    split at h
    ·rename_i e S1 h1
     cases h
     refine⟨seqX_gos hcx hr h1,fun hm hM=>wp_region_list ?_⟩
     have hall:∀o∈ops.toList,∀d,o.dst=some d→d<N:=fun o ho=>dstOk_ok (List.all_eq_true.1 hd o ho)
     exact seqX_ok hcx hr (fun j o' d ho' hdd=>hall o' (by rw[←list_at] at ho';exact List.mem_of_getElem? ho') d hdd) hall h1 hm hM (fun a' w' hn=>⟨rfl,hn⟩)
    ·cases h
   ·cases h
 | .region id ops true=>fun env S ex env' S' h=>by
   simp only[codeX] at h
   split at h
   ·rename_i e S1 h1
    cases h
    exact⟨drawX_gos hcx hr h1,fun hm hM=>drawX_ok hcx hr hmix h1 hm hM (fun a' w' hn=>⟨rfl,hn⟩)⟩
   ·cases h
 | .seq x y=>fun env S ex env' S' h=>by
   simp only[codeX] at h
   split at h
   ·rename_i e S1 h1
    obtain⟨g1,k1⟩:=jc hcx hr hmix x env S _ _ _ h1
    obtain⟨g2,k2⟩:=jc hcx hr hmix y e S1 _ _ _ h
    refine⟨g1.trans g2,fun hm hM=>wp_seq (wp_mono (k1 hm (fun g hg=>hM g (g2.ac g hg))) ?_)⟩
    rintro e1 a1 w1 ⟨rfl,σ1,n1,n2,n3,n4⟩
    exact wp_step g1 g2 n1 n2 n4 (k2 n3 hM)
   ·rename_i i e S1 h1
    cases h
    obtain⟨g1,k1⟩:=jc hcx hr hmix x env S _ _ _ h1
    refine⟨g1,fun hm hM=>wp_seq (wp_mono (k1 hm hM) ?_)⟩
    rintro e1 a1 w1 ⟨rfl,hn⟩
    exact⟨rfl,hn⟩
   ·rename_i e S1 h1
    cases h
    obtain⟨g1,k1⟩:=jc hcx hr hmix x env S _ _ _ h1
    refine⟨g1,fun hm hM=>wp_seq (wp_mono (k1 hm hM) ?_)⟩
    rintro e1 a1 w1 ⟨rfl,hn⟩
    exact⟨rfl,hn⟩
   ·cases h
 | .cond x y z=>fun env S ex env' S' h=>by
   simp only[codeX] at h
   split at h
   ·rename_i hc
    obtain⟨g1,k1⟩:=jc hcx hr hmix y env S _ _ _ h
    exact⟨g1,fun {M σ a w} hm hM=>wp_cond_true (je (o:=.move x) (hm.on _ σ (Agr.refl _ _)) (by simp[Op.operands]) hc) (k1 hm hM)⟩
   ·rename_i hc
    obtain⟨g1,k1⟩:=jc hcx hr hmix z env S _ _ _ h
    exact⟨g1,fun {M σ a w} hm hM=>wp_cond_false (je (o:=.move x) (hm.on _ σ (Agr.refl _ _)) (by simp[Op.operands]) hc) (k1 hm hM)⟩
   ·cases h
 | .block id b=>fun env S ex env' S' h=>by
   simp only[codeX] at h
   split at h
   ·rename_i x e S1 h1
    cases h
    obtain⟨g1,k1⟩:=jc hcx hr hmix b env S _ _ _ h1
    refine⟨g1,fun hm hM=>wp_block (wp_mono (k1 hm hM) ?_)⟩
    rintro e1 a1 w1 ⟨rfl,hn⟩
    cases x with
    | nrm=>exact⟨rfl,hn⟩
    | ret=>exact⟨rfl,hn⟩
    | ext i=>
      show Exit.inBlock id _ (.exit i) a1 w1
      simp only[Exit.inBlock,unBlock]
      split
      ·rename_i e;exact⟨rfl,hn⟩
      ·rename_i e;exact⟨rfl,hn⟩
   ·cases h
 | .scope b=>fun env S ex env' S' h=>by
   simp only[codeX] at h
   obtain⟨g1,k1⟩:=jc hcx hr hmix b env S _ _ _ h
   refine⟨g1,fun hm hM=>wp_scope_straight (wp_mono (k1 hm hM) ?_)⟩
   rintro e1 a1 w1 ⟨rfl,hn⟩
   cases ex<;>exact⟨rfl,hn⟩
 | .loop b=>fun env S ex env' S' h=>by
   simp only[codeX] at h
   exact⟨loopX_gos (jc hcx hr hmix b) K h,fun hm hM=>wp_loop_rounds K (loopX_ok (jc hcx hr hmix b) K h hm hM)⟩
 | .rangeFunc _ _ _ _=>fun env S ex env' S' h=>by simp only[codeX] at h;cases h
 | .goto _=>fun env S ex env' S' h=>by simp only[codeX] at h;cases h
 | .refuse _=>fun env S ex env' S' h=>by simp only[codeX] at h;cases h
end
end Ev
namespace Ev
open Go.RowKit
open Sy (Cx TD TdOk CxOk Ex unBlock Enters rv results_eq)
section
variable{P:Program}{cx:Cx}{M:Nat→Prop}{N K:Nat}{σ0 σ:Nat→Nat}{S S' S1:St}{env env':Env}{a a':Act}{w w':World}{r:y8}
theorem resX_ok(hcx:CxOk P cx):∀{rs:List ResultVar} {S:St} {tvs:List TV} {S':St},resX cx env rs S=some (tvs,S')→Gos S S'∧S'.nx=S.nx∧(∀g,S'.get g=S.get g) ∧
  ∀{M:Nat→Prop} {τ:Nat→Nat} {a:Act} {w:World},EnvOk τ env a→Sat M τ S w→(∀g,S'.ac.testBit g=true→M g)→(rs.mapM (rv a)).run P w=.ok (tvs.map (TV.den τ)) w
 | [],S,tvs,S',h=>by cases h;exact⟨Gos.refl _,rfl,fun _=>rfl,fun _ _ _=>rfl⟩
 | .tmp t::rs,S,tvs,S',h=>by
   unfold resX at h
   split at h
   ·rename_i tv htv
    split at h
    ·rename_i l S1 h1
     cases h
     obtain⟨q1,q2,q3,q4⟩:=resX_ok hcx h1
     refine⟨q1,q2,q3,fun {M τ a w} he hs hM=>?_⟩
     have e1:a.tmps.getD t undef=tv.den τ:=he t _ htv
     rw[List.mapM_cons,Sem.run_bind,show(rv a (.tmp t)).run P w=.ok (tv.den τ) w by simp[rv,e1]]
     simp only[Result.andThen_ok]
     rw[Sem.run_bind,q4 he hs hM]
     rfl
    ·cases h
   ·cases h
 | .cell ad t::rs,S,tvs,S',h=>by
   unfold resX at h
   split at h
   ·rename_i s hs1
    split at h
    ·rename_i tv S1 h1
     split at h
     ·rename_i l S2 h2
      cases h
      obtain⟨q1,q2,q3,q4⟩:=resX_ok hcx h2
      obtain⟨g,B,hB,hS⟩:=loadX_nx h1
      have hnx:S1.nx=S.nx:=by rw[hS];rfl
      have hget:∀g,S1.get g=S.get g:=fun g=>by rw[hS];rfl
      refine⟨(by rw[hS];exact gos_touch S g:Gos S S1).trans q1,q2.trans hnx,fun g=>(q3 g).trans (hget g),fun {M τ a w} he hs hM=>?_⟩
      have e1:a.tmps.getD ad undef=s.den τ:=he ad _ hs1
      have hld:=loadX_ok (P:=P) hcx h1 (fun g hg=>hM g (q1.ac g hg)) hs
      have hp:∃g off,s=.ptr g off:=by
       unfold loadX at h1
       split at h1
       ·rename_i g off d hd;exact⟨g,off,rfl⟩
       ·cases h1
      obtain⟨g',off,rfl⟩:=hp
      have hrv:(rv a (.cell ad t)).run P w=.ok (tv.den τ) w:=by
       simp only[SV.den] at e1 hld
       simp only[rv,e1,asAddr,Sem.run_bind,Sem.run_pure,Result.andThen_ok]
       have hld':(loadVar t { block:=τ g',off:=off }).run P w=.ok (XV.den τ (.v tv)) w:=by simpa[Instr.loadAt,Instr.sureAddr,Sem.run_bind] using hld
       exact hld'
      rw[List.mapM_cons,Sem.run_bind,hrv]
      simp only[Result.andThen_ok]
      rw[Sem.run_bind,q4 he (hs.congr hget) hM]
      rfl
     ·cases h
    ·cases h
   ·cases h
theorem envArgs_ok{τ:Nat→Nat}:∀{args:List XV} {i:Nat} {vs:List Value},vs=args.map (XV.den τ)→∀t x,lk (envArgs i args) t=some x→∃j v,t=i+j∧vs[j]? = some v∧v=x.den τ
 | [],i,vs,h,t,x,hx=>by cases hx
 | y::args,i,vs,h,t,x,hx=>by
   subst h
   unfold envArgs lk at hx
   split at hx
   ·rename_i e
    cases hx
    exact⟨0,_,by omega,rfl,rfl⟩
   ·obtain⟨j,v,h1,h2,h3⟩:=envArgs_ok (args:=args) (i:=i+1) (vs:=args.map (XV.den τ)) rfl t x hx
    exact⟨j+1,v,by omega,by simpa using h2,h3⟩
theorem outX_den(σ:Nat→Nat)(tvs:List TV):(if h:(tvs.map (TV.den σ)).toArray.size=1 then(tvs.map (TV.den σ)).toArray[0] else .tuple (tvs.map (TV.den σ)).toArray)=(outX tvs).den σ:=by
 match tvs with
 | []=>rfl
 | [t]=>rfl
 | t::u::l=>
   rw[dif_neg (by simp)]
   rfl
theorem callX_ok(hcx:CxOk P cx)(hr:ug P r)(hmix:P.follows .mixedOrders=true):ug P (callX P cx K r):=by
 intro f args S x S' h
 unfold callX at h
 split at h
 ·rename_i fn hf
  split at h
  ·rename_i code hb
   split at h
   ·rename_i hc
    simp only[Bool.and_eq_true,bne_iff_ne,ne_eq,decide_eq_true_eq] at hc
    obtain⟨hname,hlen⟩:=hc
    split at h
    ·rename_i ex env' S1 h1
     split at h
     ·cases h
     ·rename_i hex
      split at h
      ·rename_i tvs S2 h2
       cases h
       obtain⟨g1,k1⟩:=jc (N:=fn.ntmps) (K:=K) hcx hr hmix code _ _ _ _ _ h1
       obtain⟨g2,q2,q3,q4⟩:=resX_ok hcx h2
       refine⟨g1.trans g2,⟨fn,hf,by simpa using hname,by rw[hb];rfl⟩,fun M σ w H hM vs hvs=>?_⟩
       have hal:vs.length=args.length:=by rw[hvs σ (Agr.refl _ _),List.length_map]
       have hmod:Mod M fn.ntmps σ S (envArgs 0 args) { tmps:=vs.toArray++Array.replicate (fn.ntmps-vs.toArray.size) undef,defers:=[] } w:=by
        refine⟨H,fun τ hτ t y hy=>?_,by simp;omega,rfl⟩
        obtain⟨j,v,e1,e2,e3⟩:=envArgs_ok (vs:=vs) (hvs τ hτ) t y hy
        rw[Nat.zero_add] at e1
        subst e1
        have hia:t<vs.toArray.size:=by have:=(List.getElem?_eq_some_iff.1 e2).1;simpa using this
        rw[←e3,Array.getD_eq_getD_getElem?,Array.getElem?_append_left hia,List.getElem?_toArray,e2];rfl
       refine calls_of_wp hf hb (wp_mono (k1 hmod (fun g hg=>hM g (g2.ac g hg))) ?_)
       rintro e a1 w1 ⟨rfl,σ1,n1,n2,n3,n4⟩
       have hs1:=n3.hyp.sat σ1 (Agr.refl _ _)
       have hrun:∀τ,Agr S1.nx σ1 τ→(results fn a1.tmps).run P w1=.ok ((outX tvs).den τ) w1:=fun τ hτ=>by
        rw[results_eq,Sem.run_bind,Array.mapM_eq_mapM_toList,Sem.run_map,q4 (n3.env τ hτ) (n3.hyp.sat τ hτ) hM,←outX_den]
        rfl
       have hkey:a1.defers=[]∧∃v,(results fn a1.tmps).run P w1=.ok v w1∧∃v',Ending.returned v=.returned v'∧Aft M σ S w (outX tvs) S' v' w1:=by
        refine⟨n3.defers,_,hrun σ1 (Agr.refl _ _),_,rfl,σ1,n1,fun g hg=>n2 g (by rw[←q2];exact hg),fun τ hτ=>?_,?_⟩
        ·rw[q2] at hτ
         refine⟨(n3.hyp.sat τ hτ).congr q3,?_⟩
         have:=(hrun σ1 (Agr.refl _ _)).symm.trans (hrun τ hτ)
         injection this
        ·have:=Fr.refl σ1 S1 S' w1 (fun g B hB=>n3.hyp.lt g B (by rw[←q3];exact hB))
         exact n4.trans this g1 g2 n1 (Agr.refl _ _)
       cases ex with
       | ext i=>exact absurd rfl hex
       | nrm=>exact hkey
       | ret=>exact hkey
      ·cases h
    ·cases h
   ·cases h
  ·cases h
 ·cases h
def KnOk(P:Program)(kn:FuncId→List XV→Option Value):Prop:=∀f args v,kn f args=some v→Enters P f∧∀(σ:Nat→Nat) (w:World),Calls P f (args.map (XV.den σ)).toArray w fun e w'=>e=.returned v∧Below w.heap.size w w'
def knX(kn:FuncId→List XV→Option Value)(r:y8):y8:=fun f args S=>match kn f args with
 | some v=>some (ofV v,S)
 | none=>r f args S
theorem knX_ok{kn:FuncId→List XV→Option Value}(hk:KnOk P kn)(hr:ug P r):ug P (knX kn r):=by
 intro f args S x S' h
 unfold knX at h
 split at h
 ·rename_i y hy
  cases h
  obtain⟨k1,k2⟩:=hk f args _ hy
  refine⟨Gos.refl _,k1,fun M σ w H hM vs hvs=>?_⟩
  have:=k2 σ w
  rw[←hvs σ (Agr.refl _ _)] at this
  refine this.mono ?_
  rintro e w' ⟨rfl,hb⟩
  refine⟨_,rfl,σ,Agr.refl _ _,fun _ _=>rfl,fun τ hτ=>⟨?_,?_⟩,?_⟩
  ·have hs:=H.sat τ hτ
   exact⟨fun g B hm hB=>(hs.blk g B hm hB).keep (hb.block _ (hs.blk g B hm hB).lt),hs.inj⟩
  ·rw[ofV_den]
  ·exact⟨hb.size,hb.os,hb.tape,hb.output,fun b hlt _=>hb.block b hlt,fun g B hg hB=>absurd (H.lt g B hB) (by omega)⟩
 ·exact hr f args S x S' h
def runX(P:Program)(cx:Cx)(kn:FuncId→List XV→Option Value)(K:Nat):Nat→y8
 | 0=>fun _ _ _=>none
 | n+1=>knX kn (callX P cx K (runX P cx kn K n))
theorem runX_ok{kn:FuncId→List XV→Option Value}(hk:KnOk P kn)(hcx:CxOk P cx)(hmix:P.follows .mixedOrders=true)(K:Nat):∀n,ug P (runX P cx kn K n)
 | 0=>fun f args S x S' h=>by cases h
 | n+1=>knX_ok hk (callX_ok hcx (runX_ok hk hcx hmix K n) hmix)
def emptyS:St:=⟨0,[],0,0⟩
theorem run_calls{kn:FuncId→List XV→Option Value}(hk:KnOk P kn)(hcx:CxOk P cx)(hmix:P.follows .mixedOrders=true){K n:Nat}{f:FuncId}{v:Value}{S':St}(h:runX P cx kn K n f [] emptyS=some (.v (.one (.con v)),S'))(w:World):Calls P f #[] w fun e w'=>e=.returned v∧Below w.heap.size w w':=by
 obtain⟨g1,g2,g3⟩:=runX_ok hk hcx hmix K n f [] emptyS _ _ h
 have H:Hyp (fun _=>True) (fun _=>0) emptyS w:=⟨fun τ _=>⟨fun g B _ hB=>(by cases hB),fun g g' B B' _ _ hB=>(by cases hB)⟩,fun g B hB=>(by cases hB),fun _ _=>trivial⟩
 refine(g3 _ _ w H (fun _ _=>trivial) [] (fun _ _=>rfl)).mono ?_
 rintro e w' ⟨v',rfl,σ1,-,-,h3,h4⟩
 refine⟨by rw[(h3 σ1 (Agr.refl _ _)).2];rfl,⟨h4.os,h4.tape,h4.output,h4.size,fun b hb=>h4.keep b hb (fun g B hg=>absurd hg (by show ¬g<0;omega))⟩⟩
end
end Ev
namespace SipW
open Go.RowKit
abbrev u (x:Int):Value:=.int .u64 x
def TurnK(k:Nat):Prop:=k=13∨k=16∨k=17∨k=21∨k=32
set_option maxRecDepth 100000 in
theorem rturn(x:Int)(k:Nat)(hk:TurnK k)(w:World):Calls Tryz.prog 181 #[u x,u (k:Int)] w fun e w'=>e=.returned (u (Sip.rotl x k))∧w'=w:=by
 rcases hk with rfl|rfl|rfl|rfl|rfl <;>
 ·go_enter Tryz.func181,Tryz.ntmps181
  go_wp2_with fail
  go_ret
  exact⟨rfl,rfl⟩
set_option maxRecDepth 100000 in
theorem turn(x:Int)(k:Nat)(hk:TurnK k)(w:World):Calls Tryz.prog 161 #[u x,.int .i64 (k:Int)] w fun e w'=>e=.returned (u (Sip.rotl x k))∧w'=w:=by
 have b13:bits .and .u64 13 63=13:=by kernel_rfl
 have b16:bits .and .u64 16 63=16:=by kernel_rfl
 have b17:bits .and .u64 17 63=17:=by kernel_rfl
 have b21:bits .and .u64 21 63=21:=by kernel_rfl
 have b32:bits .and .u64 32 63=32:=by kernel_rfl
 rcases hk with rfl|rfl|rfl|rfl|rfl <;>
 ·go_enter Tryz.func161,Tryz.ntmps161
  go_wp2_with fail
  go_ret
  exact⟨rfl,rfl⟩
theorem data_at{w:World}{A:Option Addr}{n c:Nat}{xs:List Int}(h:EncW.Data w (.slice A n c) xs){j:Nat}(hj:j<xs.length) :
  ∃b off,A=some ⟨b,off,none⟩∧w.cell? ⟨b,off+j,none⟩=some (.int .u8 xs[j])∧0≤xs[j]∧xs[j]≤255:=by
 obtain⟨A',c',e,h1,h2,h3,h4,h5⟩:=h
 injection e with e1 e2 e3
 subst e1
 rcases h5 with rfl|⟨b,off,cs,fz,rfl,hr,hx⟩
 ·simp at hj
 ·refine⟨b,off,rfl,?_,h4 _ (List.getElem_mem hj)⟩
  rw[cell_of_row w b (off+j) cs _ fz hr]
  exact hx j _ (List.getElem?_eq_getElem hj)
set_option maxRecDepth 100000 in
set_option maxHeartbeats 1000000 in
theorem little(A:Option Addr)(n c:Nat)(xs:List Int)(w:World)(h:EncW.Data w (.slice A n c) xs)(h8:xs.length≤8):Calls Tryz.prog 138 #[.slice A n c] w fun e w'=>e=.returned (u (Sip.lit xs 0 0))∧w'=w:=by
 obtain⟨A',c',e,h0⟩:=id h
 injection e with e1 e2 e3
 subst e2
 have HD:=Lib.hid h
 have H8:=Lib.hid h8
 clear h0 e1 e3 h h8
 go_enter Tryz.func138,Tryz.ntmps138
 go_wp2_with fail
 go_loopg [3,8] xs.length (fun gg s3 s8 wr=>∃j:Nat,j+gg=xs.length∧s8=.int .i64 j∧s3=.int .u64 (Sip.lit (xs.take j) 0 0)∧wr=w)
 case atStart=>exact⟨0,by omega,rfl,rfl,rfl⟩
 case round=>
  obtain⟨j,hj,rfl,rfl,rfl⟩:=hrel
  have h8:=H8.out
  by_cases hjn:j<xs.length
  ·obtain⟨b,off,rfl,hc,x0,x1⟩:=data_at HD.out hjn
   have hs:xs.take (j+1)=xs.take j++[xs[j]]:=List.take_succ_eq_append_getElem hjn
   have hl:(xs.take j).length=j:=by simp;omega
   have hlit:Sip.lit (xs.take (j+1)) 0 0=Sip.orr (Sip.lit (xs.take j) 0 0) (Sip.w64 (xs[j]*2^(8*j))):=by rw[hs,Sip.lit_snoc,hl,Nat.zero_add]
   have HLIT:=Lib.hid hlit
   clear hlit hs hl
   generalize Sip.lit (xs.take j) 0 0=m0 at *
   generalize xs[j]=x at *
   have hw:IntKind.u64.wrap x=x:=by rw[Sip.wrapU];omega
   have hjz:(j:Int)<xs.length:=by omega
   have hj7:j=0∨j=1∨j=2∨j=3∨j=4∨j=5∨j=6∨j=7:=by omega
   clear h8
   go_wp2_with fail
   go_roundg (xs.length-(j+1))
   case measure=>omega
   case rel=>exact⟨j+1,by omega,by simp,by rw[HLIT.out];rfl,rfl⟩
  ·have hjn':j=xs.length:=by omega
   subst hjn'
   go_wp2_with fail
   go_ret
   exact⟨by rw[List.take_length];rfl,rfl⟩
theorem top_val(n:Nat):Sip.w64 (((n%256:Nat):Int)*2^56)=(n:Int)%256*72057594037927936:=by
 unfold Sip.w64
 rw[Sip.wrapU]
 have h:(2:Int)^56=72057594037927936:=by decide
 rw[h]
 omega
set_option maxRecDepth 100000 in
set_option maxHeartbeats 1000000 in
theorem rword(A:Option Addr)(n c:Nat)(xs:List Int)(w:World)(h:EncW.Data w (.slice A n c) xs)(at_:Nat)(ha:at_≤xs.length)(hlen:xs.length≤1000000000):Calls Tryz.prog 164 #[.slice A n c,.int .i64 at_] w fun e w'=>e=.returned (.int .u64 (Sip.wordAt xs at_))∧w'=w:=by
 obtain⟨A',c',e,h0⟩:=id h
 injection e with e1 e2 e3
 subst e2
 have HD:=Lib.hid h
 clear h0 e1 e3 h
 go_enter Tryz.func164,Tryz.ntmps164
 go_wp2_with fail
 go_loopg [5,6] 8 (fun gg s5 s6 wr=>∃j:Nat,j+gg=8∧at_+j≤xs.length∧s6=.int .i64 j∧s5=.int .u64 (Sip.lit ((xs.drop at_).take j) 0 0)∧wr=w)
 case atStart=>exact⟨0,by omega,by omega,rfl,rfl,rfl⟩
 case round=>
  obtain⟨j,hj,hj2,rfl,rfl,rfl⟩:=hrel
  obtain⟨q,hq⟩:∃q:Nat,q=at_+j:=⟨_,rfl⟩
  have hz:(at_:Int)+(j:Int)=(q:Int):=by omega
  have hqw:IntKind.i64.wrap (q:Int)=q:=IntWalk.i64_in _ (by omega)
  by_cases hj8:j<8
  ·have hj8z:(j:Int)<8:=by omega
   by_cases hjn:q<xs.length
   ·obtain⟨b,off,rfl,hc,x0,x1⟩:=data_at HD.out hjn
    have hjd:j<(xs.drop at_).length:=by simp;omega
    have hs:(xs.drop at_).take (j+1)=(xs.drop at_).take j++[xs[q]]:=by
     subst hq
     rw[List.take_succ_eq_append_getElem hjd,List.getElem_drop]
    have hl:((xs.drop at_).take j).length=j:=by simp;omega
    have hlit:Sip.lit ((xs.drop at_).take (j+1)) 0 0=Sip.orr (Sip.lit ((xs.drop at_).take j) 0 0) (Sip.w64 (xs[q]*2^(8*j))):=by rw[hs,Sip.lit_snoc,hl,Nat.zero_add]
    have HLIT:=Lib.hid hlit
    clear hlit hs hl hjd
    generalize Sip.lit ((xs.drop at_).take j) 0 0=m0 at *
    generalize xs[q]=x at *
    have hw:IntKind.u64.wrap x=x:=by rw[Sip.wrapU];omega
    have hwj:IntKind.u64.wrap (j:Int)=j:=by rw[Sip.wrapU];omega
    have hw8:IntKind.u64.wrap (8*(j:Int))=8*(j:Int):=by rw[Sip.wrapU];omega
    have hjz:(q:Int)<xs.length:=by omega
    have HA:=Lib.hid (And.intro hq hj2)
    clear hq hj2 ha
    go_wp2_with fail
    have hq:=HA.out.1
    go_roundg (8-(j+1))
    case measure=>omega
    case rel=>exact⟨j+1,by omega,by omega,by simp,by rw[HLIT.out];rfl,rfl⟩
   ·have hjz:¬(q:Int)<xs.length:=by omega
    have hjz2:(xs.length:Int)≤(q:Int):=by omega
    have he:(xs.drop at_).take j=(xs.drop at_).take 8:=by rw[List.take_of_length_le (by simp;omega),List.take_of_length_le (by simp;omega)]
    have h9:(xs.length:Int)<(at_:Int)+8:=by omega
    have HF:=Lib.hid (show Sip.wordAt xs at_=Sip.orr (Sip.lit ((xs.drop at_).take 8) 0 0) (Sip.w64 (((xs.length%256:Nat):Int)*2^56)) by unfold Sip.wordAt;simp only;rw[if_pos (by omega)])
    rw[he]
    clear hq hj2 he
    go_wp2_with fail
    go_ret
    exact⟨by rw[HF.out,top_val];rfl,rfl⟩
  ·obtain rfl:j=8:=by omega
   by_cases h9:xs.length<at_+8
   ·have h9z:(xs.length:Int)<(at_:Int)+8:=by omega
    have HF:=Lib.hid (show Sip.wordAt xs at_=Sip.orr (Sip.lit ((xs.drop at_).take 8) 0 0) (Sip.w64 (((xs.length%256:Nat):Int)*2^56)) by unfold Sip.wordAt;simp only;rw[if_pos (by omega)])
    clear hq hj2 h9
    go_wp2_with fail
    go_ret
    exact⟨by rw[HF.out,top_val];rfl,rfl⟩
   ·have h9z:¬(xs.length:Int)<(at_:Int)+8:=by omega
    have HF:=Lib.hid (show Sip.wordAt xs at_=Sip.lit ((xs.drop at_).take 8) 0 0 by unfold Sip.wordAt;simp only;rw[if_neg (by omega)])
    clear hq hj2 h9
    go_wp2_with fail
    go_ret
    exact⟨by rw[HF.out];rfl,rfl⟩
end SipW
namespace EvS
set_option maxRecDepth 1000000
open Go.RowKit Ev
abbrev u (x:Int):Value:=.int .u64 x
def kn(f:FuncId)(args:List XV):Option Value:=if f=161 then(match args with
 | [.v (.one (.con (.int .u64 x))),.v (.one (.con (.int .i64 k)))]=>if k=13∨k=16∨k=17∨k=21∨k=32 then some (u (Sip.rotl x k.toNat)) else none
 | _=>none) else none
theorem kn_ok:KnOk Tryz.prog kn:=by
 intro f args v h
 unfold kn at h
 split at h
 ·rename_i hf
  subst hf
  split at h
  ·rename_i x k
   split at h
   ·rename_i hk
    cases h
    refine⟨⟨_,Tryz.func161,by kernel_rfl,by kernel_rfl⟩,fun σ w=>?_⟩
    have ht:SipW.TurnK k.toNat:=by unfold SipW.TurnK;omega
    have:=SipW.turn x k.toNat ht w
    rw[show((k.toNat:Nat):Int)=k by omega] at this
    refine this.mono ?_
    rintro e w' ⟨rfl,rfl⟩
    exact⟨rfl,Below.refl _ _⟩
   ·cases h
  ·cases h
 ·cases h
def cells(s:Sip.S4):List SV:=[.con (u s.a),.con (u s.b),.con (u s.c),.con (u s.d)]
def st0(s:Sip.S4):St:=⟨1,[(0,some ⟨230,cells s,none⟩)],0,0⟩
def outC(o:Option (XV×St)):Option (List SV):=match o with
 | some (.tup [],S)=>match S.get 0 with
   | some ⟨ty,cs,none⟩=>if ty=230 then some cs else none
   | _=>none
 | _=>none
theorem rounds4(a b c d:Int):outC (runX Tryz.prog Sy.cx kn 100 20 139 [.v (.one (.ptr 0 0)),.v (.one (.con (.int .i64 4)))] (st0 ⟨a,b,c,d⟩))=some (cells (Sip.rnds 4 ⟨a,b,c,d⟩)):=by kernel_rfl
theorem word(a b c d m:Int):outC (runX Tryz.prog Sy.cx kn 100 20 137 [.v (.one (.ptr 0 0)),.v (.one (.con (u m)))] (st0 ⟨a,b,c,d⟩))=some (cells (Sip.word ⟨a,b,c,d⟩ m)):=by kernel_rfl
end EvS
end Go.Proofs.YtmadfhgiaonnlaaGreatDoor
