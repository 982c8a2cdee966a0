import Derived.Test.YtmadfhgiaonnlaaGreatDoorPk12
import Derived.Test.YtmadfhgiaonnlaaGreatDoorPk24
set_option linter.unusedVariables false
set_option linter.unusedSimpArgs false
namespace Go.Proofs.YtmadfhgiaonnlaaGreatDoor
namespace Ev
open Go.RowKit
open Sy (Cx TD TdOk CxOk KD kd tdOf qo zo um yl jl yw uh jm run_v run_w Enters bounds_ok xn arr1 arr2)
section
variable{P:Program}{cx:Cx}{M:Nat→Prop}{σ:Nat→Nat}{S S':St}{env:Env}{a:Act}{w w':World}{o:Oper}{r:y8}
theorem gos_box{t:TypeId}{y x:XV}(h:boxX S t y=some (x,S')):Gos S S':=by
 unfold boxX at h
 split at h
 ·cases h;exact vw _ _ _
 ·cases h
theorem gos_alloc{t:TypeId}{x:XV}(h:allocX cx S t=some (x,S')):Gos S S':=by
 unfold allocX at h
 split at h
 ·cases h;exact vw _ _ _
 ·cases h
theorem gos_bslice{t:TypeId}{n:Nat}{ps:List (Nat×Operand)}{x:XV}(h:bsliceX cx S env t n ps=some (x,S')):Gos S S':=by
 unfold bsliceX at h
 split at h
 ·split at h
  ·split at h
   ·split at h
    ·cases h;exact vw _ _ _
    ·cases h
   ·cases h
  ·cases h
 ·cases h
theorem gos_make{t:TypeId}{n c:Value}{x:XV}(h:makeX cx S t n c=some (x,S')):Gos S S':=by
 unfold makeX at h
 split at h
 ·split at h
  ·split at h
   ·cases h;exact vw _ _ _
   ·cases h
  ·cases h
 ·cases h
theorem gos_store{t:TypeId}{s:SV}{y:XV}(h:storeX cx S t s y=some S'):Gos S S':=by
 unfold storeX at h
 split at h
 ·split at h
  ·rename_i B hB
   split at h
   ·cases h;exact gos_set hB
   ·cases h
  ·cases h
 ·cases h
theorem gos_app{t:TypeId}{s x:SV}{y:XV}(h:appX cx S t s x=some (y,S')):Gos S S':=by
 unfold appX at h
 split at h
 ·split at h
  ·split at h
   ·rename_i n2 src S1 hsrc
    obtain⟨q1,-⟩:=srcX_ok (M:=fun _=>True) hsrc
    split at h
    ·split at h
     ·split at h
      ·cases h;exact q1
      ·cases h;exact q1.trans (vw _ _ _)
     ·split at h
      ·rename_i B hB
       split at h
       ·split at h
        ·cases h;exact q1.trans (gos_set hB)
        ·cases h
       ·split at h
        ·cases h;exact q1.trans ((gos_touch _ _).trans (vw _ _ _))
        ·cases h
      ·cases h
     ·split at h
      ·split at h
       ·split at h
        ·cases h;exact q1.trans (vw _ _ _)
        ·cases h
       ·cases h
      ·cases h
     ·cases h
    ·cases h
   ·cases h
  ·cases h
 ·cases h
theorem StepX.comp(H:Hyp M σ S w){x:XV}(h:∀τ,Agr S.nx σ τ→(execOp a.eval o).run P w=.ok (.value (x.den τ)) w):StepX P M σ S w a o x S:=by
 unfold StepX
 rw[h σ (Agr.refl _ _)]
 refine aft_same H rfl (fun _=>rfl) (fun τ hτ=>?_)
 have:=(h σ (Agr.refl _ _)).symm.trans (h τ hτ)
 injection this with h1
 injection h1
theorem den_ones(σ:Nat→Nat)(l:List SV):(l.map (fun s=>XV.v (.one s))).map (XV.den σ)=dens σ l:=by
 rw[xg,List.map_map];rfl
theorem call_run{f:FuncId}{fv:Operand}{args:Array Operand}{ats:Array TypeId}{p q:Array Value}(ho:o.op=.call { callee:=.value fv,args,argTypes:=ats })(hf:a.eval fv=.func (.func f) p q)(hE:Enters P f) :
  (execOp a.eval o).run P w=.ok (.enter f (p++args.map a.eval++q)) w:=by
 obtain⟨fn,hf1,hf2,hf3⟩:=hE
 simp only[execOp,ho,resolve,Sem.run_bind]
 rw[hf]
 simp only[Deferred.ofValue,Sem.run_pure,Result.andThen_ok,invoke,callFunc,Sem.run_bind,run_program,hf1]
 rw[if_neg (by rw[hf2];simp),if_neg (by rw[hf3];simp)]
 simp
theorem opX_ok(hcx:CxOk P cx)(hr:ug P r){x:XV}(h:opX P cx r env S o=some (x,S')):Gos S S'∧(∀{M:Nat→Prop} {σ:Nat→Nat} {a:Act} {w:World},Hyp M σ S w→(∀τ,Agr S.nx σ τ→EnvOn τ env o.op a)→(∀g,S'.ac.testBit g=true→M g)→StepX P M σ S w a o x S'):=by
 unfold opX at h
 split at h
 ·rename_i y hy
  cases h
  exact⟨Gos.refl S,fun H he hm=>StepX.comp H (fun τ hτ=>compX_ok hcx hy (he τ hτ))⟩
 ·split at h
  ·rename_i t n parts ho
   refine⟨gos_bslice h,fun {M σ a w} H he hm=>?_⟩
   rw[ho] at he
   obtain⟨v,w',h1,h2⟩:=bsliceX_ok (a:=a) hcx H h (fun τ hτ p hp y hy=>xw (he τ hτ) (opnds_bslice p hp) hy)
   unfold StepX
   rw[show(execOp a.eval o).run P w=.ok (.value v) w' by simp only[execOp,ho];exact run_w h1]
   exact h2
  ·rename_i t ho
   refine⟨gos_alloc h,fun {M σ a w} H he hm=>?_⟩
   obtain⟨v,w',h1,h2⟩:=allocX_ok hcx H h
   unfold StepX
   rw[show(execOp a.eval o).run P w=.ok (.value v) w' by simp only[execOp,ho];exact run_w h1]
   exact h2
  ·rename_i t y ho
   split at h
   ·rename_i z hz
    refine⟨gos_box h,fun {M σ a w} H he hm=>?_⟩
    rw[ho] at he
    obtain⟨v,w',h1,h2⟩:=boxX_ok (P:=P) H h (u:=a.eval y) (fun τ hτ=>xw (he τ hτ) (by simp[Op.operands]) hz)
    unfold StepX
    rw[show(execOp a.eval o).run P w=.ok (.value v) w' by simp only[execOp,ho];exact run_w h1]
    exact h2
   ·cases h
  ·rename_i t y ho
   split at h
   ·rename_i s hs
    obtain⟨g,B,hB,hS⟩:=loadX_nx h
    refine⟨by rw[hS];exact gos_touch S g,fun {M σ a w} H he hm=>?_⟩
    rw[ho] at he
    have hrun:∀τ,Agr S.nx σ τ→(execOp a.eval o).run P w=.ok (.value (x.den τ)) w:=fun τ hτ=>by
     simp only[execOp,ho]
     rw[qi (he τ hτ) (by simp[Op.operands]) hs]
     exact run_v (loadX_ok hcx h hm (H.sat τ hτ))
    unfold StepX
    rw[hrun σ (Agr.refl _ _)]
    refine aft_same H (by rw[hS];rfl) (fun g'=>by rw[hS];rfl) (fun τ hτ=>?_)
    have:=(hrun σ (Agr.refl _ _)).symm.trans (hrun τ hτ)
    injection this with h1
    injection h1
   ·cases h
  ·rename_i t y z ho
   split at h
   ·rename_i s v hs hv
    split at h
    ·rename_i S2 hS2
     cases h
     refine⟨gos_store hS2,fun {M σ a w} H he hm=>?_⟩
     rw[ho] at he
     obtain⟨w',h1,h2⟩:=storeX_ok (P:=P) hcx H hS2 hm (u:=a.eval y) (v:=a.eval z) (fun τ hτ=>qi (he τ hτ) (by simp[Op.operands]) hs) (fun τ hτ=>xw (he τ hτ) (by simp[Op.operands]) hv)
     unfold StepX
     rw[show(execOp a.eval o).run P w=.ok .skip w' by simp only[execOp,ho];rw[Sem.run_bind,h1];rfl]
     exact h2
    ·cases h
   ·cases h
  ·rename_i t n c ho
   split at h
   ·rename_i vn vc hn hc
    refine⟨gos_make h,fun {M σ a w} H he hm=>?_⟩
    rw[ho] at he
    obtain⟨v,w',h1,h2⟩:=makeX_ok hcx H h
    unfold StepX
    rw[show(execOp a.eval o).run P w=.ok (.value v) w' by
     simp only[execOp,ho,je (he σ (Agr.refl _ _)) (by simp[Op.operands]) hn,je (he σ (Agr.refl _ _)) (by simp[Op.operands]) hc]
     exact run_w h1]
    exact h2
   ·cases h
  ·rename_i t y lo hi mx ho
   have key:∀{σ:Nat→Nat} {a:Act} {w:World},EnvOn σ env o.op a→S'=S∧(execOp a.eval o).run P w=.ok (.value (x.den σ)) w:=by
    intro σ a w he
    rw[ho] at he
    have m1:y∈(Op.slice t y lo hi mx).operands:=by simp[Op.operands]
    have ml:∀z,lo=some z→z∈(Op.slice t y lo hi mx).operands:=fun z hz=>by simp[Op.operands,hz]
    have mh:∀z,hi=some z→z∈(Op.slice t y lo hi mx).operands:=fun z hz=>by simp[Op.operands,hz]
    have mm:∀z,mx=some z→z∈(Op.slice t y lo hi mx).operands:=fun z hz=>by simp[Op.operands,hz]
    obtain⟨q1,q2⟩:=sliceX_ok (P:=P) (a:=a) (σ:=σ) (w:=w) hcx h (fun v hv=>cX_den he m1 hv) (fun v hv=>qi he m1 hv)
     (fun z hz=>⟨fun v hv=>je he (ml z hz) hv,fun v hv=>cX_den he (ml z hz) hv⟩) (fun z hz=>⟨fun v hv=>je he (mh z hz) hv,fun v hv=>cX_den he (mh z hz) hv⟩) (fun z hz=>⟨fun v hv=>je he (mm z hz) hv,fun v hv=>cX_den he (mm z hz) hv⟩)
    exact⟨q1,by simp only[execOp,ho];exact run_v q2⟩
   have hS:S'=S:=by
    unfold sliceX at h
    split at h
    ·split at h
     ·obtain⟨v,hv,e⟩:=obind h;cases e;rfl
     ·cases h
    ·split at h
     ·split at h
      ·obtain⟨v,hv,e⟩:=obind h;cases e;rfl
      ·cases h
     ·cases h
   subst hS
   exact⟨Gos.refl _,fun H he hm=>StepX.comp H (fun τ hτ=>(key (he τ hτ)).2)⟩
  ·rename_i args ats ho
   split at h
   ·rename_i s y t t' hs ht
    have e1:=arr2 hs
    have e2:=arr2 ht
    subst e1;subst e2
    split at h
    ·rename_i htt
     subst htt
     split at h
     ·rename_i vs vx hvs hvx
      refine⟨gos_app h,fun {M σ a w} H he hm=>?_⟩
      rw[ho] at he
      have m1:s∈(Op.call { callee:=.builtin .append,args:=#[s,y],argTypes:=#[t,t] }).operands:=by simp[Op.operands,Call.operands]
      have m2:y∈(Op.call { callee:=.builtin .append,args:=#[s,y],argTypes:=#[t,t] }).operands:=by simp[Op.operands,Call.operands]
      obtain⟨v,w',h1,h2⟩:=appX_ok (P:=P) (ty:=o.type) hcx H h hm (u:=a.eval s) (v:=a.eval y) (fun τ hτ=>qi (he τ hτ) m1 hvs) (fun τ hτ=>qi (he τ hτ) m2 hvx)
      unfold StepX
      rw[show(execOp a.eval o).run P w=.ok (.value v) w' by
       simp only[execOp,ho,resolve,invoke,builtin]
       simpa[Sem.run_bind] using run_w h1]
      exact h2
     ·cases h
    ·cases h
   ·cases h
  ·rename_i fv args ats ho
   have hmem:∀x∈args.toList,x∈(Op.call { callee:=.value fv,args,argTypes:=ats }).operands:=fun x hx=>by
    simp only[Op.operands,Call.operands,Array.mem_append]
    exact .inr (Array.mem_toList_iff.1 hx)
   have hmf:fv∈(Op.call { callee:=.value fv,args,argTypes:=ats }).operands:=by simp[Op.operands,Call.operands]
   split at h
   ·rename_i fvs az hf has
    split at h
    ·rename_i f p q hcal
     obtain⟨q1,q2,q3⟩:=hr f _ S x S' h
     refine⟨q1,fun {M σ a w} H he hm=>?_⟩
     rw[ho] at he
     have hfe:∀τ,Agr S.nx σ τ→a.eval fv=.func (.func f) (dens τ p).toArray (dens τ q).toArray:=fun τ hτ=>by rw[qi (he τ hτ) hmf hf];exact calleeX_ok hcal τ
     have hsame:∀τ,Agr S.nx σ τ→dens τ p=dens σ p∧dens τ q=dens σ q:=fun τ hτ=>by
      have:=(hfe σ (Agr.refl _ _)).symm.trans (hfe τ hτ)
      injection this with h1 h2 h3
      have h2:=congrArg Array.toList h2
      have h3:=congrArg Array.toList h3
      exact⟨h2.symm,h3.symm⟩
     have hargs:∀τ,Agr S.nx σ τ→((dens σ p).toArray++args.map a.eval++(dens σ q).toArray).toList=(p.map (fun s=>XV.v (.one s))++az++q.map (fun s=>XV.v (.one s))).map (XV.den τ):=fun τ hτ=>by
      obtain⟨e1,e2⟩:=hsame τ hτ
      rw[List.map_append,List.map_append,den_ones,den_ones,e1,e2,←mapX_eq (g:=a.eval) has (fun y hy z hz=>xw (he τ hτ) (hmem y hy) hz)]
      simp
     unfold StepX
     rw[call_run ho (hfe σ (Agr.refl _ _)) q2]
     have:=q3 M σ w H hm _ hargs
     rw[Array.toArray_toList] at this
     exact this
    ·cases h
   ·cases h
  ·cases h
end
end Ev
namespace Ev
open Go.RowKit
open Sy (Cx TD TdOk CxOk)
structure Mod(M:Nat→Prop)(N:Nat)(σ:Nat→Nat)(S:St)(env:Env)(a:Act)(w:World):Prop where
 hyp:Hyp M σ S w
 env:∀τ,Agr S.nx σ τ→EnvOk τ env a
 size:a.tmps.size=N
 defers:a.defers=[]
def Nx(M:Nat→Prop)(N:Nat)(σ:Nat→Nat)(S:St)(w:World)(S':St)(env':Env)(a':Act)(w':World):Prop:=
 ∃σ1,Agr S.nx σ σ1∧(∀g,S'.nx≤g→σ1 g=σ g)∧Mod M N σ1 S' env' a' w'∧Fr σ σ1 S S' w w'
section
variable{P:Program}{cx:Cx}{M:Nat→Prop}{N:Nat}{σ:Nat→Nat}{S S' S1:St}{env env':Env}{a a':Act}{w w' w1:World}{o:Oper}{r:y8}
theorem Nx.refl(h:Mod M N σ S env a w):Nx M N σ S w S env a w:=⟨σ,Agr.refl _ _,fun _ _=>rfl,h,Fr.refl σ S S w h.hyp.lt⟩
theorem Nx.step{σ1:Nat→Nat}(g1:Gos S S1)(g2:Gos S1 S')(h1:Agr S.nx σ σ1)(h2:∀g,S1.nx≤g→σ1 g=σ g)(h3:Fr σ σ1 S S1 w w1)(h:Nx M N σ1 S1 w1 S' env' a' w'):Nx M N σ S w S' env' a' w':=by
 obtain⟨σ2,k1,k2,k3,k4⟩:=h
 exact⟨σ2,h1.trans k1 g1.nx,fun g hg=>(k2 g hg).trans (h2 g (Nat.le_trans g2.nx hg)),k3,h3.trans k4 g1 g2 h1 k1⟩
def putX(env:Env)(dst:Option Tmp)(x:XV):Env:=match dst with
 | some d=>(d,x)::env
 | none=>env
theorem env_put{τ:Nat→Nat}{dst:Option Tmp}{x:XV}{v:Value}(h:EnvOk τ env a)(hv:v=x.den τ)(hN:a.tmps.size=N)(hd:∀d,dst=some d→d<N):EnvOk τ (putX env dst x) (a.put dst v):=by
 intro t y hy
 cases dst with
 | none=>exact h t y hy
 | some d=>
   have hdN:=hd d rfl
   simp only[putX,lk] at hy
   show(a.tmps.setIfInBounds d v).getD t undef=_
   split at hy
   ·rename_i e
    subst e
    cases hy
    rw[←hv,Array.getD_eq_getD_getElem?,Array.getElem?_setIfInBounds,if_pos rfl,if_pos (by rw[hN];exact hdN)];rfl
   ·rename_i e
    rw[Array.getD_eq_getD_getElem?,Array.getElem?_setIfInBounds,if_neg e,←Array.getD_eq_getD_getElem?]
    exact h t y hy
theorem put_size(a:Act)(dst:Option Tmp)(v:Value):(a.put dst v).tmps.size=a.tmps.size:=by cases dst<;>simp[Act.put]
theorem put_defers(a:Act)(dst:Option Tmp)(v:Value):(a.put dst v).defers=a.defers:=by cases dst<;>rfl
theorem Mod.next{σ1:Nat→Nat}{x:XV}{v:Value}(h:Mod M N σ S env a w)(g:Gos S S1)(h1:Agr S.nx σ σ1)(hs:∀τ,Agr S1.nx σ1 τ→Sat M τ S1 w1∧v=x.den τ){dst:Option Tmp}(hd:∀d,dst=some d→d<N):Mod M N σ1 S1 (putX env dst x) (a.put dst v) w1:=
 ⟨h.hyp.next g (fun τ hτ=>(hs τ hτ).1),fun τ hτ=>env_put (h.env τ (h1.trans hτ g.nx)) (hs τ hτ).2 h.size hd,by rw[put_size];exact h.size,by rw[put_defers];exact h.defers⟩
theorem Mod.on(h:Mod M N σ S env a w)(o:Op):∀τ,Agr S.nx σ τ→EnvOn τ env o a:=fun τ hτ t _ x hx=>h.env τ hτ t x hx
def dstOk(N:Nat)(dst:Option Tmp):Bool:=match dst with
 | some d=>decide (d<N)
 | none=>true
theorem dstOk_ok{dst:Option Tmp}(h:dstOk N dst=true):∀d,dst=some d→d<N:=by
 intro d hd
 subst hd
 exact of_decide_eq_true h
def isB(want:Bool):Value→Bool
 | .bool b=>b == want
 | _=>false
def wantE(ops:Array Oper)(env:Env)(o:Oper):Option Bool:=match o.guard with
 | none=>some true
 | some (j,want)=>match(ops[j]?).bind (·.dst) with
   | some d=>match lk env d with
     | some (.v (.one (.con v)))=>some (isB want v)
     | _=>none
   | none=>none
theorem wantE_ok{ops:Array Oper}{b:Bool}{τ:Nat→Nat}(h:wantE ops env o=some b)(he:EnvOk τ env a)(hN:a.tmps.size=N)(hdst:∀(j:Nat) (o':Oper) (d:Tmp),ops[j]? = some o'→o'.dst=some d→d<N):Region.wanted o (yielded ops a.tmps)=b:=by
 unfold wantE at h
 unfold Region.wanted
 cases hg:o.guard with
 | none=>rw[hg] at h;cases h;rfl
 | some p=>
   obtain⟨j,want⟩:=p
   rw[hg] at h
   simp only at h
   split at h
   ·rename_i d hd
    split at h
    ·rename_i v hβ
     cases h
     have hv:=he d _ hβ
     have hdN:d<N:=by
      cases hq:ops[j]? with
      | none=>rw[hq] at hd;cases hd
      | some o'=>rw[hq] at hd;exact hdst j o' d hq hd
     have hv2:a.tmps[d]? = some v:=by
      rw[Array.getD_eq_getD_getElem?,Array.getElem?_eq_getElem (by rw[hN];exact hdN)] at hv
      rw[Array.getElem?_eq_getElem (by rw[hN];exact hdN)]
      exact congrArg some hv
     clear hv hβ
     have:((match yielded ops a.tmps j with|some x=>some x == some want|none=>false):Bool)=isB want v∧(yielded ops a.tmps j == some want)=isB want v:=by
      unfold yielded
      rw[hd,Option.bind_some,hv2]
      cases v<;>exact⟨rfl,rfl⟩
     exact this.2
    ·cases h
   ·cases h
def seqX(P:Program)(cx:Cx)(r:y8)(ops:Array Oper):List Oper→Env→St→Option (Env×St)
 | [],env,S=>some (env,S)
 | o::rest,env,S=>match wantE ops env o with
   | some true=>match opX P cx r env S o with
     | some (x,S1)=>seqX P cx r ops rest (putX env o.dst x) S1
     | none=>none
   | some false=>seqX P cx r ops rest (putX env o.dst undefX) S
   | none=>none
theorem seqX_gos(hcx:CxOk P cx)(hr:ug P r){ops:Array Oper}:∀{l:List Oper} {env:Env} {S:St} {env':Env} {S':St},seqX P cx r ops l env S=some (env',S')→Gos S S'
 | [],env,S,env',S',h=>by cases h;exact Gos.refl _
 | o::rest,env,S,env',S',h=>by
   unfold seqX at h
   split at h
   ·split at h
    ·rename_i x S1 h1
     exact(opX_ok hcx hr h1).1.trans (seqX_gos hcx hr h)
    ·cases h
   ·exact seqX_gos hcx hr h
   ·cases h
theorem seqX_ok(hcx:CxOk P cx)(hr:ug P r){ops:Array Oper}(hdst:∀(j:Nat) (o':Oper) (d:Tmp),ops[j]? = some o'→o'.dst=some d→d<N):∀{l:List Oper},(∀o∈l,∀d,o.dst=some d→d<N)→∀{env:Env} {S:St} {env':Env} {S':St} {σ:Nat→Nat} {a:Act} {w:World} {Q:Exit→Act→World→Prop},seqX P cx r ops l env S=some (env',S') →
  Mod M N σ S env a w→(∀g,S'.ac.testBit g=true→M g)→(∀a' w',Nx M N σ S w S' env' a' w'→Q .normal a' w')→wpList P ops Q l a w
 | [],_,env,S,env',S',σ,a,w,Q,h,hm,hM,hQ=>by
   cases h
   exact hQ a w (Nx.refl hm)
 | o::rest,hl,env,S,env',S',σ,a,w,Q,h,hm,hM,hQ=>by
   unfold seqX at h
   have hd:=hl o (by simp)
   split at h
   ·rename_i hw
    have hw':=wantE_ok hw (hm.env σ (Agr.refl _ _)) hm.size hdst
    split at h
    ·rename_i x S1 h1
     obtain⟨k1,k2⟩:=opX_ok hcx hr h1
     have k3:=seqX_gos hcx hr h
     have hst:=k2 hm.hyp (hm.on o.op) (fun g hg=>hM g (k3.ac g hg))
     have hK:∀v w1,Aft M σ S w x S1 v w1→wpList P ops Q rest (a.put o.dst v) w1:=fun v w1 ⟨σ1,a1,a2,a3,a4⟩=>
      seqX_ok hcx hr hdst (fun o' ho'=>hl o' (by simp[ho'])) h (hm.next k1 a1 a3 hd) hM (fun a' w' hn=>hQ a' w' (Nx.step k1 k3 a1 a2 a4 hn))
     unfold wpList
     rw[if_pos hw']
     left
     unfold StepX at hst
     unfold Oper.wp
     generalize (execOp a.eval o).run P w=res at hst
     cases res with
     | ok nx w1=>
       cases nx<;>simp only[Reg4.StepOk] at hst<;>simp only[Oper.upon]
       ·exact hK _ _ hst
       ·exact hK _ _ hst
       ·exact hst.mono fun e w2 ⟨v,he,hR⟩=>by subst he;exact hK v w2 hR
     | halt x w1=>simp only[Reg4.StepOk] at hst
    ·cases h
   ·rename_i hw
    have hw':=wantE_ok hw (hm.env σ (Agr.refl _ _)) hm.size hdst
    unfold wpList
    rw[if_neg (by rw[hw'];simp)]
    have hm1:Mod M N σ S (putX env o.dst undefX) (a.put o.dst undef) w:=hm.next (Gos.refl S) (Agr.refl _ _) (fun τ hτ=>⟨hm.hyp.sat τ hτ,rfl⟩) hd
    exact seqX_ok hcx hr hdst (fun o' ho'=>hl o' (by simp[ho'])) h hm1 hM hQ
   ·cases h
end
end Ev
namespace Ev
open Go.RowKit
open Reg4 (dstOf idxOf waits puts)
open Sy (Cx TD TdOk CxOk masks bit Down uz vz)
mutual
def SV.ids:SV→Nat
 | .con _=>0
 | .ptr g _=>2^g
 | .sl g _ _ none _=>2^g
 | .sl g _ _ (some k) _=>2^g ||| 2^k
 | .fn _ a b=>idsL a ||| idsL b
def idsL:List SV→Nat
 | []=>0
 | s::r=>s.ids ||| idsL r
end
def Ag(m:Nat)(σ τ:Nat→Nat):Prop:=∀g,m.testBit g=true→σ g=τ g
theorem Ag.left{m n:Nat}{σ τ:Nat→Nat}(h:Ag (m ||| n) σ τ):Ag m σ τ:=fun g hg=>h g (by rw[tb_or,hg];rfl)
theorem Ag.right{m n:Nat}{σ τ:Nat→Nat}(h:Ag (m ||| n) σ τ):Ag n σ τ:=fun g hg=>h g (by rw[tb_or,hg,Bool.or_true])
theorem Ag.sub{m n:Nat}{σ τ:Nat→Nat}(h:Ag n σ τ)(hs:∀g,m.testBit g=true→n.testBit g=true):Ag m σ τ:=fun g hg=>h g (hs g hg)
mutual
theorem den_congr{σ τ:Nat→Nat}:∀(s:SV),Ag s.ids σ τ→s.den σ=s.den τ
 | .con v,_=>by simp only[SV.den]
 | .ptr g o,h=>by
   have:σ g=τ g:=h g (xe g)
   simp only[SV.den,this]
 | .sl g o n none c,h=>by
   have:σ g=τ g:=h g (xe g)
   simp only[SV.den,this]
 | .sl g o n (some k) c,h=>by
   have h1:σ g=τ g:=h.left g (xe g)
   have h2:σ k=τ k:=h.right k (xe k)
   simp only[SV.den,h1,h2]
 | .fn f a b,h=>by
   simp only[SV.den,dens_congr a h.left,dens_congr b h.right]
theorem dens_congr{σ τ:Nat→Nat}:∀(l:List SV),Ag (idsL l) σ τ→dens σ l=dens τ l
 | [],_=>by simp only[dens]
 | s::r,h=>by simp only[dens,den_congr s h.left,dens_congr r h.right]
end
def TV.ids:TV→Nat
 | .one s=>s.ids
 | .agg l=>idsL l
def idsT:List TV→Nat
 | []=>0
 | t::r=>t.ids ||| idsT r
def XV.ids:XV→Nat
 | .v t=>t.ids
 | .tup l=>idsT l
theorem TV.congr{σ τ:Nat→Nat}(t:TV)(h:Ag t.ids σ τ):t.den σ=t.den τ:=by
 cases t with
 | one s=>exact den_congr s h
 | agg l=>simp only[TV.den,dens_congr l h]
theorem idsT_congr{σ τ:Nat→Nat}:∀(l:List TV),Ag (idsT l) σ τ→l.map (TV.den σ)=l.map (TV.den τ)
 | [],_=>rfl
 | t::r,h=>by rw[List.map_cons,List.map_cons,TV.congr t h.left,idsT_congr r h.right]
theorem XV.congr{σ τ:Nat→Nat}(x:XV)(h:Ag x.ids σ τ):x.den σ=x.den τ:=by
 cases x with
 | v t=>exact TV.congr t h
 | tup l=>simp only[XV.den,idsT_congr l h]
def Blk.ids(B:Blk):Nat:=idsL B.cs ||| (match B.cap with|none=>0|some (k,_)=>2^k)
theorem idsL_mem:∀{l:List SV} {i:Nat} {s:SV},l[i]? = some s→∀g,s.ids.testBit g=true→(idsL l).testBit g=true
 | [],i,s,h,_,_=>by simp at h
 | s'::r,0,s,h,g,hg=>by
   simp only[List.getElem?_cons_zero,Option.some.injEq] at h
   subst h
   rw[idsL,tb_or,hg];rfl
 | s'::r,i+1,s,h,g,hg=>by
   rw[idsL,tb_or,idsL_mem (l:=r) (i:=i) (by simpa using h) g hg,Bool.or_true]
theorem BlkOk.congr{σ τ:Nat→Nat}{B:Blk}{b:Nat}{w:World}(h:BlkOk σ B b w)(ha:Ag B.ids σ τ):BlkOk τ B b w:=by
 obtain⟨cs,h1,h2,h3,h4⟩:=h
 refine⟨cs,h1,h2,?_,fun i s hi=>?_⟩
 ·have ha2:=ha.right
  revert h3 ha2
  cases B.cap with
  | none=>exact fun h _=>h
  | some p=>
    obtain⟨k,sz⟩:=p
    intro h ha2
    have:σ k=τ k:=ha2 k (xe k)
    show cs.size=τ k*sz∧τ k≤maxLen
    rw[←this];exact h
 ·rw[h4 i s hi,den_congr s (ha.left.sub (idsL_mem hi))]
def zeroM(S:St):St:={ S with ac:=0,wr:=0 }
def passX(P:Program)(cx:Cx)(r:y8)(ops:Array Oper):List Oper→Env→St→Option (List (XV×St))
 | [],_,_=>some []
 | o::rest,env,S=>match wantE ops env o with
   | some true=>match opX P cx r env (zeroM S) o with
     | some (x,S1)=>match passX P cx r ops rest (putX env o.dst x) S1 with
       | some l=>some ((x,S1)::l)
       | none=>none
     | none=>none
   | some false=>match passX P cx r ops rest (putX env o.dst undefX) (zeroM S) with
     | some l=>some ((undefX,zeroM S)::l)
     | none=>none
   | none=>none
def stP(S:St)(rs:List (XV×St)):Nat→St
 | 0=>S
 | i+1=>match rs[i]? with
   | some p=>p.2
   | none=>S
def envP:List Oper→List (XV×St)→Env→Nat→Env
 | _,_,env,0=>env
 | o::l,p::rs,env,i+1=>envP l rs (putX env o.dst p.1) i
 | _,_,env,_+1=>env
def atP(P:Program)(cx:Cx)(r:y8)(ops:Array Oper)(env:Env)(S:St)(o:Oper)(p:XV×St):Prop:=
 wantE ops env o=some true∧opX P cx r env (zeroM S) o=some p∨wantE ops env o=some false∧p=(undefX,zeroM S)
theorem stP_cons(S:St)(p:XV×St)(rs:List (XV×St))(i:Nat)(h:i≤rs.length):stP S (p::rs) (i+1)=stP p.2 rs i:=by
 cases i with
 | zero=>rfl
 | succ i=>
   have:(rs[i]?).isSome=true:=by simp;omega
   simp only[stP,List.getElem?_cons_succ]
   cases hq:rs[i]? with
   | none=>rw[hq] at this;cases this
   | some q=>rfl
theorem passX_ok{P:Program}{cx:Cx}{r:y8}{ops:Array Oper}:∀{l:List Oper} {env:Env} {S:St} {rs:List (XV×St)},passX P cx r ops l env S=some rs →
  rs.length=l.length∧∀(i:Nat) (o:Oper) (p:XV×St),l[i]? = some o→rs[i]? = some p→atP P cx r ops (envP l rs env i) (stP S rs i) o p
 | [],env,S,rs,h=>by cases h;exact⟨rfl,fun i o p h=>by simp at h⟩
 | o::l,env,S,rs,h=>by
   unfold passX at h
   split at h
   ·rename_i hw
    split at h
    ·rename_i x S1 h1
     split at h
     ·rename_i rs' h2
      cases h
      obtain⟨k1,k2⟩:=passX_ok h2
      refine⟨by simp[k1],fun i o' p ho hp=>?_⟩
      cases i with
      | zero=>
        simp only[List.getElem?_cons_zero,Option.some.injEq] at ho hp
        subst ho;subst hp
        exact .inl ⟨hw,h1⟩
      | succ i=>
        simp only[List.getElem?_cons_succ] at ho hp
        have:=k2 i o' p ho hp
        rw[stP_cons _ _ _ _ (by have:=(List.getElem?_eq_some_iff.1 hp).1;omega)]
        exact this
     ·cases h
    ·cases h
   ·rename_i hw
    split at h
    ·rename_i rs' h2
     cases h
     obtain⟨k1,k2⟩:=passX_ok h2
     refine⟨by simp[k1],fun i o' p ho hp=>?_⟩
     cases i with
     | zero=>
       simp only[List.getElem?_cons_zero,Option.some.injEq] at ho hp
       subst ho;subst hp
       exact .inr ⟨hw,rfl⟩
     | succ i=>
       simp only[List.getElem?_cons_succ] at ho hp
       have:=k2 i o' p ho hp
       rw[stP_cons _ _ _ _ (by have:=(List.getElem?_eq_some_iff.1 hp).1;omega)]
       exact this
    ·cases h
   ·cases h
theorem lk_put{env:Env}{dst:Option Tmp}{x:XV}{t:Nat}(h:dst≠some t):lk (putX env dst x) t=lk env t:=by
 cases dst with
 | none=>rfl
 | some d=>
   simp only[putX,lk]
   rw[if_neg (fun e=>h (by rw[e]))]
theorem lk_envP_none{t:Nat}:∀{l:List Oper} {rs:List (XV×St)} {env:Env} {i:Nat},(∀(k:Nat) (o:Oper),k<i→l[k]? = some o→o.dst≠some t)→lk (envP l rs env i) t=lk env t
 | _,_,env,0,_=>by unfold envP;rfl
 | [],_,env,i+1,_=>rfl
 | _::_,[],env,i+1,_=>rfl
 | o::l,p::rs,env,i+1,h=>by
   rw[envP,lk_envP_none (fun k o' hk ho'=>h (k+1) o' (by omega) (by simpa using ho'))]
   exact lk_put (h 0 o (by omega) rfl)
theorem lk_envP_some{t:Nat}{o:Oper}{p:XV×St}:∀{l:List Oper} {rs:List (XV×St)} {env:Env} {i k:Nat},k<i→l[k]? = some o→rs[k]? = some p→o.dst=some t→(∀(k':Nat) (o':Oper),k'<i→k'≠k→l[k']? = some o'→o'.dst≠some t)→lk (envP l rs env i) t=some p.1
 | l,rs,env,0,k,h,_,_,_,_=>by omega
 | [],rs,env,i+1,k,_,h,_,_,_=>by simp at h
 | _::_,[],env,i+1,k,_,_,h,_,_=>by simp at h
 | o'::l,p'::rs,env,i+1,0,hk,ho,hp,hd,hn=>by
   simp only[List.getElem?_cons_zero,Option.some.injEq] at ho hp
   subst ho;subst hp
   rw[envP,lk_envP_none (fun k o2 hk2 ho2=>hn (k+1) o2 (by omega) (by omega) (by simpa using ho2)),hd]
   simp[putX,lk]
 | o'::l,p'::rs,env,i+1,k+1,hk,ho,hp,hd,hn=>by
   rw[envP]
   exact lk_envP_some (k:=k) (by omega) (by simpa using ho) (by simpa using hp) hd (fun k' o2 h1 h2 h3=>hn (k'+1) o2 (by omega) (by omega) (by simpa using h3))
def newM(a b:Nat):Nat:=(2^(b-a)-1) <<< a
theorem newM_bit{a b g:Nat}:(newM a b).testBit g=true↔a≤g∧g<b:=by
 unfold newM
 rw[Nat.testBit_shiftLeft,Nat.testBit_two_pow_sub_one]
 simp only[Bool.and_eq_true,decide_eq_true_eq]
 omega
def heapIds(wr:Nat):List (Nat×Option Blk)→Nat
 | []=>0
 | (g,some B)::r=>if wr.testBit g then B.ids ||| heapIds wr r else heapIds wr r
 | (_,none)::r=>heapIds wr r
theorem heapIds_ok{wr:Nat}:∀{H:List (Nat×Option Blk)} {g:Nat} {B:Blk},lk H g=some (some B)→wr.testBit g=true→∀i,B.ids.testBit i=true→(heapIds wr H).testBit i=true
 | [],g,B,h,_,_,_=>by cases h
 | (g',none)::r,g,B,h,hw,i,hi=>by
   unfold lk at h
   split at h
   ·cases h
   ·exact heapIds_ok (H:=r) h hw i hi
 | (g',some B')::r,g,B,h,hw,i,hi=>by
   unfold lk at h
   unfold heapIds
   split at h
   ·rename_i e
    subst e
    cases h
    rw[if_pos hw,tb_or,hi];rfl
   ·have:=heapIds_ok (H:=r) h hw i hi
    split
    ·rw[tb_or,this,Bool.or_true]
    ·exact this
def opIds(p:XV×St):Nat:=p.1.ids ||| p.2.ac ||| (if p.2.wr=0 then 0 else heapIds p.2.wr p.2.H)
def pairOk(ms:List Nat)(rs:List (XV×St))(wr nw j:Nat):Nat→List (XV×St)→Bool
 | _,[]=>true
 | i,p::r=>(decide (i=j) || ((bit ms i j || decide (opIds p &&& nw=0)) && (bit ms i j || bit ms j i || decide (p.2.ac &&& wr=0)))) && pairOk ms rs wr nw j (i+1) r
def checkX(ms:List Nat)(S:St)(rs:List (XV×St)):Nat→Nat→List (XV×St)→Bool
 | _,_,[]=>true
 | j,n0,p::r=>decide (p.2.wr &&& p.2.ac=p.2.wr∧opIds p<2^p.2.nx) && (if p.2.wr=0 then decide (p.2.nx=n0) else pairOk ms rs p.2.wr (newM n0 p.2.nx) j 0 rs) && checkX ms S rs (j+1) p.2.nx r
theorem and_zero{m n g:Nat}(h:m &&& n=0)(h1:m.testBit g=true):n.testBit g=false:=by
 have:(m &&& n).testBit g=false:=by rw[h];exact Nat.zero_testBit g
 rw[Nat.testBit_and,h1,Bool.true_and] at this
 exact this
theorem pairOk_ok{ms:List Nat}{rs:List (XV×St)}{wr nw j:Nat}:∀{l:List (XV×St)} {i0:Nat},pairOk ms rs wr nw j i0 l=true→∀i p,l[i]? = some p→i0+i≠j→(bit ms (i0+i) j=false→opIds p &&& nw=0)∧(bit ms (i0+i) j=false→bit ms j (i0+i)=false→p.2.ac &&& wr=0)
 | [],i0,h,i,p,hp,_=>by simp at hp
 | q::l,i0,h,i,p,hp,hne=>by
   simp only[pairOk,Bool.and_eq_true,Bool.or_eq_true,decide_eq_true_eq] at h
   obtain⟨h1,h2⟩:=h
   cases i with
   | zero=>
     simp only[List.getElem?_cons_zero,Option.some.injEq] at hp
     subst hp
     rw[Nat.add_zero] at hne ⊢
     rcases h1 with h1|⟨h3,h4⟩
     ·exact absurd h1 hne
     ·exact⟨fun e=>by rcases h3 with h|h;rw[e] at h;cases h;exact h,fun e e2=>by rcases h4 with(h|h)|h;rw[e] at h;cases h;rw[e2] at h;cases h;exact h⟩
   | succ i=>
     have:=pairOk_ok h2 i p (by simpa using hp) (by omega)
     rw[show i0+1+i=i0+(i+1) by omega] at this
     exact this
theorem checkX_ok{ms:List Nat}{S:St}{rs:List (XV×St)}:∀{l:List (XV×St)} {j0 n0:Nat},checkX ms S rs j0 n0 l=true→∀j p,l[j]? = some p →
  (∀g,p.2.wr.testBit g=true→p.2.ac.testBit g=true)∧(∀g,(opIds p).testBit g=true→g<p.2.nx)∧∃n,(n=if j=0 then n0 else match l[j-1]? with|some q=>q.2.nx|none=>0)∧(p.2.wr=0→p.2.nx=n)∧(p.2.wr≠0→pairOk ms rs p.2.wr (newM n p.2.nx) (j0+j) 0 rs=true)
 | [],j0,n0,h,j,p,hp=>by simp at hp
 | q::l,j0,n0,h,j,p,hp=>by
   simp only[checkX,Bool.and_eq_true,decide_eq_true_eq] at h
   obtain⟨⟨h1,h2⟩,h3⟩:=h
   cases j with
   | zero=>
     simp only[List.getElem?_cons_zero,Option.some.injEq] at hp
     subst hp
     refine⟨fun g hg=>?_,fun g hg=>?_,n0,rfl,fun e=>?_,fun e=>?_⟩
     ·rw[←h1.1,Nat.testBit_and,Bool.and_eq_true] at hg;exact hg.2
     ·rcases Nat.lt_or_ge g q.2.nx with h4|h4
      ·exact h4
      ·have:(opIds q).testBit g=false:=Nat.testBit_lt_two_pow (Nat.lt_of_lt_of_le h1.2 (Nat.pow_le_pow_right (by omega) h4))
       rw[this] at hg;cases hg
     ·rw[if_pos e] at h2;exact of_decide_eq_true h2
     ·rw[if_neg e] at h2;exact h2
   | succ j=>
     obtain⟨k1,k5,n,k2,k3,k4⟩:=checkX_ok h3 j p (by simpa using hp)
     refine⟨k1,k5,n,?_,k3,by rw[show j0+(j+1)=j0+1+j by omega];exact k4⟩
     rw[if_neg (by omega),k2]
     cases j with
     | zero=>rfl
     | succ j=>simp
def fwdX:Nat→List Nat→Bool
 | _,[]=>true
 | i,x::r=>decide (x<2^i) && fwdX (i+1) r
theorem fwdX_ok:∀{ms:List Nat} {i0:Nat},fwdX i0 ms=true→∀i k,bit ms i k=true→k<i0+i
 | [],i0,h,i,k,hb=>by simp[bit] at hb
 | x::r,i0,h,i,k,hb=>by
   simp only[fwdX,Bool.and_eq_true,decide_eq_true_eq] at h
   cases i with
   | zero=>
     rcases Nat.lt_or_ge k i0 with h1|h1
     ·exact h1
     ·have:x.testBit k=false:=Nat.testBit_lt_two_pow (Nat.lt_of_lt_of_le h.1 (Nat.pow_le_pow_right (by omega) h1))
      have hb':x.testBit k=true:=by simpa[bit] using hb
      rw[this] at hb';cases hb'
   | succ i=>
     have:=fwdX_ok h.2 i k (by simpa[bit] using hb)
     omega
def orM(f:XV×St→Nat):List (XV×St)→Nat
 | []=>0
 | p::r=>f p ||| orM f r
def drawX(P:Program)(cx:Cx)(r:y8)(N:Nat)(ops:Array Oper)(env:Env)(S:St):Option (Env×St):=
 if Reg9g.headG ops ops.size && ops.toList.all (fun o=>dstOk N o.dst) then match passX P cx r ops ops.toList env S with
  | some rs=>if checkX (masks ops.toList []) S rs 0 S.nx rs && fwdX 0 (masks ops.toList []) then some (envP ops.toList rs env ops.size,{ stP S rs ops.size with ac:=S.ac ||| orM (fun p=>p.2.ac) rs,wr:=S.wr ||| orM (fun p=>p.2.wr) rs }) else none
  | none=>none
 else none
theorem orM_bit{f:XV×St→Nat}{g:Nat}:∀{l:List (XV×St)},(orM f l).testBit g=true↔∃(i:Nat) (p:XV×St),l[i]? = some p∧(f p).testBit g=true
 | []=>by simp[orM]
 | q::l=>by
   rw[orM,tb_or,Bool.or_eq_true,orM_bit (l:=l)]
   constructor
   ·rintro(h|⟨i,p,h1,h2⟩)
    ·exact⟨0,q,rfl,h⟩
    ·exact⟨i+1,p,by simpa using h1,h2⟩
   ·rintro⟨i,p,h1,h2⟩
    cases i with
    | zero=>simp only[List.getElem?_cons_zero,Option.some.injEq] at h1;subst h1;exact .inl h2
    | succ i=>exact .inr ⟨i,p,by simpa using h1,h2⟩
end Ev
namespace Ev
open Go.RowKit
open Reg4 (dstOf idxOf waits puts StepOk)
open Reg9g (headG wantV opG)
open Sy (Cx TD TdOk CxOk masks bit Down uz vz)
def RP(S:St)(rs:List (XV×St))(i:Nat):XV×St:=rs.getD i (undefX,S)
def WR(S:St)(rs:List (XV×St))(i g:Nat):Prop:=(RP S rs i).2.wr.testBit g=true
def AC(S:St)(rs:List (XV×St))(i g:Nat):Prop:=(RP S rs i).2.ac.testBit g=true
structure Ctx0(m:Nat)(S:St)(rs:List (XV×St)):Prop where
 len:rs.length=m
 gos:∀i,i<m→Gos (zeroM (stP S rs i)) (stP S rs (i+1))
structure Ctx(ms:List Nat)(m:Nat)(S:St)(rs:List (XV×St)):Prop extends Ctx0 m S rs where
 lt:∀g B,S.get g=some B→g<S.nx
 wrac:∀i g,i<m→WR S rs i g→AC S rs i g
 idnx:∀i g,i<m→(opIds (RP S rs i)).testBit g=true→g<(stP S rs (i+1)).nx
 scope:∀i j,i<m→j<m→i≠j→bit ms i j=false→∀g,(opIds (RP S rs i)).testBit g=true→¬((stP S rs j).nx≤g∧g<(stP S rs (j+1)).nx)
 fwd:∀i k,bit ms i k=true→k<i
 race:∀i j,i<m→j<m→i≠j→bit ms i j=false→bit ms j i=false→∀g,AC S rs i g→¬WR S rs j g
section
variable{P:Program}{cx:Cx}{M:Nat→Prop}{N m:Nat}{σ0:Nat→Nat}{S S':St}{env env':Env}{a a':Act}{w w0 w':World}{o:Oper}{r:y8}{ms:List Nat}{rs:List (XV×St)}{ops:Array Oper}{L:Nat→Bool}
theorem vk{i:Nat}(h:i<rs.length):stP S rs (i+1)=(RP S rs i).2:=by
 simp only[stP,RP,List.getD_eq_getElem?_getD,List.getElem?_eq_getElem h];rfl
theorem get_zero(S:St)(g:Nat):(zeroM S).get g=S.get g:=rfl
theorem Ctx0.nx(h:Ctx0 m S rs){i j:Nat}(hij:i≤j)(hj:j≤m):(stP S rs i).nx≤(stP S rs j).nx:=by
 induction j with
 | zero=>rw[Nat.le_zero.1 hij];exact Nat.le_refl _
 | succ j ih=>
   by_cases e:i=j+1
   ·rw[e];exact Nat.le_refl _
   ·exact Nat.le_trans (ih (by omega) (by omega)) (h.gos j (by omega)).nx
theorem Ctx0.hold(h:Ctx0 m S rs){i j g:Nat}(hij:i≤j)(hj:j≤m)(hg:g<(stP S rs i).nx)(hw:∀k,i≤k→k<j→¬WR S rs k g):(stP S rs j).get g=(stP S rs i).get g:=by
 induction j with
 | zero=>rw[Nat.le_zero.1 hij]
 | succ j ih=>
   by_cases e:i=j+1
   ·rw[e]
   ·rw[←ih (by omega) (by omega) (fun k h1 h2=>hw k h1 (by omega)),←get_zero (stP S rs j)]
    refine(h.gos j (by omega)).hold g (Nat.lt_of_lt_of_le hg (h.nx (by omega) (by omega))) ?_
    have:=hw j (by omega) (by omega)
    unfold WR at this
    rw[←vk (by rw[h.len];omega)] at this
    simpa using this
theorem Ctx0.old(h:Ctx0 m S rs){i j g:Nat}{B:Blk}(hij:i≤j)(hj:j≤m)(hg:g<(stP S rs i).nx)(hB:(stP S rs j).get g=some B):∃B0,(stP S rs i).get g=some B0:=by
 induction j generalizing B with
 | zero=>rw[Nat.le_zero.1 hij];exact⟨B,hB⟩
 | succ j ih=>
   by_cases e:i=j+1
   ·rw[e];exact⟨B,hB⟩
   ·obtain⟨B1,h1⟩:=(h.gos j (by omega)).old g B (Nat.lt_of_lt_of_le hg (h.nx (by omega) (by omega))) hB
    exact ih (by omega) (by omega) h1
theorem Ctx.ltP(h:Ctx ms m S rs){i g:Nat}{B:Blk}(hi:i≤m)(hB:(stP S rs i).get g=some B):g<(stP S rs i).nx:=by
 induction i generalizing g B with
 | zero=>exact h.lt g B hB
 | succ i ih=>exact(h.gos i (by omega)).lt (fun g' B' h'=>ih (by omega) h') g B hB
def Last(S:St)(rs:List (XV×St))(m:Nat)(L:Nat→Bool)(g k:Nat):Prop:=k<m∧L k=true∧WR S rs k g∧∀k',k<k'→k'<m→L k'=true→¬WR S rs k' g
def NoW(S:St)(rs:List (XV×St))(m:Nat)(L:Nat→Bool)(g:Nat):Prop:=∀k,k<m→L k=true→¬WR S rs k g
def Cont(S:St)(rs:List (XV×St))(m:Nat)(L:Nat→Bool)(g:Nat)(B:Blk):Prop:=(∃k,Last S rs m L g k∧(stP S rs (k+1)).get g=some B)∨NoW S rs m L g∧S.get g=some B
theorem last_or(L:Nat→Bool)(g:Nat):(∃k,Last S rs m L g k)∨NoW S rs m L g:=by
 induction m with
 | zero=>exact .inr (fun k hk=>by omega)
 | succ m ih=>
   by_cases h:L m=true∧WR S rs m g
   ·exact .inl ⟨m,by omega,h.1,h.2,fun k' h1 h2=>by omega⟩
   ·rcases ih with⟨k,h1,h2,h3,h4⟩|h1
    ·refine .inl ⟨k,by omega,h2,h3,fun k' q1 q2 q3 q4=>?_⟩
     by_cases e:k'=m
     ·subst e;exact h ⟨q3,q4⟩
     ·exact h4 k' q1 (by omega) q3 q4
    ·refine .inr (fun k hk h2 h3=>?_)
     by_cases e:k=m
     ·subst e;exact h ⟨h2,h3⟩
     ·exact h1 k (by omega) h2 h3
theorem ids_ac{i g:Nat}(h:AC S rs i g):(opIds (RP S rs i)).testBit g=true:=by
 unfold opIds
 rw[tb_or,tb_or,show(RP S rs i).2.ac.testBit g=true from h,Bool.or_true];rfl
theorem ids_x{i g:Nat}(h:(RP S rs i).1.ids.testBit g=true):(opIds (RP S rs i)).testBit g=true:=by
 unfold opIds
 rw[tb_or,tb_or,h];rfl
theorem get_lk{S:St}{g:Nat}{B:Blk}(h:S.get g=some B):lk S.H g=some (some B):=by
 unfold St.get at h
 cases hq:lk S.H g with
 | none=>rw[hq] at h;cases h
 | some b=>rw[hq] at h;simp only at h;rw[h]
theorem ids_blk{k g:Nat}{B:Blk}(hk:k<rs.length)(hw:WR S rs k g)(hB:(stP S rs (k+1)).get g=some B):∀i,B.ids.testBit i=true→(opIds (RP S rs k)).testBit i=true:=by
 intro i hi
 rw[vk hk] at hB
 have hne:¬(RP S rs k).2.wr=0:=fun e=>by
  have:(RP S rs k).2.wr.testBit g=true:=hw
  rw[e,Nat.zero_testBit] at this;cases this
 unfold opIds
 rw[if_neg hne,tb_or,heapIds_ok (get_lk hB) hw i hi,Bool.or_true]
theorem Ctx.made(h:Ctx ms m S rs){i g:Nat}{B:Blk}(hi:i≤m)(hg:S.nx≤g)(hB:(stP S rs i).get g=some B):∃k,k<i∧WR S rs k g:=by
 induction i generalizing B with
 | zero=>have:=h.lt g B hB;omega
 | succ i ih=>
   have hgs:=h.gos i (by omega)
   by_cases hgi:g<(stP S rs i).nx
   ·obtain⟨B0,h0⟩:=hgs.old g B hgi hB
    obtain⟨k,h1,h2⟩:=ih (by omega) h0
    exact⟨k,by omega,h2⟩
   ·have:=hgs.made (fun g' B' h'=>h.ltP (by omega) h') g B (by show(stP S rs i).nx≤g;omega) hB
    rw[vk (by rw[h.len];omega)] at this
    exact⟨i,by omega,this⟩
theorem Ctx.cont(h:Ctx ms m S rs){i g:Nat}{B:Blk}(him:i<m)(hL:L i=false)(hdo:∀k,bit ms i k=true→i≠k→L k=true)(hdn:∀j k,bit ms j k=true→L j=true→L k=true)(hac:AC S rs i g)(hg:g<(stP S rs i).nx)(hB:(stP S rs i).get g=some B):(∃k,k<i∧Last S rs m L g k∧(stP S rs (k+1)).get g=some B)∨NoW S rs m L g∧S.get g=some B:=by
 have hlate:∀k',k'<m→i≤k'→L k'=true→¬WR S rs k' g:=fun k' h1 h2 h3 h4=>by
  have hne:i≠k':=fun e=>by rw[e,h3] at hL;cases hL
  cases q1:bit ms k' i with
  | true=>have:=hdn k' i q1 h3;rw[hL] at this;cases this
  | false=>
    cases q2:bit ms i k' with
    | true=>have:=h.fwd i k' q2;omega
    | false=>exact h.race i k' him h1 hne q2 q1 g hac h4
 have hearly:∀k,k<i→WR S rs k g→L k=true:=fun k h1 h2=>by
  cases q2:bit ms i k with
  | true=>exact hdo k q2 (by omega)
  | false=>
    cases q1:bit ms k i with
    | true=>have:=h.fwd k i q1;omega
    | false=>exact absurd h2 (h.race i k him (by omega) (by omega) q2 q1 g hac)
 rcases last_or (S:=S) (rs:=rs) (m:=m) L g with⟨k,hk⟩|hn
 ·obtain⟨k1,k2,k3,k4⟩:=hk
  have hki:k<i:=by
   rcases Nat.lt_or_ge k i with h1|h1
   ·exact h1
   ·exact absurd k3 (hlate k k1 h1 k2)
  refine .inl ⟨k,hki,⟨k1,k2,k3,k4⟩,?_⟩
  have hgk:g<(stP S rs (k+1)).nx:=by
   have hB':=hB
   rcases Nat.lt_or_ge g (stP S rs (k+1)).nx with h1|h1
   ·exact h1
   ·exfalso
    have:=h.idnx k g k1 (ids_ac (h.wrac k g k1 k3))
    omega
  rw[←hB]
  exact(h.hold (show k+1≤i by omega) (by omega) hgk (fun k' q1 q2 q3=>k4 k' (by omega) (by omega) (hearly k' q2 q3) q3)).symm
 ·refine .inr ⟨hn,?_⟩
  have hgS:g<S.nx:=by
   rcases Nat.lt_or_ge g S.nx with h1|h1
   ·exact h1
   ·exfalso
    obtain⟨k,q1,q2⟩:=h.made (by omega) h1 hB
    exact hn k (by omega) (hearly k q1 q2) q2
  rw[←hB]
  exact(h.hold (show 0≤i by omega) (by omega) hgS (fun k' q1 q2 q3=>hn k' (by omega) (hearly k' q2 q3) q3)).symm
end
end Ev
namespace Ev
open Go.RowKit
open Reg4 (dstOf idxOf waits puts StepOk)
open Reg9g (headG wantV opG)
open Sy (Cx TD TdOk CxOk masks bit Down uz vz)
structure RInv(M:Nat→Prop)(σ0:Nat→Nat)(w0:World)(m:Nat)(S:St)(rs:List (XV×St))(L:Nat→Bool)(vals:Nat→Value)(w:World)(σ:Nat→Nat):Prop where
 agr:Agr S.nx σ0 σ
 out:∀g,(stP S rs m).nx≤g→σ g=σ0 g
 vals:∀k,k<m→L k=true→vals k=(RP S rs k).1.den σ
 blk1:∀g B k,M g→Last S rs m L g k→(stP S rs (k+1)).get g=some B→BlkOk σ B (σ g) w
 blk0:∀g B,M g→NoW S rs m L g→S.get g=some B→∀τ,Agr S.nx σ0 τ→BlkOk τ B (τ g) w
 inj:∀g g' B B',M g→M g'→Cont S rs m L g B→Cont S rs m L g' B'→σ g=σ g'→g=g'
 size:w0.heap.size≤w.heap.size
 os:w.os=w0.os
 tape:w.tape=w0.tape
 output:w.output=w0.output
 keep:∀b,b<w0.heap.size→(∀g B k,g<S.nx→k<m→L k=true→WR S rs k g→S.get g=some B→σ0 g≠b)→w.heap[b]? = w0.heap[b]?
 new:∀g B,S.nx≤g→Cont S rs m L g B→w0.heap.size≤σ g∨∃g0 B0 k,g0<S.nx∧S.get g0=some B0∧k<m∧L k=true∧WR S rs k g0∧σ g=σ0 g0
def Mi(S:St)(rs:List (XV×St))(i:Nat):Nat→Prop:=fun g=>AC S rs i g∨(stP S rs i).nx≤g
section
variable{P:Program}{cx:Cx}{M:Nat→Prop}{N m:Nat}{σ0 σ:Nat→Nat}{S S':St}{env env':Env}{a a':Act}{w w0 w1 w':World}{o:Oper}{r:y8}{ms:List Nat}{rs:List (XV×St)}{ops:Array Oper}{L:Nat→Bool}{vals:Nat→Value}
theorem RInv.ok(inv:RInv M σ0 w0 m S rs L vals w σ){g:Nat}{B:Blk}(hm:M g)(hc:Cont S rs m L g B):BlkOk σ B (σ g) w:=by
 rcases hc with⟨k,h1,h2⟩|⟨h1,h2⟩
 ·exact inv.blk1 g B k hm h1 h2
 ·exact inv.blk0 g B hm h1 h2 σ inv.agr
theorem RInv.hyp(c:Ctx ms m S rs)(inv:RInv M σ0 w0 m S rs L vals w σ){i:Nat}(him:i<m)(hL:L i=false)(hdo:∀k,bit ms i k=true→i≠k→L k=true)(hdn:∀j k,bit ms j k=true→L j=true→L k=true)(hM:∀i g,i<m→AC S rs i g→M g) :
  Hyp (Mi S rs i) σ (zeroM (stP S rs i)) w:=by
 have hnx0:S.nx≤(stP S rs i).nx:=c.nx (show 0≤i by omega) (by omega)
 have hcont:∀g B,Mi S rs i g→(stP S rs i).get g=some B→AC S rs i g∧g<(stP S rs i).nx∧((∃k,k<i∧Last S rs m L g k∧(stP S rs (k+1)).get g=some B)∨NoW S rs m L g∧S.get g=some B):=fun g B hm hB=>by
  have hlt:=c.ltP (by omega) hB
  have hac:AC S rs i g:=by rcases hm with h|h;exact h;omega
  exact⟨hac,hlt,c.cont him hL hdo hdn hac hlt hB⟩
 refine⟨fun τ hτ=>⟨fun g B hm hB=>?_,fun g g' B B' m1 m2 b1 b2 e=>?_⟩,fun g B hB=>c.ltP (by omega) hB,fun g hg=>.inr hg⟩
 ·have hτ':Agr (stP S rs i).nx σ τ:=hτ
  obtain⟨hac,hlt,h|⟨h1,h2⟩⟩:=hcont g B hm hB
  ·obtain⟨k,hk,h1,h2⟩:=h
   have hok:=inv.blk1 g B k (hM i g him hac) h1 h2
   rw[hτ' g hlt]
   refine hok.congr (fun j hj=>(hτ' j ?_).symm)
   have:=c.idnx k j h1.1 (ids_blk (by rw[c.len];exact h1.1) h1.2.2.1 h2 j hj)
   exact Nat.lt_of_lt_of_le this (c.nx (by omega) (by omega))
  ·exact inv.blk0 g B (hM i g him hac) h1 h2 τ (inv.agr.trans hτ' hnx0)
 ·have hτ':Agr (stP S rs i).nx σ τ:=hτ
  obtain⟨hac1,hlt1,h1⟩:=hcont g B m1 b1
  obtain⟨hac2,hlt2,h2⟩:=hcont g' B' m2 b2
  have c1:Cont S rs m L g B:=by rcases h1 with⟨k,-,q1,q2⟩|q;exact .inl ⟨k,q1,q2⟩;exact .inr q
  have c2:Cont S rs m L g' B':=by rcases h2 with⟨k,-,q1,q2⟩|q;exact .inl ⟨k,q1,q2⟩;exact .inr q
  exact inv.inj g g' B B' (hM i g him hac1) (hM i g' him hac2) c1 c2 (by rw[←hτ' g hlt1,←hτ' g' hlt2];exact e)
def Li(L:Nat→Bool)(i:Nat):Nat→Bool:=fun k=>if k=i then true else L k
theorem RInv.step(c:Ctx ms m S rs)(inv:RInv M σ0 w0 m S rs L vals w σ){i:Nat}(him:i<m)(hL:L i=false)(hdo:∀k,bit ms i k=true→i≠k→L k=true)(hdn:∀j k,bit ms j k=true→L j=true→L k=true)(hM:∀i g,i<m→AC S rs i g→M g)
  {v:Value} (ha:Aft (Mi S rs i) σ (zeroM (stP S rs i)) w (RP S rs i).1 (stP S rs (i+1)) v w1):∃σ1,RInv M σ0 w0 m S rs (Li L i) (fun k=>if k=i then v else vals k) w1 σ1:=by
 obtain⟨σ1,a1,a2,a3,a4⟩:=ha
 have a1':Agr (stP S rs i).nx σ σ1:=a1
 obtain⟨s1,e1⟩:=a3 σ1 (Agr.refl _ _)
 have hyp:=inv.hyp c him hL hdo hdn hM
 have hnx0:S.nx≤(stP S rs i).nx:=c.nx (show 0≤i by omega) (by omega)
 have hnxm:(stP S rs (i+1)).nx≤(stP S rs m).nx:=c.nx (by omega) (Nat.le_refl _)
 have hdiff:∀k,k<m→L k=true→k≠i∧bit ms k i=false:=fun k h1 h2=>by
  have hne:k≠i:=fun e=>by rw[e,hL] at h2;cases h2
  refine⟨hne,?_⟩
  cases q:bit ms k i with
  | false=>rfl
  | true=>have:=hdn k i q h2;rw[hL] at this;cases this
 have hsame:∀k,k<m→L k=true→∀g,(opIds (RP S rs k)).testBit g=true→σ1 g=σ g:=fun k h1 h2 g hg=>by
  obtain⟨hne,hb⟩:=hdiff k h1 h2
  have:=c.scope k i h1 him hne hb g hg
  rcases Nat.lt_or_ge g (stP S rs i).nx with h3|h3
  ·exact a1' g h3
  ·exact a2 g (by omega)
 have hwri:∀g,WR S rs i g↔(stP S rs (i+1)).wr.testBit g=true:=fun g=>by
  unfold WR;rw[←vk (by rw[c.len];exact him)]
 have hlast:∀g k,Last S rs m (Li L i) g k→k=i∧WR S rs i g∨k≠i∧Last S rs m L g k∧¬WR S rs i g:=fun g k hk=>by
  obtain⟨k1,k2,k3,k4⟩:=hk
  by_cases e:k=i
  ·subst e;exact .inl ⟨rfl,k3⟩
  ·have hLk:L k=true:=by simpa[Li,e] using k2
   refine .inr ⟨e,⟨k1,hLk,k3,fun k' q1 q2 q3=>k4 k' q1 q2 (by unfold Li;split;rfl;exact q3)⟩,fun hw=>?_⟩
   rcases Nat.lt_or_ge k i with h1|h1
   ·exact k4 i h1 him (by simp[Li]) hw
   ·obtain⟨-,hb⟩:=hdiff k k1 hLk
    cases q:bit ms i k with
    | true=>have:=c.fwd i k q;omega
    | false=>exact c.race i k him k1 (Ne.symm e) q hb g (c.wrac i g him hw) k3
 have hnow:∀g,NoW S rs m (Li L i) g→NoW S rs m L g∧¬WR S rs i g:=fun g h=>⟨fun k h1 h2=>h k h1 (by unfold Li;split;rfl;exact h2),h i him (by simp[Li])⟩
 have hcont:∀g B,Cont S rs m (Li L i) g B→WR S rs i g∧(stP S rs (i+1)).get g=some B∨¬WR S rs i g∧Cont S rs m L g B:=fun g B h=>by
  rcases h with⟨k,h1,h2⟩|⟨h1,h2⟩
  ·rcases hlast g k h1 with⟨rfl,h3⟩|⟨h3,h4,h5⟩
   ·exact .inl ⟨h3,h2⟩
   ·exact .inr ⟨h5,.inl ⟨k,h4,h2⟩⟩
  ·obtain⟨h3,h4⟩:=hnow g h1
   exact .inr ⟨h4,.inr ⟨h3,h2⟩⟩
 have hcold:∀g B,AC S rs i g→(stP S rs i).get g=some B→Cont S rs m L g B:=fun g B hac hB=>by
  rcases c.cont him hL hdo hdn hac (c.ltP (by omega) hB) hB with⟨k,-,q1,q2⟩|q
  ·exact .inl ⟨k,q1,q2⟩
  ·exact .inr q
 have hstay:∀g B,M g→¬WR S rs i g→Cont S rs m L g B→w1.heap[σ g]? = w.heap[σ g]?:=fun g B hm hnw hc=>by
  have hok:=inv.ok hm hc
  refine a4.keep _ hok.lt (fun g' B' h1 h2 h3 e=>?_)
  have hw':=(hwri g').2 h2
  have hac:=c.wrac i g' him hw'
  have:=inv.inj g' g B' B (hM i g' him hac) hm (hcold g' B' hac h3) hc e
  subst this
  exact hnw hw'
 have hnum:∀g B,¬WR S rs i g→Cont S rs m L g B→σ1 g=σ g:=fun g B hnw hc=>by
  rcases hc with⟨k,h1,h2⟩|⟨h1,h2⟩
  ·exact hsame k h1.1 h1.2.1 g (ids_ac (c.wrac k g h1.1 h1.2.2.1))
  ·exact a1' g (Nat.lt_of_lt_of_le (c.lt g B h2) hnx0)
 refine⟨σ1,inv.agr.trans a1' hnx0,fun g hg=>(a2 g (by omega)).trans (inv.out g hg),fun k hk hLk=>?_,fun g B k hm hl hB=>?_,fun g B hm hn hB τ hτ=>?_,fun g g' B B' hm hm' hc hc' e=>?_,Nat.le_trans inv.size a4.size,a4.os.trans inv.os,a4.tape.trans inv.tape,a4.output.trans inv.output,fun b hb hn=>?_,fun g B hg hc=>?_⟩
 ·by_cases e:k=i
  ·subst e;simp only[if_true];exact e1
  ·simp only[if_neg e]
   have hLk':L k=true:=by simpa[Li,e] using hLk
   rw[inv.vals k hk hLk']
   exact XV.congr _ (fun g hg=>(hsame k hk hLk' g (ids_x hg)).symm)
 ·rcases hlast g k hl with⟨rfl,h3⟩|⟨h3,h4,h5⟩
  ·exact s1.blk g B (.inl (c.wrac k g him h3)) hB
  ·have hc:Cont S rs m L g B:=.inl ⟨k,h4,hB⟩
   have hok:=inv.ok hm hc
   rw[hnum g B h5 hc]
   refine(hok.keep (hstay g B hm h5 hc)).congr (fun j hj=>(hsame k h4.1 h4.2.1 j (ids_blk (by rw[c.len];exact h4.1) h4.2.2.1 hB j hj)).symm)
 ·obtain⟨h3,h4⟩:=hnow g hn
  have hc:Cont S rs m L g B:=.inr ⟨h3,hB⟩
  have hgn:=c.lt g B hB
  have e2:τ g=σ g:=by rw[hτ g hgn,inv.agr g hgn]
  refine(inv.blk0 g B hm h3 hB τ hτ).keep ?_
  rw[e2];exact hstay g B hm h4 hc
 ·rcases hcont g B hc with⟨h1,h2⟩|⟨h1,h2⟩<;>rcases hcont g' B' hc' with⟨h3,h4⟩|⟨h3,h4⟩
  ·exact s1.inj g g' B B' (.inl (c.wrac i g him h1)) (.inl (c.wrac i g' him h3)) h2 h4 e
  ·exfalso
   rw[hnum g' B' h3 h4] at e
   have hok:=inv.ok hm' h4
   rcases Nat.lt_or_ge g (stP S rs i).nx with hlt|hge
   ·obtain⟨B0,h0⟩:=(c.gos i him).old g B hlt h2
    rw[a1' g hlt] at e
    have:=inv.inj g g' B0 B' hm hm' (hcold g B0 (c.wrac i g him h1) h0) h4 e
    subst this;exact h3 h1
   ·rcases a4.new g B hge h2 with h5|⟨g0,B0,q1,q2,q3,q4⟩
    ·have:=hok.lt;omega
    ·rw[q4] at e
     have hw0:=(hwri g0).2 q3
     have hac:=c.wrac i g0 him hw0
     have:=inv.inj g0 g' B0 B' (hM i g0 him hac) hm' (hcold g0 B0 hac q2) h4 e
     subst this;exact h3 hw0
  ·exfalso
   rw[hnum g B h1 h2] at e
   have hok:=inv.ok hm h2
   rcases Nat.lt_or_ge g' (stP S rs i).nx with hlt|hge
   ·obtain⟨B0,h0⟩:=(c.gos i him).old g' B' hlt h4
    rw[a1' g' hlt] at e
    have:=inv.inj g g' B B0 hm hm' h2 (hcold g' B0 (c.wrac i g' him h3) h0) e
    subst this;exact h1 h3
   ·rcases a4.new g' B' hge h4 with h5|⟨g0,B0,q1,q2,q3,q4⟩
    ·have:=hok.lt;omega
    ·rw[q4] at e
     have hw0:=(hwri g0).2 q3
     have hac:=c.wrac i g0 him hw0
     have:=inv.inj g g0 B B0 hm (hM i g0 him hac) h2 (hcold g0 B0 hac q2) e
     subst this;exact h1 hw0
  ·exact inv.inj g g' B B' hm hm' h2 h4 (by rw[←hnum g B h1 h2,←hnum g' B' h3 h4];exact e)
 ·have hold:w.heap[b]? = w0.heap[b]?:=inv.keep b hb (fun g B k h1 h2 h3 h4 h5=>hn g B k h1 h2 (by unfold Li;split;rfl;exact h3) h4 h5)
  rw[←hold]
  refine a4.keep b (Nat.lt_of_lt_of_le hb inv.size) (fun g B h1 h2 h3 e=>?_)
  have hw:=(hwri g).2 h2
  have hac:=c.wrac i g him hw
  have hc:=hcold g B hac h3
  rcases Nat.lt_or_ge g S.nx with hlt|hge
  ·obtain⟨B0,h0⟩:=c.old (show 0≤i by omega) (by omega) hlt h3
   exact hn g B0 i hlt him (by simp[Li]) hw h0 (by rw[←inv.agr g hlt];exact e)
  ·rcases inv.new g B hge hc with h5|⟨g0,B0,k,q1,q2,q3,q4,q5,q6⟩
   ·omega
   ·exact hn g0 B0 k q1 q3 (by unfold Li;split;rfl;exact q4) q5 q2 (by rw[←q6];exact e)
 ·have old:∀g B,S.nx≤g→Cont S rs m L g B→w0.heap.size≤σ g∨∃g0 B0 k,g0<S.nx∧S.get g0=some B0∧k<m∧Li L i k=true∧WR S rs k g0∧σ g=σ0 g0:=fun g B hg hc=>by
   rcases inv.new g B hg hc with h5|⟨g0,B0,k,q1,q2,q3,q4,q5,q6⟩
   ·exact .inl h5
   ·exact .inr ⟨g0,B0,k,q1,q2,q3,by unfold Li;split;rfl;exact q4,q5,q6⟩
  rcases hcont g B hc with⟨h1,h2⟩|⟨h1,h2⟩
  ·rcases Nat.lt_or_ge g (stP S rs i).nx with hlt|hge
   ·obtain⟨B0,h0⟩:=(c.gos i him).old g B hlt h2
    rw[a1' g hlt]
    exact old g B0 hg (hcold g B0 (c.wrac i g him h1) h0)
   ·rcases a4.new g B hge h2 with h5|⟨g0,B0,q1,q2,q3,q4⟩
    ·exact .inl (Nat.le_trans inv.size h5)
    ·have hw0:=(hwri g0).2 q3
     have hac:=c.wrac i g0 him hw0
     rw[q4]
     rcases Nat.lt_or_ge g0 S.nx with hlt0|hge0
     ·obtain⟨B1,h0⟩:=c.old (show 0≤i by omega) (by omega) hlt0 q2
      exact .inr ⟨g0,B1,i,hlt0,h0,him,by simp[Li],hw0,inv.agr g0 hlt0⟩
     ·exact old g0 B0 hge0 (hcold g0 B0 hac q2)
  ·rw[hnum g B h1 h2]
   exact old g B hg h2
end
end Ev
end Go.Proofs.YtmadfhgiaonnlaaGreatDoor
