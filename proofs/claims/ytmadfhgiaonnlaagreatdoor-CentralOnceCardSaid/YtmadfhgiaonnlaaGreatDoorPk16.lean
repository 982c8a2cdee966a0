import Derived.Test.YtmadfhgiaonnlaaGreatDoorPk15
open Go renaming wp_mono->im
open Go.Code renaming rounds->aba
open Go.Exit renaming inBlock->wk
open Go.Proofs.Tryz renaming prog->ab
open Go.Result renaming andThen_ok->aq
open Go.Sem renaming run_bind->ai
open List renaming mapM_cons->tl
open Option.some renaming injEq->bc
open Prod.mk renaming injEq->qa
open Bool renaming false->ns,true->nr
open Go renaming FuncId->mb,Program->ma,Value->ny,World->nu,maxLen->mf,undef->mc
open Go.Ending renaming returned->np
open Go.Value renaming bool->ni
open Option renaming none->V,some->I
set_option maxRecDepth 1000000
set_option linter.unusedVariables false
set_option linter.unusedSimpArgs false
namespace Go.Proofs.YtmadfhgiaonnlaaGreatDoor
namespace Ev
open Go.RowKit
open Sy (Cx TD qzu yj Ex qj8 q8x rv qu8)
def qfn(f:jy->St->Option (Ex×jy×St)):Nat->jy->St->Option (Ex×jy×St)
 | 0,_,_=>V
 | n+1,env,S=>match f env S with
   | some (.nrm,e,S')=>qfn f n e S'
   | some (.ext i,e,S')=>I (.ext i,e,S')
   | some (.ret,e,S')=>I (.ret,e,S')
   | none=>V
def qq5(P:ma)(cx:Cx)(r:qqe)(N K:Nat):Code->jy->St->Option (Ex×jy×St)
 | .skip,env,S=>I (.nrm,env,S)
 | .label _,env,S=>I (.nrm,env,S)
 | .ret,env,S=>I (.ret,env,S)
 | .exit id,env,S=>I (.ext id,env,S)
 | .region _ ops ns,env,S=>if ops.toList.all (λo=>qbq N o.dst) then match qgr P cx r ops ops.toList env S with
    | some (e,S')=>I (.nrm,e,S')
    | none=>V
   else V
 | .region _ ops nr,env,S=>match qik P cx r N ops env S with
   | some (e,S')=>I (.nrm,e,S')
   | none=>V
 | .seq a b,env,S=>match qq5 P cx r N K a env S with
   | some (.nrm,e,S')=>qq5 P cx r N K b e S'
   | some (.ext i,e,S')=>I (.ext i,e,S')
   | some (.ret,e,S')=>I (.ret,e,S')
   | none=>V
 | .cond x a b,env,S=>match qjj env x with
   | some (.bool nr)=>qq5 P cx r N K a env S
   | some (.bool ns)=>qq5 P cx r N K b env S
   | _=>V
 | .block id b,env,S=>match qq5 P cx r N K b env S with
   | some (x,e,S')=>I (qj8 id x,e,S')
   | none=>V
 | .scope b,env,S=>qq5 P cx r N K b env S
 | .loop b,env,S=>qfn (qq5 P cx r N K b) K env S
 | _,_,_=>V
def qcx:Nat->List XV->jy
 | _,[]=>[]
 | i,x::r=>(i,x)::qcx (i+1) r
def qi4(cx:Cx)(env:jy):List ResultVar->St->Option (List TV×St)
 | [],S=>I ([],S)
 | .tmp t::r,S=>match lk env t with
   | some (.v tv)=>match qi4 cx env r S with
     | some (l,S')=>I (tv::l,S')
     | none=>V
   | _=>V
 | .cell ad t::r,S=>match lk env ad with
   | some (.v (.one s))=>match qc7 cx S t s with
     | some (.v tv,S1)=>match qi4 cx env r S1 with
       | some (l,S')=>I (tv::l,S')
       | none=>V
     | _=>V
   | _=>V
def outX:List TV->XV
 | [t]=>.v t
 | l=>.tup l
def isExt:Ex->Bool
 | .ext _=>nr
 | _=>ns
def qwn(P:ma)(cx:Cx)(K:Nat)(r:qqe):qqe:=λf args S=>match P.funcs[f]? with
 | some fn=>match fn.body with
   | some code=>if(fn.name != "runtime.NumGoroutine") && decide (args.length≤fn.ntmps) then match qq5 P cx r fn.ntmps K code (qcx 0 args) S with
      | some (ex,env,S1)=>if isExt ex then V else match qi4 cx env fn.results.toList S1 with
        | some (tvs,S2)=>I (outX tvs,S2)
        | none=>V
      | none=>V
     else V
   | none=>V
 | none=>V
section
variable {P:ma}{cx:Cx}{M:Nat->Prop}{N K:Nat}{σ0 σ:Nat->Nat}{S S' S1:St}{env env':jy}{a a':Act}{w w':nu}{r:qqe}
def qjv(M:Nat->Prop)(N:Nat)(σ:Nat->Nat)(S:St)(w:nu)(ex:Ex)(env':jy)(S':St):Exit->Act->nu->Prop:=λe a' w'=>e=ex.exit/\Nx M N σ S w S' env' a' w'
def qpz(P:ma)(N:Nat)(c:Code)(f:jy->St->Option (Ex×jy×St)):Prop:=∀env S ex env' S',f env S=I (ex,env',S')->qqv S S'/\∀{M:Nat->Prop} {σ:Nat->Nat} {a:Act} {w:nu},Mod M N σ S env a w->(∀g,S'.ac.testBit g=nr->M g)->c.wp P (qjv M N σ S w ex env' S') a w
theorem q6o{c:Code}{ex:Ex}(g1:qqv S S1)(g2:qqv S1 S'){σ1:Nat->Nat}{w1:nu}{a1:Act}(h1:yw S.nx σ σ1)(h2:∀g,S1.nx<=g->σ1 g=σ g)(h4:Fr σ σ1 S S1 w w1)(h:c.wp P (qjv M N σ1 S1 w1 ex env' S') a1 w1):c.wp P (qjv M N σ S w ex env' S') a1 w1:=
 im h (λe a2 w2 ⟨e1,hn⟩=>⟨e1,Nx.step g1 g2 h1 h2 h4 hn⟩)
theorem qe5{c:Code}{f:jy->St->Option (Ex×jy×St)}(hf:qpz P N c f):∀(n:Nat) {env:jy} {S:St} {ex:Ex} {env':jy} {S':St},qfn f n env S=I (ex,env',S')->qqv S S'
 | 0,env,S,ex,env',S',h=>by cases h
 | n+1,env,S,ex,env',S',h=>by
   unfold qfn at h;split at h
   .rename_i e S1 h1;exact(hf env S _ _ _ h1).1.trans (qe5 hf n h)
   .rename_i i e S1 h1;cases h;exact(hf env S _ _ _ h1).1
   .rename_i e S1 h1;cases h;exact(hf env S _ _ _ h1).1
   .cases h
theorem qpg{c:Code}{f:jy->St->Option (Ex×jy×St)}(hf:qpz P N c f):∀(n:Nat) {env:jy} {S:St} {ex:Ex} {env':jy} {S':St} {σ:Nat->Nat} {a:Act} {w:nu},qfn f n env S=I (ex,env',S')->Mod M N σ S env a w->(∀g,S'.ac.testBit g=nr->M g) ->
  aba P c (qjv M N σ S w ex env' S') n a w
 | 0,env,S,ex,env',S',σ,a,w,h,_,_=>by cases h
 | n+1,env,S,ex,env',S',σ,a,w,h,hm,hM=>by
   unfold qfn at h;rw[rounds_succ];split at h
   .rename_i e S1 h1;have g2:=qe5 hf n h;obtain⟨g1,hw⟩:=hf env S _ _ _ h1;refine im (hw hm (λg hg=>hM g (g2.ac g hg))) ?_;rintro e1 a1 w1 ⟨rfl,σ1,n1,n2,n3,n4⟩;have:=qpg hf n h n3 hM;refine rounds_mono n _ _ this (λe2 a2 w2 ⟨q1,q2⟩=>⟨q1,Nx.step g1 g2 n1 n2 n4 q2⟩)
   .rename_i i e S1 h1;cases h;obtain⟨g1,hw⟩:=hf env S _ _ _ h1;refine im (hw hm hM) ?_;rintro e1 a1 w1 ⟨rfl,hn⟩;exact⟨rfl,hn⟩
   .rename_i e S1 h1;cases h;obtain⟨g1,hw⟩:=hf env S _ _ _ h1;refine im (hw hm hM) ?_;rintro e1 a1 w1 ⟨rfl,hn⟩;exact⟨rfl,hn⟩
   .cases h where
 rounds_mono {c:Code} {Q Q':Exit->Act->nu->Prop}:∀(n:Nat) (a:Act) (w:nu),aba P c Q n a w->(∀e a w,Q e a w->Q' e a w)->aba P c Q' n a w
 | 0,_,_,h,_=>h
 | n+1,a,w,h,hq=>by
   rw[rounds_succ] at h ⊢;refine im h (λe a1 w1 he=>?_);cases e with
   | normal=>exact rounds_mono n a1 w1 he hq
   | exit i=>exact hq _ _ _ he
   | goto l=>exact hq _ _ _ he
   | ret=>exact hq _ _ _ he
   | panic ch=>exact hq _ _ _ he
   | outgrown=>exact hq _ _ _ he
theorem qyq(hcx:yj P cx)(hr:qxu P r)(hmix:P.follows .mixedOrders=nr):∀c:Code,qpz P N c (qq5 P cx r N K c)
 | .skip=>λenv S ex env' S' h=>by
   simp only[qq5,bc,qa] at h;obtain⟨rfl,rfl,rfl⟩:=h;exact⟨qqv.refl _,λhm hM=>wp_skip ⟨rfl,Nx.refl hm⟩⟩
 | .label l=>λenv S ex env' S' h=>by
   simp only[qq5,bc,qa] at h;obtain⟨rfl,rfl,rfl⟩:=h;exact⟨qqv.refl _,λhm hM=>wp_label ⟨rfl,Nx.refl hm⟩⟩
 | .ret=>λenv S ex env' S' h=>by
   simp only[qq5,bc,qa] at h;obtain⟨rfl,rfl,rfl⟩:=h;exact⟨qqv.refl _,λhm hM=>wp_ret ⟨rfl,Nx.refl hm⟩⟩
 | .exit id=>λenv S ex env' S' h=>by
   simp only[qq5,bc,qa] at h;obtain⟨rfl,rfl,rfl⟩:=h;exact⟨qqv.refl _,λhm hM=>wp_exit ⟨rfl,Nx.refl hm⟩⟩
 | .region id ops false=>λenv S ex env' S' h=>by
   simp only[qq5] at h;split at h
   .rename_i hd;split at h
    .rename_i e S1 h1;cases h;refine⟨qdu hcx hr h1,λhm hM=>wp_region_list ?_⟩;have hall:∀o∈ops.toList,∀d,o.dst=I d->d<N:=λo ho=>qnw (List.all_eq_true.1 hd o ho)
     exact qip hcx hr (λj o' d ho' hdd=>hall o' (by rw[<-qaq] at ho';exact List.mem_of_getElem? ho') d hdd) hall h1 hm hM (λa' w' hn=>⟨rfl,hn⟩)
    .cases h
   .cases h
 | .region id ops true=>λenv S ex env' S' h=>by
   simp only[qq5] at h;split at h
   .rename_i e S1 h1;cases h;exact⟨q1y hcx hr h1,λhm hM=>q4s hcx hr hmix h1 hm hM (λa' w' hn=>⟨rfl,hn⟩)⟩
   .cases h
 | .seq x y=>λenv S ex env' S' h=>by
   simp only[qq5] at h;split at h
   .rename_i e S1 h1;obtain⟨g1,k1⟩:=qyq hcx hr hmix x env S _ _ _ h1;obtain⟨g2,k2⟩:=qyq hcx hr hmix y e S1 _ _ _ h;refine⟨g1.trans g2,λhm hM=>wp_seq (im (k1 hm (λg hg=>hM g (g2.ac g hg))) ?_)⟩;rintro e1 a1 w1 ⟨rfl,σ1,n1,n2,n3,n4⟩;exact q6o g1 g2 n1 n2 n4 (k2 n3 hM)
   .rename_i i e S1 h1;cases h;obtain⟨g1,k1⟩:=qyq hcx hr hmix x env S _ _ _ h1;refine⟨g1,λhm hM=>wp_seq (im (k1 hm hM) ?_)⟩;rintro e1 a1 w1 ⟨rfl,hn⟩;exact⟨rfl,hn⟩
   .rename_i e S1 h1;cases h;obtain⟨g1,k1⟩:=qyq hcx hr hmix x env S _ _ _ h1;refine⟨g1,λhm hM=>wp_seq (im (k1 hm hM) ?_)⟩;rintro e1 a1 w1 ⟨rfl,hn⟩;exact⟨rfl,hn⟩
   .cases h
 | .cond x y z=>λenv S ex env' S' h=>by
   simp only[qq5] at h;split at h
   .rename_i hc;obtain⟨g1,k1⟩:=qyq hcx hr hmix y env S _ _ _ h;exact⟨g1,λ{M σ a w} hm hM=>wp_cond_true (qz9 (o:=.move x) (hm.on _ σ (yw.refl _ _)) nf hc) (k1 hm hM)⟩
   .rename_i hc;obtain⟨g1,k1⟩:=qyq hcx hr hmix z env S _ _ _ h;exact⟨g1,λ{M σ a w} hm hM=>wp_cond_false (qz9 (o:=.move x) (hm.on _ σ (yw.refl _ _)) nf hc) (k1 hm hM)⟩
   .cases h
 | .block id b=>λenv S ex env' S' h=>by
   simp only[qq5] at h;split at h
   .rename_i x e S1 h1;cases h;obtain⟨g1,k1⟩:=qyq hcx hr hmix b env S _ _ _ h1;refine⟨g1,λhm hM=>wp_block (im (k1 hm hM) ?_)⟩;rintro e1 a1 w1 ⟨rfl,hn⟩;cases x with
    | nrm=>exact⟨rfl,hn⟩
    | ret=>exact⟨rfl,hn⟩
    | ext i=>
      show wk id _ (.exit i) a1 w1;simp only[wk,qj8];split
      .rename_i e;exact⟨rfl,hn⟩
      .rename_i e;exact⟨rfl,hn⟩
   .cases h
 | .scope b=>λenv S ex env' S' h=>by
   simp only[qq5] at h;obtain⟨g1,k1⟩:=qyq hcx hr hmix b env S _ _ _ h;refine⟨g1,λhm hM=>wp_scope_straight (im (k1 hm hM) ?_)⟩;rintro e1 a1 w1 ⟨rfl,hn⟩;cases ex<;>exact⟨rfl,hn⟩
 | .loop b=>λenv S ex env' S' h=>by
   simp only[qq5] at h;exact⟨qe5 (qyq hcx hr hmix b) K h,λhm hM=>wp_loop_rounds K (qpg (qyq hcx hr hmix b) K h hm hM)⟩
 | .rangeFunc _ _ _ _=>λenv S ex env' S' h=>by simp only[qq5] at h;cases h
 | .goto _=>λenv S ex env' S' h=>by simp only[qq5] at h;cases h
 | .refuse _=>λenv S ex env' S' h=>by simp only[qq5] at h;cases h
end
end Ev
namespace Ev
open Go.RowKit
open Sy (Cx TD qzu yj Ex qj8 q8x rv qu8)
variable {kn:mb->List XV->Option ny}
section
variable {P:ma}{cx:Cx}{M:Nat->Prop}{N K:Nat}{σ0 σ:Nat->Nat}{S S' S1:St}{env env':jy}{a a':Act}{w w':nu}{r:qqe}
theorem qlx(hcx:yj P cx):∀{rs:List ResultVar} {S:St} {tvs:List TV} {S':St},qi4 cx env rs S=I (tvs,S')->qqv S S'/\S'.nx=S.nx/\(∀g,S'.get g=S.get g) /\
  ∀{M:Nat->Prop} {J:Nat->Nat} {a:Act} {w:nu},qqz J env a->qfq M J S w->(∀g,S'.ac.testBit g=nr->M g)->(rs.mapM (rv a)).run P w=.ok (tvs.map (TV.den J)) w
 | [],S,tvs,S',h=>by cases h;exact⟨qqv.refl _,rfl,λ_=>rfl,λ_ _ _=>rfl⟩
 | .tmp t::rs,S,tvs,S',h=>by
   unfold qi4 at h;split at h
   .rename_i tv htv;split at h
    .rename_i l S1 h1;cases h;obtain⟨q1,q2,q3,q4⟩:=qlx hcx h1;refine⟨q1,q2,q3,λ{M J a w} he hs hM=>?_⟩;have e1:a.tmps.getD t mc=tv.den J:=he t _ htv;rw[tl,ai,show(rv a (.tmp t)).run P w=.ok (tv.den J) w by simp[rv,e1]];simp only[aq];rw[ai,q4 he hs hM];rfl
    .cases h
   .cases h
 | .cell ad t::rs,S,tvs,S',h=>by
   unfold qi4 at h;split at h
   .rename_i s hs1;split at h
    .rename_i tv S1 h1;split at h
     .rename_i l S2 h2;cases h;obtain⟨q1,q2,q3,q4⟩:=qlx hcx h2;obtain⟨g,B,hB,hS⟩:=qn1 h1;have hnx:S1.nx=S.nx:=by rw[hS];rfl
      have hget:∀g,S1.get g=S.get g:=λg=>by rw[hS];rfl
      refine⟨(by rw[hS];exact qvo S g:qqv S S1).trans q1,q2.trans hnx,λg=>(q3 g).trans (hget g),λ{M J a w} he hs hM=>?_⟩;have e1:a.tmps.getD ad mc=s.den J:=he ad _ hs1;have hld:=qpj (P:=P) hcx h1 (λg hg=>hM g (q1.ac g hg)) hs
      have hp:∃g off,s=.ptr g off:=by
       unfold qc7 at h1;split at h1
       .rename_i g off d hd;exact⟨g,off,rfl⟩
       .cases h1
      obtain⟨g',off,rfl⟩:=hp
      have hrv:(rv a (.cell ad t)).run P w=.ok (tv.den J) w:=by
       simp only[SV.den] at e1 hld;simp only[rv,e1,asAddr,ai,Sem.run_pure,aq];have hld':(loadVar t { block:=J g',off:=off }).run P w=.ok (XV.den J (.v tv)) w:=by simpa[Instr.loadAt,Instr.sureAddr,ai] using hld
       exact hld'
      rw[tl,ai,hrv];simp only[aq];rw[ai,q4 he (hs.congr hget) hM];rfl
     .cases h
    .cases h
   .cases h
theorem qht{J:Nat->Nat}:∀{args:List XV} {i:Nat} {vs:List ny},vs=args.map (XV.den J)->∀t x,lk (qcx i args) t=I x->∃j v,t=i+j/\vs[j]? = I v/\v=x.den J
 | [],i,vs,h,t,x,hx=>by cases hx
 | y::args,i,vs,h,t,x,hx=>by
   subst h;unfold qcx lk at hx;split at hx
   .rename_i e;cases hx;exact⟨0,_,kg,rfl,rfl⟩
   .obtain⟨j,v,h1,h2,h3⟩:=qht (args:=args) (i:=i+1) (vs:=args.map (XV.den J)) rfl t x hx;exact⟨j+1,v,kg,by simpa using h2,h3⟩
theorem q52(σ:Nat->Nat)(tvs:List TV):(if h:(tvs.map (TV.den σ)).toArray.size=1 then(tvs.map (TV.den σ)).toArray[0] else .tuple (tvs.map (TV.den σ)).toArray)=(outX tvs).den σ:=by
 match tvs with
 | []=>rfl
 | [t]=>rfl
 | t::u::l=>
   rw[dif_neg kq];rfl
theorem q43(hcx:yj P cx)(hr:qxu P r)(hmix:P.follows .mixedOrders=nr):qxu P (qwn P cx K r):=by
 intro f args S x S' h;unfold qwn at h;split at h
 .rename_i fn hf;split at h
  .rename_i code hb;split at h
   .rename_i hc;simp only[Bool.and_eq_true,bne_iff_ne,ne_eq,decide_eq_true_eq] at hc;obtain⟨hname,hlen⟩:=hc;split at h
    .rename_i ex env' S1 h1;split at h
     .cases h
     .rename_i hex;split at h
      .rename_i tvs S2 h2;cases h;obtain⟨g1,k1⟩:=qyq (N:=fn.ntmps) (K:=K) hcx hr hmix code _ _ _ _ _ h1;obtain⟨g2,q2,q3,q4⟩:=qlx hcx h2;refine⟨g1.trans g2,⟨fn,hf,by simpa using hname,by rw[hb];rfl⟩,λM σ w H hM vs hvs=>?_⟩;have hal:vs.length=args.length:=by rw[hvs σ (yw.refl _ _),List.length_map]
       have hmod:Mod M fn.ntmps σ S (qcx 0 args) { tmps:=vs.toArray++Array.replicate (fn.ntmps-vs.toArray.size) mc,defers:=[] } w:=by
        refine⟨H,λJ hτ t y hy=>?_,nc,rfl⟩;obtain⟨j,v,e1,e2,e3⟩:=qht (vs:=vs) (hvs J hτ) t y hy;rw[Nat.zero_add] at e1;subst e1;have hia:t<vs.toArray.size:=by have:=(List.getElem?_eq_some_iff.1 e2).1;simpa using this
        rw[<-e3,Array.getD_eq_getD_getElem?,Array.getElem?_append_left hia,List.getElem?_toArray,e2];rfl
       refine calls_of_wp hf hb (im (k1 hmod (λg hg=>hM g (g2.ac g hg))) ?_);rintro e a1 w1 ⟨rfl,σ1,n1,n2,n3,n4⟩;have hs1:=n3.hyp.sat σ1 (yw.refl _ _)
       have hrun:∀J,yw S1.nx σ1 J->(results fn a1.tmps).run P w1=.ok ((outX tvs).den J) w1:=λJ hτ=>by
        rw[qu8,ai,Array.mapM_eq_mapM_toList,Sem.run_map,q4 (n3.env J hτ) (n3.hyp.sat J hτ) hM,<-q52];rfl
       have hkey:a1.defers=[]/\∃v,(results fn a1.tmps).run P w1=.ok v w1/\∃v',Ending.returned v=np v'/\qxb M σ S w (outX tvs) S' v' w1:=by
        refine⟨n3.defers,_,hrun σ1 (yw.refl _ _),_,rfl,σ1,n1,λg hg=>n2 g (by rw[<-q2];exact hg),λJ hτ=>?_,?_⟩
        .rw[q2] at hτ;refine⟨(n3.hyp.sat J hτ).congr q3,?_⟩;have:=(hrun σ1 (yw.refl _ _)).symm.trans (hrun J hτ);injection this
        .have:=Fr.refl σ1 S1 S' w1 (λg B hB=>n3.hyp.lt g B (by rw[<-q3];exact hB));exact n4.trans this g1 g2 n1 (yw.refl _ _)
       cases ex with
       | ext i=>exact absurd rfl hex
       | nrm=>exact hkey
       | ret=>exact hkey
      .cases h
    .cases h
   .cases h
  .cases h
 .cases h
def KnOk(P:ma)(kn:mb->List XV->Option ny):Prop:=∀f args v,kn f args=I v->q8x P f/\∀(σ:Nat->Nat) (w:nu),Calls P f (args.map (XV.den σ)).toArray w λe w'=>e=np v/\Below w.heap.size w w'
def knX(kn:mb->List XV->Option ny)(r:qqe):qqe:=λf args S=>match kn f args with
 | some v=>I (qmo v,S)
 | none=>r f args S
theorem knX_ok(hk:KnOk P kn)(hr:qxu P r):qxu P (knX kn r):=by
 intro f args S x S' h;unfold knX at h;split at h
 .rename_i y hy;cases h;obtain⟨k1,k2⟩:=hk f args _ hy;refine⟨qqv.refl _,k1,λM σ w H hM vs hvs=>?_⟩;have:=k2 σ w;rw[<-hvs σ (yw.refl _ _)] at this;refine this.mono ?_;rintro e w' ⟨rfl,hb⟩;refine⟨_,rfl,σ,yw.refl _ _,λ_ _=>rfl,λJ hτ=>⟨?_,?_⟩,?_⟩
  .have hs:=H.sat J hτ;exact⟨λg B hm hB=>(hs.blk g B hm hB).keep (hb.block _ (hs.blk g B hm hB).lt),hs.inj⟩
  .rw[qk4]
  .exact⟨hb.size,hb.os,hb.tape,hb.output,λb hlt _=>hb.block b hlt,λg B hg hB=>absurd (H.lt g B hB) kg⟩
 .exact hr f args S x S' h
def runX(P:ma)(cx:Cx)(kn:mb->List XV->Option ny)(K:Nat):Nat->qqe
 | 0=>λ_ _ _=>V
 | n+1=>knX kn (qwn P cx K (runX P cx kn K n))
theorem qs7{kn:mb->List XV->Option ny}(hk:KnOk P kn)(hcx:yj P cx)(hmix:P.follows .mixedOrders=nr)(K:Nat):∀n,qxu P (runX P cx kn K n)
 | 0=>λf args S x S' h=>by cases h
 | n+1=>knX_ok hk (q43 hcx (qs7 hk hcx hmix K n) hmix)
def emptyS:St:=⟨0,[],0,0⟩
theorem q1m(hk:KnOk P kn)(hcx:yj P cx)(hmix:P.follows .mixedOrders=nr){K n:Nat}{f:mb}{v:ny}{S':St}(h:runX P cx kn K n f [] emptyS=I (.v (.one (.con v)),S'))(w:nu):Calls P f #[] w λe w'=>e=np v/\Below w.heap.size w w':=by
 obtain⟨g1,g2,g3⟩:=qs7 hk hcx hmix K n f [] emptyS _ _ h;have H:qqu (λ_=>True) (λ_=>0) emptyS w:=⟨λJ _=>⟨λg B _ hB=>(by cases hB),λg g' B B' _ _ hB=>(by cases hB)⟩,λg B hB=>(by cases hB),λ_ _=>trivial⟩;refine(g3 _ _ w H (λ_ _=>trivial) [] (λ_ _=>rfl)).mono ?_;rintro e w' ⟨v',rfl,σ1,-,-,h3,h4⟩;refine⟨by rw[(h3 σ1 (yw.refl _ _)).2];rfl,⟨h4.os,h4.tape,h4.output,h4.size,λb hb=>h4.keep b hb (λg B hg=>absurd hg (by show ¬g<0;omega))⟩⟩
end
end Ev
namespace Ev
open Go.RowKit
def kn(f:mb)(args:List XV):Option ny:=if f=29 then(match args with
 | [.v (.one (.con (.string s)))]=>if s.size<=1000000 then I (.bool (IdW.xy s)) else V
 | _=>V) else V
theorem kn_ok:KnOk ab kn:=by
 intro f args v h;unfold kn at h;split at h
 .rename_i hf;subst hf;split at h
  .rename_i s;split at h
   .rename_i hs;cases h;refine⟨⟨_,Tryz.func29,ki,ki⟩,λσ w=>?_⟩;exact IdW.uj s w (by have:mf=9223372036854775807:=kj;omega)
   .cases h
  .cases h
 .cases h
def isTrue:Option (XV×St)->Bool
 | some (.v (.one (.con (.bool b))),_)=>b
 | _=>ns
theorem q2i{o:Option (XV×St)}(h:isTrue o=nr):∃S,o=I (.v (.one (.con (ni nr))),S):=by
 unfold isTrue at h;split at h
 .subst h;exact⟨_,rfl⟩
 .cases h
theorem example51(w:nu):Calls ab 6 #[] w λe w'=>e=np (ni nr)/\Below w.heap.size w w':=by
 obtain⟨S,h⟩:=q2i (o:=runX ab Sy.cx kn 100 20 6 [] emptyS) ki;exact q1m kn_ok Sy.cxOk Sy.mixed h w
end Ev
end Go.Proofs.YtmadfhgiaonnlaaGreatDoor
