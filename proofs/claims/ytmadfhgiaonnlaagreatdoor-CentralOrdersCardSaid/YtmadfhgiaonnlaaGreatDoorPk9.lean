import Derived.Laws.MakeOwn
import Derived.Laws.Append
import Derived.Test.YtmadfhgiaonnlaaGreatDoorPk8
set_option linter.unusedVariables false
set_option linter.unusedSimpArgs false
namespace Go.Proofs.YtmadfhgiaonnlaaGreatDoor
namespace Sy
open Go.RowKit
def parEnv:Nat→Nat→List PT→List (Nat×XV)
 | _,_,[]=>[]
 | t,nv,.con v::ps=>(t,.v (.one (.con v)))::parEnv (t+1) nv ps
 | t,nv,p::ps=>(t,.v (resTV nv p))::parEnv (t+1) (nv+p.cts.length) ps
def initSt(C:Ctr):St:={ nv:=(zx C.ps).length,env:=parEnv 0 0 C.ps,ty:=number 0 (zx C.ps),fs:=C.pre,bx:=[] }
def resOf(cx:Cx)(S:St):ResultVar→Option TV
 | .tmp t=>match look S.env t with
   | some (.v tv)=>some tv
   | _=>none
 | .cell a t=>match look S.env a with
   | some (.v (.one s))=>match loadA cx S t s with
     | some ⟨.v tv,[],_⟩=>some tv
     | _=>none
   | _=>none
def resFit(S:St)(tb:Tab):PT→TV→Bool
 | .one ct,.one s=>S.has tb s ct
 | .agg l,.agg c=>decide (c.length=l.length) && (c.zip l).all (fun q=>S.has tb q.1 q.2)
 | _,_=>false
def resFits(S:St)(tb:Tab):List PT→List TV→Bool
 | [],[]=>true
 | p::ps,v::vs=>resFit S tb p v && resFits S tb ps vs
 | _,_=>false
def xk(g:Rng)(fs:List Lin):Bool→BE→Bool
 | β,.tt c=>decide (c=β) || ent g fs 5 (Lin.k (-1))
 | true,.ge l=>ent g fs 5 l
 | false,.ge l=>ent g fs 5 ((l.sc (-1)).pl (-1))
 | true,.eq l=>ent g fs 5 l && ent g fs 5 (l.sc (-1))
 | false,.eq l=>ent g fs 5 (l.pl (-1)) || ent g fs 5 ((l.sc (-1)).pl (-1))
 | β,.not a=>xk g fs (!β) a
 | true,.and a b=>xk g fs true a && xk g fs true b
 | false,.and a b=>xk g fs false a || xk g fs false b
 | true,.or a b=>xk g fs true a || xk g fs true b
 | false,.or a b=>xk g fs false a && xk g fs false b
 | _,.var _=>ent g fs 5 (Lin.k (-1))
theorem proveB_ok{g:Rng}{ρ:Val}(hg:g.ok ρ){fs:List Lin}(hf:∀f∈fs,0≤f.eval ρ):∀(e:BE) (β:Bool),xk g fs β e=true→e.den ρ=β:=by
 have hdead:¬ent g fs 5 (Lin.k (-1))=true:=fun h=>by
  have:=xx g ρ hg fs hf _ _ h
  rw[Lin.zh] at this
  omega
 intro e
 induction e with
 | tt c=>intro β h;simp only[xk,Bool.or_eq_true,decide_eq_true_eq] at h;exact h.resolve_right hdead
 | ge l=>
   intro β h
   cases β
   ·have:=xx g ρ hg fs hf _ _ h
    rw[Lin.qp,Lin.yu] at this
    simp only[BE.den,decide_eq_false_iff_not];omega
   ·have:=xx g ρ hg fs hf _ _ h
    simp only[BE.den,decide_eq_true_eq];omega
 | eq l=>
   intro β h
   cases β
   ·simp only[xk,Bool.or_eq_true] at h
    simp only[BE.den,decide_eq_false_iff_not]
    rcases h with h|h
    ·have:=xx g ρ hg fs hf _ _ h
     rw[Lin.qp] at this;omega
    ·have:=xx g ρ hg fs hf _ _ h
     rw[Lin.qp,Lin.yu] at this;omega
   ·simp only[xk,Bool.and_eq_true] at h
    have h1:=xx g ρ hg fs hf _ _ h.1
    have h2:=xx g ρ hg fs hf _ _ h.2
    rw[Lin.yu] at h2
    simp only[BE.den,decide_eq_true_eq];omega
 | var n=>intro β h;cases β<;>exact absurd h hdead
 | not a ih=>intro β h;simp only[xk] at h;simp only[BE.den,ih _ h,Bool.not_not]
 | and a b iha ihb=>
   intro β h
   cases β
   ·simp only[xk,Bool.or_eq_true] at h
    rcases h with h|h
    ·simp[BE.den,iha _ h]
    ·simp[BE.den,ihb _ h]
   ·simp only[xk,Bool.and_eq_true] at h
    simp[BE.den,iha _ h.1,ihb _ h.2]
 | or a b iha ihb=>
   intro β h
   cases β
   ·simp only[xk,Bool.and_eq_true] at h
    simp[BE.den,iha _ h.1,ihb _ h.2]
   ·simp only[xk,Bool.or_eq_true] at h
    rcases h with h|h
    ·simp[BE.den,iha _ h]
    ·simp[BE.den,ihb _ h]
def Lin.below(n:Nat)(l:Lin):Bool:=l.ts.all fun p=>decide (p.2<n)
def BE.belowP(n:Nat):BE→Bool
 | .tt _=>true
 | .ge l=>l.below n
 | .eq l=>l.below n
 | .var _=>false
 | .not a=>BE.belowP n a
 | .and a b=>BE.belowP n a && BE.belowP n b
 | .or a b=>BE.belowP n a && BE.belowP n b
def proveD(g:Rng)(fs:List Lin)(β:Bool)(e:BE):Bool:=(fs.any fun f=>f.ts.isEmpty && decide (f.c<0)) || ent g fs 5 (Lin.k (-1)) || xk g fs β e
theorem proveD_ok{g:Rng}{ρ:Val}(hg:g.ok ρ){fs:List Lin}(hf:∀f∈fs,0≤f.eval ρ)(e:BE)(β:Bool)(h:proveD g fs β e=true):e.den ρ=β:=by
 unfold proveD at h
 rcases(Bool.or_eq_true _ _).mp h with h|h
 ·rcases(Bool.or_eq_true _ _).mp h with h|h
  ·obtain⟨f,hfm,h⟩:=List.any_eq_true.1 h
   simp only[Bool.and_eq_true,List.isEmpty_iff,decide_eq_true_eq] at h
   have:=hf f hfm
   unfold Lin.eval at this
   rw[h.1] at this
   simp only[tsum] at this
   omega
  have:=xx g ρ hg fs hf _ _ h
  rw[Lin.zh] at this
  omega
 ·exact proveB_ok hg hf e β h
def eqBE:BE→BE→Bool
 | .tt a,.tt b=>a == b
 | .ge l,.ge m=>eqL l m
 | .eq l,.eq m=>eqL l m
 | .var n,.var m=>decide (n=m)
 | .not a,.not b=>eqBE a b
 | .and a b,.and c d=>eqBE a c && eqBE b d
 | .or a b,.or c d=>eqBE a c && eqBE b d
 | _,_=>false
theorem eqBE_ok:∀{a b:BE},eqBE a b=true→a=b
 | .tt a,.tt b,h=>by simp only[eqBE,beq_iff_eq] at h;rw[h]
 | .ge l,.ge m,h=>by rw[eqL_ok h]
 | .eq l,.eq m,h=>by rw[eqL_ok h]
 | .var n,.var m,h=>by rw[of_decide_eq_true h]
 | .not a,.not b,h=>by rw[eqBE_ok (a:=a) (b:=b) h]
 | .and a b,.and c d,h=>by
   simp only[eqBE,Bool.and_eq_true] at h
   rw[eqBE_ok h.1,eqBE_ok h.2]
 | .or a b,.or c d,h=>by
   simp only[eqBE,Bool.and_eq_true] at h
   rw[eqBE_ok h.1,eqBE_ok h.2]
def beOk(S:St)(C:Ctr)(tvs:List TV):Bool:=match C.be with
 | none=>true
 | some e=>BE.belowP (zx C.ps).length e && match tvs with
   | [.one s]=>match S.be s with
     | some b=>eqBE b e || proveD S.rng (facts S.rng S.fs true b++S.fs) true e && proveD S.rng (facts S.rng S.fs false b++S.fs) false e
     | none=>false
   | _=>false
def retOk(cx:Cx)(C:Ctr)(results:List ResultVar)(S:St):Bool:=match mapO (resOf cx S) results with
 | some tvs=>resFits S cx.tb C.rs tvs && beOk S C tvs && C.post.all fun l=>match substL (vlins 0 (zx C.ps).length++(tvs.flatMap TV.cells).map SV.meas) l with
   | some m=>S.ent m
   | none=>false
 | none=>false
theorem Lin.below_eval{n:Nat}{l:Lin}(h:l.below n=true){ρ ν:Val}(he:∀x,x<n→ρ x=ν x):l.eval ρ=l.eval ν:=by
 obtain⟨c,ts⟩:=l
 have h':∀p∈ts,p.2<n:=fun p hp=>of_decide_eq_true (List.all_eq_true.1 h p hp)
 have:tsum ρ ts=tsum ν ts:=by
  clear h
  induction ts with
  | nil=>rfl
  | cons p r ih=>
    obtain⟨a,x⟩:=p
    simp only[tsum]
    rw[he x (h' (a,x) (by simp)),ih (fun p hp=>h' p (by simp[hp]))]
 simp only[Lin.eval,this]
theorem BE.ul{n:Nat}{ρ ν:Val}(he:∀x,x<n→ρ x=ν x):∀{e:BE},BE.belowP n e=true→e.den ρ=e.den ν
 | .tt _,_=>rfl
 | .ge l,h=>by simp only[BE.den,Lin.below_eval h he]
 | .eq l,h=>by simp only[BE.den,Lin.below_eval h he]
 | .var _,h=>by cases h
 | .not a,h=>by simp only[BE.den,BE.ul he (e:=a) h]
 | .and a b,h=>by simp only[BE.belowP,Bool.and_eq_true] at h;simp only[BE.den,BE.ul he h.1,BE.ul he h.2]
 | .or a b,h=>by simp only[BE.belowP,Bool.and_eq_true] at h;simp only[BE.den,BE.ul he h.1,BE.ul he h.2]
def isRet:Ex→Bool
 | .ext _=>false
 | _=>true
def fnOk(c:Cfg)(C:Ctr)(code:Code)(results:List ResultVar):Bool:=decide (C.ps.length≤c.N) && C.rs.all noCon && C.pre.all (Lin.below (zx C.ps).length) && match exec c 0 code (initSt C) with
 | some outs=>outs.all fun p=>isRet p.1 && retOk c.cx C results p.2
 | none=>false
section
variable{P:Program}{cx:Cx}{W0:World}{S:St}{base:Nat}{ρ:Val}{T T':Nat→Prop}{w w':World}{a:Act}{Ω:Val→Prop}
theorem parEnv_ok:∀(ps:List PT) (vs:List Value) (t nv:Nat),TyAll cx.tb W0 T w base ps vs→(∀i u,(cellsAll ps vs)[i]? = some u→ρ (nv+i)=u)→∀t' x,look (parEnv t nv ps) t'=some x→∃i v,t'=t+i∧vs[i]? = some v∧v=x.den ρ
 | [],[],t,nv,_,_,t',x,h=>by cases h
 | p::ps,v::vs,t,nv,h,hb,t',x,hx=>by
   obtain⟨h1,h2⟩:=h
   have hrest:∀(n:Nat),(∀i u,(cellsAll ps vs)[i]? = some u→ρ (n+i)=u)→look (parEnv (t+1) n ps) t'=some x→∃i u,t'=t+i∧(v::vs)[i]? = some u∧u=x.den ρ:=fun n hn hl=>by
    obtain⟨i,u,g1,g2,g3⟩:=parEnv_ok ps vs (t+1) n h2 hn t' x hl
    exact⟨i+1,u,by omega,g2,g3⟩
   cases p with
   | con c=>
     simp only[parEnv,look] at hx
     split at hx
     ·rename_i e;cases hx;exact⟨0,v,by omega,rfl,h1⟩
     ·exact hrest nv (fun i u hi=>hb i u (by simpa[cellsAll,PT.cells] using hi)) hx
   | one ct=>
     simp only[parEnv,look] at hx
     obtain⟨g1,g2,g3⟩:=jk h1 rfl
     split at hx
     ·rename_i e
      cases hx
      exact⟨0,v,by omega,rfl,(resTV_den h1 rfl (fun i u hi=>hb i u (by
       simp only[cellsAll];rw[List.getElem?_append_left (List.getElem?_eq_some_iff.1 hi).1];exact hi))).symm⟩
     ·exact hrest _ (fun i u hi=>by
       rw[Nat.add_assoc]
       refine hb _ u ?_
       simp only[cellsAll]
       rw[List.getElem?_append_right (by omega),g2,Nat.add_sub_cancel_left];exact hi) hx
   | agg l=>
     simp only[parEnv,look] at hx
     obtain⟨g1,g2,g3⟩:=jk h1 rfl
     split at hx
     ·rename_i e
      cases hx
      exact⟨0,v,by omega,rfl,(resTV_den h1 rfl (fun i u hi=>hb i u (by
       simp only[cellsAll];rw[List.getElem?_append_left (List.getElem?_eq_some_iff.1 hi).1];exact hi))).symm⟩
     ·exact hrest _ (fun i u hi=>by
       rw[Nat.add_assoc]
       refine hb _ u ?_
       simp only[cellsAll]
       rw[List.getElem?_append_right (by omega),g2,Nat.add_sub_cancel_left];exact hi) hx
theorem params_cells:∀{ps:List PT} {vs:List Value},TyAll cx.tb W0 T w base ps vs→(cellsAll ps vs).length=(zx ps).length∧∀(i:Nat) (ct:CT) (u:Value),(zx ps)[i]? = some ct→(cellsAll ps vs)[i]? = some u→CV cx.tb W0 T w base ct u
 | [],[],_=>⟨rfl,fun i ct u h=>by simp[zx] at h⟩
 | p::ps,v::vs,h=>by
   obtain⟨h1,h2⟩:=h
   obtain⟨k2,k3⟩:=params_cells h2
   have g:(p.cells v).length=p.cts.length∧∀(i:Nat) (ct:CT) (u:Value),p.cts[i]? = some ct→(p.cells v)[i]? = some u→CV cx.tb W0 T w base ct u:=by
    cases p with
    | con c=>exact⟨rfl,fun i ct u h=>by simp[PT.cts] at h⟩
    | one ct=>exact(jk h1 rfl).2
    | agg l=>exact(jk h1 rfl).2
   obtain⟨g2,g3⟩:=g
   refine⟨by simp only[cellsAll,zx,List.flatMap_cons,List.length_append,g2];rw[k2];rfl,fun i ct u h3 h4=>?_⟩
   simp only[zx,List.flatMap_cons] at h3
   simp only[cellsAll] at h4
   by_cases hi:i<p.cts.length
   ·rw[List.getElem?_append_left hi] at h3
    rw[List.getElem?_append_left (by omega)] at h4
    exact g3 i ct u h3 h4
   ·rw[List.getElem?_append_right (by omega)] at h3
    rw[List.getElem?_append_right (by omega),g2] at h4
    exact k3 _ ct u h3 h4
theorem yt:∀{ps:List PT} {vs:List Value},TyAll cx.tb W0 T w base ps vs→ps.length=vs.length
 | [],[],_=>rfl
 | p::ps,v::vs,h=>by simp only[List.length_cons];rw[yt h.2]
theorem resFit_ok{p:PT}{tv:TV}(h:resFit S cx.tb p tv=true)(hs:SatW cx.tb W0 S base ρ T w):TyVal cx.tb W0 T w base p (tv.den ρ)∧p.cells (tv.den ρ)=dens ρ tv.cells:=by
 unfold resFit at h
 split at h
 ·exact⟨uo hs h,rfl⟩
 ·rename_i l c
  simp only[Bool.and_eq_true,decide_eq_true_eq] at h
  refine⟨⟨(dens ρ c).toArray,rfl,by simpa[dens] using h.1,fun i ct u h1 h2=>?_⟩,rfl⟩
  simp only[dens,List.getElem?_toArray,List.getElem?_map] at h2
  cases hq:c[i]? with
  | none=>rw[hq] at h2;cases h2
  | some s=>
    rw[hq] at h2
    cases h2
    exact uo hs (List.all_eq_true.1 h.2 (s,ct) (by
     refine List.mem_iff_getElem?.2 ⟨i,?_⟩
     rw[List.getElem?_zip_eq_some]
     exact⟨hq,h1⟩))
 ·cases h
theorem resFits_ok(hs:SatW cx.tb W0 S base ρ T w):∀{ps:List PT} {tvs:List TV},resFits S cx.tb ps tvs=true→TyAll cx.tb W0 T w base ps (tvs.map (TV.den ρ))∧cellsAll ps (tvs.map (TV.den ρ))=dens ρ (tvs.flatMap TV.cells)
 | [],[],_=>⟨trivial,rfl⟩
 | p::ps,v::vs,h=>by
   simp only[resFits,Bool.and_eq_true] at h
   obtain⟨g1,g2⟩:=resFit_ok h.1 hs
   obtain⟨k1,k2⟩:=resFits_ok hs h.2
   refine⟨⟨g1,k1⟩,?_⟩
   simp only[List.map_cons,cellsAll,g2,k2,dens,List.flatMap_cons,List.map_append]
 | [],_::_,h=>by cases h
 | _::_,[],h=>by cases h
def rv(a:Act):ResultVar→Sem Value
 | .tmp t=>pure (a.tmps.getD t undef)
 | .cell ad t=>do loadVar t (←asAddr (a.tmps.getD ad undef))
theorem resOf_run(hcx:CxOk P cx){r:ResultVar}{tv:TV}(h:resOf cx S r=some tv)(hs:SatW cx.tb W0 S base ρ T w)(he:EnvOk S ρ a):(rv a r).run P w=.ok (tv.den ρ) w:=by
 cases r with
 | tmp t=>
   simp only[resOf] at h
   split at h
   ·rename_i tv' htv
    cases h
    have:a.tmps.getD t undef=tv.den ρ:=he t _ htv
    simp[rv,this]
   ·cases h
 | cell ad t=>
   simp only[resOf] at h
   split at h
   ·rename_i s hsl
    split at h
    ·rename_i tv' f hl
     cases h
     have hv:a.tmps.getD ad undef=s.den ρ:=he ad _ hsl
     obtain⟨r,h1,h2⟩:=loadA_ok (Ω:=fun ρ'=>ρ'=ρ) hcx hl ⟨ρ,rfl⟩ (fun ρ' h=>by rw[h];exact hs) (u:=s.den ρ) (fun ρ' h=>by rw[h])
     obtain⟨h3,-⟩:=h2 ρ rfl (fun i hi=>by simp at hi)
     have hp:∃n off,S.ptr s=some (n,off):=by
      unfold loadA at hl
      split at hl
      ·rename_i n off d hp hd;exact⟨n,off,hp⟩
      ·cases hl
     obtain⟨n,off,hp⟩:=hp
     have hd:=vg hs hp
     rw[hd] at h1 hv
     simp only[rv,hv,asAddr,Sem.run_bind,Sem.run_pure,Result.andThen_ok]
     simp only[Instr.loadAt,Instr.sureAddr,Sem.run_bind,Sem.run_pure,Result.andThen_ok] at h1
     rw[h1,h3];rfl
    ·cases h
   ·cases h
theorem results_run(hcx:CxOk P cx)(hs:SatW cx.tb W0 S base ρ T w)(he:EnvOk S ρ a):∀{rs:List ResultVar} {tvs:List TV},mapO (resOf cx S) rs=some tvs→(rs.mapM (rv a)).run P w=.ok (tvs.map (TV.den ρ)) w
 | [],tvs,h=>by cases h;rfl
 | r::rs,tvs,h=>by
   unfold mapO at h
   split at h
   ·rename_i tv l h1 h2
    cases h
    have ih:=results_run hcx hs he h2
    have hr:=resOf_run hcx h1 hs he
    rw[List.mapM_cons,Sem.run_bind,hr]
    simp only[Result.andThen_ok]
    rw[Sem.run_bind,ih]
    rfl
   ·cases h
theorem results_eq(fn:Func)(a:Act):results fn a.tmps=(do let vs ←fn.results.mapM (rv a);pure (if h:vs.size=1 then vs[0] else .tuple vs)):=by
 unfold results
 congr 2
theorem holds_of{f:FuncId}{fn:Func}{code:Code}{c:Cfg}{C:Ctr}(hf:P.funcs[f]? = some fn)(hb:fn.body=some code)(hname:(fn.name == "runtime.NumGoroutine")=false)(hN:fn.ntmps=c.N)(hcx:CxOk P c.cx)(ht:Truth P c.cx W0 c.step)
  (hd:∀T0 w0,DrawOk P c.cx W0 T0 w0 c.PU c.N c.drawn) (hpu:C.pu=c.PU) (hchk:fnOk c C code fn.results.toList=true):Holds P c.cx W0 f C:=by
 refine⟨⟨fn,hf,hname,by rw[hb];rfl⟩,fun T0 w0 args hwt hty hpre=>?_⟩
 simp only[fnOk,Bool.and_eq_true,decide_eq_true_eq] at hchk
 obtain⟨⟨⟨hlen,hnc⟩,hbel⟩,hex⟩:=hchk
 split at hex
 ·rename_i outs hexec
  have hal:args.size=C.ps.length:=by rw[←Array.length_toList];exact(yt hty).symm
  have hcl:=params_cells hty
  have hsz:(args++Array.replicate (fn.ntmps-args.size) undef).size=c.N:=by simp;omega
  have hlo:W0.heap.size≤w0.heap.size:=hwt.size
  have hρ:∀ρ':Val,(∀n,n<(initSt C).nv→ρ' n=valOf (cellsAll C.ps args.toList) n)→∀i u,(cellsAll C.ps args.toList)[i]? = some u→ρ' (0+i)=u:=fun ρ' h i u hi=>by
   have hi':i<(zx C.ps).length:=by rw[←hcl.1];exact(List.getElem?_eq_some_iff.1 hi).1
   rw[Nat.zero_add,h i hi']
   unfold valOf
   rw[List.getD_eq_getElem?_getD,hi];rfl
  have hmod:Mod c.cx W0 T0 w0 c.PU c.N (initSt C) (valOf (cellsAll C.ps args.toList)) T0 { tmps:=args++Array.replicate (fn.ntmps-args.size) undef,defers:=[] } w0:=by
   refine⟨hsz,rfl,Hist.refl T0 w0 c.PU,fun ρ' h=>?_,fun ρ' h t x hx=>?_⟩
   ·refine⟨hwt,hlo,Nat.le_refl _,fun n ct hm=>?_,fun l hl=>?_,(fun b hb=>by cases hb),(fun b hb=>by cases hb)⟩
    ·obtain⟨i,rfl,hi⟩:=number_mem hm
     have hi':i<(cellsAll C.ps args.toList).length:=by rw[hcl.1];exact(List.getElem?_eq_some_iff.1 hi).1
     have hu:=List.getElem?_eq_getElem hi'
     rw[hρ ρ' h i _ hu]
     exact hcl.2 i ct _ hi hu
    ·have:=hpre l hl
     rw[Lin.below_eval (List.all_eq_true.1 hbel l hl) h]
     exact this
   ·obtain⟨i,v,h1,h2,h3⟩:=parEnv_ok C.ps args.toList 0 0 hty (hρ ρ' h) t x hx
    rw[Nat.zero_add] at h1
    subst h1
    have hia:t<args.size:=by have:=(List.getElem?_eq_some_iff.1 h2).1;simpa using this
    rw[←h3,Array.getD_eq_getD_getElem?,Array.getElem?_append_left hia,←Array.getElem?_toList,h2];rfl
  refine calls_of_wp hf hb (wp_mono (ui ht (hd T0 w0) code 0 hexec hmod) ?_)
  rintro e a' w' ⟨p,hp,rfl,hn⟩
  have hpo:=List.all_eq_true.1 hex p hp
  simp only[Bool.and_eq_true] at hpo
  obtain⟨hret,hro⟩:=hpo
  obtain⟨ex,S'⟩:=p
  obtain⟨ρ',T',n1,n2,n3,n4⟩:=hn
  have hs':=n4.sat ρ' (fun _ _=>rfl)
  have he':=n4.env ρ' (fun _ _=>rfl)
  unfold retOk at hro
  split at hro
  ·rename_i tvs htvs
   simp only[Bool.and_eq_true] at hro
   obtain⟨⟨hfit,hbeok⟩,hpost⟩:=hro
   obtain⟨f1,f2⟩:=resFits_ok hs' hfit
   have hrun:=results_run hcx hs' he' htvs
   have hkey:a'.defers=[]∧∃v,(results fn a'.tmps).run P w'=.ok v w'∧(∃v' vs T',Ending.returned v=.returned v'∧IsRes C.rs v' vs∧TyAll c.cx.tb W0 T' w' w0.heap.size C.rs vs∧(∀l∈C.post,0≤l.eval (valOf (cellsAll C.ps args.toList++cellsAll C.rs vs)))∧BeRes C args.toList vs∧Hist T0 w0 C.pu T' w'∧WT c.cx.tb W0 T' w'):=by
    refine⟨n4.defers,(if h:(tvs.map (TV.den ρ')).toArray.size=1 then(tvs.map (TV.den ρ')).toArray[0] else .tuple (tvs.map (TV.den ρ')).toArray),?_,_,tvs.map (TV.den ρ'),T',rfl,?_,f1,?_,?_,by rw[hpu];exact n4.hist,hs'.wt⟩
    ·rw[results_eq,Sem.run_bind,Array.mapM_eq_mapM_toList,Sem.run_map,hrun]
     rfl
    ·have hl:=yt f1
     unfold IsRes
     split
     ·rename_i p hp1
      rw[hp1] at hl
      have hl1:tvs.length=1:=by simpa using hl.symm
      match tvs,hl1 with
      | [tv],_=>rfl
     ·rename_i hne
      have hl1:¬(tvs.map (TV.den ρ')).toArray.size=1:=by
       intro h
       have:C.rs.length=1:=by rw[hl];simpa using h
       match hrs:C.rs,this with
       | [p],_=>exact hne p hrs
      rw[dif_neg hl1]
    ·intro l hl
     have:=List.all_eq_true.1 hpost l hl
     split at this
     ·rename_i m hm
      have e:=hs'.ent this
      rw[f2]
      rw[substL_ok (ν:=valOf (cellsAll C.ps args.toList++dens ρ' (tvs.flatMap TV.cells))) (fun i l' hl'=>?_) hm] at e
      ·exact e
      ·by_cases hi:i<(zx C.ps).length
       ·have hvl:(vlins 0 (zx C.ps).length).length=(zx C.ps).length:=by
         have:∀k n,(vlins n k).length=k:=by
          intro k
          induction k with
          | zero=>intro n;rfl
          | succ k ih=>intro n;simp[vlins,ih]
         exact this _ _
        rw[List.getElem?_append_left (by omega)] at hl'
        obtain⟨-,rfl⟩:=vlins_get _ _ _ _ hl'
        rw[Lin.qg,Nat.zero_add]
        have:ρ' i=valOf (cellsAll C.ps args.toList) i:=n1 i hi
        rw[this]
        unfold valOf
        rw[List.getD_eq_getElem?_getD,List.getD_eq_getElem?_getD,List.getElem?_append_left (by rw[hcl.1];exact hi)]
       ·have hvl:(vlins 0 (zx C.ps).length).length=(zx C.ps).length:=by
         have:∀k n,(vlins n k).length=k:=by
          intro k
          induction k with
          | zero=>intro n;rfl
          | succ k ih=>intro n;simp[vlins,ih]
         exact this _ _
        rw[List.getElem?_append_right (by omega),hvl,List.getElem?_map] at hl'
        cases hq:(tvs.flatMap TV.cells)[i-(zx C.ps).length]? with
        | none=>rw[hq] at hl';cases hl'
        | some s=>
          rw[hq] at hl'
          cases hl'
          rw[SV.meas_eval]
          unfold valOf
          rw[List.getD_eq_getElem?_getD,List.getElem?_append_right (by rw[hcl.1];omega),hcl.1]
          simp[dens,hq]
     ·cases this
    ·intro e hce
     unfold beOk at hbeok
     rw[hce] at hbeok
     simp only[Bool.and_eq_true] at hbeok
     obtain⟨hbl,hb2⟩:=hbeok
     split at hb2
     ·rename_i s
      split at hb2
      ·rename_i b hb
       simp only[Bool.and_eq_true,Bool.or_eq_true] at hb2
       have e1:=xu hs' hb
       have e2:e.den ρ'=e.den (valOf (cellsAll C.ps args.toList)):=BE.ul (n:=(zx C.ps).length) (fun x hx=>n1 x hx) hbl
       have hfa:∀β,b.den ρ'=β→∀f∈facts S'.rng S'.fs β b++S'.fs,0≤f.eval ρ':=fun β hβ f hf=>by
        rcases List.mem_append.1 hf with hf|hf
        ·exact jy _ ρ' hs'.rng _ hs'.fs b β hβ f hf
        ·exact hs'.fs f hf
       have e3:e.den ρ'=b.den ρ':=by
        rcases hb2 with hb2|hb2
        ·rw[eqBE_ok hb2]
        cases hbb:b.den ρ' with
        | true=>exact proveD_ok hs'.rng (hfa true hbb) e true hb2.1
        | false=>exact proveD_ok hs'.rng (hfa false hbb) e false hb2.2
       show [s.den ρ']=_
       rw[e1,←e3,e2]
      ·cases hb2
     ·cases hb2
   cases ex with
   | ext i=>cases hret
   | nrm=>exact hkey
   | ret=>exact hkey
  ·cases hro
 ·cases hex
end
open Go.RowKit
section
variable{P:Program}{cx:Cx}{W0:World}{S:St}{base:Nat}{ρ:Val}{T T':Nat→Prop}{w w':World}{a:Act}{Ω:Val→Prop}
theorem stp_new{cs:Array Value}{e:TypeId}{l:List CT}(h:WT cx.tb W0 T w)(hb:base≤w.heap.size)(hf:cx.tb.flat e=some l)(hl:0<l.length)
  (hni:noIdx l=true) (ht:∀i v,cs[i]? = some v→∃ct,l[i%l.length]? = some ct∧CV cx.tb W0 T w 0 ct v) (pu:Bool):Stp cx.tb W0 T w (add T w.heap.size) (w.alloc (.cells cs e)) base pu none:=by
 have h1:=stp_box (tb:=cx.tb) h hb cs e
 obtain⟨h2,h3⟩:=h1.wt.join (g:=w.heap.size) (fr:=(0,0)) h.size (heap_alloc_new w (.cells cs e)) (.inl rfl) hf hl (fun i v hv=>by
  obtain⟨ct,q1,q2⟩:=ht i v hv
  exact⟨ct,q1,q2.mono h1.ext (Nat.le_refl _)⟩) (ix_no hni _)
 refine⟨h2,h1.ext.trans h3,fun b hb=>?_,h1.size,rfl,rfl,rfl,fun b hb hT _=>h1.keep b hb hT (by simp),fun b hb' _=>h1.pure b hb' (.inl rfl)⟩
 rcases hb with hb|rfl
 ·exact .inl hb
 ·exact .inr (Nat.le_refl _)
theorem cv_new{cs:Array Value}{e:TypeId}{l:List CT}{n c lb:Nat}(hf:cx.tb.flat e=some l)(hl:0<l.length)(hb:base≤w.heap.size)(h1:n≤c)(h2:n≤lb)(h3:c≤maxLen)(h4:c*l.length≤cs.size) :
  CV cx.tb W0 (add T w.heap.size) (w.alloc (.cells cs e)) base (.sl 2 e lb) (.slice (some ⟨w.heap.size,0,none⟩) n c):=by
 have hsz:cx.tb.sz e=l.length:=by simp[Tab.sz,hf]
 exact .inr (.inr ⟨w.heap.size,0,n,c,rfl,h1,h2,h3,.inr rfl,fun _=>hb,by omega,Nat.zero_mod _,cs,(0,0),heap_alloc_new w _,by rw[hsz];omega⟩)
def zeroOk(d:TD)(l:List CT):Bool:=noIdx l && decide (d.zero.length=l.length∧d.size=l.length∧0<l.length) && (d.zero.zip l).all (fun p=>conTy p.1 p.2)
theorem zeroOk_ok{d:TD}{l:List CT}(h:zeroOk d l=true):d.zero.length=l.length∧d.size=l.length∧0<l.length∧∀i,i<l.length→∃v ct,d.zero[i]? = some v∧l[i]? = some ct∧CV cx.tb W0 T w base ct v:=by
 simp only[zeroOk,Bool.and_eq_true,decide_eq_true_eq] at h
 obtain⟨⟨-,h1,h2,h3⟩,h4⟩:=h
 refine⟨h1,h2,h3,fun i hi=>⟨d.zero[i]'(by omega),l[i],List.getElem?_eq_getElem _,List.getElem?_eq_getElem _,conTy_ok (List.all_eq_true.1 h4 (d.zero[i]'(by omega),l[i]) ?_)⟩⟩
 refine List.mem_iff_getElem?.2 ⟨i,?_⟩
 rw[List.getElem?_zip_eq_some]
 exact⟨List.getElem?_eq_getElem _,List.getElem?_eq_getElem _⟩
def lenOk(d:TD)(l:List CT):Bool:=noIdx l && decide (d.zero.length=l.length∧d.size=l.length∧0<l.length)
theorem lenOk_ok{d:TD}{l:List CT}(h:lenOk d l=true):noIdx l=true∧d.zero.length=l.length∧d.size=l.length∧0<l.length:=by
 simp only[lenOk,Bool.and_eq_true,decide_eq_true_eq] at h
 exact h
theorem zeroOk_no{d:TD}{l:List CT}(h:zeroOk d l=true):noIdx l=true:=by
 simp only[zeroOk,Bool.and_eq_true] at h
 exact h.1.1
theorem cyc_ok{d:TD}{l:List CT}(h:zeroOk d l=true){z:Value}(hz:z.cells.toList=d.zero)(n:Nat):∀(i:Nat) (v:Value),((Array.range n).map (fun x=>z.cells[x%z.cells.size]!))[i]? = some v→∃ct,l[i%l.length]? = some ct∧CV cx.tb W0 T w base ct v:=by
 intro i v hv
 obtain⟨h1,h2,h3,h4⟩:=zeroOk_ok (cx:=cx) (W0:=W0) (T:=T) (w:=w) (base:=base) h
 have hs:z.cells.size=l.length:=by rw[←Array.length_toList,hz,h1]
 have hi:i<n:=by
  have:=(Array.getElem?_eq_some_iff.1 hv).1
  simpa using this
 obtain⟨u,ct,q1,q2,q3⟩:=h4 (i%l.length) (Nat.mod_lt _ h3)
 refine⟨ct,q2,?_⟩
 have:v=u:=by
  simp only[Array.getElem?_map,Array.getElem?_range,hi,if_true,Option.map_some,Option.some.injEq] at hv
  rw[hs] at hv
  have hlt:i%l.length<z.cells.size:=by rw[hs];exact Nat.mod_lt _ h3
  rw[getElem!_pos z.cells _ hlt] at hv
  rw[←hz,Array.getElem?_toList,Array.getElem?_eq_getElem hlt] at q1
  exact hv.symm.trans (oi q1)
 subst this
 exact q3
def LM:Nat:=2^32
def makeA(cx:Cx)(S:St)(t:TypeId)(x y:SV):Option Res:=match kd cx t,S.lin x,S.lin y with
 | .sl e,some (_,l),some (_,c)=>match tdOf cx e,cx.tb.flat e with
   | some d,some f=>if zeroOk d f && S.ent l && S.ent (c.sub l) && S.ent ((Lin.k LM).sub c) && decide (d.bytes≤32768) then
      some ⟨mk1 S (.sl 2 e LM) [(Lin.at S.nv).sub l,l.sub (Lin.at S.nv)],.no,true⟩ else none
   | _,_=>none
 | _,_,_=>none
theorem makeA_ok(hcx:CxOk P cx){o:Oper}{t:TypeId}{x y:Operand}{sx sy:SV}{r:Res}(ho:o.op=.makeSlice t x y)(hx:S.one x=some sx)(hy:S.one y=some sy)(h:makeA cx S t sx sy=some r)(H:Hyp cx W0 S base Ω T w a):StepR P cx W0 S base Ω T w a o r:=by
 obtain⟨ρ0,h0⟩:=H.ex
 have hs0:=H.sat ρ0 h0
 unfold makeA at h
 split at h
 ·rename_i e k1 l k2 c hk hl hc
  split at h
  ·rename_i d f hd hf
   split at h
   ·rename_i hcc
    cases h
    simp only[Bool.and_eq_true,decide_eq_true_eq] at hcc
    obtain⟨⟨⟨⟨hz,c1⟩,c2⟩,c3⟩,c4⟩:=hcc
    have q1:=hs0.ent c1
    have q2:=hs0.ent c2
    have q3:=hs0.ent c3
    rw[Lin.qc] at q2
    rw[Lin.qc,Lin.zh] at q3
    have e1:=yh hs0 hl
    have e2:=yh hs0 hc
    rw[←qi (H.env ρ0 h0) hx] at e1
    rw[←qi (H.env ρ0 h0) hy] at e2
    obtain⟨u',g1,g2⟩:=qo hcx hk (by simp)
    obtain⟨e'',rfl⟩:∃e'',u'=.slice e'':=by cases u'<;>simp_all [KD.of]
    simp only[KD.of,KD.sl.injEq] at g2
    subst g2
    obtain⟨i,hi1,hi2,hi3,z,hz1,hz2⟩:=yl (hcx _ d hd)
    obtain⟨z1,z2,z3,-⟩:=zeroOk_ok (cx:=cx) (W0:=W0) (T:=T) (w:=w) (base:=base) hz
    have hLM:(LM:Int)=4294967296:=by decide
    have hbytes:(i.bytes:Int)*c.eval ρ0≤281474976710656:=by
     have h1:(i.bytes:Int)*c.eval ρ0≤32768*c.eval ρ0:=Int.mul_le_mul_of_nonneg_right (by omega) (by omega)
     omega
    have hrun:=run_make (P:=P) w t e'' i z g1 hi1 hz1 k1 k2 (l.eval ρ0) (c.eval ρ0) q1 (by omega) hbytes (by omega)
    have hml:maxLen=9223372036854775807:=by decide
    unfold StepR
    have hex:(execOp a.eval o).run P w=.ok (.value (.slice (some ⟨w.heap.size,0,none⟩) (l.eval ρ0).toNat (c.eval ρ0).toNat)) (w.alloc (.cells (madeCells z.cells ((c.eval ρ0).toNat*i.size)) e'')):=by
     simp only[execOp,ho,e1,e2]
     exact run_w hrun
    rw[hex]
    refine⟨add T w.heap.size,none,stp_new hs0.wt hs0.bs hf z3 (zeroOk_no hz) (cyc_ok hz hz2 _) true,fun ρ hρ _=>⟨zq (cv_new hf z3 hs0.bs (by omega) (by omega) (by omega) (by rw[size_madeCells,hi2,z2];exact Nat.le_refl _)) ?_,rfl⟩⟩
    intro hv g hg
    have e3:=yh (H.sat ρ hρ) hl
    rw[←qi (H.env ρ hρ) hx,e1] at e3
    injection e3 with e3 e4
    simp only[List.mem_cons,List.not_mem_nil,or_false] at hg
    rcases hg with rfl|rfl<;>rw[Lin.qc,Lin.qg,hv]<;>simp only[meas]<;>omega
   ·cases h
  ·cases h
 ·cases h
def cycS(d:TD)(n:Nat):List SV:=(List.range n).map fun i=>.con (d.zero.getD (i%d.zero.length) undef)
def fitS(S:St)(tb:Tab)(l:List CT):Nat→List SV→Bool
 | _,[]=>true
 | i,s::r=>(match l[i%l.length]? with|some ct=>S.has tb s ct|none=>false) && fitS S tb l (i+1) r
theorem fitS_ok(hs:SatW cx.tb W0 S base ρ T w){l:List CT}:∀{ss:List SV} {i0:Nat},fitS S cx.tb l i0 ss=true→∀i v,(dens ρ ss)[i]? = some v→∃ct,l[(i0+i)%l.length]? = some ct∧CV cx.tb W0 T w base ct v
 | [],i0,h,i,v,hv=>by simp[dens] at hv
 | s::r,i0,h,i,v,hv=>by
   simp only[fitS,Bool.and_eq_true] at h
   cases i with
   | zero=>
     simp only[dens,List.map_cons,List.getElem?_cons_zero,Option.some.injEq] at hv
     subst hv
     have h1:=h.1
     split at h1
     ·rename_i ct hct;exact⟨ct,hct,uo hs h1⟩
     ·cases h1
   | succ i=>
     obtain⟨ct,q1,q2⟩:=fitS_ok hs h.2 i v (by simpa[dens] using hv)
     exact⟨ct,by rw[←q1];congr 1;rw[show i0+(i+1)=i0+1+i by omega],q2⟩
def bsliceA(cx:Cx)(S:St)(t:TypeId)(n:Nat)(parts:List (Nat×Operand)):Option Res:=match kd cx t,partsOf S parts with
 | .sl e,some ps=>match tdOf cx e,cx.tb.flat e with
   | some d,some f=>if lenOk d f && decide (n*d.size≤16777216) then match fillS (fun i=>some (i*d.size,d.size)) (cycS d (n*d.size)) ps with
      | some ss=>if fitS S cx.tb f 0 ss && decide (ss.length=n*d.size) then some ⟨mk1 S (.sl 2 e n) [(Lin.at S.nv).pl (-n),(Lin.k n).sub (Lin.at S.nv)],.no,true⟩ else none
      | none=>none
     else none
   | _,_=>none
 | _,_=>none
theorem bsliceA_ok(hcx:CxOk P cx){o:Oper}{t:TypeId}{n:Nat}{parts:Array (Nat×Operand)}{r:Res}(ho:o.op=.buildSlice t n parts)(h:bsliceA cx S t n parts.toList=some r)(H:Hyp cx W0 S base Ω T w a):StepR P cx W0 S base Ω T w a o r:=by
 obtain⟨ρ0,h0⟩:=H.ex
 have hs0:=H.sat ρ0 h0
 unfold bsliceA at h
 split at h
 ·rename_i e ps hk hps
  split at h
  ·rename_i d f hd hf
   split at h
   ·rename_i hcc
    simp only[Bool.and_eq_true,decide_eq_true_eq] at hcc
    obtain⟨hz,hlim⟩:=hcc
    split at h
    ·rename_i ss hss
     split at h
     ·rename_i hfit
      cases h
      simp only[Bool.and_eq_true,decide_eq_true_eq] at hfit
      obtain⟨hfit,hlen⟩:=hfit
      obtain⟨u',g1,g2⟩:=qo hcx hk (by simp)
      obtain⟨e'',rfl⟩:∃e'',u'=.slice e'':=by cases u'<;>simp_all [KD.of]
      simp only[KD.of,KD.sl.injEq] at g2
      subst g2
      obtain⟨i,hi1,hi2,hi3,z,hz1,hz2⟩:=yl (hcx _ d hd)
      obtain⟨hni,z1,z2,z3⟩:=lenOk_ok hz
      obtain⟨p1,p2⟩:=partsOf_ok hs0 (H.env ρ0 h0) _ _ hps
      have hzs:z.cells.size=d.zero.length:=by rw[←Array.length_toList,hz2]
      have hcyc:((Array.range (n*d.size)).map (fun x=>z.cells[x%z.cells.size]!)).toList=dens ρ0 (cycS d (n*d.size)):=by
       refine List.ext_getElem? (fun j=>?_)
       simp only[Array.toList_map,Array.toList_range,dens,cycS,List.map_map,List.getElem?_map]
       cases hj:(List.range (n*d.size))[j]? with
       | none=>rfl
       | some m=>
         simp only[Option.map_some,Function.comp_apply,SV.den]
         congr 1
         have hlt:m%z.cells.size<z.cells.size:=Nat.mod_lt _ (by omega)
         rw[getElem!_pos z.cells _ hlt,←hz2,Array.length_toList,List.getD_eq_getElem?_getD,Array.getElem?_toList,Array.getElem?_eq_getElem hlt]
         rfl
      obtain⟨q,hq1,hq2⟩:=fillS_ok ρ0 ps _ _ ss p2 hss hcyc
      have hqs:q.size=n*d.size:=by rw[←Array.length_toList,hq2];simp[dens,hlen]
      have hml:maxLen=9223372036854775807:=by decide
      have hn:n≤16777216:=by
       have:=Nat.mul_le_mul_left n (show 1≤d.size by omega)
       omega
      have hrun:(Instr.buildSlice t n (parts.map fun(i,x)=>(i,a.eval x))).run P w=.ok (.slice (some ⟨w.heap.size,0,none⟩) n n) (w.alloc (.cells q e'')):=by
       have hfill:Instr.fill (fun i=>some (i*d.size,d.size)) ((Array.range (n*d.size)).map (fun x=>z.cells[x%z.cells.size]!)) (parts.map fun(i,x)=>(i,a.eval x)).toList=some q:=by
        rw[Array.toList_map]
        have:(parts.toList.map fun(i,x)=>(i,a.eval x))=parts.toList.map fun p=>(p.1,a.eval p.2):=rfl
        rw[this,p1];exact hq1
       have hlim':¬n*d.size > 2^24:=by omega
       unfold Instr.buildSlice
       rw[Sem.run_bind,run_underlying g1 w]
       simp only[Result.andThen_ok]
       rw[Sem.run_bind,zo (hcx _ d hd) w]
       simp only[Result.andThen_ok,hlim',if_false]
       have hfill':∀c,c=(Array.range (n*d.size)).map (fun x=>z.cells[x%z.cells.size]!)→Instr.fill (fun i=>some (i*d.size,d.size)) c (List.map (fun x=>(x.fst,a.eval x.snd)) parts.toList)=some q:=by
        intro c hc
        rw[hc]
        rw[Array.toList_map] at hfill
        exact hfill
       by_cases h00:n*d.size=0
       ·have hc0:(Array.map (fun x=>(default:Value)) (Array.range 0))=(Array.range (n*d.size)).map (fun x=>z.cells[x%z.cells.size]!):=by
         rw[h00];simp[Array.range_zero']
        simp[h00,hfill' _ hc0,newRow]
       ·simp[h00,zeroValue,typeInfo,hi1,hz1,hfill' _ rfl,newRow]
      unfold StepR
      have hex:(execOp a.eval o).run P w=.ok (.value (.slice (some ⟨w.heap.size,0,none⟩) n n)) (w.alloc (.cells q e'')):=by
       simp only[execOp,ho]
       exact run_w hrun
      rw[hex]
      refine⟨add T w.heap.size,none,stp_new hs0.wt hs0.bs hf z3 hni (fun j v hv=>?_) true,fun ρ hρ _=>⟨zq (cv_new hf z3 hs0.bs (Nat.le_refl _) (Nat.le_refl _) (by omega) (by rw[hqs,z2];exact Nat.le_refl _)) ?_,rfl⟩⟩
      ·have hv':(dens ρ0 ss)[j]? = some v:=by rw[←hq2,Array.getElem?_toList];exact hv
       obtain⟨ct,q1,q2⟩:=fitS_ok hs0 hfit j v hv'
       rw[Nat.zero_add] at q1
       exact⟨ct,q1,q2.mono (Ext.refl T w) (Nat.zero_le _)⟩
      ·intro hv g hg
       simp only[List.mem_cons,List.not_mem_nil,or_false] at hg
       rcases hg with rfl|rfl
       ·rw[Lin.qp,Lin.qg,hv];simp only[meas];omega
       ·rw[Lin.qc,Lin.qg,Lin.zh,hv];simp only[meas];omega
     ·cases h
    ·cases h
   ·cases h
  ·cases h
 ·cases h
end
end Sy
end Go.Proofs.YtmadfhgiaonnlaaGreatDoor
