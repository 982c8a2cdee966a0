import Derived.Test.YtmadfhgiaonnlaaGreatDoorPk23
set_option linter.unusedVariables false
set_option linter.unusedSimpArgs false
namespace Go.Proofs.YtmadfhgiaonnlaaGreatDoor
namespace Ev
open Go.RowKit
open Sy (Cx TD TdOk CxOk KD kd tdOf qo zo um yl jl yw yf heap_setCells_other yj append_room jr)
section
variable{P:Program}{cx:Cx}{M:Nat→Prop}{σ:Nat→Nat}{S S':St}{env:Env}{a:Act}{w w':World}{o:Op}
def cycX(d:TD)(n:Nat):List SV:=(List.range n).map fun i=>.con (d.zero.getD (i%d.zero.length) undef)
theorem cycX_ok{d:TD}{z:Value}(hz:z.cells.toList=d.zero){n:Nat}(hn:n=0∨0<d.zero.length)(τ:Nat→Nat):((Array.range n).map (fun x=>z.cells[x%z.cells.size]!)).toList=dens τ (cycX d n):=by
 have hzs:z.cells.size=d.zero.length:=by rw[←Array.length_toList,hz]
 refine List.ext_getElem? (fun j=>?_)
 rw[ve]
 simp only[Array.toList_map,Array.toList_range,cycX,List.getElem?_map]
 cases hj:(List.range n)[j]? with
 | none=>rfl
 | some m=>
   have hjn:j<n:=by have:=(List.getElem?_eq_some_iff.1 hj).1;simpa using this
   simp only[Option.map_some,SV.den]
   congr 1
   have hlt:m%z.cells.size<z.cells.size:=Nat.mod_lt _ (by omega)
   rw[getElem!_pos z.cells _ hlt,←hz,Array.length_toList,List.getD_eq_getElem?_getD,Array.getElem?_toList,Array.getElem?_eq_getElem hlt]
   rfl
theorem kd_sl(hcx:CxOk P cx){t e:TypeId}(h:kd cx t=.sl e):P.underlying t=some (.slice e):=by
 obtain⟨u',g1,g2⟩:=qo hcx h (by simp)
 obtain⟨e',rfl⟩:∃e',u'=.slice e':=by cases u'<;>simp_all [KD.of]
 simp only[KD.of,KD.sl.injEq] at g2
 subst g2
 exact g1
def makeX(cx:Cx)(S:St)(t:TypeId)(n c:Value):Option (XV×St):=match kd cx t,n,c with
 | .sl e,.int _ n,.int _ c=>match tdOf cx e with
   | some d=>if 0≤n∧n≤c∧d.bytes*c≤16777216∧c≤16777216∧0<d.zero.length then some (.v (.one (.sl S.nx 0 n.toNat none c.toNat)),newS S ⟨e,cycX d (c.toNat*d.size),none⟩ none) else none
   | none=>none
 | _,_,_=>none
theorem makeX_ok(hcx:CxOk P cx)(H:Hyp M σ S w){t:TypeId}{n c:Value}{x:XV}(h:makeX cx S t n c=some (x,S')):∃v w',(Instr.makeSlice t n c).run P w=.ok v w'∧Aft M σ S w x S' v w':=by
 unfold makeX at h
 split at h
 ·rename_i e k1 n' k2 c' hk
  split at h
  ·rename_i d hd
   split at h
   ·rename_i hc
    cases h
    obtain⟨i,hi1,hi2,hi3,z,hz1,hz2⟩:=yl (hcx _ d hd)
    have hrun:=run_make (P:=P) w t e i z (kd_sl hcx hk) hi1 hz1 k1 k2 n' c' hc.1 hc.2.1 (by rw[hi3];omega) (by omega)
    refine⟨_,_,hrun,aft_alloc H (fun τ hτ=>?_) (fun τ _ h2=>by simp[XV.den,TV.den,SV.den,h2])⟩
    rw[hi2]
    exact cycX_ok hz2 (.inr hc.2.2.2.2) τ
   ·cases h
  ·cases h
 ·cases h
def bsliceX(cx:Cx)(S:St)(env:Env)(t:TypeId)(n:Nat)(parts:List (Nat×Operand)):Option (XV×St):=match kd cx t,partsX env parts with
 | .sl e,some ps=>match tdOf cx e with
   | some d=>if n*d.size≤16777216∧0<d.zero.length then match fillX (fun i=>some (i*d.size,d.size)) (cycX d (n*d.size)) ps with
      | some ss=>some (.v (.one (.sl S.nx 0 n none n)),newS S ⟨e,ss,none⟩ none)
      | none=>none
     else none
   | none=>none
 | _,_=>none
theorem bsliceX_ok(hcx:CxOk P cx)(H:Hyp M σ S w){t:TypeId}{n:Nat}{parts:Array (Nat×Operand)}{x:XV}(h:bsliceX cx S env t n parts.toList=some (x,S'))
  (he:∀τ,Agr S.nx σ τ→∀p∈parts.toList,∀y,opv env p.2=some y→a.eval p.2=y.den τ):∃v w',(Instr.buildSlice t n (parts.map fun(i,x)=>(i,a.eval x))).run P w=.ok v w'∧Aft M σ S w x S' v w':=by
 unfold bsliceX at h
 split at h
 ·rename_i e ps hk hps
  split at h
  ·rename_i d hd
   split at h
   ·rename_i hcc
    obtain⟨hlim,z3⟩:=hcc
    split at h
    ·rename_i ss hss
     cases h
     have g1:=kd_sl hcx hk
     obtain⟨i,hi1,hi2,hi3,z,hz1,hz2⟩:=yl (hcx _ d hd)
     have hq:∀τ,Agr S.nx σ τ→∃q,Instr.fill (fun i=>some (i*d.size,d.size)) ((Array.range (n*d.size)).map (fun x=>z.cells[x%z.cells.size]!)) (parts.map fun(i,x)=>(i,a.eval x)).toList=some q∧q.toList=dens τ ss:=fun τ hτ=>by
      obtain⟨p1,p2⟩:=partsX_ok (a:=a) (σ:=τ) _ _ (he τ hτ) hps
      obtain⟨q,hq1,hq2⟩:=fillX_ok τ ps _ _ ss p2 hss (cycX_ok hz2 (.inr z3) τ)
      refine⟨q,?_,hq2⟩
      rw[Array.toList_map]
      have:(parts.toList.map fun(i,x)=>(i,a.eval x))=parts.toList.map fun p=>(p.1,a.eval p.2):=rfl
      rw[this,p1];exact hq1
     obtain⟨q,hfill,hq2⟩:=hq σ (Agr.refl _ _)
     have hrun:(Instr.buildSlice t n (parts.map fun(i,x)=>(i,a.eval x))).run P w=.ok (.slice (some ⟨w.heap.size,0,none⟩) n n) (w.alloc (.cells q e)):=by
      have hlim':¬n*d.size > 2^24:=by omega
      unfold Instr.buildSlice
      rw[Sem.run_bind,run_underlying g1 w]
      simp only[Result.andThen_ok]
      rw[Sem.run_bind,zo (hcx _ d hd) w]
      simp only[Result.andThen_ok,hlim',if_false]
      have hfill':∀c,c=(Array.range (n*d.size)).map (fun x=>z.cells[x%z.cells.size]!)→Instr.fill (fun i=>some (i*d.size,d.size)) c (List.map (fun x=>(x.fst,a.eval x.snd)) parts.toList)=some q:=by
       intro c hc
       rw[hc]
       rw[Array.toList_map] at hfill
       exact hfill
      by_cases h00:n*d.size=0
      ·have hc0:(Array.map (fun x=>(default:Value)) (Array.range 0))=(Array.range (n*d.size)).map (fun x=>z.cells[x%z.cells.size]!):=by
        rw[h00];simp[Array.range_zero']
       simp[h00,hfill' _ hc0,newRow]
      ·simp[h00,zeroValue,typeInfo,hi1,hz1,hfill' _ rfl,newRow]
     refine⟨_,_,hrun,aft_alloc H (fun τ hτ=>?_) (fun τ _ h2=>by simp[XV.den,TV.den,SV.den,h2])⟩
     obtain⟨q',h1,h2⟩:=hq τ hτ
     rw[hfill] at h1
     cases h1
     exact h2
    ·cases h
   ·cases h
  ·cases h
 ·cases h
def srcX(S:St)(sz:Nat):SV→Option (Nat×List SV×St)
 | .con (.slice none 0 0)=>some (0,[],S)
 | .sl g off n _ _=>match S.get g with
   | some B=>if off+n*sz≤B.cs.length then some (n,(B.cs.drop off).take (n*sz),S.touch g) else none
   | none=>none
 | _=>none
theorem srcX_ok{sz:Nat}{s:SV}{n:Nat}{l:List SV}{S1:St}(h:srcX S sz s=some (n,l,S1)):Gos S S1∧S1.nx=S.nx∧(∀g,S1.get g=S.get g)∧l.length=n*sz ∧
  ∀(τ:Nat→Nat) (w:World),(∀g,S1.ac.testBit g=true→M g)→Sat M τ S w→(n=0→s.den τ=s.den τ)∧(n=0∧s.den τ=.slice none 0 0∨∃b m,s.den τ=.slice (some b) n m∧b.spot=none∧∀j v,(dens τ l)[j]? = some v→w.cell? (b.add j)=some v):=by
 unfold srcX at h
 split at h
 ·cases h
  exact⟨Gos.refl S,rfl,fun _=>rfl,by simp,fun τ w _ _=>⟨fun _=>rfl,.inl ⟨rfl,rfl⟩⟩⟩
 ·rename_i g off n' k c
  split at h
  ·rename_i B hB
   split at h
   ·rename_i hle
    cases h
    refine⟨gos_touch S g,rfl,fun _=>rfl,by rw[List.length_take,List.length_drop];omega,fun τ w hm hs=>⟨fun _=>rfl,.inr ⟨⟨τ g,off,none⟩,(match k with|none=>c|some k=>τ k-c),by cases k<;>rfl,rfl,fun j v hj=>?_⟩⟩⟩
    obtain⟨cs,h1,-,-,h4⟩:=hs.blk g B (hm g (by show(S.ac ||| 2^g).testBit g=true;rw[tb_or,xe,Bool.or_true])) hB
    rw[yw,cell_of_row w (τ g) (off+j) cs B.t (0,0) h1]
    rw[ve,List.getElem?_take] at hj
    split at hj
    ·rw[List.getElem?_drop] at hj
     cases hq:B.cs[off+j]? with
     | none=>rw[hq] at hj;cases hj
     | some s'=>rw[hq] at hj;cases hj;exact h4 _ _ hq
    ·cases hj
   ·cases h
  ·cases h
 ·cases h
def appX(cx:Cx)(S:St)(t:TypeId)(s x:SV):Option (XV×St):=match kd cx t with
 | .sl e=>match tdOf cx e with
   | some d=>match srcX S d.size x with
     | some (n2,src,S1)=>if d.bytes≤32768∧0<d.size∧d.zero.length=d.size∧n2≤1048576∧src.all svOne=true then match s with
       | .con (.slice none 0 0)=>if n2=0 then some (.v (.one (.con (.slice none 0 0))),S1) else
          some (.v (.one (.sl S1.nx 0 n2 (some (S1.nx+1)) 0)),newS S1 ⟨e,src,some (S1.nx+1,d.size)⟩ none)
       | .sl g off n none c=>match S1.get g with
         | some B=>if n+n2≤c then(if off+n*d.size+src.length≤B.cs.length then some (.v (.one (.sl g off (n+n2) none c)),S1.set g { B with cs:=splX B.cs (off+n*d.size) src }) else none)
           else if off+n*d.size≤B.cs.length∧n≤1048576∧0<n2 then some (.v (.one (.sl S1.nx 0 (n+n2) (some (S1.nx+1)) 0)),newS (S1.touch g) ⟨e,(B.cs.drop off).take (n*d.size)++src,some (S1.nx+1,d.size)⟩ none) else none
         | none=>none
       | .sl g 0 n (some k) 0=>match S1.get g with
         | some B=>match B.cap with
           | some (k',sz')=>if k'=k∧sz'=d.size∧B.t=e∧n*d.size≤B.cs.length∧n≤1048576∧0<n2 then some (.v (.one (.sl S1.nx 0 (n+n2) (some (S1.nx+1)) 0)),newS S1 ⟨e,B.cs.take (n*d.size)++src,some (S1.nx+1,d.size)⟩ (some g)) else none
           | none=>none
         | none=>none
       | _=>none
     else none
     | none=>none
   | none=>none
 | _=>none
theorem Aft.touch{S1:St}{x:XV}{v:Value}(hn:S1.nx=S.nx)(hg:∀g,S1.get g=S.get g)(h:Aft M σ S1 w x S' v w'):Aft M σ S w x S' v w':=by
 obtain⟨σ1,h1,h2,h3,h4⟩:=h
 refine⟨σ1,by rw[←hn];exact h1,h2,h3,⟨h4.size,h4.os,h4.tape,h4.output,fun b hb hk=>h4.keep b hb (fun g B q1 q2 q3=>hk g B (by rw[←hn];exact q1) q2 (by rw[←hg];exact q3)),fun g B hg1 hB=>?_⟩⟩
 rcases h4.new g B (by rw[hn];exact hg1) hB with h|⟨g0,B0,q1,q2,q3,q4⟩
 ·exact .inl h
 ·exact .inr ⟨g0,B0,by rw[←hn];exact q1,by rw[←hg];exact q2,q3,q4⟩
theorem Hyp.touch{S1:St}(hn:S1.nx=S.nx)(hg:∀g,S1.get g=S.get g)(h:Hyp M σ S w):Hyp M σ S1 w:=
 ⟨fun τ hτ=>(h.sat τ (by rw[←hn];exact hτ)).congr hg,fun g B hB=>by rw[hn];exact h.lt g B (by rw[←hg];exact hB),fun g hg'=>h.new g (by rw[←hn];exact hg')⟩
theorem blk_grown{e:TypeId}{l:List SV}{d:TD}{z:Value}(hz:z.cells.toList=d.zero)(hsz:d.zero.length=d.size){n:Nat}(hl:l.length=n*d.size){vs:List Value}{c:Nat}(hc:n≤c)(hcm:c≤maxLen){τ:Nat→Nat}(hv:vs=dens τ l){k:Nat}(hk:τ k=c) :
  BlkOk τ ⟨e,l,some (k,d.size)⟩ w.heap.size (w.drew.alloc (.cells (vs.toArray++Builtin.zeroCells z.cells (c-n)) e)):=by
 have hzs:z.cells.size=d.size:=by rw[←Array.length_toList,hz,hsz]
 have hs:(vs.toArray++Builtin.zeroCells z.cells (c-n)).size=c*d.size:=by
  rw[Array.size_append,size_zeroCells,hzs,List.size_toArray,hv,qw,hl,←Nat.add_mul]
  congr 1;omega
 refine⟨_,heap_alloc_new w.drew _,?_,⟨by rw[hs,hk],by rw[hk];exact hcm⟩,fun i s hi=>?_⟩
 ·show l.length≤_
  rw[hs,hl];exact Nat.mul_le_mul_right _ hc
 ·have hlt:i<l.length:=(List.getElem?_eq_some_iff.1 hi).1
  rw[Array.getElem?_append_left (by rw[List.size_toArray,hv,qw];exact hlt)]
  simp only[List.getElem?_toArray,hv,ve]
  rw[show l[i]? = some s from hi];rfl
theorem appX_ok(hcx:CxOk P cx)(H:Hyp M σ S w){t ty:TypeId}{s x:SV}{y:XV}(h:appX cx S t s x=some (y,S'))(hm:∀g,S'.ac.testBit g=true→M g){u v:Value}(hu:∀τ,Agr S.nx σ τ→u=s.den τ)(hv:∀τ,Agr S.nx σ τ→v=x.den τ) :
  ∃r w',(Builtin.append_ #[t,t] ty #[u,v]).run P w=.ok r w'∧Aft M σ S w y S' r w':=by
 unfold appX at h
 split at h
 ·rename_i e hk
  split at h
  ·rename_i d hd
   split at h
   ·rename_i n2 src S1 hsrc
    split at h
    ·rename_i hc
     obtain⟨hby,hsz0,hz0,hn2,hone⟩:=hc
     have g1:=kd_sl hcx hk
     obtain⟨i,hi1,hi2,hi3,z,hz1,hz2⟩:=yl (hcx _ d hd)
     obtain⟨q1,q2,q3,q4,q5⟩:=srcX_ok (M:=M) hsrc
     have hs0:=H.sat σ (Agr.refl _ _)
     have H1:Hyp M σ S1 w:=H.touch q2 q3
     have hml:maxLen=9223372036854775807:=by decide
     have hbytes:∀m,m≤2097152→m*i.bytes≤140737488355328:=fun m hm=>by
      have:=Nat.mul_le_mul hm (show i.bytes≤32768 by omega)
      omega
     obtain⟨news,hnews0⟩:∃news,news=dens σ src:=⟨_,rfl⟩
     have hnl:news.length=n2*i.size:=by rw[hnews0,qw,q4,hi2]
     have hmS1:(∀g,S1.ac.testBit g=true→S'.ac.testBit g=true)→∀g,S1.ac.testBit g=true→M g:=fun k g hg=>hm g (k g hg)
     have hsrcv:(∀g,S1.ac.testBit g=true→M g)→(n2=0∧v=.slice none 0 0∨∃b m,v=.slice (some b) n2 m∧b.spot=none∧(∀τ,Agr S.nx σ τ→dens τ src=news)∧∀j u,news[j]? = some u→w.cell? (b.add j)=some u):=fun hM=>by
      rcases(q5 σ w hM hs0).2 with⟨h1,h2⟩|⟨b,m,h1,h2,h3⟩
      ·exact .inl ⟨h1,by rw[hv σ (Agr.refl _ _),h2]⟩
      ·refine .inr ⟨b,m,by rw[hv σ (Agr.refl _ _),h1],h2,fun τ hτ=>?_,by rw[hnews0];exact h3⟩
       rcases(q5 τ w hM (H.sat τ hτ)).2 with⟨k1,k2⟩|⟨b',m',k1,k2,k3⟩
       ·rw[←hv τ hτ,hv σ (Agr.refl _ _),h1] at k2;cases k2
       ·rw[←hv τ hτ,hv σ (Agr.refl _ _),h1] at k1
        injection k1 with k1 _ _
        injection k1 with k1
        subst k1
        rw[hnews0]
        refine List.ext_getElem? (fun j=>?_)
        by_cases hj:j<src.length
        ·have e1:=h3 j _ (List.getElem?_eq_getElem (by rw[qw];exact hj))
         have e2:=k3 j _ (List.getElem?_eq_getElem (by rw[qw];exact hj))
         rw[List.getElem?_eq_getElem (by rw[qw];exact hj),List.getElem?_eq_getElem (by rw[qw];exact hj)]
         exact e2.symm.trans e1
        ·rw[List.getElem?_eq_none (by rw[qw];omega),List.getElem?_eq_none (by rw[qw];omega)]
     have hsame:(∀g,S1.ac.testBit g=true→M g)→∀τ,Agr S.nx σ τ→dens τ src=news:=fun hM τ hτ=>by
      rcases hsrcv hM with⟨h1,-⟩|⟨b,m,-,-,h3,-⟩
      ·have:src=[]:=by have:=q4;rw[h1,Nat.zero_mul] at this;exact List.eq_nil_of_length_eq_zero this
       rw[hnews0,this];rfl
      ·exact h3 τ hτ
     have hnone:∀u∈news,u.oneCell'=true:=fun u hu'=>by
      rw[hnews0,xg,List.mem_map] at hu'
      obtain⟨s',h1,rfl⟩:=hu'
      exact uk (List.all_eq_true.1 hone s' h1) σ
     have hlen:(∀g,S1.ac.testBit g=true→M g)→(Builtin.lenOf v).run P w=.ok n2 w∧(Builtin.firstCells i.size n2 v).run P w=.ok news.toArray w:=fun hM=>by
      rcases hsrcv hM with⟨h1,h2⟩|⟨b,m,h1,h2,h3,h4⟩
      ·have:news=[]:=by apply List.eq_nil_of_length_eq_zero;rw[hnl,h1,Nat.zero_mul]
       subst h1
       rw[h2,this]
       exact⟨rfl,run_firstCells_none w _ _ _ _⟩
      ·rw[h1]
       exact⟨rfl,run_firstCells_some (P:=P) w i.size n2 b n2 m news hnl h4⟩
     have hheap:∀(q:Array Value),(w.drew.alloc (.cells q e)).heap.size=w.heap.size+1:=fun q=>by simp
     have hkeep:∀(q:Array Value) (b:Nat),b<w.heap.size→(w.drew.alloc (.cells q e)).heap[b]? = w.heap[b]?:=fun q b hb=>Sy.alloc_heap w.drew _ b (by show b≠w.heap.size;omega)
     split at h
     ·
      have hu0:u=.slice none 0 0:=hu σ (Agr.refl _ _)
      split at h
      ·rename_i hn0
       cases h
       have hM:=hmS1 (fun _ h=>h)
       obtain⟨l1,l2⟩:=hlen hM
       subst hn0
       have hnil:news=[]:=by apply List.eq_nil_of_length_eq_zero;rw[hnl,Nat.zero_mul]
       rw[hnil] at l2
       exact⟨_,w,by rw[hu0];exact jr g1 hi1 l1 l2,aft_same H q2 q3 (fun _ _=>rfl)⟩
      ·rename_i hn0
       cases h
       have hM:=hmS1 (fun g hg=>(vw S1 _ none).ac g hg)
       rcases hsrcv hM with⟨h1,-⟩|⟨b,m,h1,h2,h3,h4⟩
       ·exact absurd h1 hn0
       ·have hrun:=run_append_nil (P:=P) w t ty e i z g1 hi1 hz1 b n2 m news hnl h4 (by omega) (by omega) (by have:=hbytes n2 (by omega);omega)
        have hcapge:n2≤grownCap w n2 0 e:=grownCap_ge w _ _ _
        have hcaple:grownCap w n2 0 e≤maxLen:=grownCap_le_maxLen w _ _ _ (by omega)
        refine⟨_,_,by rw[hu0,h1];exact hrun,Aft.touch q2 q3 (aft_new H1 (grownCap w n2 0 e) (hheap _) rfl rfl rfl (hkeep _) (fun τ hτ hτ2=>?_) (fun τ h1 h2 h3=>?_))⟩
        ·exact blk_grown hz2 hz0 q4 hcapge hcaple (hsame hM τ (by rw[q2] at hτ;exact hτ)).symm hτ2
        ·simp[XV.den,TV.den,SV.den,h2,h3]
     ·
      rename_i g off n c
      have hu0:u=.slice (some ⟨σ g,off,none⟩) n c:=hu σ (Agr.refl _ _)
      split at h
      ·rename_i B hB
       split at h
       ·rename_i hroom
        split at h
        ·rename_i hfit
         cases h
         have hM:=hmS1 (fun g' hg=>(gos_set (B:={ B with cs:=splX B.cs (off+n*d.size) src }) hB).ac g' hg)
         have hmg:M g:=hm g (by show(S1.ac ||| 2^g).testBit g=true;rw[tb_or,xe,Bool.or_true])
         obtain⟨l1,l2⟩:=hlen hM
         have hbk:=hs0.blk g B hmg (by rw[←q3];exact hB)
         obtain⟨cs,b1,b2,b3,b4⟩:=id hbk
         have hrun:=append_room (P:=P) (ty:=ty) (sLen:=n) (sCap:=c) (off:=off) g1 hi1 b1 (.inl rfl) l1 l2 hnone hroom (by rw[hnl,hi2];rw[q4] at hfit;omega)
         obtain⟨r1,r2,r3,r4⟩:=yj (σ g) news (off+n*i.size) w
         refine⟨_,_,by rw[hu0];exact hrun,Aft.touch q2 q3 (aft_set H1 hmg hB r1 r2 r3 r4 (fun b hb=>heap_setCells_other (σ g) news (off+n*i.size) w b hb) (fun τ hτ=>?_) (fun τ hτ=>?_))⟩
         ·have h5:=(H1.sat τ hτ).blk g B hmg hB
          rw[hτ g (H1.lt g B hB)] at h5
          rw[←hsame hM τ (by rw[q2] at hτ;exact hτ),hi2]
          exact blk_write h5 hfit
         ·have:=hτ g (H1.lt g B hB)
          simp[XV.den,TV.den,SV.den,this]
        ·cases h
       ·rename_i hroom
        split at h
        ·rename_i hcc
         cases h
         have hM:=hmS1 (fun g' hg=>(vw (S1.touch g) _ none).ac g' ((gos_touch S1 g).ac g' hg))
         have hmg:M g:=hm g ((vw (S1.touch g) _ none).ac g (by show(S1.ac ||| 2^g).testBit g=true;rw[tb_or,xe,Bool.or_true]))
         obtain⟨h01,h02,h03⟩:=hcc
         have hols:∀τ,Agr S.nx σ τ→(dens τ ((B.cs.drop off).take (n*d.size)))=dens σ ((B.cs.drop off).take (n*d.size))∧∀j u,(dens σ ((B.cs.drop off).take (n*d.size)))[j]? = some u→w.cell? ((⟨σ g,off,none⟩:Addr).add j)=some u:=fun τ hτ=>by
          have key:∀τ,Agr S.nx σ τ→∀j u,(dens τ ((B.cs.drop off).take (n*d.size)))[j]? = some u→w.cell? ((⟨σ g,off,none⟩:Addr).add j)=some u:=fun τ hτ j u hj=>by
           obtain⟨cs,b1,b2,b3,b4⟩:=(H.sat τ hτ).blk g B hmg (by rw[←q3];exact hB)
           rw[hτ g (H.lt g B (by rw[←q3];exact hB))] at b1
           rw[yw,cell_of_row w (σ g) (off+j) cs B.t (0,0) b1]
           rw[ve,List.getElem?_take] at hj
           split at hj
           ·rw[List.getElem?_drop] at hj
            cases hq:B.cs[off+j]? with
            | none=>rw[hq] at hj;cases hj
            | some s'=>rw[hq] at hj;cases hj;exact b4 _ _ hq
           ·cases hj
          refine⟨List.ext_getElem? (fun j=>?_),key σ (Agr.refl _ _)⟩
          by_cases hj:j<((B.cs.drop off).take (n*d.size)).length
          ·have e1:=key σ (Agr.refl _ _) j _ (List.getElem?_eq_getElem (by rw[qw];exact hj))
           have e2:=key τ hτ j _ (List.getElem?_eq_getElem (by rw[qw];exact hj))
           rw[List.getElem?_eq_getElem (by rw[qw];exact hj),List.getElem?_eq_getElem (by rw[qw];exact hj)]
           exact e2.symm.trans e1
          ·rw[List.getElem?_eq_none (by rw[qw];omega),List.getElem?_eq_none (by rw[qw];omega)]
         rcases hsrcv hM with⟨h1,-⟩|⟨b,m,h1,h2,h3,h4⟩
         ·omega
         ·have hol:(dens σ ((B.cs.drop off).take (n*d.size))).length=n*i.size:=by rw[qw,hi2,List.length_take,List.length_drop];omega
          have hnx:=growslice_fits (need:=n+n2) (old:=c) (bytes:=i.bytes) (by omega) (hbytes _ (by omega))
          have hrun:=run_append_grow (P:=P) w t ty e i z g1 hi1 hz1 ⟨σ g,off,none⟩ n c _ hol (hols σ (Agr.refl _ _)).2 b n2 m news hnl h4 (by omega) (by omega) hnx
          have hcapge:n+n2≤grownCap w (n+n2) c e:=grownCap_ge w _ _ _
          have hcaple:grownCap w (n+n2) c e≤maxLen:=grownCap_le_maxLen w _ _ _ (by omega)
          have q2':(S1.touch g).nx=S.nx:=q2
          have q3':∀h,(S1.touch g).get h=S.get h:=q3
          refine⟨_,_,by rw[hu0,h1];exact hrun,Aft.touch q2' q3' (aft_new (H.touch q2' q3') (grownCap w (n+n2) c e) (hheap _) rfl rfl rfl (hkeep _) (fun τ hτ hτ2=>?_) (fun τ h1 h2 h3=>?_))⟩
          ·rw[q2'] at hτ
           rw[show(dens σ ((B.cs.drop off).take (n*d.size))).toArray++news.toArray=(dens σ ((B.cs.drop off).take (n*d.size))++news).toArray by simp]
           refine blk_grown hz2 hz0 (n:=n+n2) ?_ hcapge hcaple ?_ hτ2
           ·rw[List.length_append,q4,List.length_take,List.length_drop,Nat.add_mul];omega
           ·rw[dens_app,(hols τ hτ).1,hsame hM τ hτ]
          ·have e1:τ S1.nx=w.heap.size:=h2
           have e2:τ (S1.nx+1)=grownCap w (n+n2) c e:=h3
           simp[XV.den,TV.den,SV.den,e1,e2]
        ·cases h
      ·cases h
     ·
      rename_i g n k
      split at h
      ·rename_i B hB
       split at h
       ·rename_i k' sz' hcap
        split at h
        ·rename_i hcc
         cases h
         obtain⟨rfl,rfl,hBt,h01,h02,h03⟩:=hcc
         have hM:=hmS1 (fun g' hg=>(vw S1 _ (some g)).ac g' hg)
         have hmg:M g:=hm g (by show(S1.ac ||| 2^S1.nx ||| deadM (some g)).testBit g=true;rw[tb_or,deadM,xe,Bool.or_true])
         have hu0:u=.slice (some ⟨σ g,0,none⟩) n (σ k'-0):=hu σ (Agr.refl _ _)
         rw[Nat.sub_zero] at hu0
         have hgl:=H.lt g B (by rw[←q3];exact hB)
         have hols:∀τ,Agr S.nx σ τ→(dens τ (B.cs.take (n*d.size)))=dens σ (B.cs.take (n*d.size))∧∀j u,(dens σ (B.cs.take (n*d.size)))[j]? = some u→w.cell? ((⟨σ g,0,none⟩:Addr).add j)=some u:=fun τ hτ=>by
          have key:∀τ,Agr S.nx σ τ→∀j u,(dens τ (B.cs.take (n*d.size)))[j]? = some u→w.cell? ((⟨σ g,0,none⟩:Addr).add j)=some u:=fun τ hτ j u hj=>by
           obtain⟨cs,b1,b2,b3,b4⟩:=(H.sat τ hτ).blk g B hmg (by rw[←q3];exact hB)
           rw[hτ g hgl] at b1
           rw[yw,cell_of_row w (σ g) (0+j) cs B.t (0,0) b1]
           rw[ve,List.getElem?_take] at hj
           split at hj
           ·rw[Nat.zero_add]
            cases hq:B.cs[j]? with
            | none=>rw[hq] at hj;cases hj
            | some s'=>rw[hq] at hj;cases hj;exact b4 _ _ hq
           ·cases hj
          refine⟨List.ext_getElem? (fun j=>?_),key σ (Agr.refl _ _)⟩
          by_cases hj:j<(B.cs.take (n*d.size)).length
          ·have e1:=key σ (Agr.refl _ _) j _ (List.getElem?_eq_getElem (by rw[qw];exact hj))
           have e2:=key τ hτ j _ (List.getElem?_eq_getElem (by rw[qw];exact hj))
           rw[List.getElem?_eq_getElem (by rw[qw];exact hj),List.getElem?_eq_getElem (by rw[qw];exact hj)]
           exact e2.symm.trans e1
          ·rw[List.getElem?_eq_none (by rw[qw];omega),List.getElem?_eq_none (by rw[qw];omega)]
         obtain⟨cs,b1,b2,b3,b4⟩:=id (hs0.blk g B hmg (by rw[←q3];exact hB))
         rw[hcap] at b3
         obtain⟨b3,b5⟩:=b3
         have hol:(dens σ (B.cs.take (n*d.size))).length=n*i.size:=by rw[qw,hi2,List.length_take];omega
         rcases hsrcv hM with⟨h1,-⟩|⟨b,m,h1,h2,h3,h4⟩
         ·omega
         by_cases hroom:n+n2≤σ k'
         ·obtain⟨l1,l2⟩:=hlen hM
          have hmul:(n+n2)*d.size≤σ k'*d.size:=Nat.mul_le_mul_right _ hroom
          rw[Nat.add_mul] at hmul
          have hrun:=append_room (P:=P) (ty:=ty) (sLen:=n) (sCap:=σ k') (off:=0) g1 hi1 b1 (.inl rfl) l1 l2 hnone hroom (by rw[hnl,hi2];omega)
          obtain⟨r1,r2,r3,r4⟩:=yj (σ g) news (0+n*i.size) w
          refine⟨_,_,by rw[hu0];exact hrun,Aft.touch q2 q3 (aft_move H1 (σ k') hmg hB r1 r2 r3 r4 (fun b hb=>heap_setCells_other (σ g) news (0+n*i.size) w b hb) (fun τ hτ hτ2=>?_) (fun τ h1 h2 h3=>?_))⟩
          ·rw[q2] at hτ
           have h5:=(H.sat τ hτ).blk g B hmg (by rw[←q3];exact hB)
           rw[hτ g hgl] at h5
           obtain⟨cs',c1,c2,c3,c4⟩:=h5
           rw[b1] at c1
           injection c1 with c1
           injection c1 with c1
           subst c1
           obtain⟨cs2,d1,d2,d3⟩:=yf (σ g) B.t (0,0) news (0+n*i.size) w cs b1
           refine⟨cs2,by rw[hBt] at d1;exact d1,?_,⟨by rw[d2,b3,hτ2],by rw[hτ2];exact b5⟩,fun j s' hj=>?_⟩
           ·show(B.cs.take (n*d.size)++src).length≤_
            rw[List.length_append,q4,List.length_take,d2,b3];omega
           ·rw[d3 j,hnl]
            have hj':(B.cs.take (n*d.size)++src)[j]? = some s':=hj
            have htl:(B.cs.take (n*d.size)).length=n*d.size:=by rw[List.length_take];omega
            by_cases hjn:j<n*d.size
            ·rw[List.getElem?_append_left (by rw[htl];exact hjn),List.getElem?_take,if_pos hjn] at hj'
             rw[if_neg (by rw[hi2];omega)]
             exact c4 j s' hj'
            ·rw[List.getElem?_append_right (by rw[htl];omega),htl] at hj'
             have hjs:j-n*d.size<src.length:=(List.getElem?_eq_some_iff.1 hj').1
             rw[q4] at hjs
             rw[if_pos (by rw[hi2];omega),←hsame hM τ hτ,ve,hi2,Nat.zero_add,hj'];rfl
          ·simp[XV.den,TV.den,SV.den,h2,h3]
         ·have hnx:=growslice_fits (need:=n+n2) (old:=σ k') (bytes:=i.bytes) (by omega) (hbytes _ (by omega))
          have hrun:=run_append_grow (P:=P) w t ty e i z g1 hi1 hz1 ⟨σ g,0,none⟩ n (σ k') _ hol (hols σ (Agr.refl _ _)).2 b n2 m news hnl h4 (by omega) (by omega) hnx
          have hcapge:n+n2≤grownCap w (n+n2) (σ k') e:=grownCap_ge w _ _ _
          have hcaple:grownCap w (n+n2) (σ k') e≤maxLen:=grownCap_le_maxLen w _ _ _ (by omega)
          refine⟨_,_,by rw[hu0,h1];exact hrun,Aft.touch q2 q3 (aft_new H1 (grownCap w (n+n2) (σ k') e) (hheap _) rfl rfl rfl (hkeep _) (fun τ hτ hτ2=>?_) (fun τ h1 h2 h3=>?_))⟩
          ·rw[q2] at hτ
           rw[show(dens σ (B.cs.take (n*d.size))).toArray++news.toArray=(dens σ (B.cs.take (n*d.size))++news).toArray by simp]
           refine blk_grown hz2 hz0 (n:=n+n2) ?_ hcapge hcaple ?_ hτ2
           ·rw[List.length_append,q4,List.length_take,Nat.add_mul];omega
           ·rw[dens_app,(hols τ hτ).1,hsame hM τ hτ]
          ·simp[XV.den,TV.den,SV.den,h2,h3]
        ·cases h
       ·cases h
      ·cases h
     ·cases h
    ·cases h
   ·cases h
  ·cases h
 ·cases h
end
end Ev
namespace Ev
open Go.RowKit
open Sy (Cx TD TdOk CxOk KD kd tdOf qo zo um yl jl yw uh jm run_v Enters bounds_ok xn)
abbrev y8:=FuncId→List XV→St→Option (XV×St)
def ug(P:Program)(r:y8):Prop:=∀f args S x S',r f args S=some (x,S')→Gos S S'∧Enters P f∧∀(M:Nat→Prop) (σ:Nat→Nat) (w:World),Hyp M σ S w→(∀g,S'.ac.testBit g=true→M g) →
 ∀vs:List Value,(∀τ,Agr S.nx σ τ→vs=args.map (XV.den τ))→Calls P f vs.toArray w (fun e w'=>∃v,e=.returned v∧Aft M σ S w x S' v w')
def undefX:XV:=.v (.one (.con undef))
def mapX{α β:Type}(f:α→Option β):List α→Option (List β)
 | []=>some []
 | x::r=>match f x,mapX f r with
   | some y,some l=>some (y::l)
   | _,_=>none
theorem mapX_eq{α β γ:Type}{f:α→Option β}{g:α→γ}{h:β→γ}:∀{l:List α} {m:List β},mapX f l=some m→(∀x∈l,∀y,f x=some y→g x=h y)→l.map g=m.map h
 | [],m,hm,_=>by cases hm;rfl
 | x::r,m,hm,he=>by
   unfold mapX at hm
   split at hm
   ·rename_i y l h1 h2
    cases hm
    rw[List.map_cons,List.map_cons,he x (by simp) y h1,mapX_eq h2 (fun z hz=>he z (by simp[hz]))]
   ·cases hm
def binX(P:Program)(cx:Cx)(env:Env)(op:BinOp)(t:TypeId)(x y:Operand):Option XV:=match cX env x,cX env y with
 | some u,some v=>(pureS P (do eqGuard op t x y u v;binOp op t u v)).map ofV
 | _,_=>match one env x,one env y with
   | some (.sl _ _ _ _ _),some (.con (.slice none 0 0))=>match op,kd cx t with
     | .eql,.sl _=>some (.v (.one (.con (.bool false))))
     | .neq,.sl _=>some (.v (.one (.con (.bool true))))
     | _,_=>none
   | _,_=>none
def optX(env:Env):Option Operand→Option (Option Value)
 | none=>some none
 | some x=>match cX env x with
   | some v=>some (some v)
   | none=>none
theorem optX_ok{env:Env}{a:Act}{z:Option Operand}{v:Option Value}(h:optX env z=some v)(he:∀x,z=some x→∀v,cX env x=some v→a.eval x=v):z.map a.eval=v:=by
 unfold optX at h
 split at h
 ·cases h;rfl
 ·rename_i x
  split at h
  ·rename_i u hu;cases h;rw[Option.map_some,he x rfl u hu]
  ·cases h
def sliceX(P:Program)(cx:Cx)(S:St)(env:Env)(t:TypeId)(x:Operand)(lo hi mx:Option Operand):Option (XV×St):=match cX env x with
 | some u=>match optX env lo,optX env hi,optX env mx with
   | some l,some h,some m=>(pureS P (Instr.sliceAt t u l h m)).map fun v=>(ofV v,S)
   | _,_,_=>none
 | none=>match one env x with
   | some (.sl g off n k c)=>match boundX env lo,boundX env hi,boundX env mx with
     | some l,some h,some m=>(cutX cx t g off n k c l h m).map fun s=>(.v (.one s),S)
     | _,_,_=>none
   | _=>none
def iaddrX(cx:Cx)(env:Env)(t:TypeId)(x i:Operand):Option XV:=match one env x,con1 env i with
 | some (.sl g off n _ _),some (.int _ j)=>match kd cx t with
   | .sl e=>match tdOf cx e with
     | some d=>if 0≤j∧j<n then some (.v (.one (.ptr g (off+j.toNat*d.size)))) else none
     | none=>none
   | _=>none
 | some (.ptr g off),some (.int _ j)=>match kd cx t with
   | .ar n e=>match tdOf cx e with
     | some d=>if 0≤j∧j<n∧1<n then some (.v (.one (.ptr g (off+j.toNat*d.size)))) else none
     | none=>none
   | _=>none
 | _,_=>none
def indexX(P:Program)(cx:Cx)(env:Env)(t:TypeId)(x i:Operand):Option XV:=match cX env x,con1 env i with
 | some u,some v=>(pureS P (Instr.index t u v)).map ofV
 | none,some (.int _ j)=>match opv env x,kd cx t with
   | some (.v (.agg l)),.ar n e=>match tdOf cx e with
     | some d=>if 0≤j∧j<n then partX cx e l (j.toNat*d.size) else none
     | none=>none
   | _,_=>none
 | _,_=>none
def lenX(cx:Cx)(env:Env)(t:TypeId)(x:Operand):Option XV:=match one env x,kd cx t with
 | some (.sl _ _ n _ _),.sl _=>some (.v (.one (.con (.int .i64 n))))
 | _,_=>none
def capX(cx:Cx)(env:Env)(t:TypeId)(x:Operand):Option XV:=match one env x,kd cx t with
 | some (.sl _ _ _ none c),.sl _=>some (.v (.one (.con (.int .i64 c))))
 | _,_=>none
def onesX(env:Env)(l:List Operand):Option (List SV):=mapX (one env) l
def compX(P:Program)(cx:Cx)(env:Env)(o:Oper):Option XV:=match o.op with
 | .move x=>opv env x
 | .assign x=>opv env x
 | .pick c a b=>match con1 env c with
   | some (.bool true)=>opv env a
   | some (.bool false)=>opv env b
   | _=>none
 | .build t parts=>buildX cx env t parts.toList
 | .nilCheck x=>match one env x with
   | some (.ptr g off)=>some (.v (.one (.ptr g off)))
   | _=>none
 | .binOp op t x y _=>binX P cx env op t x y
 | .unOp op _ x=>match cX env x with
   | some u=>(pureS P (Op.unary op u)).map ofV
   | none=>none
 | .convert s d x=>match cX env x with
   | some u=>(pureS P (convert s d u)).map ofV
   | none=>none
 | .fieldAddr t x f=>match one env x,uh cx t f with
   | some (.ptr g off),some (ft,fo)=>match tdOf cx ft with
     | some d=>if d.size=0 then none else some (.v (.one (.ptr g (off+fo))))
     | none=>none
   | _,_=>none
 | .field t x f=>match opv env x,uh cx t f with
   | some (.v (.agg l)),some (ft,fo)=>partX cx ft l fo
   | _,_=>none
 | .indexAddr t x i=>iaddrX cx env t x i
 | .index t x i=>indexX P cx env t x i
 | .extract x i=>match opv env x with
   | some (.tup l)=>(l[i]?).map XV.v
   | _=>none
 | .makeFunc fn first cap=>match onesX env first.toList,onesX env cap.toList with
   | some a,some b=>some (.v (.one (.fn fn a b)))
   | _,_=>none
 | .call { callee:=.builtin b,args,argTypes }=>match mapX (cX env) args.toList with
   | some vs=>match pureS P (builtin b argTypes o.type (args.map fun|.const _=>true|_=>false) vs.toArray) with
     | some (.value v)=>some (ofV v)
     | _=>none
   | none=>match b,args.toList,argTypes.toList with
     | .len,[x],[t]=>lenX cx env t x
     | .cap,[x],[t]=>capX cx env t x
     | _,_,_=>none
 | _=>none
section
variable{P:Program}{cx:Cx}{M:Nat→Prop}{σ:Nat→Nat}{S S':St}{env:Env}{a:Act}{w w':World}{o:Oper}
theorem obind{α β:Type}{x:Option α}{f:α→β}{y:β}(h:x.map f=some y):∃z,x=some z∧y=f z:=by
 cases x with
 | none=>cases h
 | some z=>exact⟨z,rfl,(oi h).symm⟩
theorem binX_ok(hcx:CxOk P cx){op:BinOp}{t:TypeId}{x y:Operand}{r:XV}(h:binX P cx env op t x y=some r)(h1:∀v,cX env x=some v→a.eval x=v)(h2:∀v,cX env y=some v→a.eval y=v)(h3:∀s,one env x=some s→a.eval x=s.den σ)(h4:∀s,one env y=some s→a.eval y=s.den σ) :
  (do eqGuard op t x y (a.eval x) (a.eval y);binOp op t (a.eval x) (a.eval y):Sem Value).run P w=.ok (r.den σ) w:=by
 unfold binX at h
 split at h
 ·rename_i u v hu hv
  obtain⟨z,hz,rfl⟩:=obind h
  rw[h1 u hu,h2 v hv,ofV_den]
  exact uy hz w
 ·split at h
  ·rename_i g off n k c hx hy
   obtain⟨ad,c',e1⟩:∃ad c',(SV.sl g off n k c).den σ=.slice (some ad) n c':=by cases k<;>exact⟨_,_,rfl⟩
   rw[h3 _ hx,h4 _ hy,e1]
   have hg:=Sy.guard_plain (P:=P) (w:=w) op t x y (u:=.slice (some ad) n c') (v:=.slice none 0 0) rfl (by simp)
   rw[Sem.run_bind,show(SV.con (.slice none 0 0)).den σ=.slice none 0 0 from rfl,hg]
   simp only[Result.andThen_ok]
   split at h
   ·rename_i e hk
    cases h
    show(do pure (.bool (←Op.equal t _ _)):Sem Value).run P w=_
    rw[Sem.run_bind,run_equal_slice_nil w t _ _ n c' (kd_sl hcx hk)]
    rfl
   ·rename_i e hk
    cases h
    show(do pure (.bool (!(←Op.equal t _ _))):Sem Value).run P w=_
    rw[Sem.run_bind,run_equal_slice_nil w t _ _ n c' (kd_sl hcx hk)]
    rfl
   ·cases h
  ·cases h
theorem bound_args{lo:Option Operand}{l:Option Nat}(h:boundX env lo=some l)(he:∀x,lo=some x→∀v,con1 env x=some v→a.eval x=v):lo.map a.eval=none∧l=none∨∃k n,lo.map a.eval=some (.int k ((n:Nat):Int))∧l=some n:=by
 rcases boundX_ok h he with⟨h1,h2⟩|h1
 ·exact .inl ⟨by rw[h1];rfl,h2⟩
 ·exact .inr h1
theorem cutX_ok(hcx:CxOk P cx){t:TypeId}{g off n c:Nat}{k:Option Nat}{lo hi mx:Option Nat}{s:SV}(h:cutX cx t g off n k c lo hi mx=some s){vl vh vm:Option Value}
  (h1:vl=none∧lo=none∨∃k n,vl=some (.int k ((n:Nat):Int))∧lo=some n) (h2:vh=none∧hi=none∨∃k n,vh=some (.int k ((n:Nat):Int))∧hi=some n) (h3:vm=none∧mx=none∨∃k n,vm=some (.int k ((n:Nat):Int))∧mx=some n) :
  (Instr.sliceAt t ((SV.sl g off n k c).den σ) vl vh vm).run P w=.ok (s.den σ) w:=by
 unfold cutX at h
 split at h
 ·rename_i e hk
  split at h
  ·rename_i d hd
   have g1:=kd_sl hcx hk
   have hsz:=zo (hcx _ d hd) w
   simp only at h
   have run:∀(c':Nat) (l h' m:Nat),l≤h'→h'≤m→m≤n→n≤c'→(vl=none∧l=0∨∃k,vl=some (.int k (l:Int)))→(vh=none∧(h':Int)=n∧vm=none∨∃k,vh=some (.int k (h':Int)))→(vm=none∧m=n∨∃k,vm=some (.int k (m:Int))) →
    (Instr.sliceAt t (.slice (some ⟨σ g,off,none⟩) n c') vl vh vm).run P w=.ok (.slice (if(if vm=none then c' else m)=l then some ⟨σ g,off,none⟩ else some ⟨σ g,off+l*d.size,none⟩) (h'-l) ((if vm=none then c' else m)-l)) w:=by
    intro c' l h' m q1 q2 q3 q4 q5 q6 q7
    have hb:=bounds_ok (P:=P) (w:=w) true (len:=n) (cap:=c') (lo:=vl) (hi:=vh) (mx:=vm) (l:=l) (h:=h') (m:=m) q4 (by omega) (by omega) (by omega) (by omega)
     (by rcases q5 with⟨a1,a2⟩|a1;exact .inl ⟨a1,by omega⟩;exact .inr a1) (by rcases q6 with a1|a1;exact .inl a1;exact .inr a1) (by rcases q7 with⟨a1,a2⟩|a1;exact .inl ⟨a1,by omega⟩;exact .inr a1)
    unfold Instr.sliceAt
    rw[Sem.run_bind,run_underlying g1 w]
    simp only[Result.andThen_ok]
    unfold Instr.slice
    rw[Sem.run_bind,run_underlying g1 w]
    simp only[Result.andThen_ok]
    rw[Sem.run_bind,hb]
    simp only[Result.andThen_ok,Int.toNat_natCast]
    rw[Sem.run_bind,hsz]
    simp only[Result.andThen_ok,Sem.run_pure]
    congr 2
    split<;>simp[yw]
   split at h
   ·rename_i hmn
    have hvm:vm=none:=by rcases h3 with⟨a1,-⟩|⟨_,_,-,a2⟩;exact a1;cases a2
    split at h
    ·rename_i hc
     obtain⟨c1,c2⟩:=hc
     have p5:vl=none∧lo.getD 0=0∨∃k,vl=some (.int k ((lo.getD 0:Nat):Int)):=by
      rcases h1 with⟨a1,rfl⟩|⟨k',n',a1,rfl⟩
      ·exact .inl ⟨a1,rfl⟩
      ·exact .inr ⟨k',a1⟩
     have p6:vh=none∧((hi.getD n:Nat):Int)=n∧vm=none∨∃k,vh=some (.int k ((hi.getD n:Nat):Int)):=by
      rcases h2 with⟨a1,rfl⟩|⟨k',n',a1,rfl⟩
      ·exact .inl ⟨a1,rfl,hvm⟩
      ·exact .inr ⟨k',a1⟩
     split at h
     ·split at h
      ·rename_i hcc
       have:=run c (lo.getD 0) (hi.getD n) n c1 c2 (Nat.le_refl _) hcc p5 p6 (.inl ⟨hvm,rfl⟩)
       rw[if_pos hvm] at this
       show(Instr.sliceAt t (.slice (some ⟨σ g,off,none⟩) n c) vl vh vm).run P w=_
       rw[this]
       split at h
       ·rename_i hcl
        cases h
        rw[if_pos hcl];rfl
       ·rename_i hcl
        cases h
        rw[if_neg hcl];rfl
      ·cases h
     ·cases h
    ·cases h
   ·rename_i mm m
    split at h
    ·rename_i hc
     obtain⟨c1,c2,c3,c4⟩:=hc
     have hvm:vm≠none:=by rcases h3 with⟨-,a1⟩|⟨_,_,a1,-⟩;cases a1;rw[a1];simp
     have p5:vl=none∧lo.getD 0=0∨∃k,vl=some (.int k ((lo.getD 0:Nat):Int)):=by
      rcases h1 with⟨a1,rfl⟩|⟨k',n',a1,rfl⟩
      ·exact .inl ⟨a1,rfl⟩
      ·exact .inr ⟨k',a1⟩
     have p6:vh=none∧((hi.getD n:Nat):Int)=n∧vm=none∨∃k,vh=some (.int k ((hi.getD n:Nat):Int)):=by
      rcases h2 with⟨a1,rfl⟩|⟨k',n',a1,rfl⟩
      ·cases c4
      ·exact .inr ⟨k',a1⟩
     have p7:vm=none∧m=n∨∃k,vm=some (.int k (m:Int)):=by
      rcases h3 with⟨-,a1⟩|⟨k',n',a1,a2⟩
      ·cases a1
      ·cases a2;exact .inr ⟨k',a1⟩
     split at h
     ·split at h
      ·rename_i hcc
       have:=run c (lo.getD 0) (hi.getD n) m c1 c2 c3 hcc p5 p6 p7
       rw[if_neg hvm] at this
       show(Instr.sliceAt t (.slice (some ⟨σ g,off,none⟩) n c) vl vh vm).run P w=_
       rw[this]
       split at h
       ·rename_i hcl
        cases h
        rw[if_pos hcl];rfl
       ·rename_i hcl
        cases h
        rw[if_neg hcl];rfl
      ·cases h
     ·cases h
    ·cases h
  ·cases h
 ·cases h
end
end Ev
namespace Ev
open Go.RowKit
open Sy (Cx TD TdOk CxOk KD kd tdOf qo zo um yl jl yw uh jm run_v Enters bounds_ok xn arr1 arr2)
section
variable{P:Program}{cx:Cx}{M:Nat→Prop}{σ:Nat→Nat}{S S':St}{env:Env}{a:Act}{w w':World}{o:Oper}
theorem onesX_ok{l:List Operand}{m:List SV}(h:onesX env l=some m)(he:∀x∈l,∀s,one env x=some s→a.eval x=s.den σ):l.map a.eval=dens σ m:=by
 rw[xg]
 exact mapX_eq h he
theorem opnds_parts{t:TypeId}{parts:Array (Nat×Operand)}:∀p∈parts.toList,p.2∈(Op.build t parts).operands:=by
 intro p hp
 simp only[Op.operands,List.mem_toArray,List.mem_map]
 exact⟨p,hp,rfl⟩
theorem opnds_bslice{t:TypeId}{n:Nat}{parts:Array (Nat×Operand)}:∀p∈parts.toList,p.2∈(Op.buildSlice t n parts).operands:=by
 intro p hp
 simp only[Op.operands,List.mem_toArray,List.mem_map]
 exact⟨p,hp,rfl⟩
theorem iaddrX_ok(hcx:CxOk P cx){t:TypeId}{x i:Operand}{r:XV}(h:iaddrX cx env t x i=some r)(h1:∀s,one env x=some s→a.eval x=s.den σ)(h2:∀v,con1 env i=some v→a.eval i=v) :
  (Instr.indexAt t (a.eval x) (a.eval i)).run P w=.ok (r.den σ) w:=by
 unfold iaddrX at h
 split at h
 ·rename_i g off n k c kk j hx hi
  rw[h1 _ hx,h2 _ hi]
  obtain⟨c',e1⟩:∃c',(SV.sl g off n k c).den σ=.slice (some ⟨σ g,off,none⟩) n c':=by cases k<;>exact⟨_,rfl⟩
  rw[e1]
  split at h
  ·rename_i e hk
   split at h
   ·rename_i d hd
    split at h
    ·rename_i hc
     cases h
     unfold Instr.indexAt
     rw[Sem.run_bind,xn]
     simp only[Result.andThen_ok]
     have hun:=run_underlying (kd_sl hcx hk) w
     simp[hun,hc.1,hc.2,zo (hcx _ d hd) w,yw,XV.den,TV.den,SV.den]
    ·cases h
   ·cases h
  ·cases h
 ·rename_i g off kk j hx hi
  rw[h1 _ hx,h2 _ hi]
  split at h
  ·rename_i n e hk
   split at h
   ·rename_i d hd
    split at h
    ·rename_i hc
     cases h
     obtain⟨u',g1,g2⟩:=qo hcx hk (by simp)
     obtain⟨n',e',rfl⟩:∃n' e',u'=.array n' e':=by cases u'<;>simp_all [KD.of]
     simp only[KD.of,KD.ar.injEq] at g2
     obtain⟨rfl,rfl⟩:=g2
     unfold Instr.indexAt
     rw[Sem.run_bind,xn]
     simp only[Result.andThen_ok]
     have hun:=run_underlying g1 w
     simp[hun,Instr.sureAddr,hc.1,hc.2.1,zo (hcx _ d hd) w,yw,Sem.run_bind,XV.den,TV.den,SV.den]
    ·cases h
   ·cases h
  ·cases h
 ·cases h
theorem indexX_ok(hcx:CxOk P cx){t:TypeId}{x i:Operand}{r:XV}(h:indexX P cx env t x i=some r)(h0:∀v,cX env x=some v→a.eval x=v)(h1:∀y,opv env x=some y→a.eval x=y.den σ)(h2:∀v,con1 env i=some v→a.eval i=v) :
  (Instr.index t (a.eval x) (a.eval i)).run P w=.ok (r.den σ) w:=by
 unfold indexX at h
 split at h
 ·rename_i u v hu hv
  obtain⟨z,hz,rfl⟩:=obind h
  rw[h0 u hu,h2 v hv,ofV_den]
  exact uy hz w
 ·rename_i kk j hx hi
  split at h
  ·rename_i l n e hl hk
   split at h
   ·rename_i d hd
    split at h
    ·rename_i hc
     obtain⟨u',g1,g2⟩:=qo hcx hk (by simp)
     obtain⟨n',e',rfl⟩:∃n' e',u'=.array n' e':=by cases u'<;>simp_all [KD.of]
     simp only[KD.of,KD.ar.injEq] at g2
     obtain⟨rfl,rfl⟩:=g2
     rw[h1 _ hl,h2 _ hi]
     unfold Instr.index
     rw[Sem.run_bind,xn]
     simp only[Result.andThen_ok]
     rw[Sem.run_bind,run_underlying g1 w]
     simp only[Result.andThen_ok,XV.den,TV.den]
     rw[if_pos hc,Sem.run_bind,zo (hcx _ d hd) w]
     exact partX_ok hcx h
    ·cases h
   ·cases h
  ·cases h
 ·cases h
theorem compX_ok(hcx:CxOk P cx){x:XV}(h:compX P cx env o=some x)(he:EnvOn σ env o.op a):(execOp a.eval o).run P w=.ok (.value (x.den σ)) w:=by
 unfold compX at h
 split at h
 ·rename_i y ho
  rw[ho] at he
  simp[execOp,ho,xw he (by simp[Op.operands]) h]
 ·rename_i y ho
  rw[ho] at he
  simp[execOp,ho,xw he (by simp[Op.operands]) h]
 ·rename_i c y z ho
  rw[ho] at he
  split at h
  ·rename_i hc
   simp[execOp,ho,je he (by simp[Op.operands]) hc,xw he (by simp[Op.operands]) h,asBool]
  ·rename_i hc
   simp[execOp,ho,je he (by simp[Op.operands]) hc,xw he (by simp[Op.operands]) h,asBool]
  ·cases h
 ·rename_i t parts ho
  rw[ho] at he
  simp only[execOp,ho]
  exact run_v (buildX_ok hcx h (fun p hp y hy=>xw he (opnds_parts p hp) hy))
 ·rename_i y ho
  rw[ho] at he
  split at h
  ·rename_i g off hy
   cases h
   have:=qi he (by simp[Op.operands]) hy
   simp[execOp,ho,this,SV.den,XV.den,TV.den]
  ·cases h
 ·rename_i op t y z u ho
  rw[ho] at he
  simp only[execOp,ho]
  exact run_v (binX_ok hcx h (fun v hv=>cX_den he (by simp[Op.operands]) hv) (fun v hv=>cX_den he (by simp[Op.operands]) hv) (fun v hv=>qi he (by simp[Op.operands]) hv) (fun v hv=>qi he (by simp[Op.operands]) hv))
 ·rename_i op t y ho
  rw[ho] at he
  split at h
  ·rename_i u hu
   obtain⟨z,hz,rfl⟩:=obind h
   simp only[execOp,ho]
   rw[cX_den he (by simp[Op.operands]) hu,ofV_den]
   exact run_v (uy hz w)
  ·cases h
 ·rename_i s d y ho
  rw[ho] at he
  split at h
  ·rename_i u hu
   obtain⟨z,hz,rfl⟩:=obind h
   simp only[execOp,ho]
   rw[cX_den he (by simp[Op.operands]) hu,ofV_den]
   exact run_v (uy hz w)
  ·cases h
 ·rename_i t y f ho
  rw[ho] at he
  split at h
  ·rename_i g off ft fo hy hf
   split at h
   ·rename_i d hd
    split at h
    ·cases h
    ·rename_i hne
     cases h
     obtain⟨fs,fl,g1,g2,rfl,rfl⟩:=jm hcx hf
     have e1:=qi he (by simp[Op.operands]) hy
     simp only[execOp,ho]
     refine run_v ?_
     rw[e1]
     unfold Instr.fieldAt
     rw[Sem.run_bind,run_underlying g1 w]
     simp only[Result.andThen_ok,g2]
     simp[Instr.sureAddr,fieldPlace,Sem.run_bind,zo (hcx _ d hd) w,hne,Addr.add_mid,SV.den,XV.den,TV.den]
   ·cases h
  ·cases h
 ·rename_i t y f ho
  rw[ho] at he
  split at h
  ·rename_i l ft fo hy hf
   obtain⟨fs,fl,g1,g2,rfl,rfl⟩:=jm hcx hf
   have e1:=xw he (by simp[Op.operands]) hy
   simp only[execOp,ho]
   refine run_v ?_
   rw[e1]
   unfold Instr.field
   rw[Sem.run_bind,run_underlying g1 w]
   simp only[Result.andThen_ok,g2]
   rw[Sem.run_bind]
   have:=partX_ok (P:=P) (σ:=σ) (w:=w) hcx h
   simpa[asAgg,XV.den,TV.den] using this
  ·cases h
 ·rename_i t y i ho
  rw[ho] at he
  simp only[execOp,ho]
  exact run_v (iaddrX_ok hcx h (fun s hs=>qi he (by simp[Op.operands]) hs) (fun v hv=>je he (by simp[Op.operands]) hv))
 ·rename_i t y i ho
  rw[ho] at he
  simp only[execOp,ho]
  exact run_v (indexX_ok hcx h (fun v hv=>cX_den he (by simp[Op.operands]) hv) (fun v hv=>xw he (by simp[Op.operands]) hv) (fun v hv=>je he (by simp[Op.operands]) hv))
 ·rename_i y i ho
  rw[ho] at he
  split at h
  ·rename_i l hl
   obtain⟨t,ht,rfl⟩:=obind h
   have e1:=xw he (by simp[Op.operands]) hl
   simp only[execOp,ho]
   refine run_v ?_
   simp[Instr.extract,e1,XV.den,ht]
  ·cases h
 ·rename_i fn first cap ho
  rw[ho] at he
  split at h
  ·rename_i p q hp hq
   cases h
   have e1:=onesX_ok (a:=a) (σ:=σ) hp (fun x hx s hs=>qi he (by simp only[Op.operands,Array.mem_append];exact .inl (Array.mem_toList_iff.1 hx)) hs)
   have e2:=onesX_ok (a:=a) (σ:=σ) hq (fun x hx s hs=>qi he (by simp only[Op.operands,Array.mem_append];exact .inr (Array.mem_toList_iff.1 hx)) hs)
   have f1:first.map a.eval=(dens σ p).toArray:=by apply Array.toList_inj.1;rw[Array.toList_map,e1]
   have f2:cap.map a.eval=(dens σ q).toArray:=by apply Array.toList_inj.1;rw[Array.toList_map,e2]
   simp[execOp,ho,Instr.makeFunc,f1,f2,XV.den,TV.den,SV.den]
  ·cases h
 ·rename_i b args ats ho
  rw[ho] at he
  have hmem:∀x∈args.toList,x∈(Op.call { callee:=.builtin b,args,argTypes:=ats }).operands:=fun x hx=>by
   simp only[Op.operands,Call.operands,Array.mem_append]
   exact .inr (Array.mem_toList_iff.1 hx)
  split at h
  ·rename_i vs hvs
   split at h
   ·rename_i v hv
    cases h
    have e1:args.map a.eval=vs.toArray:=by
     apply Array.toList_inj.1
     rw[Array.toList_map,mapX_eq (h:=id) hvs (fun x hx y hy=>cX_den he (hmem x hx) hy)]
     simp
    simp only[execOp,ho,resolve,invoke]
    rw[Sem.run_bind]
    simp only[Sem.run_pure,Result.andThen_ok,e1,ofV_den]
    exact uy hv w
   ·cases h
  ·split at h
   ·rename_i y t hy ht
    have e1:=arr1 hy
    have e2:=arr1 ht
    subst e1;subst e2
    unfold lenX at h
    split at h
    ·rename_i g off n k c e hx hk
     cases h
     have e1:=qi he (hmem y (by simp)) hx
     obtain⟨ad,c',e3⟩:∃ad c',(SV.sl g off n k c).den σ=.slice (some ad) n c':=by cases k<;>exact⟨_,_,rfl⟩
     rw[e3] at e1
     simp[execOp,ho,resolve,invoke,builtin,Builtin.len_,e1,Sem.run_bind,run_underlying (kd_sl hcx hk) w,goInt,XV.den,TV.den,SV.den]
    ·cases h
   ·rename_i y t hy ht
    have e1:=arr1 hy
    have e2:=arr1 ht
    subst e1;subst e2
    unfold capX at h
    split at h
    ·rename_i g off n c e hx hk
     cases h
     have e1:=qi he (hmem y (by simp)) hx
     simp only[SV.den] at e1
     simp[execOp,ho,resolve,invoke,builtin,Builtin.cap_,e1,Sem.run_bind,run_underlying (kd_sl hcx hk) w,goInt,XV.den,TV.den,SV.den]
    ·cases h
   ·cases h
 ·cases h
def calleeX:SV→Option (FuncId×List SV×List SV)
 | .con (.func (.func f) p q)=>if p.size=0∧q.size=0 then some (f,[],[]) else none
 | .fn (.func f) p q=>some (f,p,q)
 | _=>none
theorem calleeX_ok{s:SV}{f:FuncId}{p q:List SV}(h:calleeX s=some (f,p,q))(σ:Nat→Nat):s.den σ=.func (.func f) (dens σ p).toArray (dens σ q).toArray:=by
 unfold calleeX at h
 split at h
 ·split at h
  ·rename_i hc
   cases h
   simp only[SV.den,Array.eq_empty_of_size_eq_zero hc.1,Array.eq_empty_of_size_eq_zero hc.2]
   rfl
  ·cases h
 ·cases h;rfl
 ·cases h
def opX(P:Program)(cx:Cx)(r:y8)(env:Env)(S:St)(o:Oper):Option (XV×St):=match compX P cx env o with
 | some x=>some (x,S)
 | none=>match o.op with
   | .buildSlice t n parts=>bsliceX cx S env t n parts.toList
   | .alloc t=>allocX cx S t
   | .box t x=>match opv env x with
     | some y=>boxX S t y
     | none=>none
   | .load t x=>match one env x with
     | some s=>loadX cx S t s
     | none=>none
   | .store t x y=>match one env x,opv env y with
     | some s,some z=>match storeX cx S t s z with
       | some S'=>some (undefX,S')
       | none=>none
     | _,_=>none
   | .makeSlice t n c=>match con1 env n,con1 env c with
     | some n,some c=>makeX cx S t n c
     | _,_=>none
   | .slice t x lo hi mx=>sliceX P cx S env t x lo hi mx
   | .call { callee:=.builtin .append,args,argTypes }=>match args.toList,argTypes.toList with
     | [s,x],[t,t']=>if t=t' then match one env s,one env x with
        | some s,some x=>appX cx S t s x
        | _,_=>none
       else none
     | _,_=>none
   | .call { callee:=.value f,args,argTypes }=>match one env f,mapX (opv env) args.toList with
     | some fv,some az=>match calleeX fv with
       | some (f,p,q)=>r f (p.map (fun s=>.v (.one s))++az++q.map (fun s=>.v (.one s))) S
       | none=>none
     | _,_=>none
   | _=>none
def StepX(P:Program)(M:Nat→Prop)(σ:Nat→Nat)(S:St)(w:World)(a:Act)(o:Oper)(x:XV)(S':St):Prop:=
 Reg4.StepOk P (fun v w'=>Aft M σ S w x S' v w') ((execOp a.eval o).run P w)
theorem sliceX_ok(hcx:CxOk P cx){t:TypeId}{x:Operand}{lo hi mx:Option Operand}{r:XV}(h:sliceX P cx S env t x lo hi mx=some (r,S'))(h0:∀v,cX env x=some v→a.eval x=v)(h1:∀s,one env x=some s→a.eval x=s.den σ)
  (hl:∀y,lo=some y→(∀v,con1 env y=some v→a.eval y=v)∧∀v,cX env y=some v→a.eval y=v) (hh:∀y,hi=some y→(∀v,con1 env y=some v→a.eval y=v)∧∀v,cX env y=some v→a.eval y=v)
  (hm:∀y,mx=some y→(∀v,con1 env y=some v→a.eval y=v)∧∀v,cX env y=some v→a.eval y=v) :
  S'=S∧(Instr.sliceAt t (a.eval x) (lo.map a.eval) (hi.map a.eval) (mx.map a.eval)).run P w=.ok (r.den σ) w:=by
 unfold sliceX at h
 split at h
 ·rename_i u hu
  split at h
  ·rename_i l hh' m e1 e2 e3
   obtain⟨v,hv,e⟩:=obind h
   cases e
   refine⟨rfl,?_⟩
   rw[h0 u hu,optX_ok e1 (fun y hy=>(hl y hy).2),optX_ok e2 (fun y hy=>(hh y hy).2),optX_ok e3 (fun y hy=>(hm y hy).2),ofV_den]
   exact uy hv w
  ·cases h
 ·split at h
  ·rename_i g off n k c hx
   split at h
   ·rename_i l hh' m e1 e2 e3
    obtain⟨s,hs,e⟩:=obind h
    cases e
    refine⟨rfl,?_⟩
    rw[h1 _ hx]
    exact cutX_ok hcx hs (bound_args e1 (fun y hy=>(hl y hy).1)) (bound_args e2 (fun y hy=>(hh y hy).1)) (bound_args e3 (fun y hy=>(hm y hy).1))
   ·cases h
  ·cases h
end
end Ev
end Go.Proofs.YtmadfhgiaonnlaaGreatDoor
