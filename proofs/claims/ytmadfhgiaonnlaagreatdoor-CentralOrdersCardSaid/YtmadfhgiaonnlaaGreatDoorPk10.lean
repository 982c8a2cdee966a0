import Derived.Test.YtmadfhgiaonnlaaGreatDoorPk9
set_option linter.unusedVariables false
set_option linter.unusedSimpArgs false
namespace Go.Proofs.YtmadfhgiaonnlaaGreatDoor
namespace Sy
open Go.RowKit
section
variable{P:Program}{cx:Cx}{W0:World}{S:St}{base:Nat}{ρ:Val}{T T':Nat→Prop}{w w':World}{a:Act}{Ω:Val→Prop}
theorem list_of{α:Type}{Q:Nat→α→Prop}(n:Nat)(h:∀j,j<n→∃v,Q j v):∃l:List α,l.length=n∧∀j v,l[j]? = some v→Q j v:=by
 induction n with
 | zero=>exact⟨[],rfl,fun j v h=>by simp at h⟩
 | succ n ih=>
   obtain⟨l,h1,h2⟩:=ih (fun j hj=>h j (by omega))
   obtain⟨v,hv⟩:=h n (by omega)
   refine⟨l++[v],by simp[h1],fun j u hu=>?_⟩
   by_cases hj:j<n
   ·rw[List.getElem?_append_left (by omega)] at hu;exact h2 j u hu
   ·rw[List.getElem?_append_right (by omega)] at hu
    have:j=n:=by
     have:=(List.getElem?_eq_some_iff.1 hu).1
     simp only[List.length_singleton] at this
     omega
    subst this
    rw[h1,Nat.sub_self] at hu
    cases hu
    exact hv
theorem CV.rows{m lb n c b off:Nat}{e:TypeId}{f:List CT}(hw:WT cx.tb W0 T w)(hf:cx.tb.flat e=some f)(hl:0<f.length)(h:CV cx.tb W0 T w base (.sl m e lb) (.slice (some ⟨b,off,none⟩) n c)) :
  ∃news:List Value,news.length=n*f.length∧∀j v,news[j]? = some v→w.cell? ⟨b,off+j,none⟩=some v∧∃ct,f[j%f.length]? = some ct∧CV cx.tb W0 T w 0 ct v:=by
 have hsz:cx.tb.sz e=f.length:=by simp[Tab.sz,hf]
 refine list_of _ (fun j hj=>?_)
 have hi:j/f.length<n:=by rw[Nat.div_lt_iff_lt_mul hl];exact hj
 have hk:j%f.length<f.length:=Nat.mod_lt _ hl
 have hel:=h.elem hi
 obtain⟨v,hv1,hv2⟩:=hw.load hel (k:=j%f.length) (ct:=f[j%f.length]) (by rw[hf];simp[hk])
 refine⟨v,?_,_,List.getElem?_eq_getElem hk,hv2⟩
 rw[hsz,Nat.add_assoc,Nat.mul_comm (j/f.length),Nat.div_add_mod] at hv1
 exact hv1
theorem zeroCells_eq{z:Array Value}{n:Nat}:Builtin.zeroCells z n=(Array.range (n*z.size)).map (fun i=>z[i%z.size]!):=rfl
theorem append_room{t ty e:TypeId}{i:TypeInfo}(ht:P.underlying t=some (.slice e))(hi:P.info? e=some i){b off sLen sCap:Nat}{cs:Array Value}{te:TypeId}{fr:Nat×Nat}(hc:w.heap[b]? = some (.cells cs te fr))(hf:Fz cs fr)
  {x:Value} {n:Nat} {news:List Value} (hx:(Builtin.lenOf x).run P w=.ok n w) (hn:(Builtin.firstCells i.size n x).run P w=.ok news.toArray w) (h1:∀v∈news,v.oneCell'=true) (hroom:sLen+n≤sCap) (hfit:off+sLen*i.size+news.length≤cs.size) :
  (Builtin.append_ #[t,t] ty #[.slice (some ⟨b,off,none⟩) sLen sCap,x]).run P w=.ok (.slice (some ⟨b,off,none⟩) (sLen+n) sCap) (w.setCells b (off+sLen*i.size) news):=by
 have hst:=run_storeCells_cells (P:=P) b (off+sLen*i.size) news 0 w (fun j hj=>by
  rw[cell_of_row w b _ cs te fr hc,Array.getElem?_eq_getElem (by omega)];rfl) (fun j hj=>by
  simp only[World.frozen?,hc]
  rcases hf with rfl|hf
  ·simp
  ·have:¬fr.1≤off+sLen*i.size+j:=by omega
   simp[this]) h1
 rw[Nat.add_zero] at hst
 simp[Builtin.append_,run_underlying ht,sizeOf,typeInfo,hi,hx,hroom,hn,yw,hst]
theorem jr{t ty e:TypeId}{i:TypeInfo}(ht:P.underlying t=some (.slice e))(hi:P.info? e=some i){x:Value}(hx:(Builtin.lenOf x).run P w=.ok 0 w)(hn:(Builtin.firstCells i.size 0 x).run P w=.ok #[] w) :
  (Builtin.append_ #[t,t] ty #[.slice none 0 0,x]).run P w=.ok (.slice none 0 0) w:=by
 simp[Builtin.append_,run_underlying ht,sizeOf,typeInfo,hi,hx,hn]
theorem stp_drew{tb:Tab}(h:WT tb W0 T w)(base:Nat):Stp tb W0 T w T w.drew base true none:=by
 have hcv:∀{ct:CT} {v:Value} {b:Nat},CV tb W0 T w b ct v→CV tb W0 T w.drew b ct v:=fun h=>h.mono ⟨fun _ h=>h,fun _ _ _ _ h=>h,fun _ _ _ _ _ _ h=>h,fun _ _ _ h=>h⟩ (Nat.le_refl _)
 refine⟨⟨h.size,h.alien,h.home,fun b hb=>?_,h.ix⟩,⟨fun _ h=>h,fun _ _ _ _ h=>h,fun _ _ _ _ _ _ h=>h,fun _ _ _ h=>h⟩,fun _ h=>.inl h,Nat.le_refl _,rfl,rfl,rfl,fun _ _ _ _=>rfl,fun _ _ _=>rfl⟩
 obtain⟨cs,e,fr,l,q1,q2,q3,q4,q5⟩:=h.typed b hb
 exact⟨cs,e,fr,l,q1,q2,q3,q4,fun i v hv=>by obtain⟨ct,k1,k2⟩:=q5 i v hv;exact⟨ct,k1,hcv k2⟩⟩
theorem Stp.trans{tb:Tab}{T1 T2:Nat→Prop}{w1 w2:World}(h:Stp tb W0 T w T1 w1 base true none)(k:Stp tb W0 T1 w1 T2 w2 base true none):Stp tb W0 T w T2 w2 base true none:=by
 refine⟨k.wt,h.ext.trans k.ext,fun b hb=>?_,Nat.le_trans h.size k.size,k.os.trans h.os,k.tape.trans h.tape,k.output.trans h.output,fun b hb hT _=>?_,fun b hb hp=>(k.pure b hb (.inl rfl)).trans (h.pure b hb (.inl rfl))⟩
 ·rcases k.new b hb with h1|h1
  ·exact h.new b h1
  ·exact .inr (Nat.le_trans h.size h1)
 ·refine(k.keep b (Nat.lt_of_lt_of_le hb h.size) (fun hT1=>?_) (by simp)).trans (h.keep b hb hT (by simp))
  rcases h.new b hT1 with h1|h1
  ·exact hT h1
  ·omega
def srcOk(cx:Cx)(S:St)(e:TypeId)(x:SV):Bool:=match S.slTy x with
 | some (_,e',_)=>decide (e'=e)
 | none=>isNilS x
def dstOk(cx:Cx)(S:St)(e:TypeId)(x:SV):Option Nat:=match S.slTy x with
 | some (m,e',_)=>if 1≤m∧e'=e then some m else none
 | none=>if isNilS x then some 2 else none
def appA(cx:Cx)(S:St)(t:TypeId)(s x:SV):Option Res:=match kd cx t,S.len s,S.len x with
 | .sl e,some ls,some lx=>match tdOf cx e,cx.tb.flat e,dstOk cx S e s with
   | some d,some f,some m=>if !fzE e && zeroOk d f && srcOk cx S e x && S.ent ((Lin.k LM).sub (ls.add lx)) && decide (d.bytes≤32768) then
      some ⟨mk1 S (.sl m e LM) [(Lin.at S.nv).sub (ls.add lx),(ls.add lx).sub (Lin.at S.nv)],.no,decide (2≤m)⟩ else none
   | _,_,_=>none
 | _,_,_=>none
theorem src_cv{e:TypeId}{x:SV}(hs:SatW cx.tb W0 S base ρ T w)(h:srcOk cx S e x=true):∃lb,CV cx.tb W0 T w base (.sl 0 e lb) (x.den ρ):=by
 unfold srcOk at h
 split at h
 ·rename_i m e' lb hsl
  have:=of_decide_eq_true h
  subst this
  obtain⟨n,rfl,h1,-⟩:=slTy_ok hs hsl
  exact⟨lb,h1.le (by simp[CT.le])⟩
 ·rw[isNilS_ok h];exact⟨0,.inl rfl⟩
theorem dst_cv{e:TypeId}{x:SV}{m:Nat}(hs:SatW cx.tb W0 S base ρ T w)(h:dstOk cx S e x=some m):1≤m∧∃lb,CV cx.tb W0 T w base (.sl m e lb) (x.den ρ):=by
 unfold dstOk at h
 split at h
 ·rename_i m' e' lb hsl
  split at h
  ·rename_i hc
   cases h
   obtain⟨h1,rfl⟩:=hc
   obtain⟨n,rfl,h2,-⟩:=slTy_ok hs hsl
   exact⟨h1,lb,h2⟩
  ·cases h
 ·split at h
  ·rename_i hc;cases h;rw[isNilS_ok hc];exact⟨by omega,0,.inl rfl⟩
  ·cases h
theorem appA_ok(hcx:CxOk P cx){o:Oper}{t:TypeId}{s x:Operand}{ss sx:SV}{r:Res}(ho:o.op=.call { callee:=.builtin .append,args:=#[s,x],argTypes:=#[t,t] })(hs1:S.one s=some ss)(hx1:S.one x=some sx)(h:appA cx S t ss sx=some r)(H:Hyp cx W0 S base Ω T w a) :
  StepR P cx W0 S base Ω T w a o r:=by
 obtain⟨ρ0,h0⟩:=H.ex
 have hs0:=H.sat ρ0 h0
 unfold appA at h
 split at h
 ·rename_i e ls lx hk hls hlx
  split at h
  ·rename_i d f m hd hf hm
   split at h
   ·rename_i hcc
    cases h
    simp only[Bool.and_eq_true,decide_eq_true_eq] at hcc
    obtain⟨⟨⟨⟨hne,hz⟩,hsrc⟩,c3⟩,c4⟩:=hcc
    simp only[Bool.not_eq_true'] at hne
    have q3:=hs0.ent c3
    rw[Lin.qc,Lin.zh,Lin.jg] at q3
    obtain⟨u',g1,g2⟩:=qo hcx hk (by simp)
    obtain⟨e'',rfl⟩:∃e'',u'=.slice e'':=by cases u'<;>simp_all [KD.of]
    simp only[KD.of,KD.sl.injEq] at g2
    subst g2
    obtain⟨i,hi1,hi2,hi3,z,hz1,hz2⟩:=yl (hcx _ d hd)
    obtain⟨z1,z2,z3,-⟩:=zeroOk_ok (cx:=cx) (W0:=W0) (T:=T) (w:=w) (base:=base) hz
    obtain⟨lb1,hcx1⟩:=src_cv hs0 hsrc
    obtain⟨hm1,lb2,hcs1⟩:=dst_cv hs0 hm
    have ed:=qi (H.env ρ0 h0) hs1
    have ex:=qi (H.env ρ0 h0) hx1
    rw[←ed] at hcs1
    rw[←ex] at hcx1
    obtain⟨A,n,c,v1,v2,v3,v4,v5⟩:=hcs1.slc
    obtain⟨B,k,c',u1,u2,u3,u4,u5⟩:=hcx1.slc
    have eln:=jo hs0 (by rw[←ed,v1]) hls
    have elx:=jo hs0 (by rw[←ex,u1]) hlx
    have hLM:(LM:Int)=4294967296:=by decide
    have hml:maxLen=9223372036854775807:=by decide
    have hsz:i.size=f.length:=by rw[hi2,z2]
    rw[v1] at hcs1
    rw[u1] at hcx1
    have hexec:∀{v:Value} {w1:World},(Builtin.append_ #[t,t] o.type #[.slice A n c,.slice B k c']).run P w=.ok v w1→(execOp a.eval o).run P w=.ok (.value v) w1:=by
     intro v w1 hr
     rw[←v1,←u1] at hr
     simp only[execOp,ho,resolve,invoke,builtin]
     simpa[Sem.run_bind] using run_w hr
    have hfacts:∀(v:Value),meas v=(n:Int)+k→∀ρ,Ω ρ→ρ S.nv=v→∀g∈[(Lin.at S.nv).sub (ls.add lx),(ls.add lx).sub (Lin.at S.nv)],0≤g.eval ρ:=by
     intro v hv ρ hρ hρv g hg
     have e1:=jo (H.sat ρ hρ) (by rw[←qi (H.env ρ hρ) hs1,v1]) hls
     have e2:=jo (H.sat ρ hρ) (by rw[←qi (H.env ρ hρ) hx1,u1]) hlx
     simp only[List.mem_cons,List.not_mem_nil,or_false] at hg
     rcases hg with rfl|rfl<;>simp only[Lin.qc,Lin.jg,Lin.qg,hρv,hv,e1,e2]<;>omega
    have hsrcc:∃news:List Value,news.length=k*f.length∧(∀j v,news[j]? = some v→∃ct,f[j%f.length]? = some ct∧CV cx.tb W0 T w 0 ct v)∧∀w1:World,(∀b o,w1.cell? ⟨b,o,none⟩=w.cell? ⟨b,o,none⟩)→(Builtin.firstCells i.size k (.slice B k c')).run P w1=.ok news.toArray w1:=by
     cases B with
     | none=>
       obtain⟨rfl,rfl⟩:=u4 rfl
       exact⟨[],by simp,fun j v h=>by simp at h,fun w1 _=>run_firstCells_none w1 _ _ _ _⟩
     | some ad=>
       by_cases hc0:c'=0
       ·have hk0:k=0:=by omega
        subst hk0
        exact⟨[],by simp,fun j v h=>by simp at h,fun w1 _=>run_firstCells_some (P:=P) w1 i.size 0 ad 0 c' [] (by simp) (fun j v h=>by simp at h)⟩
       obtain⟨b,off,sp⟩:=ad
       have hsp:=u5 _ rfl hc0
       simp only at hsp
       subst hsp
       obtain⟨news,n1,n2⟩:=CV.rows hs0.wt hf z3 hcx1
       refine⟨news,n1,fun j v hv=>(n2 j v hv).2,fun w1 hw1=>run_firstCells_some (P:=P) w1 i.size k ⟨b,off,none⟩ k c' news (by rw[hsz];exact n1) (fun j v hv=>by rw[yw,hw1];exact(n2 j v hv).1)⟩
    obtain⟨news,n1,n2,n3⟩:=hsrcc
    have hone:∀v∈news,v.oneCell'=true:=fun v hv=>by
     obtain⟨j,hj⟩:=List.getElem?_of_mem hv
     obtain⟨ct,-,hc⟩:=n2 j v hj
     exact hc.one
    by_cases hroom:n+k≤c
    ·cases A with
     | none=>
       obtain⟨rfl,rfl⟩:=v4 rfl
       have hk0:k=0:=by omega
       subst hk0
       have hnil:news=[]:=by simpa using n1
       subst hnil
       unfold StepR
       rw[hexec (jr g1 hi1 rfl (n3 w (fun _ _=>rfl)))]
       exact⟨T,none,Stp.refl hs0.wt base _,fun ρ hρ _=>⟨zq (.inl rfl) (hfacts _ (by simp[meas]) ρ hρ),rfl⟩⟩
     | some ad=>
       obtain⟨b,off,sp⟩:=ad
       have hsp:sp=none:=by
        rcases hcs1 with hb|⟨hb,-⟩|⟨b',off',n',cc,b1,-⟩
        ·cases hb
        ·omega
        ·injection b1 with e1;injection e1 with e1;injection e1
       subst hsp
       rcases hcs1 with hb|⟨hb,-⟩|⟨b',off',n',cc,b1,b2,b3,b4,b5,b6,b7,b8,cs,fr,b9,b10⟩
       ·cases hb
       ·omega
       ·injection b1 with e1 e2 e3
        injection e1 with e1;injection e1 with e1 e4
        subst e1;subst e2;subst e3;subst e4
        obtain⟨cs1,te,fr1,lt,t1,t2,t3,t4,t5⟩:=hs0.wt.typed b b5
        rw[b9] at t1
        injection t1 with t1;injection t1 with t1 t6 t7
        subst t1;subst t6;subst t7
        rw[hf] at t3
        cases t3
        have hszt:cx.tb.sz e''=f.length:=by simp[Tab.sz,hf]
        rw[hszt] at b8 b10
        have hmul:(n+k)*f.length≤c*f.length:=Nat.mul_le_mul_right _ hroom
        rw[Nat.add_mul] at hmul
        have hfit:off+n*i.size+news.length≤cs.size:=by rw[hsz,n1];omega
        unfold StepR
        rw[hexec (append_room g1 hi1 b9 t2 rfl (n3 w (fun _ _=>rfl)) hone hroom hfit)]
        obtain⟨cs',k1,k2,k3⟩:=yf b e'' fr news (off+n*i.size) w cs b9
        obtain⟨r1,r2,r3,r4⟩:=yj b news (off+n*i.size) w
        have hother:=fun q (hq:q≠b)=>heap_setCells_other b news (off+n*i.size) w q hq
        obtain⟨f1,f2⟩:=hs0.wt.write (w':=w.setCells b (off+n*i.size) news) hne b5 b9 hf k2 k1 (by rcases t2 with h|h;exact .inl h;exact .inr (by omega)) hother r1 (fun q v hv=>by
         rw[k3 q] at hv
         split at hv
         ·rename_i hq
          obtain⟨ct,p1,p2⟩:=n2 _ v hv
          refine .inr ⟨ct,?_,p2⟩
          rw[←p1]
          congr 1
          rw[hsz] at hq ⊢
          have hoff:off=off/f.length*f.length:=by
           have:=Nat.div_add_mod off f.length
           rw[b8,Nat.add_zero,Nat.mul_comm] at this
           exact this.symm
          have e5:q=(q-(off+n*f.length))+(off/f.length+n)*f.length:=by rw[Nat.add_mul,←hoff];omega
          conv=>lhs;rw[e5]
          rw[Nat.add_mul_mod_self_right]
         ·exact .inl hv) (.inl (zeroOk_no hz))
        refine⟨T,none,⟨f1,f2,fun _ h=>.inl h,by rw[r1];exact Nat.le_refl _,r2,r3,r4,fun q hq hqT _=>hother q (fun e=>hqT (e ▸ b5)),fun q hq hpu=>hother q (fun e=>?_)⟩,fun ρ hρ _=>⟨zq (.inr (.inr ⟨b,off,n+k,c,rfl,hroom,by omega,b4,b5,b6,b7,by rw[hszt];exact b8,f2.row _ _ _ b5 ⟨cs,fr,b9,by rw[hszt];exact b10⟩⟩)) (hfacts _ (by simp[meas]) ρ hρ),rfl⟩⟩
        subst e
        rcases hpu with hpu|hpu
        ·have:=b6 (of_decide_eq_true hpu);omega
        ·exact hpu b5
    ·
     have hk0:0<k:=by omega
     have hcapge:n+k≤grownCap w (n+k) c e'':=grownCap_ge w _ _ _
     have hcaple:grownCap w (n+k) c e''≤maxLen:=grownCap_le_maxLen w _ _ _ (by omega)
     have hbytes:(n+k)*i.bytes≤140737488355328:=by
      have h1:(n+k)*i.bytes≤4294967296*32768:=Nat.mul_le_mul (by omega) (by omega)
      omega
     have hnx:=growslice_fits (need:=n+k) (old:=c) (bytes:=i.bytes) (by omega) hbytes
     have hold:∃olds:List Value,olds.length=n*f.length∧(∀j v,olds[j]? = some v→∃ct,f[j%f.length]? = some ct∧CV cx.tb W0 T w 0 ct v)∧∃q,(Builtin.append_ #[t,t] o.type #[.slice A n c,.slice B k c']).run P w=.ok (.slice (some ⟨w.heap.size,0,none⟩) (n+k) (grownCap w (n+k) c e'')) (w.drew.alloc (.cells q e'')) ∧
      q=olds.toArray++news.toArray++Builtin.zeroCells z.cells (grownCap w (n+k) c e''-(n+k)):=by
      cases B with
      | none=>have:=u4 rfl;omega
      | some bd=>
        have hnews:∀j v,news[j]? = some v→w.cell? (bd.add j)=some v:=by
         obtain⟨b,off,sp⟩:=bd
         have hsp:=u5 _ rfl (by omega)
         simp only at hsp
         subst hsp
         obtain⟨news',m1,m2⟩:=CV.rows hs0.wt hf z3 hcx1
         have h1:=n3 w (fun _ _=>rfl)
         have h2:=run_firstCells_some (P:=P) w i.size k ⟨b,off,none⟩ k c' news' (by rw[hsz];exact m1) (fun j v hv=>by rw[yw];exact(m2 j v hv).1)
         rw[h2] at h1
         injection h1 with h1
         have:news'=news:=by simpa using congrArg Array.toList h1
         subst this
         exact fun j v hv=>by rw[yw];exact(m2 j v hv).1
        cases A with
        | none=>
          obtain⟨rfl,rfl⟩:=v4 rfl
          refine⟨[],by simp,fun j v h=>by simp at h,_,?_,rfl⟩
          have hr:=run_append_nil (P:=P) w t o.type e'' i z g1 hi1 hz1 bd k c' news (by rw[n1,hsz]) hnews hk0 (by omega) (by rw[Nat.zero_add] at hbytes;omega)
          simpa using hr
        | some ad=>
          obtain⟨b,off,sp⟩:=ad
          have hsp:sp=none:=by
           rcases hcs1 with hb|⟨hb,-⟩|⟨b',off',n',cc,b1,-⟩
           ·cases hb
           ·omega
           ·injection b1 with e1;injection e1 with e1;injection e1
          subst hsp
          obtain⟨olds,m1,m2⟩:=CV.rows hs0.wt hf z3 hcs1
          refine⟨olds,m1,fun j v hv=>(m2 j v hv).2,_,?_,rfl⟩
          exact run_append_grow (P:=P) w t o.type e'' i z g1 hi1 hz1 ⟨b,off,none⟩ n c olds (by rw[m1,hsz]) (fun j v hv=>by rw[yw];exact(m2 j v hv).1) bd k c' news (by rw[n1,hsz]) hnews (by omega) (by omega) hnx
     obtain⟨olds,o1,o2,q,hrun,hq⟩:=hold
     unfold StepR
     rw[hexec hrun]
     have hd1:=stp_drew (tb:=cx.tb) hs0.wt base
     have hzs:z.cells.size=f.length:=by rw[←Array.length_toList,hz2,z1]
     have hqty:∀j v,q[j]? = some v→∃ct,f[j%f.length]? = some ct∧CV cx.tb W0 T w.drew 0 ct v:=by
      intro j v hv
      rw[hq] at hv
      have hos:olds.toArray.size=n*f.length:=by simpa using o1
      have hns:news.toArray.size=k*f.length:=by simpa using n1
      by_cases h1:j<n*f.length
      ·rw[Array.append_assoc,Array.getElem?_append_left (by omega)] at hv
       obtain⟨ct,p1,p2⟩:=o2 j v (by simpa using hv)
       exact⟨ct,p1,p2.mono hd1.ext (Nat.le_refl _)⟩
      ·by_cases h2:j<n*f.length+k*f.length
       ·rw[Array.getElem?_append_left (by rw[Array.size_append];omega),Array.getElem?_append_right (by omega),hos] at hv
        obtain⟨ct,p1,p2⟩:=n2 _ v (by simpa using hv)
        refine⟨ct,?_,p2.mono hd1.ext (Nat.le_refl _)⟩
        rw[←p1];congr 1
        conv=>lhs;rw[show j=(j-n*f.length)+n*f.length by omega]
        rw[Nat.add_mul_mod_self_right]
       ·rw[Array.getElem?_append_right (by rw[Array.size_append];omega),Array.size_append,hos,hns] at hv
        rw[zeroCells_eq] at hv
        obtain⟨ct,p1,p2⟩:=cyc_ok (cx:=cx) (W0:=W0) (T:=T) (w:=w) (base:=0) hz hz2 _ _ v hv
        refine⟨ct,?_,p2.mono hd1.ext (Nat.le_refl _)⟩
        rw[←p1];congr 1
        conv=>lhs;rw[show j=(j-(n*f.length+k*f.length))+(n+k)*f.length by rw[Nat.add_mul];omega]
        rw[Nat.add_mul_mod_self_right]
     have hd2:=stp_new (base:=base) (w:=w.drew) hd1.wt hs0.bs hf z3 (zeroOk_no hz) hqty true
     have hqs:(n+k+(grownCap w (n+k) c e''-(n+k)))*f.length≤q.size:=by
      rw[hq]
      simp only[Array.size_append,List.size_toArray,o1,n1,size_zeroCells,hzs]
      rw[Nat.add_mul,Nat.add_mul];omega
     have hpu:∀{pu:Bool},Stp cx.tb W0 T w (add T w.heap.size) (w.drew.alloc (.cells q e'')) base pu none:=fun {pu}=>by
      have h:=hd1.trans hd2
      exact⟨h.wt,h.ext,h.new,h.size,h.os,h.tape,h.output,h.keep,fun b hb _=>h.pure b hb (.inl rfl)⟩
     refine⟨add T w.heap.size,none,hpu,fun ρ hρ _=>⟨zq ?_ (hfacts _ (by simp[meas]) ρ hρ),rfl⟩⟩
     have hcvn:=cv_new (cx:=cx) (W0:=W0) (T:=T) (w:=w.drew) (base:=base) (cs:=q) (n:=n+k) (c:=grownCap w (n+k) c e'') (lb:=LM) hf z3 hs0.bs hcapge (by omega) hcaple (by
      have:n+k+(grownCap w (n+k) c e''-(n+k))=grownCap w (n+k) c e'':=by omega
      rw[this] at hqs;exact hqs)
     rcases hcvn with h|⟨h,-⟩|⟨b,off,n',cc,b1,b2,b3,b4,b5,b6,b7⟩
     ·cases h
     ·cases h
     ·exact .inr (.inr ⟨b,off,n',cc,b1,b2,b3,b4,b5,fun _=>b6 (Nat.le_refl _),b7⟩)
   ·cases h
  ·cases h
 ·cases h
end
open Go.RowKit
def leafsL(g:TypeId→Option (List KD)):List (TypeId×Nat)→Nat→Option (List KD)
 | [],_=>some []
 | (t,off)::r,pos=>if off=pos then match g t with
   | some l=>(leafsL g r (pos+l.length)).map (l++·)
   | none=>none else none
def leafs(cx:Cx):Nat→TypeId→Option (List KD)
 | 0,_=>none
 | n+1,t=>match tdOf cx t with
   | some d=>match d.k with
     | .int k=>some [.int k]
     | .bool=>some [.bool]
     | .str=>some [.str]
     | .st fs=>if d.eq then match leafsL (leafs cx n) fs 0 with
       | some l=>if l.length=d.size then some l else none
       | none=>none else none
     | _=>none
   | none=>none
def IsK:KD→Value→Prop
 | .int k,v=>∃n,v=.int k n
 | .bool,v=>∃b,v=.bool b
 | .str,v=>∃s,v=.string s
 | _,_=>False
def Cells(l:List KD)(xs:Array Value)(off:Nat):Prop:=∀j k,l[j]? = some k→∃v,xs[off+j]? = some v∧IsK k v
def ValK(agg:Bool)(l:List KD)(a:Value):Prop:=if agg then ∃cs,a=.agg cs∧Cells l cs 0 else ∃k,l=[k]∧IsK k a
section
variable{P:Program}{cx:Cx}{W0:World}{S:St}{base:Nat}{ρ:Val}{T T':Nat→Prop}{w w':World}{a:Act}{Ω:Val→Prop}
theorem leafs_td{n:Nat}{t:TypeId}{l:List KD}(h:leafs cx n t=some l):∃d,tdOf cx t=some d∧(d.k.agg=true→l.length=d.size)∧(d.k.agg=false→∃k,l=[k]):=by
 cases n with
 | zero=>cases h
 | succ n=>
   unfold leafs at h
   split at h
   ·rename_i d hd
    refine⟨d,hd,?_⟩
    split at h
    ·rename_i k hk;cases h;rw[hk];exact⟨fun h=>(by cases h),fun _=>⟨_,rfl⟩⟩
    ·rename_i hk;cases h;rw[hk];exact⟨fun h=>(by cases h),fun _=>⟨_,rfl⟩⟩
    ·rename_i hk;cases h;rw[hk];exact⟨fun h=>(by cases h),fun _=>⟨_,rfl⟩⟩
    ·rename_i fs hk
     split at h
     ·split at h
      ·split at h
       ·rename_i hl
        cases h
        rw[hk];exact⟨fun _=>hl,fun h=>by cases h⟩
       ·cases h
      ·cases h
     ·cases h
    ·cases h
   ·cases h
theorem part_val(hcx:CxOk P cx){n:Nat}{t:TypeId}{l:List KD}{d:TD}(h:leafs cx n t=some l)(hd:tdOf cx t=some d){xs:Array Value}{off:Nat}(hc:Cells l xs off):∃v,(part t xs off).run P w=.ok v w∧ValK d.k.agg l v:=by
 obtain⟨d',hd',h1,h2⟩:=leafs_td h
 rw[hd] at hd'
 cases hd'
 have htd:=hcx t d hd
 have hag:=um htd w
 have hsz:=zo htd w
 cases hagg:d.k.agg with
 | true=>
   rw[hagg] at hag
   refine⟨.agg (xs.extract off (off+d.size)),by simp[part,Sem.run_bind,hag,hsz],_,rfl,fun j k hj=>?_⟩
   obtain⟨v,q1,q2⟩:=hc j k hj
   have hlt:j<d.size:=by rw[←h1 hagg];exact(List.getElem?_eq_some_iff.1 hj).1
   refine⟨v,?_,q2⟩
   rw[Nat.zero_add,Array.getElem?_extract,if_pos (by have:=(Array.getElem?_eq_some_iff.1 q1).1;omega)]
   exact q1
 | false=>
   rw[hagg] at hag
   obtain⟨k,rfl⟩:=h2 hagg
   obtain⟨v,q1,q2⟩:=hc 0 k rfl
   exact⟨v,by simp[part,Sem.run_bind,hag,show xs[off]? = some v by simpa using q1],k,rfl,q2⟩
theorem eqIn_ok(hcx:CxOk P cx):∀(n:Nat) (t:TypeId) (l:List KD) (d:TD),leafs cx n t=some l→tdOf cx t=some d→∀(f:Nat) (x y:Value),n≤f→ValK d.k.agg l x→ValK d.k.agg l y→∃β,(Op.equalIn f t x y).run P w=.ok β w
 | 0,t,l,d,h,hd,f,x,y,hf,hx,hy=>by cases h
 | n+1,t,l,d,h,hd,f,x,y,hf,hx,hy=>by
   obtain⟨f,rfl⟩:∃f',f=f'+1:=⟨f-1,by omega⟩
   obtain⟨u,g1,g2⟩:=jl (hcx t d hd)
   unfold leafs at h
   rw[hd] at h
   simp only at h
   split at h
   ·rename_i k hk
    cases h
    rw[hk] at hx hy g2
    obtain⟨k1,e1,hx⟩:=hx
    obtain⟨k2,e2,hy⟩:=hy
    cases e1;cases e2
    obtain⟨n1,rfl⟩:=hx
    obtain⟨n2,rfl⟩:=hy
    obtain⟨k',rfl⟩:∃k',u=.int k':=by cases u<;>simp_all [KD.of]
    exact⟨_,run_equalIn_int w f t k k' n1 n2 g1⟩
   ·rename_i hk
    cases h
    rw[hk] at hx hy g2
    obtain⟨k1,e1,hx⟩:=hx
    obtain⟨k2,e2,hy⟩:=hy
    cases e1;cases e2
    obtain⟨n1,rfl⟩:=hx
    obtain⟨n2,rfl⟩:=hy
    have:u=.bool:=by cases u<;>simp_all [KD.of]
    subst this
    exact⟨_,run_equalIn_bool' w f t n1 n2 g1⟩
   ·rename_i hk
    cases h
    rw[hk] at hx hy g2
    obtain⟨k1,e1,hx⟩:=hx
    obtain⟨k2,e2,hy⟩:=hy
    cases e1;cases e2
    obtain⟨n1,rfl⟩:=hx
    obtain⟨n2,rfl⟩:=hy
    have:u=.string:=by cases u<;>simp_all [KD.of]
    subst this
    exact⟨_,run_equalIn_string w f t n1 n2 g1⟩
   ·rename_i fs hk
    split at h
    ·rename_i heq
     split at h
     ·rename_i l' hl'
      split at h
      ·rename_i hlen
       have e0:l'=l:=oi h
       subst e0
       rw[hk] at hx hy g2
       obtain⟨xs,rfl,cx1⟩:=hx
       obtain⟨ys,rfl,cy1⟩:=hy
       obtain⟨fl,rfl⟩:∃fl,u=.struct fl:=by cases u<;>simp_all [KD.of]
       simp only[KD.of,KD.st.injEq] at g2
       have hfo:P.fieldsOf t=fl:=by simp[Program.fieldsOf,g1]
       rw[run_equalIn_struct w f t xs ys (by rw[hfo];exact g1) (((hcx t d hd).2.2 heq).1),hfo]
       subst g2
       have key:∀(gs:List Field) (pos:Nat) (l0:List KD),leafsL (leafs cx n) (gs.map fun f=>(f.type,f.offset)) pos=some l0→Cells l0 xs pos→Cells l0 ys pos→∃β,(Op.eqFields f xs ys gs).run P w=.ok β w:=by
        intro gs
        induction gs with
        | nil=>intro pos l0 _ _ _;exact⟨true,by simp[Op.eqFields]⟩
        | cons g gs ih=>
          intro pos l0 h0 hx0 hy0
          simp only[List.map_cons,leafsL] at h0
          split at h0
          ·rename_i hoff
           split at h0
           ·rename_i l1 hl1
            cases hr:leafsL (leafs cx n) (gs.map fun f=>(f.type,f.offset)) (pos+l1.length) with
            | none=>rw[hr] at h0;cases h0
            | some l2=>
              rw[hr] at h0
              simp only[Option.map_some,Option.some.injEq] at h0
              subst h0
              have hsub:∀{zs:Array Value},Cells (l1++l2) zs pos→Cells l1 zs pos∧Cells l2 zs (pos+l1.length):=fun hz=>by
               refine⟨fun j k hj=>hz j k (by rw[List.getElem?_append_left (List.getElem?_eq_some_iff.1 hj).1];exact hj),fun j k hj=>?_⟩
               have:=hz (l1.length+j) k (by rw[List.getElem?_append_right (by omega),Nat.add_sub_cancel_left];exact hj)
               rwa [←Nat.add_assoc] at this
              obtain⟨hx1,hx2⟩:=hsub hx0
              obtain⟨hy1,hy2⟩:=hsub hy0
              obtain⟨dg,hdg,-⟩:=leafs_td hl1
              rw[←hoff] at hx1 hy1
              obtain⟨va,a1,a2⟩:=part_val (w:=w) hcx hl1 hdg hx1
              obtain⟨vb,b1,b2⟩:=part_val (w:=w) hcx hl1 hdg hy1
              obtain⟨β,hβ⟩:=eqIn_ok hcx n g.type l1 dg hl1 hdg f va vb (by omega) a2 b2
              obtain⟨γ,hγ⟩:=ih _ _ hr hx2 hy2
              unfold Op.eqFields
              split
              ·cases β
               ·exact⟨false,by simp[Sem.run_bind,a1,b1,hβ]⟩
               ·exact⟨γ,by simp[Sem.run_bind,a1,b1,hβ,hγ]⟩
              ·exact⟨γ,hγ⟩
           ·cases h0
          ·cases h0
       exact key fl.toList 0 l' hl' cx1 cy1
      ·cases h
     ·cases h
    ·cases h
   ·cases h
def kindS(S:St):KD→SV→Bool
 | .int k,s=>match S.lin s with
   | some (k',_)=>decide (k'=k)
   | none=>false
 | .bool,s=>(S.be s).isSome
 | .str,s=>S.str s
 | _,_=>false
theorem kindS_ok{k:KD}{s:SV}(h:kindS S k s=true)(hs:SatW cx.tb W0 S base ρ T w):IsK k (s.den ρ):=by
 unfold kindS at h
 split at h
 ·split at h
  ·rename_i k' l hl
   have:=of_decide_eq_true h
   subst this
   exact⟨_,yh hs hl⟩
  ·cases h
 ·obtain⟨b,hb⟩:=Option.isSome_iff_exists.1 h
  exact⟨_,xu hs hb⟩
 ·exact str_den hs h
 ·cases h
def kindsS(S:St):List KD→List SV→Bool
 | [],[]=>true
 | k::r,s::q=>kindS S k s && kindsS S r q
 | _,_=>false
theorem kindsS_ok(hs:SatW cx.tb W0 S base ρ T w):∀{l:List KD} {ss:List SV},kindsS S l ss=true→∀(j:Nat) (k:KD),l[j]? = some k→∃v,(dens ρ ss)[j]? = some v∧IsK k v
 | [],[],_,j,k,hj=>by simp at hj
 | k0::r,s::q,h,j,k,hj=>by
   simp only[kindsS,Bool.and_eq_true] at h
   cases j with
   | zero=>simp only[List.getElem?_cons_zero,Option.some.injEq] at hj;subst hj;exact⟨s.den ρ,rfl,kindS_ok h.1 hs⟩
   | succ j=>exact kindsS_ok hs h.2 j k (by simpa using hj)
 | [],_::_,h,_,_,_=>by cases h
 | _::_,[],h,_,_,_=>by cases h
def structA(cx:Cx)(S:St)(op:BinOp)(t:TypeId)(x y:XV):Option Res:=match x,y,tdOf cx t,leafs cx 30 t with
 | .v (.agg l),.v (.agg m),some d,some ks=>if d.k.agg && d.eq && kindsS S ks l && kindsS S ks m then match op with
   | .eql=>some ⟨mk1 S .bool [],.no,true⟩
   | .neq=>some ⟨mk1 S .bool [],.no,true⟩
   | _=>none
   else none
 | _,_,_,_=>none
theorem structA_ok(hcx:CxOk P cx){o:Oper}{op:BinOp}{t t':TypeId}{x y:Operand}{xv yv:XV}{r:Res}(ho:o.op=.binOp op t x y t')(hx:S.op x=some xv)(hy:S.op y=some yv)(h:structA cx S op t xv yv=some r)(H:Hyp cx W0 S base Ω T w a):StepR P cx W0 S base Ω T w a o r:=by
 obtain⟨ρ0,h0⟩:=H.ex
 have hs0:=H.sat ρ0 h0
 unfold structA at h
 split at h
 ·rename_i l m d ks hd hks
  split at h
  ·rename_i hc
   simp only[Bool.and_eq_true] at hc
   obtain⟨⟨⟨hag,heq⟩,h1⟩,h2⟩:=hc
   have ex:=jh (H.env ρ0 h0) hx
   have ey:=jh (H.env ρ0 h0) hy
   have ex':a.eval x=.agg (dens ρ0 l).toArray:=ex
   have ey':a.eval y=.agg (dens ρ0 m).toArray:=ey
   have hval:∀{ss:List SV},kindsS S ks ss=true→ValK d.k.agg ks (.agg (dens ρ0 ss).toArray):=fun hk=>by
    rw[hag]
    refine⟨_,rfl,fun j k hj=>?_⟩
    obtain⟨v,q1,q2⟩:=kindsS_ok hs0 hk j k hj
    exact⟨v,by rw[Nat.zero_add];simpa using q1,q2⟩
   obtain⟨β,hβ⟩:=eqIn_ok (w:=w) hcx 30 t ks d hks hd 10000 _ _ (by omega) (hval h1) (hval h2)
   have hg:=run_eqGuard_agg (P:=P) w op t x y (dens ρ0 l).toArray (dens ρ0 m).toArray (((hcx t d hd).2.2 heq).2)
   have hfin:∀b:Bool,(execOp a.eval o).run P w=.ok (.value (.bool b)) w→StepR P cx W0 S base Ω T w a o ⟨mk1 S .bool [],.no,true⟩:=fun b hb=>by
    unfold StepR
    rw[hb]
    exact⟨T,none,Stp.refl hs0.wt base true,fun ρ hρ _=>⟨zq ⟨b,rfl⟩ (by simp),rfl⟩⟩
   split at h
   ·cases h
    refine hfin β ?_
    simp only[execOp,ho]
    refine run_w ?_
    rw[ex',ey',Sem.run_bind,hg]
    simp only[Result.andThen_ok]
    rw[run_eql_struct,hβ];rfl
   ·cases h
    refine hfin (!β) ?_
    simp only[execOp,ho]
    refine run_w ?_
    rw[ex',ey',Sem.run_bind,hg]
    simp only[Result.andThen_ok]
    rw[run_neq_struct,hβ];rfl
   ·cases h
  ·cases h
 ·cases h
end
open Go.RowKit
abbrev Gam:=List (FuncId×Ctr)
def GamOk(P:Program)(cx:Cx)(W0:World)(G:Gam):Prop:=∀f C,look G f=some C→Holds P cx W0 f C∧(zx C.ps).all CT.low=true
def ptTy(S:St):SV→Option (Nat×TypeId)
 | .var n=>match look S.ty n with
   | some (.pt m t)=>some (min m 1,t)
   | _=>none
 | _=>none
def bound(tb:Tab)(S:St)(p:PT)(x:Operand):Option (Nat×TypeId):=match S.op x with
 | some (.v (.one s))=>ptTy S s
 | some (.v (.agg c))=>match p with
   | .agg l=>if decide (c.length=l.length) && (c.zip l).all (fun q=>S.has tb q.1 q.2) && l.all CT.plain then
      (tb.find? fun q=>decide (q.2=l) && decide (tb.flat q.1=some l)).map fun q=>(9,q.1) else none
   | _=>none
 | _=>none
def ptTys(tb:Tab)(S:St):List PT→List Operand→Option (List (Nat×TypeId))
 | _,[]=>some []
 | ps,x::r=>match bound tb S (ps.headD (.one .any)) x,ptTys tb S ps.tail r with
   | some p,some l=>some (p::l)
   | _,_=>none
def psOf(G:Gam)(f:FuncId):List PT:=match look G f with
 | some C=>C.ps
 | none=>[]
def makeFunA(tb:Tab)(G:Gam)(S:St)(fn:Fn)(first cap:List Operand):Option Res:=match fn with
 | .func f=>match ptTys tb S (psOf G f) first,ptTys tb S ((psOf G f).drop ((psOf G f).length-cap.length)) cap with
   | some l,some m=>some ⟨mk1 S (.fn [f] l m) [],.no,true⟩
   | _,_=>none
 | _=>none
def fnTy(S:St):SV→Option (List FuncId×List (Nat×TypeId)×List (Nat×TypeId))
 | .con (.func (.func f) x y)=>if x.size=0∧y.size=0 then some ([f],[],[]) else none
 | .var n=>match look S.ty n with
   | some (.fn fs l m)=>some (fs,l,m)
   | _=>none
 | _=>none
def ptP(tb:Tab)(p:Nat×TypeId):PT:=if p.1=9 then .agg ((tb.flat p.2).getD []) else .one (.pt p.1 p.2)
def ptPs(tb:Tab)(l:List (Nat×TypeId)):List PT:=l.map (ptP tb)
def eqPTs:List PT→List PT→Bool
 | [],[]=>true
 | .one a::r,.one b::s=>decide (a=b) && eqPTs r s
 | .agg a::r,.agg b::s=>decide (a=b) && eqPTs r s
 | _,_=>false
theorem eqPTs_ok:∀{a b:List PT},eqPTs a b=true→a=b
 | [],[],_=>rfl
 | .one a::r,.one b::s,h=>by
   simp only[eqPTs,Bool.and_eq_true,decide_eq_true_eq] at h
   rw[h.1,eqPTs_ok h.2]
 | .agg a::r,.agg b::s,h=>by
   simp only[eqPTs,Bool.and_eq_true,decide_eq_true_eq] at h
   rw[h.1,eqPTs_ok h.2]
 | [],_::_,h=>by cases h
 | .one _::_,[],h=>by cases h
 | .one _::_,.agg _::_,h=>by cases h
 | .one _::_,.con _::_,h=>by cases h
 | .agg _::_,[],h=>by cases h
 | .agg _::_,.one _::_,h=>by cases h
 | .agg _::_,.con _::_,h=>by cases h
 | .con _::_,[],h=>by cases h
 | .con _::_,_::_,h=>by cases h
def cOk(G:Gam)(rs ps:List PT)(f:FuncId):Bool:=match look G f with
 | some C=>C.pre.isEmpty && eqPTs C.rs rs && eqPTs C.ps ps
 | none=>false
def puOf(G:Gam)(f:FuncId):Bool:=match look G f with
 | some C=>C.pu
 | none=>false
def callF(tb:Tab)(G:Gam)(S:St)(s:SV)(args:List Operand):Option Res:=match fnTy S s with
 | some (f0::fs,l,m)=>match look G f0 with
   | some C0=>match argsOk S tb ((C0.ps.drop l.length).take args.length) args with
     | some cs=>if(f0::fs).all (cOk G C0.rs (ptPs tb l++((C0.ps.drop l.length).take args.length++ptPs tb m))) && C0.rs.all noCon then some ⟨⟨resXV S.nv C0.rs,zx C0.rs,[]⟩,.no,(f0::fs).all (puOf G)⟩ else none
     | none=>none
   | none=>none
 | _=>none
section
variable{P:Program}{cx:Cx}{W0:World}{S:St}{base:Nat}{ρ:Val}{T T':Nat→Prop}{w w':World}{a:Act}{Ω:Val→Prop}
theorem bound_ok{p:PT}{x:Operand}{m:Nat}{t:TypeId}(hs:SatW cx.tb W0 S base ρ T w)(he:EnvOk S ρ a)(h:bound cx.tb S p x=some (m,t)):BV cx.tb W0 T w base m t (a.eval x):=by
 unfold bound at h
 split at h
 ·rename_i s hop
  unfold ptTy at h
  split at h
  ·rename_i n
   split at h
   ·rename_i m' t' hl
    cases h
    have hcv:PV cx.tb W0 T w base m' t (ρ n):=hs.ty n _ (zg hl)
    unfold BV
    rw[if_neg (by omega),jh he hop]
    exact CV.le (a:=.pt m' t) (b:=.pt (min m' 1) t) hcv (by simp[CT.le];omega)
   ·cases h
  ·cases h
 ·rename_i c hop
  split at h
  ·rename_i l
   split at h
   ·rename_i hc
    simp only[Bool.and_eq_true,decide_eq_true_eq] at hc
    obtain⟨⟨hlen,hall⟩,hpl⟩:=hc
    cases hq:cx.tb.find? (fun q=>decide (q.2=l) && decide (cx.tb.flat q.1=some l)) with
    | none=>rw[hq] at h;cases h
    | some q=>
      rw[hq] at h
      cases h
      have hf:=List.find?_some hq
      simp only[Bool.and_eq_true,decide_eq_true_eq] at hf
      unfold BV
      rw[if_pos rfl,jh he hop]
      refine⟨(dens ρ c).toArray,rfl,by simp[dens,Tab.sz,hf.2,hlen],fun k ct hk=>?_⟩
      rw[hf.2] at hk
      simp only[Option.getD_some] at hk
      have hkl:k<l.length:=(List.getElem?_eq_some_iff.1 hk).1
      have hkc:k<c.length:=by omega
      refine⟨c[k].den ρ,by simp[dens,List.getElem?_eq_getElem hkc],?_⟩
      have hz:=List.all_eq_true.1 hall (c[k],ct) (by
       refine List.mem_iff_getElem?.2 ⟨k,?_⟩
       rw[List.getElem?_zip_eq_some]
       exact⟨List.getElem?_eq_getElem hkc,hk⟩)
      exact(uo hs hz).vt (List.all_eq_true.1 hpl ct (List.mem_of_getElem? hk))
   ·cases h
  ·cases h
 ·cases h
theorem ptTys_ok(hs:SatW cx.tb W0 S base ρ T w)(he:EnvOk S ρ a):∀{ps:List PT} {xs:List Operand} {l:List (Nat×TypeId)},ptTys cx.tb S ps xs=some l→xs.length=l.length∧∀(i m:Nat) (t:TypeId),l[i]? = some (m,t)→∃u,(xs.map a.eval)[i]? = some u∧BV cx.tb W0 T w base m t u
 | _,[],l,h=>by
   unfold ptTys at h
   cases h
   exact⟨rfl,fun i m t hi=>by simp at hi⟩
 | ps,x::r,l,h=>by
   unfold ptTys at h
   split at h
   ·rename_i p l' h1 h2
    cases h
    obtain⟨g1,g2⟩:=ptTys_ok hs he h2
    refine⟨by simp[g1],fun i m t hi=>?_⟩
    cases i with
    | succ i=>obtain⟨u,q1,q2⟩:=g2 i m t (by simpa using hi);exact⟨u,by simpa using q1,q2⟩
    | zero=>
      simp only[List.getElem?_cons_zero,Option.some.injEq] at hi
      subst hi
      exact⟨a.eval x,by simp,bound_ok hs he h1⟩
   ·cases h
theorem makeFunA_ok{o:Oper}{fn:Fn}{first cap:Array Operand}{r:Res}(ho:o.op=.makeFunc fn first cap){G:Gam}(h:makeFunA cx.tb G S fn first.toList cap.toList=some r)(H:Hyp cx W0 S base Ω T w a):StepR P cx W0 S base Ω T w a o r:=by
 obtain⟨ρ0,h0⟩:=H.ex
 have hs0:=H.sat ρ0 h0
 unfold makeFunA at h
 split at h
 ·rename_i f
  split at h
  ·rename_i l m hl hm
   cases h
   obtain⟨a1,a2⟩:=ptTys_ok hs0 (H.env ρ0 h0) hl
   obtain⟨b1,b2⟩:=ptTys_ok hs0 (H.env ρ0 h0) hm
   have hpv:∀{xs:Array Operand} {l:List (Nat×TypeId)},xs.toList.length=l.length→(∀(i m:Nat) (t:TypeId),l[i]? = some (m,t)→∃u,(xs.toList.map a.eval)[i]? = some u∧BV cx.tb W0 T w base m t u)→PVs cx.tb W0 T w base l (xs.map a.eval):=fun h1 h2=>
    ⟨by simpa using h1,fun i m t hi=>by obtain⟨u,q1,q2⟩:=h2 i m t hi;exact⟨u,by rw[←Array.getElem?_toList,Array.toList_map];exact q1,q2⟩⟩
   have hrun:(execOp a.eval o).run P w=.ok (.value (.func (.func f) (first.map a.eval) (cap.map a.eval))) w:=by
    simp[execOp,ho,Instr.makeFunc]
   unfold StepR
   rw[hrun]
   exact⟨T,none,Stp.refl hs0.wt base true,fun ρ hρ _=>⟨zq ⟨f,_,_,rfl,by simp,hpv a1 a2,hpv b1 b2⟩ (by simp),rfl⟩⟩
  ·cases h
 ·cases h
theorem fnTy_ok{s:SV}{fs:List FuncId}{l m:List (Nat×TypeId)}(hs:SatW cx.tb W0 S base ρ T w)(h:fnTy S s=some (fs,l,m)):∃f x y,s.den ρ=.func (.func f) x y∧f∈fs∧PVs cx.tb W0 T w base l x∧PVs cx.tb W0 T w base m y:=by
 unfold fnTy at h
 split at h
 ·split at h
  ·rename_i f x y hc
   cases h
   exact⟨f,x,y,rfl,by simp,⟨hc.1,fun i m t hi=>by simp at hi⟩,⟨hc.2,fun i m t hi=>by simp at hi⟩⟩
  ·cases h
 ·split at h
  ·rename_i n _ fs' l' m' hl
   cases h
   exact hs.ty n _ (zg hl)
  ·cases h
 ·cases h
theorem tyAll_append:∀{ps qs:List PT} {vs us:List Value},TyAll cx.tb W0 T w base ps vs→TyAll cx.tb W0 T w base qs us→TyAll cx.tb W0 T w base (ps++qs) (vs++us)
 | [],qs,[],us,_,h=>h
 | p::ps,qs,v::vs,us,h,k=>⟨h.1,tyAll_append h.2 k⟩
 | [],_,_::_,_,h,_=>h.elim
 | _::_,_,[],_,h,_=>h.elim
theorem pvs_tyAll:∀{l:List (Nat×TypeId)} {vs:List Value},vs.length=l.length→(∀(i m:Nat) (t:TypeId),l[i]? = some (m,t)→∃u,vs[i]? = some u∧BV cx.tb W0 T w base m t u)→TyAll cx.tb W0 T w base (ptPs cx.tb l) vs
 | [],[],_,_=>trivial
 | (m,t)::l,v::vs,h,k=>by
   refine⟨?_,pvs_tyAll (by simpa using h) (fun i m t hi=>by obtain⟨u,q1,q2⟩:=k (i+1) m t (by simpa using hi);exact⟨u,by simpa using q1,q2⟩)⟩
   obtain⟨u,q1,q2⟩:=k 0 m t rfl
   simp only[List.getElem?_cons_zero,Option.some.injEq] at q1
   subst q1
   unfold BV at q2
   unfold ptP
   simp only
   split at q2
   ·rename_i h9
    rw[if_pos h9]
    obtain⟨cs,e1,e2,e3⟩:=q2
    refine⟨cs,e1,?_,fun i ct u hi hu=>?_⟩
    ·rw[e2]
     unfold Tab.sz
     cases cx.tb.flat t<;>rfl
    ·obtain⟨x,r1,r2⟩:=e3 i ct hi
     rw[hu] at r1
     cases r1
     exact r2.cv
   ·rename_i h9
    rw[if_neg h9]
    exact q2
 | [],_::_,h,_=>by simp at h
 | _::_,[],h,_=>by simp at h
theorem ptPs_low{tb:Tab}:∀{l:List (Nat×TypeId)},(zx (ptPs tb l)).all CT.low=true→l.all (fun p=>decide (p.1≤1∨p.1=9))=true
 | [],_=>rfl
 | (m,t)::l,h=>by
   simp only[ptPs,zx,List.map_cons,List.flatMap_cons,List.all_append,Bool.and_eq_true] at h
   have h2:=ptPs_low (tb:=tb) (l:=l) (by simpa[ptPs,zx] using h.2)
   simp only[List.all_cons,Bool.and_eq_true,decide_eq_true_eq]
   refine⟨?_,h2⟩
   have h1:=h.1
   unfold ptP at h1
   simp only at h1
   split at h1
   ·rename_i h9;exact .inr h9
   ·simp only[PT.cts,List.all_cons,List.all_nil,Bool.and_true,CT.low,decide_eq_true_eq] at h1
    exact .inl h1
theorem call_core{o:Oper}{f:FuncId}{C:Ctr}{argv:Array Value}{pu:Bool}(hs0:SatW cx.tb W0 S base ρ T w)(hC:Holds P cx W0 f C)(hrun:(execOp a.eval o).run P w=.ok (.enter f argv) w)(hargs:TyAll cx.tb W0 T w w.heap.size C.ps argv.toList)(hpre:C.pre=[])(hnc:C.rs.all noCon=true)(hpu:pu=true→C.pu=true) :
  StepR P cx W0 S base Ω T w a o ⟨⟨resXV S.nv C.rs,zx C.rs,[]⟩,.no,pu⟩:=by
 obtain⟨-,hC⟩:=hC
 unfold StepR
 rw[hrun]
 refine(hC T w argv hs0.wt hargs (fun l hl=>by rw[hpre] at hl;cases hl)).mono ?_
 rintro e w' ⟨v,vs,T',rfl,hres,hty,hpost,hbe,hhist,hwt⟩
 refine⟨v,rfl,T',none,⟨hwt,hhist.ext,hhist.new,hhist.size,hhist.os,hhist.tape,hhist.output,fun b hb hT _=>hhist.keep b hb (.inr hT),fun b hb hk=>hhist.keep b (Nat.lt_of_lt_of_le hb hs0.bs) (hk.imp hpu id)⟩,fun ρ hρ hblk=>⟨?_,rfl⟩⟩
 obtain⟨c1,c2,c3⟩:=tyAll_cells hty hnc
 have hflat:flatV v=cellsAll C.rs vs:=by
  rw[c1]
  unfold IsRes at hres
  split at hres
  ·rename_i p hrs
   subst hres
   have hty':=hty
   rw[hrs] at hty' hnc
   obtain⟨g1,-,-⟩:=jk hty'.1 (by simpa using hnc)
   simp only[List.flatMap_cons,List.flatMap_nil,List.append_nil]
   cases p with
   | con c=>simp[noCon] at hnc
   | one ct=>rw[flat_one (CV.one hty'.1),←g1];rfl
   | agg l=>
     obtain⟨cs',rfl,-⟩:=hty'.1
     rfl
  ·subst hres;rfl
 have hget:∀i u,(cellsAll C.rs vs)[i]? = some u→ρ (S.nv+i)=u:=fun i u hi=>by
  have hlt:i<(zx C.rs).length:=by rw[←c2];exact(List.getElem?_eq_some_iff.1 hi).1
  rw[hblk i hlt,hflat,List.getD_eq_getElem?_getD,hi];rfl
 intro _
 refine⟨?_,fun i ct hi=>?_,fun fl hfl=>?_⟩
 ·show v=(resXV S.nv C.rs).den ρ
  unfold IsRes at hres
  unfold resXV
  split at hres
  ·rename_i p hrs
   subst hres
   have hty':=hty
   rw[hrs] at hty' hget hnc
   exact(resTV_den hty'.1 (by simpa using hnc) (fun i u hi=>hget i u (by simpa[cellsAll] using hi))).symm
  ·rename_i hne
   subst hres
   show Value.tuple _=Value.tuple _
   rw[resTVs_den hty hnc hget]
 ·have hlt:i<(cellsAll C.rs vs).length:=by rw[c2];exact(List.getElem?_eq_some_iff.1 hi).1
  have hu:=List.getElem?_eq_getElem hlt
  rw[hget i _ hu]
  exact(c3 i ct _ hi hu).mono (Ext.refl _ _) hs0.bs
 ·cases hfl
theorem callF_ok{G:Gam}(hG:GamOk P cx W0 G){o:Oper}{x:Operand}{s:SV}{args ats:Array _}{r:Res}(ho:o.op=.call { callee:=.value x,args,argTypes:=ats })(hx:S.one x=some s)(h:callF cx.tb G S s args.toList=some r)(H:Hyp cx W0 S base Ω T w a) :
  StepR P cx W0 S base Ω T w a o r:=by
 obtain⟨ρ0,h0⟩:=H.ex
 have hs0:=H.sat ρ0 h0
 unfold callF at h
 split at h
 ·rename_i f0 fs l m hft
  split at h
  ·rename_i C0 hC0
   split at h
   ·rename_i cs hcs
    split at h
    ·rename_i hc
     cases h
     simp only[Bool.and_eq_true] at hc
     obtain⟨hall,hnc⟩:=hc
     obtain⟨f,y,z,e1,e2,e3,e4⟩:=fnTy_ok hs0 hft
     have hcf:=List.all_eq_true.1 hall f e2
     unfold cOk at hcf
     split at hcf
     ·rename_i C hC
      simp only[Bool.and_eq_true,List.isEmpty_iff] at hcf
      obtain⟨⟨p1,p2⟩,p3⟩:=hcf
      have q2:=eqPTs_ok p2
      have q3:=eqPTs_ok p3
      obtain⟨hH,hlow⟩:=hG f C hC
      obtain⟨⟨fn,hf1,hf2,hf3⟩,-⟩:=hH
      have hrun:(execOp a.eval o).run P w=.ok (.enter f (y++args.map a.eval++z)) w:=by
       have hn:(fn.name == "runtime.NumGoroutine")=false:=hf2
       have he:a.eval x=.func (.func f) y z:=(qi (H.env ρ0 h0) hx).trans e1
       simp only[execOp,ho,resolve,Sem.run_bind,Sem.run_pure,Result.andThen_ok,he]
       simp only[Deferred.ofValue,Sem.run_pure,Result.andThen_ok,invoke,callFunc,Sem.run_bind,run_program,hf1]
       rw[if_neg (by rw[hn];simp),if_neg (by rw[hf3];simp)]
       simp
      have hlow':=hlow
      rw[q3] at hlow'
      simp only[zx,List.flatMap_append,List.all_append,Bool.and_eq_true] at hlow'
      obtain⟨l1,l2,l3⟩:=hlow'
      have hpv:∀{l:List (Nat×TypeId)} {vs:Array Value},PVs cx.tb W0 T w base l vs→l.all (fun p=>decide (p.1≤1∨p.1=9))=true→TyAll cx.tb W0 T w w.heap.size (ptPs cx.tb l) vs.toList:=fun hv hl=>by
       have h1:=(hv.mono (Ext.refl T w) (Nat.zero_le _)).rebase hl w.heap.size
       exact pvs_tyAll (by simpa using h1.1) (fun i m t hi=>by obtain⟨u,q1,q2⟩:=h1.2 i m t hi;exact⟨u,by rw[Array.getElem?_toList];exact q1,q2⟩)
      have hty:TyAll cx.tb W0 T w w.heap.size C.ps (y++args.map a.eval++z).toList:=by
       rw[q3]
       simp only[Array.toList_append,Array.toList_map,List.append_assoc]
       exact tyAll_append (hpv e3 (ptPs_low l1)) (tyAll_append ((argsOk_ok hs0 (H.env ρ0 h0) hcs l2).1 _) (hpv e4 (ptPs_low l3)))
      rw[←q2] at hnc ⊢
      exact call_core hs0 (hG f C hC).1 hrun hty p1 hnc (fun hp=>by
       have:=List.all_eq_true.1 hp f e2
       unfold puOf at this
       rw[hC] at this
       exact this)
     ·cases hcf
    ·cases h
   ·cases h
  ·cases h
 ·cases h
end
end Sy
end Go.Proofs.YtmadfhgiaonnlaaGreatDoor
