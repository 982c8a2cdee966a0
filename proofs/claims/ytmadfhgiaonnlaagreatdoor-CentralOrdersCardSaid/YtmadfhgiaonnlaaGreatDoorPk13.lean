import Derived.Test.YtmadfhgiaonnlaaGreatDoorPk12
set_option linter.unusedVariables false
set_option linter.unusedSimpArgs false
namespace Go.Proofs.YtmadfhgiaonnlaaGreatDoor
namespace Sy
open Go.RowKit
theorem puts_size{ops:Array Oper}{vals:Nat→Value}{L:Nat→Bool}:∀(ks:List Nat) (a:Act),(Reg4.puts ops vals L ks a).tmps.size=a.tmps.size∧(Reg4.puts ops vals L ks a).defers=a.defers
 | [],a=>⟨rfl,rfl⟩
 | k::ks,a=>by
   unfold Reg4.puts
   obtain⟨h1,h2⟩:=puts_size (ops:=ops) (vals:=vals) (L:=L) ks (if L k then a.put (Reg4.dstOf ops k) (vals k) else a)
   rw[h1,h2]
   split
   ·cases Reg4.dstOf ops k<;>simp[Act.put]
   ·exact⟨rfl,rfl⟩
theorem look_filt{α:Type}{f:Nat→Bool}:∀{l:List (Nat×α)} {t:Nat} {x:α},look (l.filter fun e=>f e.1) t=some x→f t=true∧look l t=some x
 | [],t,x,h=>by cases h
 | (m,y)::r,t,x,h=>by
   rw[List.filter_cons] at h
   by_cases hm:m=t
   ·subst hm
    by_cases hf:f m=true
    ·rw[if_pos hf] at h
     exact⟨hf,by simpa[look] using h⟩
    ·rw[if_neg hf] at h
     exact absurd (look_filt h).1 hf
   ·by_cases hf:f m=true
    ·rw[if_pos hf] at h
     simp only[look,if_neg hm] at h ⊢
     exact look_filt h
    ·rw[if_neg hf] at h
     obtain⟨h1,h2⟩:=look_filt h
     exact⟨h1,by simp only[look,if_neg hm];exact h2⟩
def Usd(p:Plan)(m:Nat)(L:Nat→Bool)(n:Nat):Prop:=n<p.S0.nv∨∃k,k<m∧L k=true∧p.v k≤n∧n<p.v k+(p.r k).out.tys.length
section
variable{P:Program}{cx:Cx}{W0:World}{base:Nat}{ρ:Val}{T T':Nat→Prop}{w w':World}{T0:Nat→Prop}{w0:World}{PU:Bool}{N:Nat}
def Xv(ops:Array Oper)(vals:Nat→Value)(k:Nat):Bool:=match ops[k]? with
 | some o=>Reg9g.wantV o vals
 | none=>true
def lx(ops:Array Oper)(L:Nat→Bool)(vals:Nat→Value):Nat→Bool:=fun k=>L k && Xv ops vals k
def SemL(cx:Cx)(W0:World)(T0:Nat→Prop)(w0:World)(PU:Bool)(ops:Array Oper)(p:Plan)(ρ0:Val)(Te:Nat→Prop)(we:World)(L:Nat→Bool)(vals:Nat→Value)(w:World):Prop:=
 Down ops L∧∃(ρ:Val) (T:Nat→Prop),(∀n,n<p.S0.nv→ρ n=ρ0 n)∧Hist T0 w0 PU T w∧Ext Te we T w∧∀ρ':Val,(∀n,Usd p ops.size (lx ops L vals) n→ρ' n=ρ n) →
  SatW cx.tb W0 (p.st 0 [] (lx ops L vals) (fun j=>some (lx ops L vals j))) w0.heap.size ρ' T w∧∀k,k<ops.size→lx ops L vals k=true→vals k=(p.r k).out.v.den ρ'
theorem gd_guard{ops:Array Oper}{k:Nat}{o:Oper}(ho:ops[k]? = some o):gdOf ops k=o.guard:=by unfold gdOf;rw[ho];rfl
theorem ku{ops:Array Oper}{vals:Nat→Value}{k:Nat}:Xv ops vals k=match gdOf ops k with
  | none=>true
  | some (j,want)=>match vals j with
    | .bool b=>b == want
    | _=>false:=by
 unfold Xv gdOf Reg9g.wantV
 cases ops[k]?<;>rfl
def GdOk(ops:Array Oper):Prop:=∀(k:Nat) (o:Oper) (j:Nat) (want:Bool),ops[k]? = some o→o.guard=some (j,want)→Reg4.waits o j=true
theorem gd_down{ops:Array Oper}{L:Nat→Bool}(hg:GdOk ops)(hd:Down ops L){k j:Nat}{want:Bool}(hk:gdOf ops k=some (j,want))(hL:L k=true):L j=true:=by
 unfold gdOf at hk
 cases ho:ops[k]? with
 | none=>rw[ho] at hk;cases hk
 | some o=>
   rw[ho] at hk
   have hw:=hg k o j want ho hk
   unfold Reg4.waits at hw
   rw[Array.any_eq_true'] at hw
   obtain⟨e,he,hb⟩:=hw
   simp only[Bool.and_eq_true,beq_iff_eq] at hb
   rw[←hb.2]
   exact hd k o ho hL e he hb.1
theorem lx_step{ops:Array Oper}{L:Nat→Bool}{vals:Nat→Value}{i:Nat}{o:Oper}{v:Value}(hg:GdOk ops)(hd:Down ops L)(ho:ops[i]? = some o)(hi:L i=false)(hed:∀e∈o.after,Region.binds .any e=true→L e.on=true) :
  lx ops (fun k=>if k=i then true else L k) (fun k=>if k=i then v else vals k)=fun k=>if k=i then Reg9g.wantV o vals else lx ops L vals k:=by
 funext k
 have hne:∀{j want},gdOf ops k=some (j,want)→k=i∨L k=true→j≠i:=by
  intro j want hk hor e
  subst e
  rcases hor with e|h
  ·subst e
   rw[gd_guard ho] at hk
   have hw:=hg _ o _ want ho hk
   unfold Reg4.waits at hw
   rw[Array.any_eq_true'] at hw
   obtain⟨e,he,hb⟩:=hw
   simp only[Bool.and_eq_true,beq_iff_eq] at hb
   have:=hed e he hb.1
   rw[hb.2,hi] at this;cases this
  ·have:=gd_down hg hd hk h
   rw[hi] at this;cases this
 unfold lx
 by_cases hki:k=i
 ·subst hki
  simp only[if_pos,Bool.true_and]
  have hx:Xv ops vals k=Reg9g.wantV o vals:=by unfold Xv;rw[ho]
  rw[←hx,ku,ku]
  split
  ·rfl
  ·rename_i j want hk
   simp only[if_neg (hne hk (.inl rfl))]
 ·simp only[if_neg hki]
  cases hL:L k with
  | false=>rfl
  | true=>
    simp only[Bool.true_and]
    rw[ku,ku]
    split
    ·rfl
    ·rename_i j want hk
     simp only[if_neg (hne hk (.inr hL))]
theorem addG_nv{ops:Array Oper}{ms:List Nat}{p:Plan}{i:Nat}{S:St}:(addG ops ms p i S).nv=S.nv∧(addG ops ms p i S).env=S.env:=by
 unfold addG
 split
 ·exact⟨rfl,rfl⟩
 ·split
  ·split<;>exact⟨rfl,rfl⟩
  ·exact⟨rfl,rfl⟩
theorem addG_ok{ops:Array Oper}{ms:List Nat}{p:Plan}{i:Nat}{S:St}(h:SatW cx.tb W0 S base ρ T w)
  (hv:∀j want,gdOf ops i=some (j,want)→liG ops ms i j=true→Value.bool want=(p.r j).out.v.den ρ):SatW cx.tb W0 (addG ops ms p i S) base ρ T w:=by
 unfold addG
 split
 ·exact h
 ·rename_i j want hg
  split
  ·rename_i hl
   split
   ·rename_i b hb
    obtain⟨g1,g2,g3,g4,g5,g6,g7⟩:=id h
    refine⟨g1,g2,g3,g4,fun f hf=>?_,g6,g7⟩
    rcases List.mem_append.1 hf with hf|hf
    ·exact g5 f hf
    ·have e:=hv j want hg hl
     unfold selS at hb
     split at hb
     ·rename_i s hs
      rw[hs] at e
      have e2:Value.bool want=s.den ρ:=e
      rw[xu h hb] at e2
      injection e2 with e2
      exact jy _ ρ h.rng _ g5 b want e2.symm f hf
     ·cases hb
   ·exact h
  ·exact h
end
section
variable{P:Program}{cx:Cx}{W0:World}{base:Nat}{ρ:Val}{T T':Nat→Prop}{w w':World}{T0:Nat→Prop}{w0:World}{PU:Bool}{N:Nat}
theorem opOk_ok{step:x9}{ops:Array Oper}{ms:List Nat}{p:Plan}{nvE i:Nat}{o:Oper}(h:opOk step N PU ops ms p nvE i=true)(ho:ops[i]? = some o) :
  stepP step ops ms p (p.v i) i o=some (p.r i)∧fits N o.dst=true∧(PU=true→(p.r i).pu=true)∧p.S0.nv≤p.v i∧p.v i+(p.r i).out.tys.length≤nvE∧(∀j,j<i→p.v j+(p.r j).out.tys.length≤p.v i) ∧
   match(p.r i).ef with
    | .no=>True
    | .box _ _=>gdOf ops i=none∧(p.r i).out.tys.length=1∧∀q∈p.pts,q.n=p.v i→bit ms q.j i=true
    | .put n off vs=>gdOf ops i=none∧(∀q∈p.pts,q.j=i∨q.n≠n∨q.off+q.vs.length≤off∨off+vs.length≤q.off)∧(∀b∈p.S0.bx++selT p (fun _=>true) (ut p),b.n=n→off+vs.length≤b.cs.length)∧∃b∈(p.sti0 ops ms (p.v i) i o).bx,b.n=n:=by
 unfold opOk at h
 rw[ho] at h
 simp only[Bool.and_eq_true,decide_eq_true_eq,List.all_eq_true,List.mem_range,Bool.or_eq_true,Bool.not_eq_true'] at h
 obtain⟨⟨⟨⟨⟨h1,h2⟩,h3⟩,h4⟩,h5⟩,h6⟩:=h
 refine⟨?_,h2,fun hp=>(by rcases h3 with h|h;(rw[hp] at h;cases h);exact h),h4.1,h4.2,h5,?_⟩
 ·split at h1
  ·rename_i r hr
   rw[hr,eqR_ok h1]
  ·cases h1
 ·generalize (p.r i).ef=ef at h6 ⊢
  cases ef with
  | no=>trivial
  | box t cs=>
    simp only[Bool.and_eq_true,decide_eq_true_eq,List.all_eq_true,Bool.or_eq_true] at h6
    refine⟨h6.1.1,h6.1.2,fun q hq hn=>?_⟩
    rcases h6.2 q hq with h|h
    ·exact absurd hn h
    ·exact h
  | put n off vs=>
    simp only[Bool.and_eq_true,decide_eq_true_eq,List.all_eq_true,Bool.or_eq_true,List.any_eq_true] at h6
    obtain⟨⟨⟨h60,h7⟩,h8⟩,b,hb,hbn⟩:=h6
    refine⟨h60,fun q hq=>?_,h8,b,hb,hbn⟩
    rcases h7 q hq with((h|h)|h)|h
    ·exact .inl h
    ·exact .inr (.inl h)
    ·exact .inr (.inr (.inl h))
    ·exact .inr (.inr (.inr h))
theorem idxOf_ok{ops:Array Oper}{d k:Nat}(h:Reg4.idxOf ops ops.size d=some k):k<ops.size∧Reg4.dstOf ops k=some d:=by
 unfold Reg4.idxOf at h
 exact⟨List.mem_range.1 (List.mem_of_find?_eq_some h),by simpa using List.find?_some h⟩
theorem pickG_ok{ops:Array Oper}{ms:List Nat}{p:Plan}{nv i:Nat}{o:Oper}{r:Res}{Ω:Val→Prop}{vals:Nat→Value}{a:Act}{M:Nat→Bool}{M3:Nat→Option Bool}
  (h:pickG ops ms p nv i o=some r) (hex:∃ρ,Ω ρ) (hsat:∀ρ,Ω ρ→SatW cx.tb W0 (p.st 0 [] M M3) base ρ T w∧∀k,k<ops.size→M k=true→vals k=(p.r k).out.v.den ρ)
  (hli:∀k,liOf ms i k=true→(match gdOf ops k with|none=>true|some (j,want)=>match vals j with|.bool b=>b == want|_=>false)=true→M k=true)
  (h3:∀q∈p.pts,∀b,l3Of ms i q.j=some b→M3 q.j=some b)
  (htm:∀d,Operand.tmp d∈o.op.operands→∀k,Reg4.idxOf ops ops.size d=some k→a.tmps.getD d undef=vals k) :
  ∃v,(execOp a.eval o).run P w=.ok (.value v) w∧r.ef=.no∧r.pu=true∧∀ρ,Ω ρ→∀S:St,NewOk cx.tb W0 S r.out base ρ T w v:=by
 obtain⟨ρ0,h0⟩:=hex
 have hsel:∀{ρ g k b},Ω ρ→(∀k',liB ops ms i g k'=true→M k'=true)→M k=true→k<ops.size→selS (p.st nv [] (liB ops ms i g) (l3Of ms i)) (p.r k).out.v=some b→vals k=.bool (b.den ρ):=by
  intro ρ g k b hρ hg hk hks hb
  have h1:=plan_sub (nv':=nv) (env':=[]) (hsat ρ hρ).1 hg h3
  have h2:=(hsat ρ hρ).2 k hks hk
  unfold selS at hb
  split at hb
  ·rename_i s hs
   rw[hs] at h2
   rw[h2]
   exact xu h1 hb
  ·cases hb
 have hnone:∀k',liB ops ms i none k'=true→M k'=true:=by
  intro k' hk'
  simp only[liB,Bool.and_eq_true] at hk'
  refine hli k' hk'.1 ?_
  obtain⟨-,h2⟩:=hk'
  split at h2
  ·rename_i hg;rw[hg]
  ·simp at h2
 have hsome:∀{j want},vals j=.bool want→∀k',liB ops ms i (some (j,want)) k'=true→M k'=true:=by
  intro j want hv k' hk'
  simp only[liB,Bool.and_eq_true] at hk'
  refine hli k' hk'.1 ?_
  obtain⟨-,h2⟩:=hk'
  split at h2
  ·rename_i hg;rw[hg]
  ·rename_i g' hg
   have:=of_decide_eq_true h2
   injection this with this
   rw[hg,←this]
   simp[hv]
 unfold pickG at h
 split at h
 ·rename_i c x ho
  split at h
  ·rename_i j k hj hk
   split at h
   ·rename_i hc
    simp only[Bool.and_eq_true,decide_eq_true_eq] at hc
    obtain⟨⟨hlj,hlk⟩,hgj,hgk⟩:=hc
    split at h
    ·rename_i b q hb hq
     cases h
     have hjM:M j=true:=hli j hlj (by rw[hgj])
     have hvj:∀ρ,Ω ρ→vals j=.bool (b.den ρ):=fun ρ hρ=>hsel hρ hnone hjM (idxOf_ok hj).1 hb
     have hc1:=htm c (by rw[ho];simp[Op.operands]) j hj
     have hx1:=htm x (by rw[ho];simp[Op.operands]) k hk
     refine⟨if b.den ρ0 then vals k else .bool false,?_,rfl,rfl,fun ρ hρ S=>y9 ?_⟩
     ·have e1:a.eval (.tmp c)=.bool (b.den ρ0):=hc1.trans (hvj ρ0 h0)
      have e2:a.eval (.tmp x)=vals k:=hx1
      simp[execOp,ho,e1,e2,asBool]
      rfl
     ·have e0:b.den ρ=b.den ρ0:=by
       have:=(hvj ρ hρ).symm.trans (hvj ρ0 h0)
       injection this
      show _=Value.bool (b.den ρ && q.den ρ)
      rw[e0]
      cases hb0:b.den ρ0 with
      | false=>rfl
      | true=>
        have hv1:vals j=.bool true:=by rw[hvj ρ0 h0,hb0]
        have hkM:M k=true:=hli k hlk (by rw[hgk];simp[hv1])
        simp only[if_true,Bool.true_and]
        exact hsel hρ (hsome hv1) hkM (idxOf_ok hk).1 hq
    ·cases h
   ·cases h
  ·cases h
 ·rename_i c x ho
  split at h
  ·rename_i j k hj hk
   split at h
   ·rename_i hc
    simp only[Bool.and_eq_true,decide_eq_true_eq] at hc
    obtain⟨⟨hlj,hlk⟩,hgj,hgk⟩:=hc
    split at h
    ·rename_i b q hb hq
     cases h
     have hjM:M j=true:=hli j hlj (by rw[hgj])
     have hvj:∀ρ,Ω ρ→vals j=.bool (b.den ρ):=fun ρ hρ=>hsel hρ hnone hjM (idxOf_ok hj).1 hb
     have hc1:=htm c (by rw[ho];simp[Op.operands]) j hj
     have hx1:=htm x (by rw[ho];simp[Op.operands]) k hk
     refine⟨if b.den ρ0 then .bool true else vals k,?_,rfl,rfl,fun ρ hρ S=>y9 ?_⟩
     ·have e1:a.eval (.tmp c)=.bool (b.den ρ0):=hc1.trans (hvj ρ0 h0)
      have e2:a.eval (.tmp x)=vals k:=hx1
      simp[execOp,ho,e1,e2,asBool]
      rfl
     ·have e0:b.den ρ=b.den ρ0:=by
       have:=(hvj ρ hρ).symm.trans (hvj ρ0 h0)
       injection this
      show _=Value.bool (b.den ρ || q.den ρ)
      rw[e0]
      cases hb0:b.den ρ0 with
      | true=>rfl
      | false=>
        have hv1:vals j=.bool false:=by rw[hvj ρ0 h0,hb0]
        have hkM:M k=true:=hli k hlk (by rw[hgk];simp[hv1])
        simp only[Bool.false_eq_true,if_false,Bool.false_or]
        exact hsel hρ (hsome hv1) hkM (idxOf_ok hk).1 hq
    ·cases h
   ·cases h
  ·cases h
 ·cases h
theorem sem_step{step:x9}(ht:Truth P cx W0 step){ops:Array Oper}{p:Plan}{nvE:Nat}(hgd:GdOk ops)(hrs:p.rs.length=ops.size)(hall:∀i,i<ops.size→opOk step N PU ops (masks ops.toList []) p nvE i=true){ρ0:Val}{Te:Nat→Prop}{we:World}{a0:Act}
  (henv:∀ρ':Val,(∀n,n<p.S0.nv→ρ' n=ρ0 n)→EnvOk p.S0 ρ' a0)
  {i:Nat} {o:Oper} (hgs:∀j want,gdOf ops i=some (j,want)→j<ops.size) (hi:i<ops.size) (ho:ops[i]? = some o) {L:Nat→Bool} {vals:Nat→Value} {a:Act} {w:World} (hLi:L i=false) (hS:SemL cx W0 T0 w0 PU ops p ρ0 Te we L vals w) (hed:∀e∈o.after,Region.binds .any e=true→L e.on=true)
  (htm:∀d,Operand.tmp d∈o.op.operands→match Reg4.idxOf ops ops.size d with|some k=>L k=true∧a.tmps.getD d undef=vals k|none=>a.tmps.getD d undef=a0.tmps.getD d undef) :
  (Reg9g.wantV o vals=true→Reg4.StepOk P (fun v w'=>SemL cx W0 T0 w0 PU ops p ρ0 Te we (fun k=>if k=i then true else L k) (fun k=>if k=i then v else vals k) w') ((execOp a.eval o).run P w)) ∧
  (Reg9g.wantV o vals=false→SemL cx W0 T0 w0 PU ops p ρ0 Te we (fun k=>if k=i then true else L k) (fun k=>if k=i then undef else vals k) w):=by
 obtain⟨hdn,ρ,T,hρ,hist,hext,hsat⟩:=hS
 have hdn':Down ops (fun k=>if k=i then true else L k):=by
  intro k ok hok hk e he hb
  by_cases hki:k=i
  ·subst hki
   rw[ho] at hok
   cases hok
   simp only
   split
   ·rfl
   ·exact hed e he hb
  ·simp only[if_neg hki] at hk
   simp only
   split
   ·rfl
   ·exact hdn k ok hok hk e he hb
 have hxi:Xv ops vals i=Reg9g.wantV o vals:=by unfold Xv;rw[ho]
 have hlxi:lx ops L vals i=false:=by simp[lx,hLi]
 refine⟨fun hW=>?_,fun hW=>?_⟩
 rotate_left
 ·
  have hl:lx ops (fun k=>if k=i then true else L k) (fun k=>if k=i then undef else vals k)=lx ops L vals:=by
   rw[lx_step hgd hdn ho hLi hed]
   funext k
   by_cases hki:k=i
   ·subst hki;rw[if_pos rfl,hW,hlxi]
   ·rw[if_neg hki]
  refine⟨hdn',ρ,T,hρ,hist,hext,fun ρ' hρ'=>?_⟩
  rw[hl] at hρ' ⊢
  obtain⟨g1,g2⟩:=hsat ρ' hρ'
  refine⟨g1,fun k hk hLk=>?_⟩
  have hki:k≠i:=fun e=>by rw[e,hlxi] at hLk;cases hLk
  simp only[if_neg hki]
  exact g2 k hk hLk
 obtain⟨c1,c2,c3,c4,c5,c6,c7⟩:=opOk_ok (hall i hi) ho
 have hli0:∀k,liOf (masks ops.toList []) i k=true→L k=true:=fun k hk=>by
  simp only[liOf,Bool.and_eq_true,decide_eq_true_eq] at hk
  exact vz hdn ho hed k hk.1 (Ne.symm hk.2)
 have hliX:∀k,liOf (masks ops.toList []) i k=true→(match gdOf ops k with|none=>true|some (j,want)=>match vals j with|.bool b=>b == want|_=>false)=true→lx ops L vals k=true:=fun k hk hx=>by
  unfold lx
  rw[hli0 k hk,ku,hx];rfl
 have hli:∀k,liG ops (masks ops.toList []) i k=true→lx ops L vals k=true:=fun k hk=>by
  simp only[liG,liB,Bool.and_eq_true] at hk
  refine hliX k hk.1 ?_
  obtain⟨-,h2⟩:=hk
  have hXi:=hxi.trans hW
  rw[ku] at hXi
  split at h2
  ·rename_i hg;rw[hg]
  ·rename_i g' hg
   have:=of_decide_eq_true h2
   rw[this] at hXi
   rw[hg];exact hXi
 have hnot:∀j,bit (masks ops.toList []) j i=true→L j=false:=fun j hj=>by
  cases hq:L j with
  | false=>rfl
  | true=>rw[uz hdn j i hj hq] at hLi;cases hLi
 have hptg:∀q∈p.pts,lx ops L vals q.j=L q.j:=fun q hq=>by
  obtain⟨h1,h2⟩:=pts_mem hq
  obtain⟨oj,hoj⟩:∃oj,ops[q.j]? = some oj:=⟨ops[q.j]'(by omega),Array.getElem?_eq_getElem _⟩
  have h3:=(opOk_ok (hall q.j (by omega)) hoj).2.2.2.2.2.2
  rw[h2] at h3
  unfold lx
  rw[ku,h3.1,Bool.and_true]
 have hl3:∀q∈p.pts,∀b,l3Of (masks ops.toList []) i q.j=some b→(fun j=>some (lx ops L vals j)) q.j=some b:=by
  intro q hq b hb
  show some (lx ops L vals q.j)=_
  rw[hptg q hq]
  unfold l3Of at hb
  split at hb
  ·rename_i h1
   cases hb
   rw[hli0 _ h1]
  ·split at hb
   ·rename_i h1
    cases hb
    rw[hnot _ h1]
   ·cases hb
 have hS0:∀ρ':Val,(∀n,Usd p ops.size (lx ops L vals) n→ρ' n=ρ n)→∀n,n<p.S0.nv→ρ' n=ρ0 n:=fun ρ' h n hn=>(h n (.inl hn)).trans (hρ n hn)
 have hyp:Hyp cx W0 (p.sti ops (masks ops.toList []) (p.v i) i o) w0.heap.size (fun ρ'=>∀n,Usd p ops.size (lx ops L vals) n→ρ' n=ρ n) T w a:=by
  refine⟨⟨ρ,fun _ _=>rfl⟩,fun ρ' hρ'=>addG_ok (plan_sub (hsat ρ' hρ').1 hli hl3) (fun j want hg hl=>?_),fun ρ' hρ' t x hx=>?_⟩
  ·have h1:=(hsat ρ' hρ').2 j (hgs j want hg) (hli j hl)
   have hXi:=hxi.trans hW
   rw[ku,hg] at hXi
   simp only at hXi
   split at hXi
   ·rename_i b hvb
    have:b=want:=by simpa using hXi
    rw[←h1,hvb,this]
   ·cases hXi
  ·have hx:look (p.sti0 ops (masks ops.toList []) (p.v i) i o).env t=some x:=by rw[←addG_nv.2];exact hx
   have hm:=zg hx
   simp only[Plan.sti0,Plan.st,envI,List.mem_filterMap] at hm
   obtain⟨y,hy,hq⟩:=hm
   split at hq
   ·rename_i d
    have hd:=htm d (by simpa using hy)
    split at hq
    ·rename_i k hk
     rw[hk] at hd
     split at hq
     ·rename_i hlk
      injection hq with hq
      injection hq with e1 e2
      subst e1;subst e2
      rw[hd.2]
      exact(hsat ρ' hρ').2 k (idxOf_ok hk).1 (hli k hlk)
     ·cases hq
    ·rename_i hk
     rw[hk] at hd
     cases hz:look p.S0.env d with
     | none=>rw[hz] at hq;cases hq
     | some z=>
       rw[hz] at hq
       injection hq with hq
       injection hq with e1 e2
       subst e1;subst e2
       rw[hd]
       exact henv ρ' (hS0 ρ' hρ') _ _ hz
   ·cases hq
 have hstep:Reg4.StepOk P (fun v w'=>∃T' ex,Stp cx.tb W0 T w T' w' w0.heap.size (p.r i).pu ex∧∀ρ',(∀n,Usd p ops.size (lx ops L vals) n→ρ' n=ρ n)→Blk ρ' (p.v i) (p.r i).out.tys.length (flatV v) →
  NewOk cx.tb W0 (p.st (p.v i) [] (lx ops L vals) (fun j=>some (lx ops L vals j))) (p.r i).out w0.heap.size ρ' T' w' v∧EfOk (p.r i).ef w0.heap.size ρ' T w T' w' v ex) ((execOp a.eval o).run P w):=by
  unfold stepP at c1
  split at c1
  ·rename_i r hr
   cases c1
   obtain⟨v,h1,h2,h3,h4⟩:=pickG_ok (P:=P) (T:=T) (w:=w) (base:=w0.heap.size) (a:=a) hr ⟨ρ,fun _ _=>rfl⟩ hsat hliX hl3 (fun d hd k hk=>by
    have:=htm d hd
    rw[hk] at this
    exact this.2)
   rw[h1]
   refine⟨T,none,?_,fun ρ' hρ' _=>⟨h4 ρ' hρ' _,by rw[h2];rfl⟩⟩
   have hwt:=(hsat ρ (fun _ _=>rfl)).1.wt
   exact Stp.refl hwt _ _
  ·have h1:=ht _ o _ c1 _ _ T w a hyp
   refine Reg4.StepOk.mono h1 ?_
   rintro v w' ⟨T',ex,hst,hpost⟩
   refine⟨T',ex,hst,fun ρ' hρ' hb=>?_⟩
   have hnv:(p.sti ops (masks ops.toList []) (p.v i) i o).nv=p.v i:=addG_nv.1
   rw[hnv] at hpost
   obtain⟨hn,he⟩:=hpost ρ' hρ' hb
   refine⟨fun hb'=>?_,he⟩
   have:=hn (by rw[hnv];exact hb')
   rw[hnv] at this
   exact this
 refine Reg4.StepOk.mono hstep ?_
 rintro v w' ⟨T',ex,hst,hpost⟩
 have hdis:∀j,j<ops.size→j≠i→p.v j+(p.r j).out.tys.length≤p.v i∨p.v i+(p.r i).out.tys.length≤p.v j:=by
  intro j hj hne
  rcases Nat.lt_or_ge j i with h|h
  ·exact .inl (c6 j h)
  ·obtain⟨oj,hoj⟩:∃oj,ops[j]? = some oj:=⟨ops[j],Array.getElem?_eq_getElem hj⟩
   exact .inr ((opOk_ok (hall j hj) hoj).2.2.2.2.2.1 i (by omega))
 have hout:∀n,Usd p ops.size (lx ops L vals) n→¬(p.v i≤n∧n<p.v i+(p.r i).out.tys.length):=by
  rintro n (hn|⟨k,hk,hLk,h1,h2⟩) ⟨h3,h4⟩
  ·omega
  ·have hne:k≠i:=fun e=>by rw[e,hlxi] at hLk;cases hLk
   rcases hdis k hk hne with h|h<;>omega
 have hl:lx ops (fun k=>if k=i then true else L k) (fun k=>if k=i then v else vals k)=L' (lx ops L vals) i:=by
  rw[lx_step hgd hdn ho hLi hed]
  funext k
  unfold L'
  by_cases hki:k=i
  ·rw[if_pos hki,if_pos hki,hW]
  ·rw[if_neg hki,if_neg hki]
 refine⟨hdn',fun n=>if p.v i≤n∧n<p.v i+(p.r i).out.tys.length then(flatV v).getD (n-p.v i) undef else ρ n,T',fun n hn=>?_,hist.step hst c3,hext.trans hst.ext,fun ρ' hρ'=>?_⟩
 ·exact(if_neg (by omega)).trans (hρ n hn)
 ·rw[hl] at hρ' ⊢
  have hΩ:∀n,Usd p ops.size (lx ops L vals) n→ρ' n=ρ n:=fun n hn=>by
   rw[hρ' n (by
    rcases hn with hn|⟨k,h1,h2,h3⟩
    ·exact .inl hn
    ·exact .inr ⟨k,h1,by simp only[L',h2];split<;>rfl,h3⟩)]
   exact if_neg (hout n hn)
  have hblk:Blk ρ' (p.v i) (p.r i).out.tys.length (flatV v):=fun j hj=>by
   rw[hρ' (p.v i+j) (.inr ⟨i,hi,if_pos rfl,by omega,by omega⟩)]
   refine(if_pos ⟨by omega,by omega⟩).trans ?_
   rw[Nat.add_sub_cancel_left]
  obtain⟨hn,he⟩:=hpost ρ' hΩ hblk
  have hfull:SatW cx.tb W0 (p.st (p.v i) [] (lx ops L vals) (fun j=>some (lx ops L vals j))) w0.heap.size ρ' T w:=plan_sub (hsat ρ' hΩ).1 (fun _ h=>h) (fun _ _ _ h=>h)
  have hlen:∀b∈p.S0.bx++selT p (lx ops L vals) (ut p),b∈p.S0.bx++selT p (fun _=>true) (ut p):=fun b hb=>by
   rcases List.mem_append.1 hb with h|h
   ·exact List.mem_append.2 (.inl h)
   ·obtain⟨k,q1,q2,q3⟩:=xy.1 h
    exact List.mem_append.2 (.inr (xy.2 ⟨k,q1,rfl,q3⟩))
  have hres:resOk (p.st (p.v i) [] (lx ops L vals) (fun j=>some (lx ops L vals j))) (p.r i)=true:=by
   unfold resOk
   generalize (p.r i).ef=ef at c7 ⊢
   cases ef with
   | no=>rfl
   | box t cs=>exact decide_eq_true c7.2.1
   | put n off vs=>
     obtain⟨-,d1,d2,b,hb,hbn⟩:=c7
     simp only[Bool.and_eq_true,List.all_eq_true,List.any_eq_true,decide_eq_true_eq]
     refine⟨fun b1 hb1 hbn1=>?_,?_⟩
     ·obtain⟨b0,hb0,rfl⟩:=List.mem_map.1 hb1
      simp only[xm]
      exact d2 b0 (hlen b0 hb0) hbn1
     ·obtain⟨b0,hb0,rfl⟩:=List.mem_map.1 hb
      refine⟨{ b0 with cs:=yg p.pts (fun j=>some (lx ops L vals j)) b0.n 0 b0.cs },List.mem_map.2 ⟨b0,?_,rfl⟩,hbn⟩
      rcases List.mem_append.1 hb0 with h|h
      ·exact List.mem_append.2 (.inl h)
      ·obtain⟨k,q1,q2,q3⟩:=xy.1 h
       exact List.mem_append.2 (.inr (xy.2 ⟨k,q1,hli k q2,q3⟩))
  have hu:=satW_upd (S:=p.st (p.v i) [] (lx ops L vals) (fun j=>some (lx ops L vals j))) hfull hst hn he hblk hres none
  refine⟨plan_next hlxi (fun t cs hef q hq hqn=>?_) (fun n off vs hef=>?_) hu,fun k hk hLk=>?_⟩
  ·rw[hef] at c7
   have:=hnot _ (c7.2.2 q hq hqn)
   rw[hptg q hq];exact this
  ·rw[hef] at c7
   exact⟨c7.2.1,by omega,fun b hb=>c7.2.2.1 b (hlen b hb)⟩
  ·by_cases hki:k=i
   ·subst hki
    exact(if_pos rfl).trans (hn hblk).1
   ·simp only[L',if_neg hki] at hLk ⊢
    exact(hsat ρ' hΩ).2 k hk hLk
theorem anyDraw_ok{step:x9}(ht:Truth P cx W0 step)(hmix:P.follows .mixedOrders=true):DrawOk P cx W0 T0 w0 PU N (anyDraw step N PU):=by
 intro id ops S outs h ρ T a w Q hm hQ
 unfold anyDraw at h
 split at h
 ·rename_i hB
  split at h
  ·rename_i rs hrs
   split at h
   ·rename_i hp
    cases h
    generalize hnvE:rs.foldl (fun n x=>n+x.2.out.tys.length) S.nv=nvE at *
    simp only[planOk,Bool.and_eq_true,decide_eq_true_eq,List.all_eq_true,List.mem_range] at hp
    obtain⟨⟨hlen,hnv⟩,hall⟩:=hp
    have hmd:Mod cx W0 T0 w0 PU N S ρ T a w.drew:=hm.drew
    have hdt:∀k d,k<ops.size→Reg4.dstOf ops k=some d→d<N:=fun k d hk hd=>by
     obtain⟨o,ho⟩:∃o,ops[k]? = some o:=⟨ops[k],Array.getElem?_eq_getElem hk⟩
     have:=(opOk_ok (hall k hk) ho).2.1
     simp only[Reg4.dstOf,ho,Option.bind_some] at hd
     rw[hd] at this
     exact of_decide_eq_true this
    have hG:∀i o,ops[i]? = some o→Reg9g.opG ops ops.size i=true:=fun i o ho=>by
     have h1:=hB
     simp only[Reg9g.headG,Bool.and_eq_true,decide_eq_true_eq,List.all_eq_true,List.mem_range,Bool.or_eq_true] at h1
     exact h1.1.1.2 i (Array.getElem?_eq_some_iff.1 ho).1
    have hgd:GdOk ops:=fun k o j want ho hg=>by
     have h2:=hG k o ho
     unfold Reg9g.opG at h2
     rw[ho] at h2
     simp only[hg,Bool.and_eq_true] at h2
     exact h2.1.1.1.1.1
    have hgs:∀i j want,gdOf ops i=some (j,want)→j<ops.size:=fun i j want hg=>by
     unfold gdOf at hg
     cases ho:ops[i]? with
     | none=>rw[ho] at hg;cases hg
     | some o=>
       rw[ho] at hg
       have hg':o.guard=some (j,want):=hg
       have h2:=hG i o ho
       unfold Reg9g.opG at h2
       rw[ho] at h2
       simp only[hg',Bool.and_eq_true,decide_eq_true_eq] at h2
       exact h2.1.1.1.1.2
    have hop:∀i k,i<ops.size→k<ops.size→k≠i→∀d,Reg4.dstOf ops i=some d→Reg4.dstOf ops k≠some d:=by
     intro i k hi hk hne d hd hkd
     have h2:=hG i ops[i] (Array.getElem?_eq_getElem hi)
     unfold Reg9g.opG at h2
     rw[Array.getElem?_eq_getElem hi] at h2
     simp only[Bool.and_eq_true,List.all_eq_true,List.mem_range,Bool.or_eq_true,bne_iff_ne,beq_iff_eq] at h2
     rcases h2.2 k hk with(h|h)|h
     ·exact hne h
     ·rw[h] at hd;cases hd
     ·rw[hd,hkd] at h;exact h rfl
    refine Reg9g.region (a0:=a) (Q:=Q) ops.size (SemL cx W0 T0 w0 PU ops ⟨S,rs⟩ ρ T w.drew) hmix hB (fun k d hk hd=>by rw[hm.size];exact hdt k d hk hd) ?_ (fun i o hi ho L vals a' w' hL hS hed htm=>sem_step ht hgd hlen hall (fun ρ' h=>hmd.env ρ' h) (hgs i) hi ho hL hS hed htm) (fun L vals w' hL hS=>?_)
    ·refine⟨fun k o _ hk=>by simp at hk,ρ,T,fun _ _=>rfl,hmd.hist,Ext.refl T w.drew,fun ρ' hρ'=>⟨satW_sub (hmd.sat ρ' (fun n hn=>hρ' n (.inl hn))) (fun x hx=>?_) (fun f hf=>?_) (fun b hb=>?_),fun k _ hk=>by simp[lx] at hk⟩⟩
     ·simp only[Plan.st] at hx
      rcases List.mem_append.1 hx with h|h
      ·exact h
      ·obtain⟨k,q1,q2,q3⟩:=xy.1 h;cases q2
     ·simp only[Plan.st] at hf
      rcases List.mem_append.1 hf with h|h
      ·exact h
      ·obtain⟨k,q1,q2,q3⟩:=xy.1 h;cases q2
     ·simp only[Plan.st] at hb
      obtain⟨b0,hb0,rfl⟩:=List.mem_map.1 hb
      rcases List.mem_append.1 hb0 with h|h
      ·refine⟨b0,h,rfl,rfl,by simp[xm],fun i s hs=>?_⟩
       simp only[cellsL_get] at hs
       cases hq:b0.cs[i]? with
       | none=>rw[hq] at hs;cases hs
       | some c=>
         rw[hq] at hs
         simp only[Option.map_some,Option.some.injEq] at hs
         rw[←hs]
         congr 1
         unfold cellL
         split<;>rfl
      ·obtain⟨k,q1,q2,q3⟩:=xy.1 h;cases q2
    ·rw[show ops.toList.drop ops.size=[] by simp]
     obtain⟨hdn,ρ1,T1,hρ1,hist,hext,hsat⟩:=hS
     unfold wpList
     refine hQ (endSt ops ⟨S,rs⟩ nvE) _ _ (by simp) ⟨ρ1,T1,hρ1,hnv,⟨hext.sub,hext.row,hext.fz,hext.mp⟩,?_,?_,hist,fun ρ' hρ'=>?_,fun ρ' hρ'=>?_⟩
     ·rw[(puts_size _ _).1];exact hm.size
     ·rw[(puts_size _ _).2];exact hm.defers
     ·have hus:∀n,Usd ⟨S,rs⟩ ops.size (lx ops L vals) n→ρ' n=ρ1 n:=by
       rintro n (hn|⟨k,hk,-,h1,h2⟩)
       ·exact hρ' n (Nat.lt_of_lt_of_le hn hnv)
       ·obtain⟨o,ho⟩:∃o,ops[k]? = some o:=⟨ops[k],Array.getElem?_eq_getElem hk⟩
        have:=(opOk_ok (hall k hk) ho).2.2.2.2.1
        exact hρ' n (Nat.lt_of_lt_of_le h2 this)
      have hun:∀k,k<ops.size→gdOf ops k=none→lx ops L vals k=true:=fun k hk hg=>by
       unfold lx
       rw[hL k hk,ku,hg];rfl
      refine plan_sub (hsat ρ' hus).1 (fun k hk=>(hun k (of_decide_eq_true hk).1 (of_decide_eq_true hk).2)) (fun q hq b hb=>?_)
      cases hb
      obtain⟨q1,q2⟩:=pts_mem hq
      have q1:q.j<ops.size:=by simp only at q1;omega
      have q3:=(opOk_ok (hall q.j q1) (Array.getElem?_eq_getElem q1)).2.2.2.2.2.2
      rw[q2] at q3
      simp only[hun q.j q1 q3.1]
     ·have hus:∀n,Usd ⟨S,rs⟩ ops.size (lx ops L vals) n→ρ' n=ρ1 n:=by
       rintro n (hn|⟨k,hk,-,h1,h2⟩)
       ·exact hρ' n (Nat.lt_of_lt_of_le hn hnv)
       ·obtain⟨o,ho⟩:∃o,ops[k]? = some o:=⟨ops[k],Array.getElem?_eq_getElem hk⟩
        have:=(opOk_ok (hall k hk) ho).2.2.2.2.1
        exact hρ' n (Nat.lt_of_lt_of_le h2 this)
      intro t x hx
      have hx':look (envE ops ⟨S,rs⟩) t=some x:=hx
      unfold envE at hx'
      rw[look_append] at hx'
      split at hx'
      ·rename_i y hy
       cases hx'
       have hmem:=zg hy
       simp only[List.mem_filterMap,List.mem_range] at hmem
       obtain⟨k,hk,hq⟩:=hmem
       have hgk:gdOf ops k=none:=by
        by_cases hgk:gdOf ops k=none
        ·exact hgk
        ·rw[if_neg hgk] at hq;cases hq
       rw[if_pos hgk] at hq
       have hlk:lx ops L vals k=true:=by
        unfold lx
        rw[hL k hk,ku,hgk];rfl
       cases hd:Reg4.dstOf ops k with
       | none=>rw[hd] at hq;cases hq
       | some d=>
         rw[hd] at hq
         simp only[Option.map_some,Option.some.injEq,Prod.mk.injEq] at hq
         obtain⟨rfl,rfl⟩:=hq
         rw[Reg4.puts_at hd rfl (List.range ops.size) a List.nodup_range (List.mem_range.2 hk) (by rw[hm.size];exact hdt k d hk hd) (fun j hj hne=>hop k j hk (List.mem_range.1 hj) hne d hd)]
         exact(hsat ρ' hus).2 k hk hlk
      ·obtain⟨h1,h2⟩:=look_filt (f:=fun e=>(Reg4.idxOf ops ops.size e).isNone) hx'
       rw[Reg4.puts_none (List.range ops.size) a (fun k hk hd=>by
        have h3:=Option.isNone_iff_eq_none.1 h1
        unfold Reg4.idxOf at h3
        have:=List.find?_eq_none.1 h3 k hk
        simp[hd] at this)]
       exact hmd.env ρ' (fun n hn=>(hρ' n (Nat.lt_of_lt_of_le hn hnv)).trans (hρ1 n hn)) t x h2
   ·cases h
  ·cases h
 ·cases h
def orDraw(f g:Array Oper→St→Option (List St))(ops:Array Oper)(S:St):Option (List St):=match f ops S with
 | some l=>some l
 | none=>g ops S
theorem orDraw_ok{f g:Array Oper→St→Option (List St)}(hf:DrawOk P cx W0 T0 w0 PU N f)(hg:DrawOk P cx W0 T0 w0 PU N g):DrawOk P cx W0 T0 w0 PU N (orDraw f g):=by
 intro id ops S outs h
 unfold orDraw at h
 split at h
 ·rename_i l hl
  cases h
  exact hf id ops S _ hl
 ·exact hg id ops S outs h
end
open Go.RowKit
section
variable{P:Program}{cx:Cx}{W0:World}
def drawFn(cx:Cx)(G:Gam)(N:Nat)(PU:Bool):Array Oper→St→Option (List St):=orDraw (stillDraw cx N PU) (anyDraw (stepG cx G) N PU)
def checkFn(cx:Cx)(G:Gam)(fn:Func)(heads:List Head)(C:Ctr):Bool:=match fn.body with
 | some code=>(fn.name != "runtime.NumGoroutine") && fnOk { cx:=cx,step:=stepG cx G,N:=fn.ntmps,PU:=C.pu,heads:=heads,drawn:=drawFn cx G fn.ntmps C.pu } C code fn.results.toList
 | none=>false
def checkSp(cx:Cx)(G:Gam)(fn:Func)(heads:List Head)(C:Ctr):Bool:=match fn.body with
 | some code=>(fn.name != "runtime.NumGoroutine") && fnOk { cx:=cx,step:=stepG cx G,N:=fn.ntmps,PU:=C.pu,heads:=heads,drawn:=drawFn cx G fn.ntmps C.pu,sp:=true } C code fn.results.toList
 | none=>false
theorem holds_sp{G:Gam}(hcx:CxOk P cx)(hG:GamOk P cx W0 G)(hmix:P.follows .mixedOrders=true){f:FuncId}{fn:Func}(heads:List Head){C:Ctr}(hf:P.funcs[f]? = some fn)(h:checkSp cx G fn heads C=true):Holds P cx W0 f C:=by
 unfold checkSp at h
 split at h
 ·rename_i code hb
  simp only[Bool.and_eq_true,bne_iff_ne,ne_eq] at h
  exact holds_of (c:={ cx:=cx,step:=stepG cx G,N:=fn.ntmps,PU:=C.pu,heads:=heads,drawn:=drawFn cx G fn.ntmps C.pu,sp:=true }) hf hb (by simpa using h.1) rfl hcx (stepG_ok hcx hG) (fun T0 w0=>orDraw_ok (stillDraw_ok hcx hmix) (anyDraw_ok (stepG_ok hcx hG) hmix)) rfl h.2
 ·cases h
theorem qx{G:Gam}(hcx:CxOk P cx)(hG:GamOk P cx W0 G)(hmix:P.follows .mixedOrders=true){f:FuncId}{fn:Func}(heads:List Head){C:Ctr}(hf:P.funcs[f]? = some fn)(h:checkFn cx G fn heads C=true):Holds P cx W0 f C:=by
 unfold checkFn at h
 split at h
 ·rename_i code hb
  simp only[Bool.and_eq_true,bne_iff_ne,ne_eq] at h
  exact holds_of (c:={ cx:=cx,step:=stepG cx G,N:=fn.ntmps,PU:=C.pu,heads:=heads,drawn:=drawFn cx G fn.ntmps C.pu }) hf hb (by simpa using h.1) rfl hcx (stepG_ok hcx hG) (fun T0 w0=>orDraw_ok (stillDraw_ok hcx hmix) (anyDraw_ok (stepG_ok hcx hG) hmix)) rfl h.2
 ·cases h
end
end Sy
end Go.Proofs.YtmadfhgiaonnlaaGreatDoor
