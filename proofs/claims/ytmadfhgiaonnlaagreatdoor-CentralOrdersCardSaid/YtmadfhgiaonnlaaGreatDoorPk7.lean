import Derived.Test.YtmadfhgiaonnlaaGreatDoorPk6
set_option linter.unusedVariables false
set_option linter.unusedSimpArgs false
namespace Go.Proofs.YtmadfhgiaonnlaaGreatDoor
namespace Sy
open Go.RowKit
def number(n:Nat):List CT→List (Nat×CT)
 | []=>[]
 | c::r=>(n,c)::number (n+1) r
theorem number_mem{ct:CT}{k:Nat}:∀{l:List CT} {n:Nat},(k,ct)∈number n l→∃i,k=n+i∧l[i]? = some ct
 | [],n,h=>by cases h
 | c::r,n,h=>by
   rcases List.mem_cons.1 h with h|h
   ·cases h;exact⟨0,rfl,rfl⟩
   ·obtain⟨i,h1,h2⟩:=number_mem h
    exact⟨i+1,by omega,h2⟩
def spl(l:List (Option SV))(off:Nat)(vs:List SV):List (Option SV):=l.take off++vs.map some++l.drop (off+vs.length)
theorem spl_get{l:List (Option SV)}{off:Nat}{vs:List SV}(h:off+vs.length≤l.length)(i:Nat):(spl l off vs)[i]? = if off≤i∧i<off+vs.length then(vs[i-off]?).map some else l[i]?:=by
 unfold spl
 have ht:(l.take off).length=off:=by rw[List.length_take];omega
 by_cases h1:i<off
 ·rw[if_neg (by omega),List.append_assoc,List.getElem?_append_left (by omega),List.getElem?_take,if_pos h1]
 ·by_cases h2:i<off+vs.length
  ·rw[if_pos ⟨by omega,h2⟩,List.getElem?_append_left (by rw[List.length_append,ht,List.length_map];omega),List.getElem?_append_right (by omega),ht,List.getElem?_map]
  ·rw[if_neg (by omega),List.getElem?_append_right (by rw[List.length_append,ht,List.length_map];omega),List.length_append,ht,List.length_map,List.getElem?_drop]
   congr 1;omega
theorem spl_len{l:List (Option SV)}{off:Nat}{vs:List SV}(h:off+vs.length≤l.length):(spl l off vs).length=l.length:=by
 simp[spl];omega
def bxOf(S:St):Ef→List Box
 | .no=>S.bx
 | .box t cs=>⟨S.nv,t,cs.map some⟩::S.bx
 | .put n off vs=>S.bx.map fun b=>if b.n=n then { b with cs:=spl b.cs off vs } else b
def put(env:List (Nat×XV))(dst:Option Tmp)(x:XV):List (Nat×XV):=match dst with
 | some d=>(d,x)::env.filter fun p=>decide (p.1≠d)
 | none=>env
def upd(S:St)(dst:Option Tmp)(r:Res):St:=
 { nv:=S.nv+r.out.tys.length,env:=put S.env dst r.out.v,ty:=number S.nv r.out.tys++S.ty,fs:=r.out.fs++S.fs,bx:=bxOf S r.ef }
def resOk(S:St)(r:Res):Bool:=match r.ef with
 | .box _ _=>decide (r.out.tys.length=1)
 | .put n off vs=>(S.bx.all fun b=>decide (b.n=n→off+vs.length≤b.cs.length)) && S.bx.any fun b=>decide (b.n=n)
 | .no=>true
theorem look_filter{α:Type}(d:Nat):∀(l:List (Nat×α)) (t:Nat),t≠d→look (l.filter fun p=>decide (p.1≠d)) t=look l t
 | [],_,_=>rfl
 | (m,x)::r,t,h=>by
   rw[List.filter_cons]
   by_cases hm:m=d
   ·subst hm
    simp only[ne_eq,not_true_eq_false,decide_false,Bool.false_eq_true,if_false]
    rw[look_filter _ r t h]
    simp[look,Ne.symm h]
   ·simp only[ne_eq,hm,not_false_eq_true,decide_true,if_true,look]
    rw[look_filter _ r t h]
section
variable{P:Program}{cx:Cx}{W0:World}{S:St}{base:Nat}{ρ:Val}{T T':Nat→Prop}{w w':World}{a:Act}{Ω:Val→Prop}
theorem env_put{dst:Option Tmp}{x:XV}{v:Value}{N:Nat}(h:EnvOk S ρ a)(hv:v=x.den ρ)(hN:a.tmps.size=N)(hd:∀d,dst=some d→d<N)(S':St)(hS:S'.env=put S.env dst x):EnvOk S' ρ (a.put dst v):=by
 intro t y hy
 rw[hS] at hy
 cases dst with
 | none=>exact h t y hy
 | some d=>
   have hdN:=hd d rfl
   simp only[put,look] at hy
   show(a.tmps.setIfInBounds d v).getD t undef=_
   split at hy
   ·rename_i e
    subst e
    cases hy
    rw[←hv,Array.getD_eq_getD_getElem?,Array.getElem?_setIfInBounds,if_pos rfl,if_pos (by rw[hN];exact hdN)];rfl
   ·rename_i e
    rw[look_filter d _ t (Ne.symm e)] at hy
    rw[Array.getD_eq_getD_getElem?,Array.getElem?_setIfInBounds,if_neg e,←Array.getD_eq_getD_getElem?]
    exact h t y hy
theorem box_keep{pu:Bool}{ex:Option Nat}{b:Box}(hst:Stp cx.tb W0 T w T' w' base pu ex)(h:BoxOk T w base ρ b)(hex:∀g,ρ b.n=.pointer (some ⟨g,0,none⟩)→ex≠some g):BoxOk T' w' base ρ b:=by
 obtain⟨g,cs,h1,h2,h3,h4,h5,h6⟩:=h
 have hlt:g<w.heap.size:=by
  rcases Nat.lt_or_ge g w.heap.size with h|h
  ·exact h
  ·rw[Array.getElem?_eq_none h] at h4;cases h4
 refine⟨g,cs,h1,fun hT=>?_,h3,by rw[hst.keep g hlt h2 (hex g h1)];exact h4,h5,h6⟩
 rcases hst.new g hT with h|h
 ·exact h2 h
 ·omega
theorem satW_upd{r:Res}{v:Value}{ex:Option Nat}(hs:SatW cx.tb W0 S base ρ T w)(hst:Stp cx.tb W0 T w T' w' base r.pu ex)(hn:NewOk cx.tb W0 S r.out base ρ T' w' v)(he:EfOk r.ef base ρ T w T' w' v ex)
  (hb:Blk ρ S.nv r.out.tys.length (flatV v)) (hr:resOk S r=true) (dst:Option Tmp):SatW cx.tb W0 (upd S dst r) base ρ T' w':=by
 obtain⟨hv,hty,hfs⟩:=hn hb
 refine⟨hst.wt,hs.lo,Nat.le_trans hs.bs hst.size,fun n ct hm=>?_,fun f hf=>?_,fun b hbm=>?_,?_⟩
 ·rcases List.mem_append.1 hm with hm|hm
  ·obtain⟨i,rfl,hi⟩:=number_mem hm
   exact hty i ct hi
  ·exact(hs.ty n ct hm).mono hst.ext (Nat.le_refl _)
 ·rcases List.mem_append.1 hf with hf|hf
  ·exact hfs f hf
  ·exact hs.fs f hf
 ·cases hef:r.ef with
  | no=>
    rw[hef] at he
    simp only[upd,hef,bxOf] at hbm
    exact box_keep hst (hs.bx b hbm) (fun g _ h=>by rw[show ex=none from he] at h;cases h)
  | box t cs=>
    rw[hef] at he
    obtain⟨hex,g,hg1,hg2,hg3,hg4,hg5⟩:=he
    simp only[upd,hef,bxOf,List.mem_cons] at hbm
    rcases hbm with rfl|hbm
    ·have h1:r.out.tys.length=1:=by
      unfold resOk at hr;rw[hef] at hr;exact of_decide_eq_true hr
     have h0:=hb 0 (by omega)
     rw[hg1] at h0
     refine⟨g,_,h0,hg2,hg3,hg5,by simp[dens],fun i s hi=>?_⟩
     simp only[List.getElem?_map] at hi
     cases hq:cs[i]? with
     | none=>rw[hq] at hi;cases hi
     | some s'=>
       rw[hq] at hi
       simp only[Option.map_some,Option.some.injEq] at hi
       subst hi
       simp[dens,hq]
    ·exact box_keep hst (hs.bx b hbm) (fun g _ h=>by rw[hex] at h;cases h)
  | put n off vs=>
    rw[hef] at he
    obtain⟨g,cs,cs',t,hex,hg1,hg2,hg3,hg4,hg5,hg6⟩:=he
    simp only[upd,hef,bxOf,List.mem_map] at hbm
    obtain⟨b0,hb0,rfl⟩:=hbm
    split
    ·rename_i hn0
     obtain⟨g',cs0,a1,a2,a3,a4,a5,a6⟩:=hs.bx b0 hb0
     rw[hn0,hg1] at a1
     injection a1 with a1;injection a1 with a1;injection a1 with a1
     subst a1
     rw[hg2] at a4
     injection a4 with a4;injection a4 with a4 a7
     subst a4
     have hle:off+vs.length≤b0.cs.length:=by
      unfold resOk at hr;rw[hef] at hr
      simp only[Bool.and_eq_true] at hr
      exact of_decide_eq_true (List.all_eq_true.1 hr.1 b0 hb0) hn0
     refine⟨g,cs',by show ρ b0.n=_;rw[hn0];exact hg1,fun hT=>?_,a3,by show w'.heap[g]? = _;rw[hg3,a7],by show cs'.size=(spl b0.cs off vs).length;rw[spl_len hle];omega,fun i s hi=>?_⟩
     ·rcases hst.new g hT with h|h
      ·exact a2 h
      ·have:g<w.heap.size:=by
        rcases Nat.lt_or_ge g w.heap.size with h|h
        ·exact h
        ·rw[Array.getElem?_eq_none h] at hg2;cases hg2
       omega
     ·have hi:(spl b0.cs off vs)[i]? = some (some s):=hi
      rw[spl_get hle] at hi
      rw[hg6 i]
      split at hi
      ·rename_i hc
       rw[if_pos hc]
       cases hq:vs[i-off]? with
       | none=>rw[hq] at hi;cases hi
       | some s'=>
         rw[hq] at hi
         simp only[Option.map_some,Option.some.injEq] at hi
         subst hi
         simp[dens,hq]
      ·rename_i hc
       rw[if_neg hc]
       exact a6 i s hi
    ·rename_i hn0
     refine box_keep hst (hs.bx b0 hb0) (fun g' hg' h=>?_)
     rw[hex] at h
     injection h with h
     subst h
     obtain⟨b1,hb1,hb2⟩:∃b1∈S.bx,b1.n=n:=by
      unfold resOk at hr;rw[hef] at hr
      simp only[Bool.and_eq_true] at hr
      obtain⟨b1,hb1,hb2⟩:=List.any_eq_true.1 hr.2
      exact⟨b1,hb1,of_decide_eq_true hb2⟩
     exact hs.ap b0 hb0 b1 hb1 (by rw[hb2];exact hn0) (by rw[hb2,hg',hg1])
 ·cases hef:r.ef with
  | no=>
    simp only[upd,hef,bxOf]
    exact hs.ap
  | box t cs=>
    rw[hef] at he
    obtain⟨hex,g,hg1,hg2,hg3,hg4,hg5⟩:=he
    have h1:r.out.tys.length=1:=by
     unfold resOk at hr;rw[hef] at hr;exact of_decide_eq_true hr
    have h0:ρ S.nv=.pointer (some ⟨g,0,none⟩):=by
     have h0:=hb 0 (by omega)
     rw[hg1] at h0
     exact h0
    have hold:∀b∈S.bx,ρ b.n≠ρ S.nv:=by
     intro b hbm e
     obtain⟨g',cs0,a1,a2,a3,a4,-⟩:=hs.bx b hbm
     rw[a1,h0] at e
     injection e with e;injection e with e;injection e with e
     subst e
     rw[Array.getElem?_eq_none hg4] at a4;cases a4
    simp only[upd,hef,bxOf,List.mem_cons]
    rintro b (rfl|hbm) c (rfl|hcm) hne
    ·exact absurd rfl hne
    ·exact fun e=>hold c hcm e.symm
    ·exact hold b hbm
    ·exact hs.ap b hbm c hcm hne
  | put n off vs=>
    simp only[upd,hef,bxOf,List.mem_map]
    rintro b ⟨b0,hb0,rfl⟩ c ⟨c0,hc0,rfl⟩ hne
    have e1:∀x:Box,(if x.n=n then { x with cs:=spl x.cs off vs } else x).n=x.n:=fun x=>by split<;>rfl
    rw[e1,e1] at hne ⊢
    exact hs.ap b0 hb0 c0 hc0 hne
structure Hist(T0:Nat→Prop)(w0:World)(PU:Bool)(T:Nat→Prop)(w:World):Prop where
 ext:Ext T0 w0 T w
 new:∀b,T b→T0 b∨w0.heap.size≤b
 size:w0.heap.size≤w.heap.size
 os:w.os=w0.os
 tape:w.tape=w0.tape
 output:w.output=w0.output
 keep:∀b,b<w0.heap.size→(PU=true∨¬T0 b)→w.heap[b]? = w0.heap[b]?
theorem Hist.refl(T:Nat→Prop)(w:World)(PU:Bool):Hist T w PU T w:=⟨Ext.refl T w,fun _ h=>.inl h,Nat.le_refl _,rfl,rfl,rfl,fun _ _ _=>rfl⟩
theorem Hist.step{T0:Nat→Prop}{w0:World}{PU pu:Bool}{ex:Option Nat}(h:Hist T0 w0 PU T w)(hst:Stp cx.tb W0 T w T' w' w0.heap.size pu ex)(hp:PU=true→pu=true):Hist T0 w0 PU T' w':=by
 refine⟨h.ext.trans hst.ext,fun b hb=>?_,Nat.le_trans h.size hst.size,hst.os.trans h.os,hst.tape.trans h.tape,hst.output.trans h.output,fun b hb hk=>?_⟩
 ·rcases hst.new b hb with h1|h1
  ·exact h.new b h1
  ·exact .inr (Nat.le_trans h.size h1)
 ·refine(hst.pure b hb ?_).trans (h.keep b hb hk)
  rcases hk with hk|hk
  ·exact .inl (hp hk)
  ·refine .inr (fun hT=>?_)
   rcases h.new b hT with h1|h1
   ·exact hk h1
   ·omega
structure Mod(cx:Cx)(W0:World)(T0:Nat→Prop)(w0:World)(PU:Bool)(N:Nat)(S:St)(ρ:Val)(T:Nat→Prop)(a:Act)(w:World):Prop where
 size:a.tmps.size=N
 defers:a.defers=[]
 hist:Hist T0 w0 PU T w
 sat:∀ρ':Val,(∀n,n<S.nv→ρ' n=ρ n)→SatW cx.tb W0 S w0.heap.size ρ' T w
 env:∀ρ':Val,(∀n,n<S.nv→ρ' n=ρ n)→EnvOk S ρ' a
def Nx(cx:Cx)(W0:World)(T0:Nat→Prop)(w0:World)(PU:Bool)(N:Nat)(S:St)(ρ:Val)(T:Nat→Prop)(w:World)(S':St)(a':Act)(w':World):Prop:=
 ∃ρ' T',(∀n,n<S.nv→ρ' n=ρ n)∧S.nv≤S'.nv∧Ext T w T' w'∧Mod cx W0 T0 w0 PU N S' ρ' T' a' w'
variable{T0:Nat→Prop}{w0:World}{PU:Bool}{N:Nat}
theorem Nx.refl(h:Mod cx W0 T0 w0 PU N S ρ T a w):Nx cx W0 T0 w0 PU N S ρ T w S a w:=⟨ρ,T,fun _ _=>rfl,Nat.le_refl _,Ext.refl T w,h⟩
theorem Nx.trans{S1 S2:St}{ρ1:Val}{T1:Nat→Prop}{w1 w2:World}{a2:Act}(h0:∀n,n<S.nv→ρ1 n=ρ n)(h1:S.nv≤S1.nv)(h2:Ext T w T1 w1)(h:Nx cx W0 T0 w0 PU N S1 ρ1 T1 w1 S2 a2 w2):Nx cx W0 T0 w0 PU N S ρ T w S2 a2 w2:=by
 obtain⟨ρ',T',g1,g2,g3,g4⟩:=h
 exact⟨ρ',T',fun n hn=>(g1 n (by omega)).trans (h0 n hn),by omega,h2.trans g3,g4⟩
theorem mod_step{o:Oper}{r:Res}(hm:Mod cx W0 T0 w0 PU N S ρ T a w)
  (hr:∀Ω T,Hyp cx W0 S w0.heap.size Ω T w a→StepR P cx W0 S w0.heap.size Ω T w a o r) (hok:resOk S r=true) (hd:∀d,o.dst=some d→d<N) (hp:PU=true→r.pu=true) :
  Reg4.StepOk P (fun v w'=>Nx cx W0 T0 w0 PU N S ρ T w (upd S o.dst r) (a.put o.dst v) w') ((execOp a.eval o).run P w):=by
 refine Reg4.StepOk.mono (hr (fun ρ'=>∀n,n<S.nv→ρ' n=ρ n) T ⟨⟨ρ,fun _ _=>rfl⟩,hm.sat,hm.env⟩) ?_
 rintro v w' ⟨T',ex,hst,hpost⟩
 have hext:∀ρ':Val,(∀n,n<(upd S o.dst r).nv→ρ' n=(if n<S.nv then ρ n else(flatV v).getD (n-S.nv) undef))→(∀n,n<S.nv→ρ' n=ρ n)∧Blk ρ' S.nv r.out.tys.length (flatV v):=by
  intro ρ' hρ'
  refine⟨fun n hn=>?_,fun i hi=>?_⟩
  ·have:=hρ' n (by simp only[upd];omega)
   rw[this];exact if_pos hn
  ·have:=hρ' (S.nv+i) (by simp only[upd];omega)
   rw[this,if_neg (by omega),Nat.add_sub_cancel_left]
 refine⟨fun n=>if n<S.nv then ρ n else(flatV v).getD (n-S.nv) undef,T',fun n hn=>if_pos hn,by simp only[upd];omega,hst.ext,?_⟩
 refine⟨?_,?_,hm.hist.step hst hp,fun ρ' hρ'=>?_,fun ρ' hρ'=>?_⟩
 ·cases o.dst<;>simp[Act.put,hm.size]
 ·cases o.dst<;>simp[Act.put,hm.defers]
 ·obtain⟨hΩ,hb⟩:=hext ρ' hρ'
  obtain⟨h1,h2⟩:=hpost ρ' hΩ hb
  exact satW_upd (hm.sat ρ' hΩ) hst h1 h2 hb hok o.dst
 ·obtain⟨hΩ,hb⟩:=hext ρ' hρ'
  obtain⟨h1,h2⟩:=hpost ρ' hΩ hb
  exact env_put (hm.env ρ' hΩ) (h1 hb).1 hm.size hd _ rfl
theorem Mod.drew(h:Mod cx W0 T0 w0 PU N S ρ T a w):Mod cx W0 T0 w0 PU N S ρ T a { w with drawn:=w.drawn+1 }:=by
 have hcv:∀{ct:CT} {v:Value} {b:Nat},CV cx.tb W0 T w b ct v→CV cx.tb W0 T { w with drawn:=w.drawn+1 } b ct v:=fun h=>h.mono ⟨fun _ h=>h,fun _ _ _ _ h=>h,fun _ _ _ _ _ _ h=>h,fun _ _ _ h=>h⟩ (Nat.le_refl _)
 refine⟨h.size,h.defers,⟨⟨h.hist.ext.sub,h.hist.ext.row,h.hist.ext.fz,h.hist.ext.mp⟩,h.hist.new,h.hist.size,h.hist.os,h.hist.tape,h.hist.output,h.hist.keep⟩,fun ρ' hρ'=>?_,h.env⟩
 obtain⟨g1,g2,g3,g4,g5,g6,g7⟩:=h.sat ρ' hρ'
 refine⟨⟨g1.size,g1.alien,g1.home,fun b hb=>?_,g1.ix⟩,g2,g3,fun n ct hm=>hcv (g4 n ct hm),g5,g6,g7⟩
 obtain⟨cs,e,fr,l,q1,q2,q3,q4,q5⟩:=g1.typed b hb
 exact⟨cs,e,fr,l,q1,q2,q3,q4,fun i v hv=>by obtain⟨ct,k1,k2⟩:=q5 i v hv;exact⟨ct,k1,hcv k2⟩⟩
end
open Go.RowKit
def assume(S:St)(d:Tmp)(b:BE)(β:Bool):St:={ S with env:=put S.env (some d) (.v (.one (.con (.bool β)))),fs:=facts S.rng S.fs β b++S.fs }
def dead(S:St):Bool:=S.ent (Lin.k (-1)) || (S.fs.take 2).any (fun f=>Sy.ent S.rng S.fs 3 ((f.sc (-1)).pl (-1)))
def drop(S:St)(dst:Option Tmp):St:=match dst with
 | some d=>{ S with env:=put S.env (some d) (.v (.one (.con undef))) }
 | none=>S
section
variable{P:Program}{cx:Cx}{W0:World}{S:St}{base:Nat}{ρ:Val}{T T':Nat→Prop}{w w':World}{a:Act}{T0:Nat→Prop}{w0:World}{PU:Bool}{N:Nat}
theorem mod_assume{d:Tmp}{s:SV}{b:BE}{β:Bool}(hm:Mod cx W0 T0 w0 PU N S ρ T a w)(hd:look S.env d=some (.v (.one s)))(hb:S.be s=some b)(hv:a.tmps.getD d undef=.bool β):Mod cx W0 T0 w0 PU N (assume S d b β) ρ T a w:=by
 have hval:∀ρ':Val,(∀n,n<S.nv→ρ' n=ρ n)→b.den ρ'=β:=fun ρ' hρ'=>by
  have h1:=hm.env ρ' hρ' d _ hd
  have h2:=xu (hm.sat ρ' hρ') hb
  have h3:a.tmps.getD d undef=s.den ρ':=h1
  rw[hv,h2] at h3
  injection h3 with h3
  exact h3.symm
 refine⟨hm.size,hm.defers,hm.hist,fun ρ' hρ'=>?_,fun ρ' hρ'=>?_⟩
 ·obtain⟨g1,g2,g3,g4,g5,g6,g7⟩:=hm.sat ρ' hρ'
  refine⟨g1,g2,g3,g4,fun f hf=>?_,g6,g7⟩
  rcases List.mem_append.1 hf with hf|hf
  ·exact jy _ ρ' (hm.sat ρ' hρ').rng _ g5 b β (hval ρ' hρ') f hf
  ·exact g5 f hf
 ·intro t x hx
  simp only[assume,put,look] at hx
  split at hx
  ·rename_i e;subst e;cases hx;exact hv
  ·rename_i e
   rw[look_filter d _ t (Ne.symm e)] at hx
   exact hm.env ρ' hρ' t x hx
theorem mod_dead(hm:Mod cx W0 T0 w0 PU N S ρ T a w)(h:dead S=true):False:=by
 have hs:=hm.sat ρ (fun _ _=>rfl)
 rcases(Bool.or_eq_true _ _).mp h with h|h
 ·have:=hs.ent h
  rw[Lin.zh] at this
  omega
 ·obtain⟨f,hf,h⟩:=List.any_eq_true.1 h
  have h1:=xx _ ρ hs.rng _ hs.fs _ _ h
  have h2:=hs.fs f (List.mem_of_mem_take hf)
  rw[Lin.qp,Lin.yu] at h1
  omega
theorem mod_drop(hm:Mod cx W0 T0 w0 PU N S ρ T a w)(dst:Option Tmp):Mod cx W0 T0 w0 PU N (drop S dst) ρ T (a.put dst undef) w:=by
 cases dst with
 | none=>exact hm
 | some d=>
   refine⟨by simp[Act.put,hm.size],by simp[Act.put,hm.defers],hm.hist,fun ρ' hρ'=>?_,fun ρ' hρ' t x hx=>?_⟩
   ·obtain⟨g1,g2,g3,g4,g5,g6,g7⟩:=hm.sat ρ' hρ'
    exact⟨g1,g2,g3,g4,g5,g6,g7⟩
   ·simp only[drop,put,look] at hx
    show(a.tmps.setIfInBounds d undef).getD t undef=_
    split at hx
    ·rename_i e
     subst e
     cases hx
     rw[Array.getD_eq_getD_getElem?,Array.getElem?_setIfInBounds,if_pos rfl]
     split<;>rfl
    ·rename_i hne
     rw[look_filter d _ t (Ne.symm hne)] at hx
     rw[Array.getD_eq_getD_getElem?,Array.getElem?_setIfInBounds,if_neg hne,←Array.getD_eq_getD_getElem?]
     exact hm.env ρ' hρ' t x hx
def x9:=St→Oper→Option Res
def Truth(P:Program)(cx:Cx)(W0:World)(step:x9):Prop:=∀S o r,step S o=some r→∀base Ω T w a,Hyp cx W0 S base Ω T w a→StepR P cx W0 S base Ω T w a o r
def fits(N:Nat)(dst:Option Tmp):Bool:=match dst with
 | some d=>decide (d<N)
 | none=>true
def one(step:x9)(N:Nat)(PU:Bool)(S:St)(o:Oper):Option St:=match step S o with
 | some r=>if resOk S r && fits N o.dst && (!PU || r.pu) then some (upd S o.dst r) else none
 | none=>none
theorem one_ok{step:x9}(ht:Truth P cx W0 step){o:Oper}{S':St}(h:one step N PU S o=some S')(hm:Mod cx W0 T0 w0 PU N S ρ T a w) :
  Reg4.StepOk P (fun v w'=>Nx cx W0 T0 w0 PU N S ρ T w S' (a.put o.dst v) w') ((execOp a.eval o).run P w):=by
 unfold one at h
 split at h
 ·rename_i r hr
  split at h
  ·rename_i hc
   cases h
   simp only[Bool.and_eq_true,Bool.or_eq_true,Bool.not_eq_true'] at hc
   refine mod_step hm (fun Ω T hH=>ht S o r hr _ Ω T w a hH) hc.1.1 (fun d hd=>?_) (fun hp=>?_)
   ·have:=hc.1.2
    rw[hd] at this
    exact of_decide_eq_true this
   ·rcases hc.2 with h|h
    ·rw[hp] at h;cases h
    ·exact h
  ·cases h
 ·cases h
theorem upon_of{o:Oper}{K:Act→World→Prop}{Q:Exit→Act→World→Prop}{r:Result Next}(h:Reg4.StepOk P (fun v w'=>K (a.put o.dst v) w') r):o.upon P a K Q r:=by
 cases r with
 | ok nx w'=>
   cases nx<;>simp only[Reg4.StepOk] at h<;>simp only[Oper.upon]
   ·exact h
   ·exact h
   ·exact h.mono fun e w'' ⟨v,he,hR⟩=>by subst he;exact hR
 | halt x w'=>simp only[Reg4.StepOk] at h
def notBool:SV→Bool
 | .con (.bool _)=>false
 | .con _=>true
 | _=>false
def guardOf(ops:Array Oper)(S:St)(j:Nat):Option (Tmp×Option BE):=match(ops[j]?).bind (·.dst) with
 | some d=>match look S.env d with
   | some (.v (.one s))=>if notBool s then some (d,none) else(S.be s).map fun b=>(d,some b)
   | _=>none
 | none=>none
def both(x y:Option (List St)):Option (List St):=match x,y with
 | some l,some m=>some (l++m)
 | _,_=>none
def jd(step:x9)(N:Nat)(PU:Bool)(ops:Array Oper):List Oper→St→Option (List St)
 | [],S=>some [S]
 | o::rest,S=>match o.guard with
   | none=>match one step N PU S o with
     | some S'=>jd step N PU ops rest S'
     | none=>none
   | some (j,want)=>match guardOf ops S j with
     | none=>none
     | some (d,none)=>if d<N then jd step N PU ops rest (drop S o.dst) else none
     | some (d,some b)=>if d<N then match b with
       | .tt β=>if β=want then(match one step N PU S o with
         | some S'=>jd step N PU ops rest S'
         | none=>none) else jd step N PU ops rest (drop S o.dst)
       | b=>both (if dead (assume S d b want) then some [] else match one step N PU (assume S d b want) o with
         | some S'=>jd step N PU ops rest S'
         | none=>none) (if dead (assume S d b (!want)) then some [] else jd step N PU ops rest (drop (assume S d b (!want)) o.dst)) else none
theorem guard_val{ops:Array Oper}{j:Nat}{d:Tmp}{b:BE}(h:guardOf ops S j=some (d,some b))(hm:Mod cx W0 T0 w0 PU N S ρ T a w)(hdN:d<N) :
  ∃s,look S.env d=some (.v (.one s))∧S.be s=some b∧a.tmps.getD d undef=.bool (b.den ρ)∧yielded ops a.tmps j=some (b.den ρ):=by
 unfold guardOf at h
 split at h
 ·rename_i d' hd'
  split at h
  ·rename_i s hs
   split at h
   ·cases h
   cases hq:S.be s with
   | none=>rw[hq] at h;cases h
   | some b'=>
     rw[hq] at h
     have h:=oi h
     injection h with h1 h2
     injection h2 with h2
     subst h1;subst h2
     have hv:a.tmps.getD d' undef=.bool (b'.den ρ):=(hm.env ρ (fun _ _=>rfl) d' _ hs).trans (xu (hm.sat ρ (fun _ _=>rfl)) hq)
     refine⟨s,hs,hq,hv,?_⟩
     unfold yielded
     rw[hd']
     simp only[Option.bind_some]
     rw[Array.getD_eq_getD_getElem?,Array.getElem?_eq_getElem (by rw[hm.size];exact hdN)] at hv
     rw[Array.getElem?_eq_getElem (by rw[hm.size];exact hdN)]
     simp only[Option.getD_some] at hv
     rw[hv]
  ·cases h
 ·cases h
theorem guard_not{ops:Array Oper}{j:Nat}{d:Tmp}(h:guardOf ops S j=some (d,none))(hm:Mod cx W0 T0 w0 PU N S ρ T a w)(hdN:d<N):yielded ops a.tmps j=none:=by
 unfold guardOf at h
 split at h
 ·rename_i d' hd'
  split at h
  ·rename_i s hs
   split at h
   ·rename_i hnb
    cases h
    have hv:a.tmps.getD d undef=s.den ρ:=hm.env ρ (fun _ _=>rfl) d _ hs
    unfold yielded
    rw[hd']
    simp only[Option.bind_some]
    rw[Array.getD_eq_getD_getElem?,Array.getElem?_eq_getElem (by rw[hm.size];exact hdN)] at hv
    rw[Array.getElem?_eq_getElem (by rw[hm.size];exact hdN)]
    simp only[Option.getD_some] at hv
    rw[hv]
    cases s with
    | con v=>cases v<;>first|rfl|cases hnb
    | var n=>cases hnb
    | lin k l=>cases hnb
    | be b=>cases hnb
    | ptr n o=>cases hnb
   ·cases hq:S.be s with
    | none=>rw[hq] at h;cases h
    | some b'=>rw[hq] at h;cases h
  ·cases h
 ·cases h
theorem runOps_ok{step:x9}(ht:Truth P cx W0 step){ops:Array Oper}{Q:Exit→Act→World→Prop}:∀(l:List Oper) {S:St} {ρ:Val} {T:Nat→Prop} {a:Act} {w:World} {outs:List St},jd step N PU ops l S=some outs→Mod cx W0 T0 w0 PU N S ρ T a w →
  (∀S' a' w',S'∈outs→Nx cx W0 T0 w0 PU N S ρ T w S' a' w'→Q .normal a' w')→wpList P ops Q l a w
 | [],S,ρ,T,a,w,outs,h,hm,hQ=>by
   cases h
   exact hQ S a w (by simp) (Nx.refl hm)
 | o::rest,S,ρ,T,a,w,outs,h,hm,hQ=>by
   unfold jd at h
   unfold wpList
   have hgo:∀{S1:St} {outs1:List St},(∀S',S'∈outs1→S'∈outs)→Mod cx W0 T0 w0 PU N S1 ρ T a w→S1.nv=S.nv→∀{S2:St},one step N PU S1 o=some S2→jd step N PU ops rest S2=some outs1→o.wp P a w (wpList P ops Q rest) Q:=by
    intro S1 outs1 hsub hm1 hnv S2 h1 h2
    unfold Oper.wp
    refine upon_of (Reg4.StepOk.mono (one_ok ht h1 hm1) ?_)
    rintro v w' ⟨ρ',T',g1,g2,g3,g4⟩
    exact runOps_ok ht rest h2 g4 (fun S' a' w'' hS hn=>hQ S' a' w'' (hsub S' hS) (Nx.trans (fun n hn=>g1 n (by omega)) (by omega) g3 hn))
   split at h
   ·rename_i hg
    rw[if_pos (by simp[Region.wanted,hg])]
    left
    split at h
    ·rename_i S2 h1
     exact hgo (fun _ h=>h) hm rfl h1 h
    ·cases h
   ·rename_i j want hg
    split at h
    ·cases h
    ·rename_i d hgd
     split at h
     ·rename_i hdN
      have hy:=guard_not hgd hm hdN
      rw[if_neg (by simp only[Region.wanted,hg,hy];simp)]
      exact runOps_ok ht rest h (mod_drop hm o.dst) (fun S' a' w' hS hn=>hQ S' a' w' hS (by
       obtain⟨ρ',T',g1,g2,g3,g4⟩:=hn
       have hnv:(drop S o.dst).nv=S.nv:=by cases o.dst<;>rfl
       exact⟨ρ',T',fun n hn=>g1 n (by omega),by omega,g3,g4⟩))
     ·cases h
    ·rename_i d b hgd
     split at h
     ·rename_i hdN
      obtain⟨s,hs1,hs2,hv,hy⟩:=guard_val hgd hm hdN
      have hwant:Region.wanted o (yielded ops a.tmps)=(b.den ρ == want):=by
       simp only[Region.wanted,hg,hy]
       cases b.den ρ<;>cases want<;>rfl
      split at h
      ·rename_i β
       split at h
       ·rename_i hβ
        rw[if_pos (by rw[hwant];simp[BE.den,hβ])]
        left
        split at h
        ·rename_i S2 h1
         exact hgo (fun _ h=>h) hm rfl h1 h
        ·cases h
       ·rename_i hβ
        rw[if_neg (by rw[hwant];simp[BE.den,hβ])]
        exact runOps_ok ht rest h (mod_drop hm o.dst) (fun S' a' w' hS hn=>hQ S' a' w' hS (by
         obtain⟨ρ',T',g1,g2,g3,g4⟩:=hn
         have hnv:(drop S o.dst).nv=S.nv:=by cases o.dst<;>rfl
         exact⟨ρ',T',fun n hn=>g1 n (by omega),by omega,g3,g4⟩))
      ·unfold both at h
       split at h
       ·rename_i l1 l2 hl1 hl2
        cases h
        have hasm:=mod_assume (β:=b.den ρ) hm hs1 hs2 hv
        by_cases hb:b.den ρ=want
        ·rw[if_pos (by rw[hwant];simp[hb])]
         left
         rw[hb] at hasm
         split at hl1
         ·rename_i hdead
          exact(mod_dead hasm hdead).elim
         ·split at hl1
          ·rename_i S2 h1
           exact hgo (fun S' hS=>by simp[hS]) hasm rfl h1 hl1
          ·cases hl1
        ·rw[if_neg (by rw[hwant];simp[hb])]
         have hb':b.den ρ=!want:=by cases h1:b.den ρ<;>cases want<;>simp_all
         rw[hb'] at hasm
         split at hl2
         ·rename_i hdead
          exact(mod_dead hasm hdead).elim
         ·exact runOps_ok ht rest hl2 (mod_drop hasm o.dst) (fun S' a' w' hS hn=>hQ S' a' w' (by simp[hS]) (by
           obtain⟨ρ',T',g1,g2,g3,g4⟩:=hn
           have hnv:(drop (assume S d b (!want)) o.dst).nv=S.nv:=by cases o.dst<;>rfl
           exact⟨ρ',T',fun n hn=>g1 n (by omega),by omega,g3,g4⟩))
       ·cases h
     ·cases h
end
open Go.RowKit
def eqV:Value→Value→Bool
 | .int k n,.int k' n'=>decide (k=k'∧n=n')
 | .bool b,.bool c=>decide (b=c)
 | .string s,.string t=>decide (s.data.toList=t.data.toList)
 | .slice none 0 0,.slice none 0 0=>true
 | .pointer none,.pointer none=>true
 | .nilFunc,.nilFunc=>true
 | .nilIface,.nilIface=>true
 | .tuple x,.tuple y=>decide (x.size=0∧y.size=0)
 | .func (.func f) x y,.func (.func g) u v=>decide (f=g∧x.size=0∧y.size=0∧u.size=0∧v.size=0)
 | _,_=>false
theorem eqV_ok{x y:Value}(h:eqV x y=true):x=y:=by
 unfold eqV at h
 split at h
 ·obtain⟨rfl,rfl⟩:=of_decide_eq_true h;rfl
 ·rw[of_decide_eq_true h]
 ·rename_i s t
  have:=of_decide_eq_true h
  obtain⟨s⟩:=s;obtain⟨t⟩:=t
  have:s=t:=Array.toList_inj.1 this
  rw[this]
 ·rfl
 ·rfl
 ·rfl
 ·rfl
 ·obtain⟨h1,h2⟩:=of_decide_eq_true h
  rw[Array.eq_empty_of_size_eq_zero h1,Array.eq_empty_of_size_eq_zero h2]
 ·obtain⟨rfl,h1,h2,h3,h4⟩:=of_decide_eq_true h
  rw[Array.eq_empty_of_size_eq_zero h1,Array.eq_empty_of_size_eq_zero h2,Array.eq_empty_of_size_eq_zero h3,Array.eq_empty_of_size_eq_zero h4]
 ·cases h
def eqL(a b:Lin):Bool:=decide (a.c=b.c∧a.ts=b.ts)
theorem eqL_ok{a b:Lin}(h:eqL a b=true):a=b:=by
 obtain⟨h1,h2⟩:=of_decide_eq_true h
 cases a;cases b;simp_all
def eqB:BE→BE→Bool
 | .tt a,.tt b=>decide (a=b)
 | .ge a,.ge b=>eqL a b
 | .eq a,.eq b=>eqL a b
 | .var a,.var b=>decide (a=b)
 | .not a,.not b=>eqB a b
 | .and a b,.and c d=>eqB a c && eqB b d
 | .or a b,.or c d=>eqB a c && eqB b d
 | _,_=>false
theorem eqB_ok:∀{a b:BE},eqB a b=true→a=b
 | .tt a,.tt b,h=>by rw[of_decide_eq_true h]
 | .ge a,.ge b,h=>by rw[eqL_ok h]
 | .eq a,.eq b,h=>by rw[eqL_ok h]
 | .var a,.var b,h=>by rw[of_decide_eq_true h]
 | .not a,.not b,h=>by rw[eqB_ok (a:=a) (b:=b) h]
 | .and a b,.and c d,h=>by
   simp only[eqB,Bool.and_eq_true] at h
   rw[eqB_ok h.1,eqB_ok h.2]
 | .or a b,.or c d,h=>by
   simp only[eqB,Bool.and_eq_true] at h
   rw[eqB_ok h.1,eqB_ok h.2]
 | .tt _,.ge _,h|.tt _,.eq _,h|.tt _,.var _,h|.tt _,.not _,h|.tt _,.and _ _,h|.tt _,.or _ _,h=>by cases h
 | .ge _,.tt _,h|.ge _,.eq _,h|.ge _,.var _,h|.ge _,.not _,h|.ge _,.and _ _,h|.ge _,.or _ _,h=>by cases h
 | .eq _,.ge _,h|.eq _,.tt _,h|.eq _,.var _,h|.eq _,.not _,h|.eq _,.and _ _,h|.eq _,.or _ _,h=>by cases h
 | .var _,.ge _,h|.var _,.eq _,h|.var _,.tt _,h|.var _,.not _,h|.var _,.and _ _,h|.var _,.or _ _,h=>by cases h
 | .not _,.ge _,h|.not _,.eq _,h|.not _,.var _,h|.not _,.tt _,h|.not _,.and _ _,h|.not _,.or _ _,h=>by cases h
 | .and _ _,.ge _,h|.and _ _,.eq _,h|.and _ _,.var _,h|.and _ _,.not _,h|.and _ _,.tt _,h|.and _ _,.or _ _,h=>by cases h
 | .or _ _,.ge _,h|.or _ _,.eq _,h|.or _ _,.var _,h|.or _ _,.not _,h|.or _ _,.and _ _,h|.or _ _,.tt _,h=>by cases h
def eqS:SV→SV→Bool
 | .con a,.con b=>eqV a b
 | .var a,.var b=>decide (a=b)
 | .lin k a,.lin l b=>decide (k=l) && eqL a b
 | .be a,.be b=>eqB a b
 | .ptr a b,.ptr c d=>decide (a=c∧b=d)
 | _,_=>false
theorem eqS_ok{a b:SV}(h:eqS a b=true):a=b:=by
 unfold eqS at h
 split at h
 ·rw[eqV_ok h]
 ·rw[of_decide_eq_true h]
 ·simp only[Bool.and_eq_true,decide_eq_true_eq] at h;rw[h.1,eqL_ok h.2]
 ·rw[eqB_ok h]
 ·obtain⟨rfl,rfl⟩:=of_decide_eq_true h;rfl
 ·cases h
def eqLs:List SV→List SV→Bool
 | [],[]=>true
 | a::r,b::s=>eqS a b && eqLs r s
 | _,_=>false
theorem eqLs_ok:∀{a b:List SV},eqLs a b=true→a=b
 | [],[],_=>rfl
 | a::r,b::s,h=>by
   simp only[eqLs,Bool.and_eq_true] at h
   rw[eqS_ok h.1,eqLs_ok h.2]
 | [],_::_,h=>by cases h
 | _::_,[],h=>by cases h
def eqT:TV→TV→Bool
 | .one a,.one b=>eqS a b
 | .agg a,.agg b=>eqLs a b
 | _,_=>false
theorem eqT_ok{a b:TV}(h:eqT a b=true):a=b:=by
 unfold eqT at h
 split at h
 ·rw[eqS_ok h]
 ·rw[eqLs_ok h]
 ·cases h
def eqTs:List TV→List TV→Bool
 | [],[]=>true
 | a::r,b::s=>eqT a b && eqTs r s
 | _,_=>false
theorem eqTs_ok:∀{a b:List TV},eqTs a b=true→a=b
 | [],[],_=>rfl
 | a::r,b::s,h=>by
   simp only[eqTs,Bool.and_eq_true] at h
   rw[eqT_ok h.1,eqTs_ok h.2]
 | [],_::_,h=>by cases h
 | _::_,[],h=>by cases h
def eqX:XV→XV→Bool
 | .v a,.v b=>eqT a b
 | .tup a,.tup b=>eqTs a b
 | _,_=>false
theorem eqX_ok{a b:XV}(h:eqX a b=true):a=b:=by
 unfold eqX at h
 split at h
 ·rw[eqT_ok h]
 ·rw[eqTs_ok h]
 ·cases h
structure Head where
 sl:List (Nat×CT)
 bx:List (Nat×Nat×CT)
 inv:List Lin
 ms:Lin
def slotEval(a:Act)(l:Lin):Int:=l.c+tsum (fun t=>a.tmps.getD t undef) l.ts
def instT(S:St):List (Int×Nat)→Option Lin
 | []=>some (Lin.k 0)
 | (c,t)::r=>match look S.env t,instT S r with
   | some (.v (.one s)),some m=>some ((s.meas.sc c).add m)
   | _,_=>none
def instL(S:St)(l:Lin):Option Lin:=(instT S l.ts).map fun m=>m.pl l.c
section
variable{P:Program}{cx:Cx}{W0:World}{S:St}{base:Nat}{ρ:Val}{T T':Nat→Prop}{w w':World}{a:Act}{T0:Nat→Prop}{w0:World}{PU:Bool}{N:Nat}
theorem instT_ok(h:EnvOk S ρ a):∀{l:List (Int×Nat)} {m:Lin},instT S l=some m→m.eval ρ=tsum (fun t=>a.tmps.getD t undef) l
 | [],m,hm=>by cases hm;rw[Lin.zh];rfl
 | (c,t)::r,m,hm=>by
   unfold instT at hm
   split at hm
   ·rename_i s m' h1 h2
    cases hm
    rw[Lin.jg,Lin.yu,SV.meas_eval,instT_ok h h2]
    have h3:a.tmps.getD t undef=s.den ρ:=h t _ h1
    simp only[tsum]
    rw[h3]
   ·cases hm
theorem instL_ok(h:EnvOk S ρ a){l m:Lin}(hm:instL S l=some m):m.eval ρ=slotEval a l:=by
 unfold instL at hm
 cases hq:instT S l.ts with
 | none=>rw[hq] at hm;cases hm
 | some m'=>
   rw[hq] at hm
   have hm:=oi hm
   subst hm
   rw[Lin.qp,instT_ok h hq]
   unfold slotEval;omega
def ghost:Nat:=1000000
def nowL(l:Lin):Lin:=⟨l.c,l.ts.filter fun p=>decide (p.2<ghost)⟩
def oldT(l:Lin):List (Int×Nat):=(l.ts.filter fun p=>!decide (p.2<ghost)).map fun p=>(p.1,p.2-ghost)
def instI(S X:St)(l:Lin):Option Lin:=match instT S (oldT l),instL X (nowL l) with
 | some g,some m=>if g.ts.all (fun p=>decide (p.2<S.nv)) then some (m.add g) else none
 | _,_=>none
def evI(S:St)(ρ:Val)(a:Act)(l:Lin):Int:=slotEval a (nowL l)+match instT S (oldT l) with
 | some g=>g.eval ρ
 | none=>0
theorem lin_agree{l:Lin}{nv:Nat}{ρ ρ':Val}(hl:l.ts.all (fun p=>decide (p.2<nv))=true)(h:∀n,n<nv→ρ' n=ρ n):l.eval ρ'=l.eval ρ:=by
 have:∀ts:List (Int×Nat),ts.all (fun p=>decide (p.2<nv))=true→tsum ρ' ts=tsum ρ ts:=by
  intro ts
  induction ts with
  | nil=>intro _;rfl
  | cons p r ih=>
    intro hp
    obtain⟨a,x⟩:=p
    simp only[List.all_cons,Bool.and_eq_true,decide_eq_true_eq] at hp
    simp only[tsum,h x hp.1,ih hp.2]
 unfold Lin.eval
 rw[this _ hl]
theorem instI_ok{X:St}{ρ':Val}{a':Act}(h:EnvOk X ρ' a')(hag:∀n,n<S.nv→ρ' n=ρ n){l m:Lin}(hm:instI S X l=some m):m.eval ρ'=evI S ρ a' l:=by
 unfold instI at hm
 split at hm
 ·rename_i g m' h1 h2
  split at hm
  ·rename_i hg
   cases hm
   rw[Lin.jg,instL_ok h h2,lin_agree hg hag]
   unfold evI
   rw[h1]
  ·cases hm
 ·cases hm
def Code.mods:Code→List Tmp
 | .region _ ops _=>ops.toList.filterMap (·.dst)
 | .seq a b=>Code.mods a++Code.mods b
 | .cond _ a b=>Code.mods a++Code.mods b
 | .block _ c=>Code.mods c
 | .loop c=>Code.mods c
 | .scope c=>Code.mods c
 | .rangeFunc _ ps a b=>ps.toList++Code.mods a++Code.mods b
 | _=>[]
def keptEnv(env:List (Nat×XV))(gone:List Nat):List (Nat×XV):=env.filter fun p=>!gone.contains p.1
def headEnv(nv:Nat):List (Nat×CT)→List (Nat×XV)
 | []=>[]
 | (t,_)::r=>(t,.v (.one (.var nv)))::headEnv (nv+1) r
def slotBox(S:St)(t:Nat):Option Nat:=match look S.env t with
 | some (.v (.one s))=>(S.ptr s).map (·.1)
 | _=>none
def setCell(n i:Nat)(v:Nat)(b:Box):Box:=if b.n=n then { b with cs:=b.cs.set i (some (.var v)) } else b
def headBx(S:St)(nv:Nat):List (Nat×Nat×CT)→List Box→Option (List Box)
 | [],l=>some l
 | (t,i,_)::r,l=>match slotBox S t with
   | some n=>headBx S (nv+1) r (l.map (setCell n i nv))
   | none=>none
def hdTys(h:Head):List CT:=h.sl.map (·.2)++h.bx.map (·.2.2)
def headSt(S:St)(h:Head)(gone:List Nat):Option St:=match headBx S (S.nv+h.sl.length) h.bx S.bx with
 | some bx=>
   let S1:St:={ nv:=S.nv+(hdTys h).length,env:=headEnv S.nv h.sl++keptEnv S.env (gone++h.sl.map (·.1)),ty:=number S.nv (hdTys h)++S.ty,fs:=S.fs,bx:=bx }
   match h.inv.mapM (instI S S1) with
   | some l=>some { S1 with fs:=l++S.fs }
   | none=>none
 | none=>none
end
open Go.RowKit
def ann(S:St)(bxs:List (Nat×Nat×CT))(n i:Nat):Bool:=bxs.any fun e=>decide (slotBox S e.1=some n∧e.2.1=i)
theorem headBx_spec{S:St}:∀(bxs:List (Nat×Nat×CT)) (nv:Nat) (l r:List Box),headBx S nv bxs l=some r →
  ∀b∈r,∃b0∈l,b.n=b0.n∧b.t=b0.t∧b.cs.length=b0.cs.length∧∀i x,b.cs[i]? = some x →
   (∃k e,bxs[k]? = some e∧slotBox S e.1=some b.n∧e.2.1=i∧x=some (.var (nv+k)))∨(ann S bxs b.n i=false∧b0.cs[i]? = some x)
 | [],nv,l,r,h,b,hb=>by
   cases h
   exact⟨b,hb,rfl,rfl,rfl,fun i x hx=>.inr ⟨rfl,hx⟩⟩
 | (t,i0,ct)::bxs,nv,l,r,h,b,hb=>by
   unfold headBx at h
   split at h
   ·rename_i n hn
    obtain⟨b1,hb1,h1,h2,h3,h4⟩:=headBx_spec bxs (nv+1) _ r h b hb
    obtain⟨b0,hb0,rfl⟩:=List.mem_map.1 hb1
    have e1:(setCell n i0 nv b0).n=b0.n:=by unfold setCell;split<;>rfl
    have e2:(setCell n i0 nv b0).t=b0.t:=by unfold setCell;split<;>rfl
    have e3:(setCell n i0 nv b0).cs.length=b0.cs.length:=by unfold setCell;split<;>simp
    refine⟨b0,hb0,h1.trans e1,h2.trans e2,h3.trans e3,fun i x hx=>?_⟩
    rcases h4 i x hx with⟨k,e,g1,g2,g3,g4⟩|⟨g1,g2⟩
    ·exact .inl ⟨k+1,e,g1,g2,g3,by rw[g4];congr 2;omega⟩
    ·by_cases hni:b0.n=n∧i0=i
     ·obtain⟨rfl,rfl⟩:=hni
      refine .inl ⟨0,(t,i0,ct),rfl,by rw[h1,e1];exact hn,rfl,?_⟩
      unfold setCell at g2
      rw[if_pos rfl] at g2
      simp only[List.getElem?_set,if_true] at g2
      split at g2
      ·exact(oi g2).symm
      ·cases g2
     ·refine .inr ⟨?_,?_⟩
      ·simp only[ann,List.any_cons,Bool.or_eq_false_iff,decide_eq_false_iff_not]
       refine⟨fun hc=>hni ⟨?_,hc.2⟩,g1⟩
       have:=hc.1
       rw[hn] at this
       rw[h1,e1] at this
       exact(oi this).symm
      ·unfold setCell at g2
       split at g2
       ·rename_i hn0
        simp only[List.getElem?_set] at g2
        rw[if_neg (fun e=>hni ⟨hn0,e⟩)] at g2
        exact g2
       ·exact g2
   ·cases h
def cellsOk(S:St)(bxs:List (Nat×Nat×CT))(n:Nat):Nat→List (Option SV)→List (Option SV)→Bool
 | _,[],[]=>true
 | i,x::r,y::s=>(ann S bxs n i || match x,y with
   | none,_=>true
   | some a,some b=>eqS a b
   | _,_=>false) && cellsOk S bxs n (i+1) r s
 | _,_,_=>false
theorem cellsOk_ok{S:St}{bxs:List (Nat×Nat×CT)}{n:Nat}:∀{l m:List (Option SV)} {i0:Nat},cellsOk S bxs n i0 l m=true→∀i s,l[i]? = some (some s)→ann S bxs n (i0+i)=false→m[i]? = some (some s)
 | [],[],i0,h,i,s,hs,ha=>by simp at hs
 | x::r,y::t,i0,h,i,s,hs,ha=>by
   simp only[cellsOk,Bool.and_eq_true] at h
   cases i with
   | zero=>
     simp only[List.getElem?_cons_zero,Option.some.injEq] at hs ⊢
     subst hs
     rw[Nat.add_zero] at ha
     have h1:=h.1
     rw[ha] at h1
     simp only[Bool.false_or] at h1
     split at h1
     ·rename_i e;cases e
     ·rename_i a b e;cases e;rw[eqS_ok h1]
     ·cases h1
   | succ i=>
     simp only[List.getElem?_cons_succ] at hs ⊢
     exact cellsOk_ok h.2 i s hs (by rw[show i0+1+i=i0+(i+1) by omega];exact ha)
 | [],_::_,_,h,_,_,_,_=>by cases h
 | _::_,[],_,h,_,_,_,_=>by cases h
def slOk(S':St)(tb:Tab)(e:Nat×CT):Bool:=match look S'.env e.1 with
 | some (.v (.one s))=>S'.has tb s e.2
 | _=>false
def bxOk(S S':St)(tb:Tab)(e:Nat×Nat×CT):Bool:=match slotBox S e.1 with
 | some n=>decide (n<S.nv) && match boxOf S' n with
   | some b=>match b.cs[e.2.1]? with
     | some (some s)=>S'.has tb s e.2.2
     | _=>false
   | none=>false
 | none=>false
def boxSame(S S':St)(bxs:List (Nat×Nat×CT))(b:Box):Bool:=decide (b.n<S.nv) && match boxOf S b.n,boxOf S' b.n with
 | some b0,some b'=>decide (b'.t=b.t∧b'.cs.length=b.cs.length) && cellsOk S bxs b.n 0 b.cs b'.cs
 | _,_=>false
def envSame(S':St)(p:Nat×XV):Bool:=match look S'.env p.1 with
 | some y=>eqX p.2 y
 | none=>false
def invOk(S S':St)(l:Lin):Bool:=match instI S S' l with
 | some m=>S'.ent m
 | none=>false
def leq(tb:Tab)(S S':St)(h:Head)(gone:List Nat)(Sh:St):Bool:=
 h.sl.all (slOk S' tb) && h.bx.all (bxOk S S' tb) && Sh.bx.all (boxSame S S' h.bx) && (keptEnv S.env (gone++h.sl.map (·.1))).all (envSame S') && h.inv.all (invOk S S')
theorem mapM_ok{α β:Type}{f:α→Option β}:∀{l:List α} {m:List β},l.mapM f=some m→∀y∈m,∃x∈l,f x=some y
 | [],m,h,y,hy=>by
   simp only[List.mapM_nil] at h
   cases h
   cases hy
 | x::r,m,h,y,hy=>by
   rw[List.mapM_cons] at h
   cases hq:f x with
   | none=>rw[hq] at h;cases h
   | some z=>
     rw[hq] at h
     cases hq2:r.mapM f with
     | none=>rw[hq2] at h;cases h
     | some m'=>
       rw[hq2] at h
       have h:=oi h
       subst h
       rcases List.mem_cons.1 hy with rfl|hy
       ·exact⟨x,by simp,hq⟩
       ·obtain⟨x',h1,h2⟩:=mapM_ok hq2 y hy
        exact⟨x',by simp[h1],h2⟩
theorem look_append{α:Type}:∀(l m:List (Nat×α)) (t:Nat),look (l++m) t=match look l t with|some x=>some x|none=>look m t
 | [],m,t=>rfl
 | (k,x)::r,m,t=>by
   simp only[List.cons_append,look]
   split
   ·rfl
   ·exact look_append r m t
theorem look_headEnv:∀(l:List (Nat×CT)) (nv t:Nat) (x:XV),look (headEnv nv l) t=some x→∃j ct,l[j]? = some (t,ct)∧x=.v (.one (.var (nv+j)))
 | [],nv,t,x,h=>by cases h
 | (t',ct)::r,nv,t,x,h=>by
   simp only[headEnv,look] at h
   split at h
   ·rename_i e;subst e;cases h;exact⟨0,ct,rfl,rfl⟩
   ·obtain⟨j,ct',h1,h2⟩:=look_headEnv r (nv+1) t x h
    exact⟨j+1,ct',h1,by rw[h2,show nv+1+j=nv+(j+1) by omega]⟩
section
variable{P:Program}{cx:Cx}{W0:World}{S:St}{base:Nat}{ρ:Val}{T T':Nat→Prop}{w w':World}{a:Act}{T0:Nat→Prop}{w0:World}{PU:Bool}{N:Nat}
theorem leq_ok{S' Sh:St}{h:Head}{gone:List Nat}{ρ':Val}{a':Act}(hh:headSt S h gone=some Sh)(hl:leq cx.tb S S' h gone Sh=true)
  (hm:Mod cx W0 T0 w0 PU N S ρ T a w) (hm':Mod cx W0 T0 w0 PU N S' ρ' T' a' w') (hρ:∀n,n<S.nv→ρ' n=ρ n) (hx:Ext T w T' w') :
  ∃ρh,(∀n,n<S.nv→ρh n=ρ n)∧S.nv≤Sh.nv∧Mod cx W0 T0 w0 PU N Sh ρh T' a' w'∧∀l∈h.inv,0≤evI S ρ a' l:=by
 unfold headSt at hh
 split at hh
 ·rename_i bx hbx
  simp only at hh
  split at hh
  ·rename_i invs hinv
   cases hh
   simp only[leq,Bool.and_eq_true] at hl
   obtain⟨⟨⟨⟨l1,l2⟩,l3⟩,l4⟩,l5⟩:=hl
   have hs':=hm'.sat ρ' (fun _ _=>rfl)
   have he':=hm'.env ρ' (fun _ _=>rfl)
   let slv:Nat→Value:=fun j=>match h.sl[j]? with
    | some e=>a'.tmps.getD e.1 undef
    | none=>undef
   let bxv:Nat→Value:=fun k=>match h.bx[k]? with
    | some e=>match slotBox S e.1 with
      | some n=>(w'.cell? ⟨(addrOf (ρ n)).block,e.2.1,none⟩).getD undef
      | none=>undef
    | none=>undef
   let ρh:Val:=fun n=>if n<S.nv then ρ n else if n<S.nv+h.sl.length then slv (n-S.nv) else bxv (n-(S.nv+h.sl.length))
   have hinvs:∀l∈h.inv,0≤evI S ρ a' l:=fun l hlm=>by
    have:=List.all_eq_true.1 l5 l hlm
    unfold invOk at this
    split at this
    ·rename_i m hmm
     rw[←instI_ok he' hρ hmm]
     exact hs'.ent this
    ·cases this
   refine⟨ρh,fun n hn=>if_pos hn,by simp only;omega,?_,hinvs⟩
   have hbase:∀ρ3:Val,(∀n,n<S.nv+(hdTys h).length→ρ3 n=ρh n)→(∀n,n<S.nv→ρ3 n=ρ n)∧(∀j e,h.sl[j]? = some e→ρ3 (S.nv+j)=a'.tmps.getD e.1 undef)∧(∀k e n,h.bx[k]? = some e→slotBox S e.1=some n→ρ3 (S.nv+h.sl.length+k)=(w'.cell? ⟨(addrOf (ρ n)).block,e.2.1,none⟩).getD undef):=by
    intro ρ3 h3
    have hlen:(hdTys h).length=h.sl.length+h.bx.length:=by simp[hdTys]
    refine⟨fun n hn=>?_,fun j e he=>?_,fun k e n he hn=>?_⟩
    ·rw[h3 n (by omega)];exact if_pos hn
    ·have hj:j<h.sl.length:=(List.getElem?_eq_some_iff.1 he).1
     rw[h3 _ (by omega)]
     show(if S.nv+j<S.nv then _ else if S.nv+j<S.nv+h.sl.length then slv (S.nv+j-S.nv) else _)=_
     rw[if_neg (by omega),if_pos (by omega),Nat.add_sub_cancel_left]
     simp only[slv,he]
    ·have hk:k<h.bx.length:=(List.getElem?_eq_some_iff.1 he).1
     rw[h3 _ (by omega)]
     show(if S.nv+h.sl.length+k<S.nv then _ else if S.nv+h.sl.length+k<S.nv+h.sl.length then _ else bxv (S.nv+h.sl.length+k-(S.nv+h.sl.length)))=_
     rw[if_neg (by omega),if_neg (by omega),Nat.add_sub_cancel_left]
     simp only[bxv,he,hn]
   have henv:∀(ρ3:Val) (S1:St),S1.env=headEnv S.nv h.sl++keptEnv S.env (gone++h.sl.map (·.1))→(∀n,n<S.nv+(hdTys h).length→ρ3 n=ρh n)→EnvOk S1 ρ3 a':=by
    intro ρ3 S1 hS1 h3 t x hx
    obtain⟨b1,b2,b3⟩:=hbase ρ3 h3
    rw[hS1,look_append] at hx
    split at hx
    ·rename_i y hy
     cases hx
     obtain⟨j,ct,g1,rfl⟩:=look_headEnv _ _ _ _ hy
     exact(b2 j _ g1).symm
    ·have hmem:=zg hx
     have:=List.all_eq_true.1 l4 _ hmem
     unfold envSame at this
     split at this
     ·rename_i y hy
      have:=eqX_ok this
      simp only at this hy
      subst this
      have hentry:look S.env t=some x:=by
       have hk:∀(l:List (Nat×XV)) (g:List Nat),look (keptEnv l g) t=some x→look l t=some x:=by
        intro l g
        induction l with
        | nil=>exact fun h=>h
        | cons p r ih=>
          intro hp
          obtain⟨k,z⟩:=p
          unfold keptEnv at hp ih
          rw[List.filter_cons] at hp
          split at hp
          ·simp only[look] at hp ⊢
           split at hp
           ·rename_i e;rw[if_pos e];exact hp
           ·rename_i e;rw[if_neg e];exact ih hp
          ·rename_i hnot
           have ihp:=ih hp
           simp only[look]
           split
           ·rename_i e
            subst e
            exfalso
            have hm:=zg hp
            have:=(List.mem_filter.1 hm).2
            exact hnot this
           ·exact ihp
       exact hk _ _ hx
      have e1:=hm.env ρ3 b1 t x hentry
      have e2:=hm.env ρ' hρ t x hentry
      have e3:=he' t x hy
      rw[e3,←e2,e1]
     ·cases this
   refine⟨hm'.size,hm'.defers,hm'.hist,fun ρ3 h3=>?_,fun ρ3 h3=>henv ρ3 _ rfl h3⟩
   obtain⟨b1,b2,b3⟩:=hbase ρ3 h3
   have hs3:=hm.sat ρ3 b1
   refine⟨hs'.wt,hs'.lo,hs'.bs,fun n ct hmem=>?_,fun f hf=>?_,fun b hb=>?_,fun b hb c hc hne=>?_⟩
   ·rcases List.mem_append.1 hmem with hmem|hmem
    ·obtain⟨i,rfl,hi⟩:=number_mem hmem
     simp only[hdTys] at hi
     by_cases hil:i<h.sl.length
     ·rw[List.getElem?_append_left (by simpa using hil),List.getElem?_map] at hi
      cases hq:h.sl[i]? with
      | none=>rw[hq] at hi;cases hi
      | some e=>
        rw[hq] at hi
        cases hi
        rw[b2 i e hq]
        have:=List.all_eq_true.1 l1 e (List.mem_of_getElem? hq)
        unfold slOk at this
        split at this
        ·rename_i s hs
         have e1:a'.tmps.getD e.1 undef=s.den ρ':=he' e.1 _ hs
         rw[e1]
         exact uo hs' this
        ·cases this
     ·rw[List.getElem?_append_right (by simpa using Nat.le_of_not_lt hil),List.length_map,List.getElem?_map] at hi
      cases hq:h.bx[i-h.sl.length]? with
      | none=>rw[hq] at hi;cases hi
      | some e=>
        rw[hq] at hi
        cases hi
        have:=List.all_eq_true.1 l2 e (List.mem_of_getElem? hq)
        unfold bxOk at this
        split at this
        ·rename_i n hn
         simp only[Bool.and_eq_true,decide_eq_true_eq] at this
         obtain⟨hnlt,this⟩:=this
         split at this
         ·rename_i b hb
          split at this
          ·rename_i s hs
           have hval:=b3 (i-h.sl.length) e n hq hn
           rw[show S.nv+h.sl.length+(i-h.sl.length)=S.nv+i by omega] at hval
           rw[hval]
           obtain⟨hbm,hbn⟩:=boxOf_ok hb
           obtain⟨g,cs,c1,c2,c3,c4,c5,c6⟩:=hs'.bx b hbm
           have hcell:=c6 _ s hs
           have hρn:ρ' n=ρ n:=hρ n hnlt
           rw[hbn] at c1
           rw[←hρn,c1]
           simp only[addrOf]
           rw[cell_of_row w' g _ cs b.t (0,0) c4,hcell]
           exact uo hs' this
          ·cases this
         ·cases this
        ·cases this
    ·exact(hs3.ty n ct hmem).mono hx (Nat.le_refl _)
   ·rcases List.mem_append.1 hf with hf|hf
    ·obtain⟨l,hlm,hl2⟩:=mapM_ok hinv f hf
     rw[instI_ok (henv ρ3 _ rfl h3) (hbase ρ3 h3).1 hl2]
     exact hinvs l hlm
    ·exact hs3.fs f hf
   ·obtain⟨b0,hb0,e1,e2,e3,e4⟩:=headBx_spec _ _ _ _ hbx b hb
    have hsame:=List.all_eq_true.1 l3 b hb
    simp only[boxSame,Bool.and_eq_true,decide_eq_true_eq] at hsame
    obtain⟨hlt,hsame⟩:=hsame
    split at hsame
    ·rename_i b00 b' hbo hbo'
     simp only[Bool.and_eq_true,decide_eq_true_eq] at hsame
     obtain⟨⟨ht,hlen⟩,hcells⟩:=hsame
     obtain⟨hbm',hbn'⟩:=boxOf_ok hbo'
     obtain⟨g,cs,c1,c2,c3,c4,c5,c6⟩:=hs'.bx b' hbm'
     rw[hbn'] at c1
     obtain⟨g0,cs0,d1,-⟩:=hs3.bx b0 hb0
     have hρ3:ρ3 b.n=ρ' b.n:=(b1 _ hlt).trans (hρ _ hlt).symm
     refine⟨g,cs,hρ3.trans c1,c2,c3,by rw[←ht];exact c4,by omega,fun i s hs=>?_⟩
     rcases e4 i _ hs with⟨k,e,g1,g2,g3,g4⟩|⟨g1,g2⟩
     ·injection g4 with g4
      subst g4
      have hval:=b3 k e b.n g1 g2
      have hcl:w'.cell? ⟨(addrOf (ρ b.n)).block,e.2.1,none⟩=cs[i]?:=by
       rw[←hρ _ hlt,c1]
       simp only[addrOf]
       rw[cell_of_row w' g _ cs b'.t (0,0) c4,g3]
      show cs[i]? = some (ρ3 (S.nv+h.sl.length+k))
      rw[hval,hcl]
      have hi:i<b.cs.length:=(List.getElem?_eq_some_iff.1 hs).1
      rw[Array.getElem?_eq_getElem (show i<cs.size by omega)]
      rfl
     ·have h7:=cellsOk_ok hcells i s hs (by rw[Nat.zero_add];exact g1)
      rw[c6 i s h7]
      congr 1
      obtain⟨g3,cs3,f1,f2,f3,f4,f5,f6⟩:=hs3.bx b0 hb0
      obtain⟨g4,cs4,k1,k2,k3,k4,k5,k6⟩:=(hm.sat ρ' hρ).bx b0 hb0
      have:g3=g4:=by
       rw[←e1] at f1 k1
       rw[hρ3,k1] at f1
       injection f1 with f1;injection f1 with f1;injection f1 with f1
       exact f1.symm
      subst this
      rw[f4] at k4
      injection k4 with k4;injection k4 with k4
      subst k4
      have q1:=f6 i s g2
      have q2:=k6 i s g2
      rw[q1] at q2
      exact(oi q2).symm
    ·cases hsame
   ·obtain⟨b0,hb0,e1,-⟩:=headBx_spec _ _ _ _ hbx b hb
    obtain⟨c0,hc0,e2,-⟩:=headBx_spec _ _ _ _ hbx c hc
    rw[e1,e2] at hne ⊢
    exact hs3.ap b0 hb0 c0 hc0 hne
  ·cases hh
 ·cases hh
end
end Sy
end Go.Proofs.YtmadfhgiaonnlaaGreatDoor
