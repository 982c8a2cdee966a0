import Derived.Test.YtmadfhgiaonnlaaGreatDoorPk10
set_option linter.unusedVariables false
set_option linter.unusedSimpArgs false
namespace Go.Proofs.YtmadfhgiaonnlaaGreatDoor
namespace Ev
open Go.RowKit
open Sy (Cx TD TdOk CxOk KD kd tdOf)
def lk{α:Type}:List (Nat×α)→Nat→Option α
 | [],_=>none
 | (m,x)::r,n=>if m=n then some x else lk r n
inductive SV where
 | con (v:Value)
 | ptr (g off:Nat)
 | sl (g off n:Nat) (k:Option Nat) (c:Nat)
 | fn (f:Fn) (a b:List SV)
mutual
def SV.den(σ:Nat→Nat):SV→Value
 | .con v=>v
 | .ptr g o=>.pointer (some ⟨σ g,o,none⟩)
 | .sl g o n none c=>.slice (some ⟨σ g,o,none⟩) n c
 | .sl g o n (some k) c=>.slice (some ⟨σ g,o,none⟩) n (σ k-c)
 | .fn f a b=>.func f (dens σ a).toArray (dens σ b).toArray
def dens(σ:Nat→Nat):List SV→List Value
 | []=>[]
 | s::r=>s.den σ::dens σ r
end
theorem xg(σ:Nat→Nat):∀l,dens σ l=l.map (SV.den σ)
 | []=>rfl
 | s::r=>by rw[dens,xg σ r];rfl
inductive TV where
 | one (s:SV)
 | agg (l:List SV)
def TV.den(σ:Nat→Nat):TV→Value
 | .one s=>s.den σ
 | .agg l=>.agg (dens σ l).toArray
inductive XV where
 | v (t:TV)
 | tup (l:List TV)
def XV.den(σ:Nat→Nat):XV→Value
 | .v t=>t.den σ
 | .tup l=>.tuple (l.map (TV.den σ)).toArray
structure Blk where
 t:TypeId
 cs:List SV
 cap:Option (Nat×Nat)
structure St where
 nx:Nat
 H:List (Nat×Option Blk)
 ac:Nat
 wr:Nat
def St.get(S:St)(g:Nat):Option Blk:=match lk S.H g with
 | some b=>b
 | none=>none
abbrev Env:=List (Nat×XV)
def Agr(n:Nat)(σ τ:Nat→Nat):Prop:=∀g,g<n→τ g=σ g
theorem Agr.refl(n:Nat)(σ:Nat→Nat):Agr n σ σ:=fun _ _=>rfl
theorem Agr.trans{n m:Nat}{σ τ υ:Nat→Nat}(h:Agr n σ τ)(k:Agr m τ υ)(hm:n≤m):Agr n σ υ:=fun g hg=>(k g (by omega)).trans (h g hg)
def BlkOk(σ:Nat→Nat)(B:Blk)(b:Nat)(w:World):Prop:=∃cs,w.heap[b]? = some (.cells cs B.t (0,0))∧B.cs.length≤cs.size ∧
 (match B.cap with|none=>cs.size=B.cs.length|some (k,sz)=>cs.size=σ k*sz∧σ k≤maxLen)∧∀(i:Nat) (s:SV),B.cs[i]? = some s→cs[i]? = some (s.den σ)
theorem BlkOk.lt{σ:Nat→Nat}{B:Blk}{b:Nat}{w:World}(h:BlkOk σ B b w):b<w.heap.size:=by
 obtain⟨cs,h,-⟩:=h
 rcases Nat.lt_or_ge b w.heap.size with h1|h1
 ·exact h1
 ·rw[Array.getElem?_eq_none h1] at h;cases h
theorem BlkOk.keep{σ:Nat→Nat}{B:Blk}{b:Nat}{w w':World}(h:BlkOk σ B b w)(hk:w'.heap[b]? = w.heap[b]?):BlkOk σ B b w':=by
 obtain⟨cs,h1,h2⟩:=h
 exact⟨cs,by rw[hk];exact h1,h2⟩
structure Sat(M:Nat→Prop)(σ:Nat→Nat)(S:St)(w:World):Prop where
 blk:∀g B,M g→S.get g=some B→BlkOk σ B (σ g) w
 inj:∀g g' B B',M g→M g'→S.get g=some B→S.get g'=some B'→σ g=σ g'→g=g'
def EnvOk(σ:Nat→Nat)(env:Env)(a:Act):Prop:=∀t x,lk env t=some x→a.tmps.getD t undef=x.den σ
structure Gos(S S':St):Prop where
 nx:S.nx≤S'.nx
 lt:(∀g B,S.get g=some B→g<S.nx)→∀g B,S'.get g=some B→g<S'.nx
 old:∀g B,g<S.nx→S'.get g=some B→∃B0,S.get g=some B0
 hold:∀g,g<S.nx→S'.wr.testBit g=false→S'.get g=S.get g
 ac:∀g,S.ac.testBit g=true→S'.ac.testBit g=true
 wr:∀g,S.wr.testBit g=true→S'.wr.testBit g=true
 made:(∀g B,S.get g=some B→g<S.nx)→∀g B,S.nx≤g→S'.get g=some B→S'.wr.testBit g=true
structure Fr(σ σ1:Nat→Nat)(S S':St)(w w':World):Prop where
 size:w.heap.size≤w'.heap.size
 os:w'.os=w.os
 tape:w'.tape=w.tape
 output:w'.output=w.output
 keep:∀b,b<w.heap.size→(∀g B,g<S.nx→S'.wr.testBit g=true→S.get g=some B→σ g≠b)→w'.heap[b]? = w.heap[b]?
 new:∀g B,S.nx≤g→S'.get g=some B→w.heap.size≤σ1 g∨∃g0 B0,g0<S.nx∧S.get g0=some B0∧S'.wr.testBit g0=true∧σ1 g=σ g0
def Aft(M:Nat→Prop)(σ:Nat→Nat)(S:St)(w:World)(x:XV)(S':St)(v:Value)(w':World):Prop:=
 ∃σ1,Agr S.nx σ σ1∧(∀g,S'.nx≤g→σ1 g=σ g)∧(∀τ,Agr S'.nx σ1 τ→Sat M τ S' w'∧v=x.den τ)∧Fr σ σ1 S S' w w'
structure Hyp(M:Nat→Prop)(σ:Nat→Nat)(S:St)(w:World):Prop where
 sat:∀τ,Agr S.nx σ τ→Sat M τ S w
 lt:∀g B,S.get g=some B→g<S.nx
 new:∀g,S.nx≤g→M g
theorem Gos.refl(S:St):Gos S S:=⟨Nat.le_refl _,fun h=>h,fun _ B _ h=>⟨B,h⟩,fun _ _ _=>rfl,fun _ h=>h,fun _ h=>h,fun hl g B hg hB=>absurd (hl g B hB) (by omega)⟩
theorem Gos.trans{S S1 S2:St}(h:Gos S S1)(k:Gos S1 S2):Gos S S2:=by
 refine⟨Nat.le_trans h.nx k.nx,fun hl=>k.lt (h.lt hl),fun g B hg hB=>?_,fun g hg hw=>?_,fun g hg=>k.ac g (h.ac g hg),fun g hg=>k.wr g (h.wr g hg),fun hl g B hg hB=>?_⟩
 ·obtain⟨B0,h0⟩:=k.old g B (Nat.lt_of_lt_of_le hg h.nx) hB
  exact h.old g B0 hg h0
 ·rw[k.hold g (Nat.lt_of_lt_of_le hg h.nx) hw]
  refine h.hold g hg ?_
  cases hq:S1.wr.testBit g with
  | false=>rfl
  | true=>rw[k.wr g hq] at hw;cases hw
 ·by_cases hg1:g<S1.nx
  ·obtain⟨B0,h0⟩:=k.old g B hg1 hB
   exact k.wr g (h.made hl g B0 hg h0)
  ·exact k.made (h.lt hl) g B (by omega) hB
theorem Fr.refl(σ:Nat→Nat)(S S':St)(w:World)(h:∀g B,S'.get g=some B→g<S.nx):Fr σ σ S S' w w:=
 ⟨Nat.le_refl _,rfl,rfl,rfl,fun _ _ _=>rfl,fun g B hg hB=>absurd (h g B hB) (by omega)⟩
theorem Fr.trans{σ σ1 σ2:Nat→Nat}{S S1 S2:St}{w w1 w2:World}(h:Fr σ σ1 S S1 w w1)(k:Fr σ1 σ2 S1 S2 w1 w2)(g1:Gos S S1)(g2:Gos S1 S2)(a1:Agr S.nx σ σ1)(a2:Agr S1.nx σ1 σ2):Fr σ σ2 S S2 w w2:=by
 refine⟨Nat.le_trans h.size k.size,k.os.trans h.os,k.tape.trans h.tape,k.output.trans h.output,fun b hb hn=>?_,fun g B hg hB=>?_⟩
 ·rw[k.keep b (Nat.lt_of_lt_of_le hb h.size) (fun g B hg hw hB=>?_),h.keep b hb (fun g B hg hw hB=>hn g B hg (g2.wr g hw) hB)]
  by_cases hgs:g<S.nx
  ·obtain⟨B0,h0⟩:=g1.old g B hgs hB
   rw[a1 g hgs]
   exact hn g B0 hgs hw h0
  ·rcases h.new g B (by omega) hB with h1|⟨g0,B0,q1,q2,q3,q4⟩
   ·omega
   ·rw[q4];exact hn g0 B0 q1 (g2.wr g0 q3) q2
 ·by_cases hg1:g<S1.nx
  ·obtain⟨B0,h0⟩:=g2.old g B hg1 hB
   rw[a2 g hg1]
   rcases h.new g B0 hg h0 with h1|⟨g0,B0,q1,q2,q3,q4⟩
   ·exact .inl h1
   ·exact .inr ⟨g0,B0,q1,q2,g2.wr g0 q3,q4⟩
  ·rcases k.new g B (by omega) hB with h1|⟨g0,B0,q1,q2,q3,q4⟩
   ·exact .inl (Nat.le_trans h.size h1)
   ·by_cases hg0:g0<S.nx
    ·obtain⟨B1,h1⟩:=g1.old g0 B0 hg0 q2
     exact .inr ⟨g0,B1,hg0,h1,q3,by rw[q4,a1 g0 hg0]⟩
    ·rw[q4]
     rcases h.new g0 B0 (by omega) q2 with h1|⟨g3,B3,r1,r2,r3,r4⟩
     ·exact .inl h1
     ·exact .inr ⟨g3,B3,r1,r2,g2.wr g3 r3,r4⟩
theorem Hyp.next{M:Nat→Prop}{σ σ1:Nat→Nat}{S S':St}{w w':World}(h:Hyp M σ S w)(hg:Gos S S')(hs:∀τ,Agr S'.nx σ1 τ→Sat M τ S' w'):Hyp M σ1 S' w':=
 ⟨hs,hg.lt h.lt,fun g hg'=>h.new g (Nat.le_trans hg.nx hg')⟩
def opv(env:Env):Operand→Option XV
 | .tmp t=>lk env t
 | .const (.agg cs)=>some (.v (.agg (cs.toList.map .con)))
 | .const (.tuple _)=>none
 | .const v=>some (.v (.one (.con v)))
 | .global _=>none
 | .func f=>some (.v (.one (.con (.func (.func f) #[] #[]))))
theorem dens_con(σ:Nat→Nat)(l:List Value):dens σ (l.map .con)=l:=by
 rw[xg,List.map_map]
 exact List.map_id l
def EnvOn(σ:Nat→Nat)(env:Env)(o:Op)(a:Act):Prop:=∀t,Operand.tmp t∈o.operands→∀x,lk env t=some x→a.tmps.getD t undef=x.den σ
theorem xw{σ:Nat→Nat}{env:Env}{a:Act}{o:Op}{x:Operand}{v:XV}(h:EnvOn σ env o a)(hm:x∈o.operands)(hx:opv env x=some v):a.eval x=v.den σ:=by
 cases x with
 | tmp t=>exact h t hm v hx
 | global g=>cases hx
 | func f=>cases hx;rfl
 | const c=>
   cases c<;>simp only[opv,Option.some.injEq,reduceCtorEq] at hx<;>subst hx<;>try rfl
   rename_i cs
   show Value.agg cs=Value.agg (dens σ (cs.toList.map .con)).toArray
   rw[dens_con]
def one(env:Env)(x:Operand):Option SV:=match opv env x with
 | some (.v (.one s))=>some s
 | _=>none
theorem qi{σ:Nat→Nat}{env:Env}{a:Act}{o:Op}{x:Operand}{s:SV}(h:EnvOn σ env o a)(hm:x∈o.operands)(hx:one env x=some s):a.eval x=s.den σ:=by
 unfold one at hx
 split at hx
 ·rename_i h1;cases hx;exact xw h hm h1
 ·cases hx
def con1(env:Env)(x:Operand):Option Value:=match one env x with
 | some (.con v)=>some v
 | _=>none
theorem je{σ:Nat→Nat}{env:Env}{a:Act}{o:Op}{x:Operand}{v:Value}(h:EnvOn σ env o a)(hm:x∈o.operands)(hx:con1 env x=some v):a.eval x=v:=by
 unfold con1 at hx
 split at hx
 ·rename_i h1;cases hx;exact qi h hm h1
 ·cases hx
def cons:List SV→Option (List Value)
 | []=>some []
 | .con v::r=>match cons r with
   | some l=>some (v::l)
   | none=>none
 | _::_=>none
theorem cons_den(σ:Nat→Nat):∀{l:List SV} {vs:List Value},cons l=some vs→dens σ l=vs
 | [],vs,h=>by cases h;rfl
 | .con v::r,vs,h=>by
   unfold cons at h
   split at h
   ·rename_i l hl;cases h;rw[dens,cons_den σ hl];rfl
   ·cases h
 | .ptr _ _::_,vs,h=>by cases h
 | .sl _ _ _ _ _::_,vs,h=>by cases h
 | .fn _ _ _::_,vs,h=>by cases h
def conX:XV→Option Value
 | .v (.one (.con v))=>some v
 | .v (.agg l)=>match cons l with
   | some vs=>some (.agg vs.toArray)
   | none=>none
 | _=>none
theorem conX_den(σ:Nat→Nat){x:XV}{v:Value}(h:conX x=some v):x.den σ=v:=by
 unfold conX at h
 split at h
 ·cases h;rfl
 ·split at h
  ·rename_i l vs hv
   cases h
   show Value.agg _=_
   rw[cons_den σ hv]
  ·cases h
 ·cases h
def ofV:Value→XV
 | .agg cs=>.v (.agg (cs.toList.map .con))
 | v=>.v (.one (.con v))
theorem ofV_den(σ:Nat→Nat)(v:Value):(ofV v).den σ=v:=by
 cases v<;>try rfl
 show Value.agg (dens σ _).toArray=_
 rw[dens_con]
def pureS{α:Type}(P:Program):Sem α→Option α
 | .pure a=>some a
 | .program k=>pureS P (k P)
 | .mark _ k=>pureS P k
 | _=>none
theorem uy{α:Type}{P:Program}:∀{s:Sem α} {r:α},pureS P s=some r→∀w,s.run P w=.ok r w
 | .pure a,r,h,w=>by cases h;rfl
 | .program k,r,h,w=>by
   unfold pureS at h
   exact uy (s:=k P) h w
 | .mark m k,r,h,w=>by
   unfold pureS at h
   exact uy (s:=k) h w
 | .load _ _ _,r,h,w=>by cases h
 | .store _ _ _ _,r,h,w=>by cases h
 | .new _ _,r,h,w=>by cases h
 | .shape _ _,r,h,w=>by cases h
 | .freeze _ _ _,r,h,w=>by cases h
 | .frozen _ _,r,h,w=>by cases h
 | .getObj _ _,r,h,w=>by cases h
 | .setObj _ _ _,r,h,w=>by cases h
 | .choose _ _,r,h,w=>by cases h
 | .sys _ _,r,h,w=>by cases h
 | .halt _,r,h,w=>by cases h
def svOne:SV→Bool
 | .con v=>v.oneCell'
 | _=>true
theorem uk{s:SV}(h:svOne s=true)(σ:Nat→Nat):(s.den σ).oneCell'=true:=by
 cases s with
 | con v=>exact h
 | ptr g o=>rfl
 | sl g o n k c=>cases k<;>rfl
 | fn f a b=>rfl
theorem one_cells{v:Value}(h:v.oneCell'=true):v.cells.toList=[v]:=by cases v<;>first|rfl|cases h
end Ev
namespace Ev
open Go.RowKit
open Sy (Cx TD TdOk CxOk KD kd tdOf qo zo um yl jl placesOf places_run uh jm)
def cX(env:Env)(x:Operand):Option Value:=match opv env x with
 | some v=>conX v
 | none=>none
section
variable{P:Program}{cx:Cx}{σ:Nat→Nat}{env:Env}{a:Act}{w:World}{o:Op}
theorem cX_den{x:Operand}{v:Value}(h:EnvOn σ env o a)(hm:x∈o.operands)(hx:cX env x=some v):a.eval x=v:=by
 unfold cX at hx
 split at hx
 ·rename_i y hy;rw[xw h hm hy];exact conX_den σ hx
 ·cases hx
def TV.cells:TV→List SV
 | .one s=>[s]
 | .agg l=>l
def partsX(env:Env):List (Nat×Operand)→Option (List (Nat×TV))
 | []=>some []
 | (i,x)::r=>match opv env x,partsX env r with
   | some (.v (.one s)),some l=>if svOne s then some ((i,.one s)::l) else none
   | some (.v (.agg c)),some l=>some ((i,.agg c)::l)
   | _,_=>none
theorem partsX_ok:∀(ps:List (Nat×Operand)) (l:List (Nat×TV)),(∀p∈ps,∀y,opv env p.2=some y→a.eval p.2=y.den σ)→partsX env ps=some l →
  (ps.map fun p=>(p.1,a.eval p.2))=(l.map fun p=>(p.1,p.2.den σ))∧∀p∈l,(p.2.den σ).cells.toList=dens σ p.2.cells
 | [],l,he,hp=>by cases hp;exact⟨rfl,by simp⟩
 | (i,x)::r,l,he,hp=>by
   simp only[partsX] at hp
   split at hp
   ·rename_i s l' hx hl'
    split at hp
    ·rename_i ho
     cases hp
     obtain⟨g1,g2⟩:=partsX_ok r l' (fun p hpm=>he p (by simp[hpm])) hl'
     refine⟨by simp only[List.map_cons,g1,he (i,x) (by simp) _ hx];rfl,fun p hpm=>?_⟩
     rcases List.mem_cons.1 hpm with rfl|hpm
     ·exact one_cells (uk ho σ)
     ·exact g2 p hpm
    ·cases hp
   ·rename_i c l' hx hl'
    cases hp
    obtain⟨g1,g2⟩:=partsX_ok r l' (fun p hpm=>he p (by simp[hpm])) hl'
    refine⟨by simp only[List.map_cons,g1,he (i,x) (by simp) _ hx];rfl,fun p hpm=>?_⟩
    rcases List.mem_cons.1 hpm with rfl|hpm
    ·rfl
    ·exact g2 p hpm
   ·cases hp
def splX(l:List SV)(off:Nat)(vs:List SV):List SV:=l.take off++vs++l.drop (off+vs.length)
theorem qw(σ:Nat→Nat)(l:List SV):(dens σ l).length=l.length:=by rw[xg,List.length_map]
theorem dens_app(σ:Nat→Nat)(l m:List SV):dens σ (l++m)=dens σ l++dens σ m:=by simp only[xg,List.map_append]
theorem dens_spl(σ:Nat→Nat)(l:List SV)(off:Nat)(vs:List SV):dens σ (splX l off vs)=(dens σ l).take off++dens σ vs++(dens σ l).drop (off+vs.length):=by
 simp only[splX,xg,List.map_append,List.map_take,List.map_drop]
theorem ve(σ:Nat→Nat)(l:List SV)(i:Nat):(dens σ l)[i]? = (l[i]?).map (SV.den σ):=by rw[xg,List.getElem?_map]
def fillX(place:Nat→Option (Nat×Nat)):List SV→List (Nat×TV)→Option (List SV)
 | cells,[]=>some cells
 | cells,(i,tv)::r=>match place i with
   | none=>none
   | some (off,size)=>if tv.cells.length=size∧off+size≤cells.length then fillX place (splX cells off tv.cells) r else none
theorem fillX_ok{place:Nat→Option (Nat×Nat)}(σ:Nat→Nat):∀(parts:List (Nat×TV)) (cells:List SV) (cs:Array Value) (l:List SV),(∀p∈parts,(p.2.den σ).cells.toList=dens σ p.2.cells)→fillX place cells parts=some l→cs.toList=dens σ cells →
  ∃r,Instr.fill place cs (parts.map fun p=>(p.1,p.2.den σ))=some r∧r.toList=dens σ l
 | [],cells,cs,l,ho,h,hc=>by cases h;exact⟨cs,rfl,hc⟩
 | (i,tv)::r,cells,cs,l,ho,h,hc=>by
   unfold fillX at h
   split at h
   ·cases h
   ·rename_i off size hp
    split at h
    ·rename_i hcc
     have htc:=ho (i,tv) (by simp)
     have hsz:(tv.den σ).cells.size=size:=by rw[←Array.length_toList,htc,←hcc.1];simp[xg]
     have hcs:cs.size=cells.length:=by rw[←Array.length_toList,hc];simp[xg]
     obtain⟨q,hq1,hq2⟩:=fillX_ok σ r (splX cells off tv.cells) ((tv.den σ).cells.zipIdx.foldl (fun cs (c,j)=>cs.setIfInBounds (off+j) c) cs) l (fun p hp=>ho p (by simp[hp])) h (by
      rw[←Array.foldl_toList,Array.toList_zipIdx,htc]
      have:=Sy.foldl_set (dens σ tv.cells) cs off 0 (by rw[qw];omega)
      simp only[Nat.add_zero] at this
      refine this.trans ?_
      rw[hc,dens_spl,qw])
     refine⟨q,?_,hq2⟩
     simp only[List.map_cons,Instr.fill,hp]
     rw[if_neg]
     ·exact hq1
     ·simp only[hsz,bne_self_eq_false,ne_eq,not_true_eq_false,decide_false,Bool.false_or,decide_eq_true_eq]
      omega
    ·cases h
def buildX(cx:Cx)(env:Env)(t:TypeId)(parts:List (Nat×Operand)):Option XV:=match tdOf cx t,partsX env parts with
 | some d,some ps=>match d.k with
   | .st fs=>match placesOf cx fs with
     | some pl=>(fillX (pl[·]?) (d.zero.map .con) ps).map fun l=>.v (.agg l)
     | none=>none
   | .ar _ e=>match tdOf cx e with
     | some de=>(fillX (fun i=>some (i*de.size,de.size)) (d.zero.map .con) ps).map fun l=>.v (.agg l)
     | none=>none
   | _=>none
 | _,_=>none
theorem buildX_ok(hcx:CxOk P cx){t:TypeId}{parts:Array (Nat×Operand)}{x:XV}(h:buildX cx env t parts.toList=some x)(he:∀p∈parts.toList,∀y,opv env p.2=some y→a.eval p.2=y.den σ) :
  (Instr.build t (parts.map fun(i,x)=>(i,a.eval x))).run P w=.ok (x.den σ) w:=by
 unfold buildX at h
 split at h
 ·rename_i d ps hd hps
  have htd:=hcx t d hd
  obtain⟨u',g1,g2⟩:=jl htd
  obtain⟨i,hi1,hi2,hi3,z,hz1,hz2⟩:=yl htd
  have hzero:(zeroValue t).run P w=.ok z w:=by simp[zeroValue,typeInfo,hi1,hz1]
  obtain⟨p1,p2⟩:=partsX_ok (a:=a) (σ:=σ) _ _ he hps
  have hconv:(parts.map fun(i,x)=>(i,a.eval x)).toList=(ps.map fun p=>(p.1,p.2.den σ)):=by rw[←p1,Array.toList_map]
  have hz:z.cells.toList=dens σ (d.zero.map .con):=by rw[hz2,dens_con]
  have hfin:∀(place:Nat→Option (Nat×Nat)),(fillX place (d.zero.map .con) ps).map (fun l=>XV.v (.agg l))=some x→∃q,Instr.fill place z.cells (parts.map fun(i,x)=>(i,a.eval x)).toList=some q∧Value.agg q=x.den σ:=by
   intro place ho
   cases hq:fillX place (d.zero.map .con) ps with
   | none=>rw[hq] at ho;cases ho
   | some l=>
     rw[hq] at ho
     have ho:=oi ho
     subst ho
     obtain⟨q,hq1,hq2⟩:=fillX_ok σ ps _ z.cells l p2 hq hz
     refine⟨q,by rw[hconv];exact hq1,?_⟩
     show Value.agg q=Value.agg _
     congr 1
     exact Array.toList_inj.1 hq2
  split at h
  ·rename_i fs hk
   rw[hk] at g2
   obtain⟨fl,rfl⟩:∃fl,u'=.struct fl:=by cases u'<;>simp_all [KD.of]
   simp only[KD.of,KD.st.injEq] at g2
   split at h
   ·rename_i pl hpl
    obtain⟨q,hq1,hq2⟩:=hfin _ h
    have hm:(fl.mapM (fun f=>do pure (f.offset,←sizeOf f.type):Field→Sem (Nat×Nat))).run P w=.ok pl.toArray w:=by
     rw[Array.mapM_eq_mapM_toList,Sem.run_map,places_run hcx fl.toList pl (by rw[g2];exact hpl)]
     rfl
    unfold Instr.build
    rw[Sem.run_bind,hzero]
    simp only[Result.andThen_ok]
    rw[Sem.run_bind,run_underlying g1 w]
    simp only[Result.andThen_ok]
    rw[Sem.run_bind,hm]
    simp only[Result.andThen_ok]
    have:(fun x:Nat=>pl.toArray[x]?)=(fun x:Nat=>pl[x]?):=by funext x;simp
    rw[this,hq1,←hq2]
    rfl
   ·cases h
  ·rename_i n e hk
   rw[hk] at g2
   obtain⟨n',e',rfl⟩:∃n' e',u'=.array n' e':=by cases u'<;>simp_all [KD.of]
   simp only[KD.of,KD.ar.injEq] at g2
   obtain⟨rfl,rfl⟩:=g2
   split at h
   ·rename_i de hde
    obtain⟨q,hq1,hq2⟩:=hfin _ h
    unfold Instr.build
    rw[Sem.run_bind,hzero]
    simp only[Result.andThen_ok]
    rw[Sem.run_bind,run_underlying g1 w]
    simp only[Result.andThen_ok]
    rw[Sem.run_bind,zo (hcx _ de hde) w]
    simp only[Result.andThen_ok]
    rw[hq1,←hq2]
    rfl
   ·cases h
  ·cases h
 ·cases h
def partX(cx:Cx)(t:TypeId)(l:List SV)(off:Nat):Option XV:=match tdOf cx t with
 | some d=>if d.k.agg then(if off+d.size≤l.length then some (.v (.agg ((l.drop off).take d.size))) else none) else match l[off]? with
   | some s=>some (.v (.one s))
   | none=>none
 | none=>none
theorem partX_ok(hcx:CxOk P cx){t:TypeId}{l:List SV}{off:Nat}{x:XV}(h:partX cx t l off=some x):(part t (dens σ l).toArray off).run P w=.ok (x.den σ) w:=by
 unfold partX at h
 split at h
 ·rename_i d hd
  have htd:=hcx t d hd
  have hag:=um htd w
  have hsz:=zo htd w
  split at h
  ·rename_i hagg
   split at h
   ·rename_i hle
    cases h
    rw[hagg] at hag
    have:(.agg ((dens σ l).toArray.extract off (off+d.size)):Value)=XV.den σ (.v (.agg ((l.drop off).take d.size))):=by
     show Value.agg _=Value.agg _
     congr 1
     apply Array.toList_inj.1
     rw[Array.toList_extract]
     simp[xg,List.extract_eq_take_drop,List.map_drop,List.map_take]
    rw[←this]
    simp[part,Sem.run_bind,hag,hsz]
   ·cases h
  ·rename_i hagg
   have hagg':d.k.agg=false:=by simpa using hagg
   rw[hagg'] at hag
   split at h
   ·rename_i s hs'
    cases h
    have hcs:(dens σ l).toArray[off]? = some (s.den σ):=by
     rw[←Array.getElem?_toList,ve,hs'];rfl
    simp[part,Sem.run_bind,hag,hcs,XV.den,TV.den]
   ·cases h
 ·cases h
def boundX(env:Env):Option Operand→Option (Option Nat)
 | none=>some none
 | some x=>match con1 env x with
   | some (.int _ n)=>if 0≤n then some (some n.toNat) else none
   | _=>none
theorem boundX_ok{z:Option Operand}{s:Option Nat}(h:boundX env z=some s)(he:∀x,z=some x→∀v,con1 env x=some v→a.eval x=v):(z=none∧s=none)∨∃k n,z.map a.eval=some (.int k ((n:Nat):Int))∧s=some n:=by
 unfold boundX at h
 split at h
 ·cases h;exact .inl ⟨rfl,rfl⟩
 ·rename_i x
  split at h
  ·rename_i k n hx
   split at h
   ·rename_i h0
    cases h
    refine .inr ⟨k,n.toNat,?_,rfl⟩
    simp only[Option.map_some,he x rfl _ hx]
    rw[Int.toNat_of_nonneg h0]
   ·cases h
  ·cases h
def cutX(cx:Cx)(t:TypeId)(g off n:Nat)(k:Option Nat)(c:Nat)(lo hi mx:Option Nat):Option SV:=match kd cx t with
 | .sl e=>match tdOf cx e with
   | some d=>
     let l:=lo.getD 0
     let h:=hi.getD n
     match mx with
     | none=>if l≤h∧h≤n then(match k with
        | none=>if n≤c then some (if c=l then .sl g off (h-l) none (c-l) else .sl g (off+l*d.size) (h-l) none (c-l)) else none
        | some _=>none) else none
     | some m=>if l≤h∧h≤m∧m≤n∧hi.isSome=true then(match k with
        | none=>if n≤c then some (if m=l then .sl g off (h-l) none (m-l) else .sl g (off+l*d.size) (h-l) none (m-l)) else none
        | some _=>none) else none
   | none=>none
 | _=>none
end
end Ev
namespace Ev
open Go.RowKit
open Sy (Cx TD TdOk CxOk KD kd tdOf qo zo um yl jl load_agg load_one store_run yf heap_setCells_other yj)
def St.touch(S:St)(g:Nat):St:={ S with ac:=S.ac ||| 2^g }
def St.set(S:St)(g:Nat)(B:Blk):St:={ S with H:=(g,some B)::S.H,ac:=S.ac ||| 2^g,wr:=S.wr ||| 2^g }
def deadM:Option Nat→Nat
 | none=>0
 | some g=>2^g
def newS(S:St)(B:Blk)(dead:Option Nat):St:=
 { nx:=S.nx+2,H:=(S.nx,some B)::(match dead with|none=>S.H|some g=>(g,none)::S.H),ac:=S.ac ||| 2^S.nx ||| deadM dead,wr:=S.wr ||| 2^S.nx ||| deadM dead }
theorem xe(g:Nat):(2^g).testBit g=true:=by simp[Nat.testBit_two_pow]
theorem tb_or{m n g:Nat}:(m ||| n).testBit g=(m.testBit g || n.testBit g):=Nat.testBit_or ..
theorem get_set(S:St)(g:Nat)(B:Blk)(h:Nat):(S.set g B).get h=if g=h then some B else S.get h:=by
 by_cases e:g=h
 ·simp[St.get,St.set,lk,e]
 ·simp[St.get,St.set,lk,e]
theorem get_new(S:St)(B:Blk)(dead:Option Nat)(h:Nat):(newS S B dead).get h=if S.nx=h then some B else if dead=some h then none else S.get h:=by
 by_cases e:S.nx=h
 ·simp[St.get,newS,lk,e]
 ·cases dead with
  | none=>simp[St.get,newS,lk,e]
  | some g=>
    by_cases e2:g=h
    ·simp[St.get,newS,lk,e,e2]
    ·simp[St.get,newS,lk,e,e2]
theorem gos_touch(S:St)(g:Nat):Gos S (S.touch g):=⟨Nat.le_refl _,fun h=>h,fun _ B _ h=>⟨B,h⟩,fun _ _ _=>rfl,fun h hh=>by show(S.ac ||| 2^g).testBit h=true;rw[tb_or,hh];rfl,fun _ h=>h,fun hl g' B hg hB=>absurd (hl g' B hB) (by omega)⟩
theorem gos_set{S:St}{g:Nat}{B B0:Blk}(h0:S.get g=some B0):Gos S (S.set g B):=by
 refine⟨Nat.le_refl _,fun h h' B' hB=>?_,fun h B' hh hB=>?_,fun h hh hw=>?_,fun h hh=>by show(S.ac ||| 2^g).testBit h=true;rw[tb_or,hh];rfl,fun h hh=>by show(S.wr ||| 2^g).testBit h=true;rw[tb_or,hh];rfl,fun hl h B' hh hB=>?_⟩
 ·rw[get_set] at hB
  split at hB
  ·rename_i e;subst e;exact h _ _ h0
  ·exact h _ _ hB
 ·rw[get_set] at hB
  split at hB
  ·rename_i e;subst e;exact⟨_,h0⟩
  ·exact⟨_,hB⟩
 ·rw[get_set,if_neg]
  intro e
  subst e
  have:(S.wr ||| 2^g).testBit g=false:=hw
  rw[tb_or,xe,Bool.or_true] at this
  cases this
 ·rw[get_set] at hB
  split at hB
  ·rename_i e;subst e;exact absurd (hl _ _ h0) (by omega)
  ·exact absurd (hl _ _ hB) (by omega)
theorem vw(S:St)(B:Blk)(dead:Option Nat):Gos S (newS S B dead):=by
 refine⟨by simp[newS],fun h h' B' hB=>?_,fun h B' hh hB=>?_,fun h hh hw=>?_,fun h hh=>by show(S.ac ||| 2^S.nx ||| deadM dead).testBit h=true;rw[tb_or,tb_or,hh];rfl,fun h hh=>by show(S.wr ||| 2^S.nx ||| deadM dead).testBit h=true;rw[tb_or,tb_or,hh];rfl,fun hl h B' hh hB=>?_⟩
 ·rw[get_new] at hB
  show h'<S.nx+2
  split at hB
  ·omega
  ·split at hB
   ·cases hB
   ·have:=h _ _ hB;omega
 ·rw[get_new,if_neg (by omega)] at hB
  split at hB
  ·cases hB
  ·exact⟨_,hB⟩
 ·rw[get_new,if_neg (by omega),if_neg]
  intro e
  subst e
  have:(S.wr ||| 2^S.nx ||| deadM (some h)).testBit h=false:=hw
  rw[tb_or,deadM,xe,Bool.or_true] at this
  cases this
 ·rw[get_new] at hB
  split at hB
  ·rename_i e
   subst e
   show(S.wr ||| 2^S.nx ||| deadM dead).testBit S.nx=true
   rw[tb_or,tb_or,xe,Bool.or_true];rfl
  ·split at hB
   ·cases hB
   ·exact absurd (hl _ _ hB) (by omega)
section
variable{P:Program}{cx:Cx}{M:Nat→Prop}{σ:Nat→Nat}{S S':St}{env:Env}{a:Act}{w w':World}{o:Op}
theorem Sat.congr{τ:Nat→Nat}(h:Sat M τ S w)(hg:∀g,S'.get g=S.get g):Sat M τ S' w:=
 ⟨fun g B hm hB=>h.blk g B hm (by rw[←hg];exact hB),fun g g' B B' h1 h2 h3 h4=>h.inj g g' B B' h1 h2 (by rw[←hg];exact h3) (by rw[←hg];exact h4)⟩
theorem aft_same(h:Hyp M σ S w)(hn:S'.nx=S.nx)(hg:∀g,S'.get g=S.get g){x:XV}{v:Value}(hv:∀τ,Agr S.nx σ τ→v=x.den τ):Aft M σ S w x S' v w:=
 ⟨σ,Agr.refl _ _,fun _ _=>rfl,fun τ hτ=>by rw[hn] at hτ;exact⟨(h.sat τ hτ).congr hg,hv τ hτ⟩,Fr.refl σ S S' w (fun g B hB=>h.lt g B (by rw[←hg];exact hB))⟩
theorem aft_set(h:Hyp M σ S w){g:Nat}{B0 B:Blk}(hm:M g)(h0:S.get g=some B0)(hs:w'.heap.size=w.heap.size)(ho:w'.os=w.os)(ht:w'.tape=w.tape)(hout:w'.output=w.output)(hk:∀b,b≠σ g→w'.heap[b]? = w.heap[b]?)
  (hB:∀τ,Agr S.nx σ τ→BlkOk τ B (σ g) w') {x:XV} {v:Value} (hv:∀τ,Agr S.nx σ τ→v=x.den τ):Aft M σ S w x (S.set g B) v w':=by
 have hgn:=h.lt g B0 h0
 refine⟨σ,Agr.refl _ _,fun _ _=>rfl,fun τ hτ=>?_,?_⟩
 ·have hs0:=h.sat τ hτ
  refine⟨⟨fun g' B' hm' hB'=>?_,fun g1 g2 B1 B2 m1 m2 b1 b2 e=>?_⟩,hv τ hτ⟩
  ·rw[get_set] at hB'
   split at hB'
   ·rename_i e
    subst e
    cases hB'
    rw[hτ g hgn];exact hB τ hτ
   ·rename_i e
    refine(hs0.blk g' B' hm' hB').keep (hk _ (fun e'=>e ?_))
    exact hs0.inj g g' B0 B' hm hm' h0 hB' (by rw[hτ g hgn,e'])
  ·have k:∀g' B',(S.set g B).get g'=some B'→∃B'',S.get g'=some B'':=fun g' B' hb=>by
    rw[get_set] at hb
    split at hb
    ·rename_i e;subst e;exact⟨_,h0⟩
    ·exact⟨_,hb⟩
   obtain⟨B3,b3⟩:=k g1 B1 b1
   obtain⟨B4,b4⟩:=k g2 B2 b2
   exact hs0.inj g1 g2 B3 B4 m1 m2 b3 b4 e
 ·refine⟨by omega,ho,ht,hout,fun b hb hn=>hk b (fun e=>?_),fun g' B' hg' hB'=>?_⟩
  ·refine hn g B0 hgn ?_ h0 e.symm
   show(S.wr ||| 2^g).testBit g=true
   rw[tb_or,xe,Bool.or_true]
  ·rw[get_set] at hB'
   split at hB'
   ·omega
   ·have:=h.lt _ _ hB';omega
def upd2(σ:Nat→Nat)(n b c:Nat):Nat→Nat:=fun g=>if g=n then b else if g=n+1 then c else σ g
theorem upd2_agr(σ:Nat→Nat)(n b c:Nat):Agr n σ (upd2 σ n b c):=fun g hg=>by simp[upd2,show g≠n by omega,show g≠n+1 by omega]
theorem aft_new(h:Hyp M σ S w){B:Blk}{dead:Option Nat}(c:Nat)(hs:w'.heap.size=w.heap.size+1)(ho:w'.os=w.os)(ht:w'.tape=w.tape)(hout:w'.output=w.output)(hk:∀b,b<w.heap.size→w'.heap[b]? = w.heap[b]?)
  (hB:∀τ,Agr S.nx σ τ→τ (S.nx+1)=c→BlkOk τ B w.heap.size w') {x:XV} {v:Value} (hv:∀τ,Agr S.nx σ τ→τ S.nx=w.heap.size→τ (S.nx+1)=c→v=x.den τ):Aft M σ S w x (newS S B dead) v w':=by
 refine⟨upd2 σ S.nx w.heap.size c,upd2_agr _ _ _ _,fun g hg=>?_,fun τ hτ=>?_,?_⟩
 ·have:S.nx+2≤g:=hg
  simp[upd2,show g≠S.nx by omega,show g≠S.nx+1 by omega]
 ·have hτ':∀g,g<S.nx+2→τ g=upd2 σ S.nx w.heap.size c g:=hτ
  have h1:τ S.nx=w.heap.size:=by rw[hτ' _ (by omega)];simp[upd2]
  have h2:τ (S.nx+1)=c:=by rw[hτ' _ (by omega)];simp[upd2]
  have h3:Agr S.nx σ τ:=fun g hg=>by rw[hτ' g (by omega)];exact upd2_agr _ _ _ _ g hg
  have hs0:=h.sat τ h3
  have key:∀g' B',(newS S B dead).get g'=some B'→(g'=S.nx∧B'=B)∨(S.get g'=some B'∧g'<S.nx):=fun g' B' hb=>by
   rw[get_new] at hb
   split at hb
   ·rename_i e;cases hb;exact .inl ⟨e.symm,rfl⟩
   ·split at hb
    ·cases hb
    ·exact .inr ⟨hb,h.lt _ _ hb⟩
  refine⟨⟨fun g' B' hm' hB'=>?_,fun g1 g2 B1 B2 m1 m2 b1 b2 e=>?_⟩,hv τ h3 h1 h2⟩
  ·rcases key g' B' hB' with⟨rfl,rfl⟩|⟨hb,hlt⟩
   ·rw[h1];exact hB τ h3 h2
   ·have:=hs0.blk g' B' hm' hb
    exact this.keep (hk _ this.lt)
  ·rcases key g1 B1 b1 with⟨rfl,rfl⟩|⟨k1,l1⟩<;>rcases key g2 B2 b2 with⟨rfl,rfl⟩|⟨k2,l2⟩
   ·rfl
   ·have:=(hs0.blk g2 B2 m2 k2).lt
    rw[h1] at e;omega
   ·have:=(hs0.blk g1 B1 m1 k1).lt
    rw[h1] at e;omega
   ·exact hs0.inj g1 g2 B1 B2 m1 m2 k1 k2 e
 ·refine⟨by omega,ho,ht,hout,fun b hb _=>hk b hb,fun g' B' hg' hB'=>?_⟩
  rw[get_new] at hB'
  split at hB'
  ·rename_i e;subst e;exact .inl (by simp[upd2])
  ·split at hB'
   ·cases hB'
   ·have:=h.lt _ _ hB';omega
theorem aft_move(h:Hyp M σ S w){g:Nat}{B0 B:Blk}(c:Nat)(hm:M g)(h0:S.get g=some B0)(hs:w'.heap.size=w.heap.size)(ho:w'.os=w.os)(ht:w'.tape=w.tape)(hout:w'.output=w.output)(hk:∀b,b≠σ g→w'.heap[b]? = w.heap[b]?)
  (hB:∀τ,Agr S.nx σ τ→τ (S.nx+1)=c→BlkOk τ B (σ g) w') {x:XV} {v:Value} (hv:∀τ,Agr S.nx σ τ→τ S.nx=σ g→τ (S.nx+1)=c→v=x.den τ):Aft M σ S w x (newS S B (some g)) v w':=by
 have hgn:=h.lt g B0 h0
 refine⟨upd2 σ S.nx (σ g) c,upd2_agr _ _ _ _,fun g hg=>?_,fun τ hτ=>?_,?_⟩
 ·have:S.nx+2≤g:=hg
  simp[upd2,show g≠S.nx by omega,show g≠S.nx+1 by omega]
 ·have hτ':∀g',g'<S.nx+2→τ g'=upd2 σ S.nx (σ g) c g':=hτ
  have h1:τ S.nx=σ g:=by rw[hτ' _ (by omega)];simp[upd2]
  have h2:τ (S.nx+1)=c:=by rw[hτ' _ (by omega)];simp[upd2]
  have h3:Agr S.nx σ τ:=fun g hg=>by rw[hτ' g (by omega)];exact upd2_agr _ _ _ _ g hg
  have hs0:=h.sat τ h3
  have key:∀g' B',(newS S B (some g)).get g'=some B'→(g'=S.nx∧B'=B)∨(S.get g'=some B'∧g'<S.nx∧g'≠g):=fun g' B' hb=>by
   rw[get_new] at hb
   split at hb
   ·rename_i e;cases hb;exact .inl ⟨e.symm,rfl⟩
   ·split at hb
    ·cases hb
    ·rename_i e;exact .inr ⟨hb,h.lt _ _ hb,fun e'=>e (by rw[e'])⟩
  refine⟨⟨fun g' B' hm' hB'=>?_,fun g1 g2 B1 B2 m1 m2 b1 b2 e=>?_⟩,hv τ h3 h1 h2⟩
  ·rcases key g' B' hB' with⟨rfl,rfl⟩|⟨hb,hlt,hne⟩
   ·rw[h1];exact hB τ h3 h2
   ·refine(hs0.blk g' B' hm' hb).keep (hk _ (fun e'=>hne ?_))
    exact(hs0.inj g g' B0 B' hm hm' h0 hb (by rw[h3 g hgn,e'])).symm
  ·rcases key g1 B1 b1 with⟨rfl,rfl⟩|⟨k1,l1,n1⟩<;>rcases key g2 B2 b2 with⟨rfl,rfl⟩|⟨k2,l2,n2⟩
   ·rfl
   ·exact absurd (hs0.inj g g2 B0 B2 hm m2 h0 k2 (by rw[h3 g hgn,←h1,e])).symm n2
   ·exact absurd (hs0.inj g g1 B0 B1 hm m1 h0 k1 (by rw[h3 g hgn,←h1,←e])).symm n1
   ·exact hs0.inj g1 g2 B1 B2 m1 m2 k1 k2 e
 ·have hw:(newS S B (some g)).wr.testBit g=true:=by
   show(S.wr ||| 2^S.nx ||| deadM (some g)).testBit g=true
   rw[tb_or,deadM,xe,Bool.or_true]
  refine⟨by omega,ho,ht,hout,fun b hb hn=>hk b (fun e=>hn g B0 hgn hw h0 e.symm),fun g' B' hg' hB'=>?_⟩
  rw[get_new] at hB'
  split at hB'
  ·rename_i e;subst e;exact .inr ⟨g,B0,hgn,h0,hw,by simp[upd2]⟩
  ·split at hB'
   ·cases hB'
   ·have:=h.lt _ _ hB';omega
def loadX(cx:Cx)(S:St)(t:TypeId)(s:SV):Option (XV×St):=match s,tdOf cx t with
 | .ptr g off,some d=>match S.get g with
   | some B=>if d.k.agg then(if off+d.size≤B.cs.length then some (.v (.agg ((B.cs.drop off).take d.size)),S.touch g) else none) else match B.cs[off]? with
     | some s=>some (.v (.one s),S.touch g)
     | none=>none
   | none=>none
 | _,_=>none
theorem loadX_nx{t:TypeId}{s:SV}{x:XV}(h:loadX cx S t s=some (x,S')):∃g B,S.get g=some B∧S'=S.touch g:=by
 unfold loadX at h
 split at h
 ·split at h
  ·rename_i B hB
   split at h
   ·split at h
    ·cases h;exact⟨_,B,hB,rfl⟩
    ·cases h
   ·split at h
    ·cases h;exact⟨_,B,hB,rfl⟩
    ·cases h
  ·cases h
 ·cases h
theorem loadX_ok(hcx:CxOk P cx){t:TypeId}{s:SV}{x:XV}(h:loadX cx S t s=some (x,S'))(hm:∀g,S'.ac.testBit g=true→M g){τ:Nat→Nat}(hs:Sat M τ S w):(Instr.loadAt t (s.den τ)).run P w=.ok (x.den τ) w:=by
 unfold loadX at h
 split at h
 ·rename_i g off d hd
  split at h
  ·rename_i B hB
   have hmg:S'=S.touch g→M g:=fun e=>hm g (by rw[e];show(S.ac ||| 2^g).testBit g=true;rw[tb_or,xe,Bool.or_true])
   have hcell:M g→∀(i:Nat) (s:SV),B.cs[i]? = some s→w.cell? ⟨τ g,i,none⟩=some (s.den τ):=fun hmg i s hi=>by
    obtain⟨cs,h1,-,-,h4⟩:=hs.blk g B hmg hB
    rw[cell_of_row w (τ g) i cs B.t (0,0) h1]
    exact h4 i s hi
   split at h
   ·rename_i hagg
    split at h
    ·rename_i hle
     cases h
     have hl:(dens τ ((B.cs.drop off).take d.size)).length=d.size:=by rw[qw,List.length_take,List.length_drop];omega
     refine load_agg (hcx t d hd) hagg hl (fun i v hi=>?_)
     rw[ve,List.getElem?_take] at hi
     split at hi
     ·rw[List.getElem?_drop] at hi
      cases hq:B.cs[off+i]? with
      | none=>rw[hq] at hi;cases hi
      | some s'=>
        rw[hq] at hi
        cases hi
        exact hcell (hmg rfl) (off+i) s' hq
     ·cases hi
    ·cases h
   ·rename_i hagg
    split at h
    ·rename_i s' hs'
     cases h
     exact load_one (hcx t d hd) (by simpa using hagg) (hcell (hmg rfl) off s' hs')
    ·cases h
  ·cases h
 ·cases h
def cellsX:XV→Option (List SV)
 | .v (.one s)=>if svOne s then some [s] else none
 | .v (.agg l)=>if l.all svOne then some l else none
 | _=>none
theorem cellsX_ok{x:XV}{l:List SV}(h:cellsX x=some l)(τ:Nat→Nat):(x.den τ).cells.toList=dens τ l∧∀v∈dens τ l,v.oneCell'=true:=by
 unfold cellsX at h
 split at h
 ·rename_i s
  split at h
  ·rename_i ho
   cases h
   have:=uk ho τ
   exact⟨one_cells this,by simpa[dens] using this⟩
  ·cases h
 ·rename_i l'
  split at h
  ·rename_i ho
   cases h
   refine⟨rfl,fun v hv=>?_⟩
   rw[xg,List.mem_map] at hv
   obtain⟨s,hs1,rfl⟩:=hv
   exact uk (List.all_eq_true.1 ho s hs1) τ
  ·cases h
 ·cases h
theorem splX_len{l:List SV}{off:Nat}{vs:List SV}(h:off+vs.length≤l.length):(splX l off vs).length=l.length:=by
 simp[splX];omega
theorem splX_get{l:List SV}{off:Nat}{vs:List SV}(h:off+vs.length≤l.length)(i:Nat):(splX l off vs)[i]? = if off≤i∧i<off+vs.length then vs[i-off]? else l[i]?:=by
 unfold splX
 have ht:(l.take off).length=off:=by rw[List.length_take];omega
 by_cases h1:i<off
 ·rw[if_neg (by omega),List.append_assoc,List.getElem?_append_left (by omega),List.getElem?_take,if_pos h1]
 ·by_cases h2:i<off+vs.length
  ·rw[if_pos ⟨by omega,h2⟩,List.getElem?_append_left (by rw[List.length_append,ht];omega),List.getElem?_append_right (by omega),ht]
  ·rw[if_neg (by omega),List.getElem?_append_right (by rw[List.length_append,ht];omega),List.length_append,ht,List.getElem?_drop]
   congr 1;omega
theorem blk_write{τ:Nat→Nat}{B:Blk}{b off:Nat}{l:List SV}(h:BlkOk τ B b w)(hle:off+l.length≤B.cs.length):BlkOk τ { B with cs:=splX B.cs off l } b (w.setCells b off (dens τ l)):=by
 obtain⟨cs,h1,h2,h3,h4⟩:=h
 obtain⟨cs',b1,b2,b3⟩:=yf b B.t (0,0) (dens τ l) off w cs h1
 refine⟨cs',b1,by rw[b2];simp only[splX_len hle];exact h2,?_,fun i s hi=>?_⟩
 ·simp only[splX_len hle,b2];exact h3
 ·simp only[splX_get hle] at hi
  rw[b3 i,qw]
  split at hi
  ·rename_i hc
   rw[if_pos ⟨hc.1,hc.2,by omega⟩,ve,hi];rfl
  ·rename_i hc
   rw[if_neg (fun hh=>hc ⟨hh.1,hh.2.1⟩)]
   exact h4 i s hi
def storeX(cx:Cx)(S:St)(t:TypeId)(s:SV)(y:XV):Option St:=match s,tdOf cx t,cellsX y with
 | .ptr g off,some d,some l=>match S.get g with
   | some B=>if l.length=d.size∧off+l.length≤B.cs.length then some (S.set g { B with cs:=splX B.cs off l }) else none
   | none=>none
 | _,_,_=>none
theorem storeX_ok(hcx:CxOk P cx)(H:Hyp M σ S w){t:TypeId}{s:SV}{y:XV}(h:storeX cx S t s y=some S')(hm:∀g,S'.ac.testBit g=true→M g){u v:Value}(hu:∀τ,Agr S.nx σ τ→u=s.den τ)(hv:∀τ,Agr S.nx σ τ→v=y.den τ) :
  ∃w',(Instr.storeAt t u v).run P w=.ok () w'∧Aft M σ S w (.v (.one (.con undef))) S' undef w':=by
 unfold storeX at h
 split at h
 ·rename_i g off d l hd hl
  split at h
  ·rename_i B hB
   split at h
   ·rename_i hc
    cases h
    have hmg:M g:=hm g (by show(S.ac ||| 2^g).testBit g=true;rw[tb_or,xe,Bool.or_true])
    have hs0:=H.sat σ (Agr.refl _ _)
    have hbk:=hs0.blk g B hmg hB
    obtain⟨cs,h1,h2,h3,h4⟩:=id hbk
    obtain⟨c1,c2⟩:=cellsX_ok hl σ
    rw[←hv σ (Agr.refl _ _)] at c1
    have hrun:=store_run (P:=P) (hcx t d hd) c1 (by rw[qw];exact hc.1) h1 (.inl rfl) (off:=off) (by rw[qw];omega) c2
    have hsame:∀τ,Agr S.nx σ τ→dens τ l=dens σ l:=fun τ hτ=>by
     have:=(cellsX_ok hl τ).1
     rw[←hv τ hτ,c1] at this
     exact this.symm
    obtain⟨r1,r2,r3,r4⟩:=yj (σ g) (dens σ l) off w
    refine⟨_,by rw[hu σ (Agr.refl _ _)];exact hrun,aft_set H hmg hB r1 r2 r3 r4 (fun b hb=>heap_setCells_other (σ g) (dens σ l) off w b hb) (fun τ hτ=>?_) (fun _ _=>rfl)⟩
    have:=(H.sat τ hτ).blk g B hmg hB
    rw[hτ g (H.lt g B hB)] at this
    rw[←hsame τ hτ]
    exact blk_write this hc.2
   ·cases h
  ·cases h
 ·cases h
theorem aft_alloc(H:Hyp M σ S w){t:TypeId}{l:List SV}{cs:Array Value}(hc:∀τ,Agr S.nx σ τ→cs.toList=dens τ l){x:XV}{v:Value}(hv:∀τ,Agr S.nx σ τ→τ S.nx=w.heap.size→v=x.den τ) :
  Aft M σ S w x (newS S ⟨t,l,none⟩ none) v (w.alloc (.cells cs t)):=by
 refine aft_new (w':=w.alloc (.cells cs t)) H 0 (by simp) rfl rfl rfl (fun b hb=>Sy.alloc_heap w _ b (by omega)) (fun τ hτ _=>?_) (fun τ h1 h2 _=>hv τ h1 h2)
 have hs:cs.size=l.length:=by rw[←Array.length_toList,hc τ hτ,qw]
 refine⟨cs,heap_alloc_new w _,Nat.le_of_eq hs.symm,hs,fun i s hi=>?_⟩
 rw[←Array.getElem?_toList,hc τ hτ,ve,hi];rfl
def boxX(S:St)(t:TypeId)(y:XV):Option (XV×St):=match cellsX y with
 | some l=>some (.v (.one (.ptr S.nx 0)),newS S ⟨t,l,none⟩ none)
 | none=>none
theorem boxX_ok(H:Hyp M σ S w){t:TypeId}{y x:XV}(h:boxX S t y=some (x,S')){u:Value}(hu:∀τ,Agr S.nx σ τ→u=y.den τ):∃v w',(Instr.box t u).run P w=.ok v w'∧Aft M σ S w x S' v w':=by
 unfold boxX at h
 split at h
 ·rename_i l hl
  cases h
  exact⟨.pointer (some ⟨w.heap.size,0,none⟩),w.alloc (.cells u.cells t),rfl,aft_alloc H (fun τ hτ=>by rw[hu τ hτ];exact(cellsX_ok hl τ).1) (fun τ _ h2=>by simp[XV.den,TV.den,SV.den,h2])⟩
 ·cases h
def allocX(cx:Cx)(S:St)(t:TypeId):Option (XV×St):=match tdOf cx t with
 | some d=>some (.v (.one (.ptr S.nx 0)),newS S ⟨t,d.zero.map .con,none⟩ none)
 | none=>none
theorem allocX_ok(hcx:CxOk P cx)(H:Hyp M σ S w){t:TypeId}{x:XV}(h:allocX cx S t=some (x,S')):∃v w',(Instr.alloc t true (.tuple #[])).run P w=.ok v w'∧Aft M σ S w x S' v w':=by
 unfold allocX at h
 split at h
 ·rename_i d hd
  cases h
  obtain⟨i,hi1,hi2,hi3,z,hz1,hz2⟩:=yl (hcx t d hd)
  exact⟨.pointer (some ⟨w.heap.size,0,none⟩),w.alloc (.cells z.cells t),by simp[Instr.alloc,zeroValue,typeInfo,hi1,hz1,Sem.run_bind,newVar,newRow],aft_alloc H (fun τ hτ=>by rw[hz2,dens_con]) (fun τ _ h2=>by simp[XV.den,TV.den,SV.den,h2])⟩
 ·cases h
end
end Ev
end Go.Proofs.YtmadfhgiaonnlaaGreatDoor
