import Derived.Still
import Derived.Scope
import Derived.Test.YtmadfhgiaonnlaaGreatDoorPk7
set_option linter.unusedVariables false
set_option linter.unusedSimpArgs false
namespace Go.Proofs.YtmadfhgiaonnlaaGreatDoor
namespace Sy
open Go.RowKit
def bxTmp(S:St)(g:List (Nat×Nat)):Operand→Option Nat
 | .tmp d=>match look g d with
   | some n=>some n
   | none=>match look S.env d with
     | some (.v (.one (.var n)))=>(boxOf S n).map fun _=>n
     | some (.v (.one (.ptr n _)))=>(boxOf S n).map fun _=>n
     | _=>none
 | _=>none
def scan(S:St):List Oper→List (Nat×Nat)→List Nat
 | [],_=>[]
 | o::r,g=>match o.op with
   | .move x|.assign x|.nilCheck x|.fieldAddr _ x _=>match o.dst,bxTmp S g x with
     | some d,some n=>scan S r ((d,n)::g)
     | _,_=>scan S r g
   | .makeFunc _ first cap=>first.toList.filterMap (bxTmp S g)++(cap.toList.filterMap (bxTmp S g)++scan S r g)
   | .call { callee:=.builtin _,args:=_,argTypes:=_ }=>scan S r g
   | .call c=>c.args.toList.filterMap (bxTmp S g)++scan S r g
   | .store _ _ y=>(match bxTmp S g y with|some n=>[n]|none=>[])++scan S r g
   | _=>scan S r g
def Code.opers:Code→List Oper
 | .region _ ops _=>ops.toList
 | .seq a b=>Code.opers a++Code.opers b
 | .cond _ a b=>Code.opers a++Code.opers b
 | .block _ c=>Code.opers c
 | .loop c=>Code.opers c
 | .scope c=>Code.opers c
 | _=>[]
def fitC(S:St)(tb:Tab):List (Option SV)→List CT→Bool
 | [],[]=>true
 | some s::r,ct::l=>S.has tb s ct && fitC S tb r l
 | _,_=>false
def ixB(S:St)(l:List CT)(cs:List (Option SV)):Bool:=(List.range l.length).all fun i=>match l[i]? with
 | some (.idx d)=>decide (d≤i) && (match l[i-d]? with|some ct=>ct.frozen|none=>false) && (match cs[i]?,cs[i-d]? with
   | some (some s),some (some x)=>match S.lin s,S.len x with
     | some (k,n),some m=>decide (k=.i64) && (S.slTy x).isSome && S.ent n && S.ent ((m.sub n).pl (-1))
     | _,_=>false
   | _,_=>false)
 | _=>true
def pub1(tb:Tab)(S:St)(n:Nat):St:=match boxOf S n with
 | some b=>match tb.flat b.t with
   | some l=>if decide (0<l.length) && decide (n<S.nv) && fitC S tb b.cs l && ixB S l b.cs then { S with ty:=(n,.pt 2 b.t)::S.ty,bx:=S.bx.filter fun c=>decide (c.n≠n) } else S
   | none=>S
 | none=>S
def pubs(tb:Tab)(S:St)(l:List Oper):St:=(scan S l []).foldl (pub1 tb) S
section
variable{P:Program}{cx:Cx}{W0:World}{S:St}{base:Nat}{ρ:Val}{T T':Nat→Prop}{w w':World}{a:Act}{T0:Nat→Prop}{w0:World}{PU:Bool}{N:Nat}
theorem fitC_ok(hs:SatW cx.tb W0 S base ρ T w):∀{cs:List (Option SV)} {l:List CT},fitC S cx.tb cs l=true→cs.length=l.length∧∀(i:Nat) (ct:CT),l[i]? = some ct→∃s,cs[i]? = some (some s)∧CV cx.tb W0 T w base ct (s.den ρ)
 | [],[],_=>⟨rfl,fun i ct hi=>by simp at hi⟩
 | some s::r,ct::l,h=>by
   simp only[fitC,Bool.and_eq_true] at h
   obtain⟨g1,g2⟩:=fitC_ok hs h.2
   refine⟨by simp[g1],fun i ct' hi=>?_⟩
   cases i with
   | zero=>simp only[List.getElem?_cons_zero,Option.some.injEq] at hi;subst hi;exact⟨s,rfl,uo hs h.1⟩
   | succ i=>exact g2 i ct' (by simpa using hi)
 | [],_::_,h=>by cases h
 | none::_,_,h=>by cases h
 | some _::_,[],h=>by cases h
theorem ixB_ok(hs:SatW cx.tb W0 S base ρ T w){l:List CT}{ss:List (Option SV)}(h:ixB S l ss=true){cs:Array Value}(hcs:∀(i:Nat) (s:SV),ss[i]? = some (some s)→cs[i]? = some (s.den ρ)){i d:Nat}(hi:i<l.length)(hid:l[i]? = some (.idx d)) :
  d≤i∧(∃ct:CT,l[(i-d)%l.length]? = some ct∧ct.frozen=true)∧∃n A m c,cs[i]? = some (.int .i64 n)∧0≤n∧cs[i-d]? = some (.slice A m c)∧n<(m:Int):=by
 have h1:=List.all_eq_true.1 h i (List.mem_range.2 hi)
 rw[hid] at h1
 simp only[Bool.and_eq_true,decide_eq_true_eq] at h1
 obtain⟨⟨h2,h3⟩,h4⟩:=h1
 split at h3
 ·rename_i ct hct
  refine⟨h2,⟨ct,by rw[Nat.mod_eq_of_lt (by omega)];exact hct,h3⟩,?_⟩
  split at h4
  ·rename_i s x hs1 hx1
   split at h4
   ·rename_i k n m hn hm
    simp only[Bool.and_eq_true,decide_eq_true_eq] at h4
    obtain⟨⟨⟨rfl,h5⟩,h6⟩,h7⟩:=h4
    obtain⟨y,hy⟩:=Option.isSome_iff_exists.1 h5
    obtain⟨m',e',lb⟩:=y
    obtain⟨v,rfl,hcv,-⟩:=slTy_ok hs hy
    obtain⟨A,len,c,hd0,-⟩:=hcv.slc
    have hd:(SV.var v).den ρ=.slice A len c:=hd0
    have e1:=hs.ent h6
    have e2:=hs.ent h7
    rw[Lin.qp,Lin.qc,jo hs hd hm] at e2
    exact⟨n.eval ρ,A,len,c,by rw[hcs i s hs1,yh hs hn],e1,by rw[hcs _ _ hx1];rw[hd],by omega⟩
   ·cases h4
  ·cases h4
 ·cases h3
theorem mod_pub1(tb:Tab)(htb:tb=cx.tb)(n:Nat)(hm:Mod cx W0 T0 w0 PU N S ρ T a w):(pub1 tb S n).nv=S.nv∧∃T',Ext T w T' w∧Mod cx W0 T0 w0 PU N (pub1 tb S n) ρ T' a w:=by
 subst htb
 have hno:S.nv=S.nv∧∃T',Ext T w T' w∧Mod cx W0 T0 w0 PU N S ρ T' a w:=⟨rfl,T,Ext.refl T w,hm⟩
 unfold pub1
 split
 ·rename_i b hb
  split
  ·rename_i l hl
   split
   ·rename_i hc
    simp only[Bool.and_eq_true,decide_eq_true_eq] at hc
    obtain⟨⟨⟨hpos,hn⟩,hfit⟩,hixb⟩:=hc
    have hs0:=hm.sat ρ (fun _ _=>rfl)
    obtain⟨hbm,hbn⟩:=boxOf_ok hb
    obtain⟨g,cs,b1,b2,b3,b4,b5,b6⟩:=hs0.bx b hbm
    rw[hbn] at b1
    obtain⟨f1,f2⟩:=fitC_ok hs0 hfit
    have hty:∀i v,cs[i]? = some v→∃ct,l[i%l.length]? = some ct∧CV cx.tb W0 T w 0 ct v:=by
     intro i v hv
     have hi:i<l.length:=by
      have:=(Array.getElem?_eq_some_iff.1 hv).1
      omega
     obtain⟨s,q1,q2⟩:=f2 i l[i] (List.getElem?_eq_getElem hi)
     have:=b6 i s q1
     rw[hv] at this
     injection this with this
     subst this
     exact⟨l[i],by rw[Nat.mod_eq_of_lt hi];exact List.getElem?_eq_getElem hi,q2.mono (Ext.refl T w) (Nat.zero_le _)⟩
    obtain⟨j1,j2⟩:=hs0.wt.join (g:=g) (Nat.le_trans hs0.lo b3) b4 (.inl rfl) hl hpos hty (by
     intro i d hi hid
     have hil:i<l.length:=by omega
     rw[Nat.mod_eq_of_lt hil] at hid
     exact ixB_ok hs0 hixb b6 hil hid)
    have hpv:CV cx.tb W0 (add T g) w w0.heap.size (.pt 2 b.t) (.pointer (some ⟨g,0,none⟩)):=by
     have hsz:cx.tb.sz b.t=l.length:=by simp[Tab.sz,hl]
     refine⟨g,0,rfl,.inr ⟨.inr rfl,fun _=>b3,b.t,⟨cs,(0,0),b4,by rw[hsz];omega⟩,fun k ct hk=>?_⟩⟩
     rw[hl] at hk
     simp only[Option.getD_some] at hk
     unfold Tab.ctAt
     rw[hl,Nat.zero_add]
     simp only[Option.bind_some]
     rw[Nat.mod_eq_of_lt (List.getElem?_eq_some_iff.1 hk).1]
     exact hk
    refine⟨rfl,add T g,j2,hm.size,hm.defers,⟨hm.hist.ext.trans j2,fun c hc=>?_,hm.hist.size,hm.hist.os,hm.hist.tape,hm.hist.output,hm.hist.keep⟩,fun ρ' hρ'=>?_,fun ρ' hρ'=>hm.env ρ' hρ'⟩
    ·rcases hc with hc|rfl
     ·exact hm.hist.new c hc
     ·exact .inr b3
    ·have hs:=hm.sat ρ' hρ'
     have hg:ρ' n=.pointer (some ⟨g,0,none⟩):=(hρ' n hn).trans b1
     refine⟨j1,hs.lo,hs.bs,fun k ct hk=>?_,hs.fs,fun c hc=>?_,fun c hc d hd=>?_⟩
     ·rcases List.mem_cons.1 hk with hk|hk
      ·cases hk;rw[hg];exact hpv
      ·exact(hs.ty k ct hk).mono j2 (Nat.le_refl _)
     ·obtain⟨hc1,hc2⟩:=List.mem_filter.1 hc
      obtain⟨g',cs',c1,c2,c3,c4,c5,c6⟩:=hs.bx c hc1
      refine⟨g',cs',c1,fun hT=>?_,c3,c4,c5,c6⟩
      rcases hT with hT|rfl
      ·exact c2 hT
      ·have hne:c.n≠b.n:=by rw[hbn];exact of_decide_eq_true hc2
       exact hs.ap c hc1 b hbm hne (by rw[c1,hbn,hg])
     ·exact hs.ap c (List.mem_filter.1 hc).1 d (List.mem_filter.1 hd).1
   ·exact hno
  ·exact hno
 ·exact hno
theorem mod_pubL(tb:Tab)(htb:tb=cx.tb):∀(l:List Nat) {S:St} {T:Nat→Prop},Mod cx W0 T0 w0 PU N S ρ T a w→(l.foldl (pub1 tb) S).nv=S.nv∧∃T',Ext T w T' w∧Mod cx W0 T0 w0 PU N (l.foldl (pub1 tb) S) ρ T' a w
 | [],S,T,hm=>⟨rfl,T,Ext.refl T w,hm⟩
 | n::l,S,T,hm=>by
   obtain⟨h1,T1,h2,h3⟩:=mod_pub1 tb htb n hm
   obtain⟨k1,T2,k2,k3⟩:=mod_pubL tb htb l h3
   exact⟨k1.trans h1,T2,h2.trans k2,k3⟩
theorem mod_pubs(tb:Tab)(htb:tb=cx.tb)(l:List Oper)(hm:Mod cx W0 T0 w0 PU N S ρ T a w):(pubs tb S l).nv=S.nv∧∃T',Ext T w T' w∧Mod cx W0 T0 w0 PU N (pubs tb S l) ρ T' a w:=mod_pubL tb htb _ hm
end
open Go.RowKit
inductive Ex where
 | nrm
 | ext (id:Nat)
 | ret
def Ex.exit:Ex→Exit
 | .nrm=>.normal
 | .ext i=>.exit i
 | .ret=>.ret
def loops:Code→Nat
 | .seq a b=>loops a+loops b
 | .cond _ a b=>loops a+loops b
 | .block _ c=>loops c
 | .loop c=>1+loops c
 | .scope c=>loops c
 | _=>0
structure Cfg where
 cx:Cx
 step:x9
 N:Nat
 PU:Bool
 heads:List Head
 drawn:Array Oper→St→Option (List St)
 sp:Bool:=false
def uw(cx:Cx):x9:=fun S o=>(stepA cx S o).map fun out=>⟨out,.no,true⟩
abbrev Outs:=List (Ex×St)
def bindO(f:St→Option Outs):Outs→Option Outs
 | []=>some []
 | (x,S)::r=>match(match x with
   | .nrm=>f S
   | y=>some [(y,S)]),bindO f r with
   | some l,some m=>some (l++m)
   | _,_=>none
def catO(x y:Option Outs):Option Outs:=match x,y with
 | some l,some m=>some (l++m)
 | _,_=>none
def condOf(S:St):Operand→Option (Option Tmp×BE)
 | .tmp d=>match look S.env d with
   | some (.v (.one s))=>(S.be s).map fun b=>(some d,b)
   | _=>none
 | .const (.bool b)=>some (none,.tt b)
 | _=>none
def unBlock(id:Nat):Ex→Ex
 | .ext i=>if i=id then .nrm else .ext i
 | x=>x
def roundOk(tb:Tab)(S Sh S':St)(h:Head)(gone:List Nat):Bool:=leq tb S S' h gone Sh && match instL Sh h.ms,instL S' h.ms with
 | some m0,some m1=>S'.ent (m0.pl (-1)) && S'.ent ((m0.sub m1).pl (-1))
 | _,_=>false
def isNrm:Ex→Bool
 | .nrm=>true
 | _=>false
def nePart:BE→Bool→Option Lin
 | .eq l,false=>some l
 | .not (.eq l),true=>some l
 | _,_=>none
def brs(sp:Bool)(S:St)(d:Tmp)(e:BE)(β:Bool):List St:=if sp then(match nePart e β with
  | some l=>if l.ts.all (fun p=>decide (p.2<S.nv)) then [{ assume S d e β with fs:=l.pl (-1)::(assume S d e β).fs },{ assume S d e β with fs:=(l.sc (-1)).pl (-1)::(assume S d e β).fs }] else [assume S d e β]
  | none=>[assume S d e β]) else [assume S d e β]
def runB(f:St→Option Outs):List St→Option Outs
 | []=>some []
 | S::r=>catO (if dead S then some [] else f S) (runB f r)
def exec(c:Cfg):Nat→Code→St→Option Outs
 | _,.skip,S=>some [(.nrm,S)]
 | _,.ret,S=>some [(.ret,S)]
 | _,.exit id,S=>some [(.ext id,S)]
 | _,.label _,S=>some [(.nrm,S)]
 | _,.region _ ops false,S=>(jd c.step c.N c.PU ops ops.toList (pubs c.cx.tb S ops.toList)).map fun l=>l.map fun S'=>(.nrm,S')
 | _,.region _ ops true,S=>(c.drawn ops (pubs c.cx.tb S ops.toList)).map fun l=>l.map fun S'=>(.nrm,S')
 | k,.seq a b,S=>match exec c k a S with
   | some l=>bindO (exec c (k+loops a) b) l
   | none=>none
 | k,.cond x a b,S=>match condOf S x with
   | some (_,.tt true)=>exec c k a S
   | some (_,.tt false)=>exec c (k+loops a) b S
   | some (some d,e)=>catO (runB (exec c k a) (brs c.sp S d e true)) (runB (exec c (k+loops a) b) (brs c.sp S d e false))
   | _=>none
 | k,.block id b,S=>(exec c k b S).map fun l=>l.map fun p=>(unBlock id p.1,p.2)
 | k,.scope b,S=>exec c k b S
 | k,.loop b,S=>match c.heads[k]? with
   | some h=>match headSt (pubs c.cx.tb S (Code.opers b)) h (Code.mods b) with
     | some Sh=>if leq c.cx.tb (pubs c.cx.tb S (Code.opers b)) (pubs c.cx.tb S (Code.opers b)) h (Code.mods b) Sh then match exec c (k+1) b Sh with
       | some l=>if l.all (fun p=>!isNrm p.1 || roundOk c.cx.tb (pubs c.cx.tb S (Code.opers b)) Sh p.2 h (Code.mods b)) then some (l.filter fun p=>!isNrm p.1) else none
       | none=>none
     else none
     | none=>none
   | none=>none
 | _,_,_=>none
section
variable{P:Program}{cx:Cx}{W0:World}{S:St}{base:Nat}{ρ:Val}{T T':Nat→Prop}{w w':World}{a:Act}{T0:Nat→Prop}{w0:World}{PU:Bool}{N:Nat}
theorem bindO_mem{f:St→Option Outs}:∀{l r:Outs},bindO f l=some r→∀p∈l,match p.1 with
  | .nrm=>∃m,f p.2=some m∧∀q∈m,q∈r
  | _=>p∈r
 | [],r,h,p,hp=>by cases hp
 | (x,S)::l,r,h,p,hp=>by
   unfold bindO at h
   split at h
   ·rename_i m1 m2 h1 h2
    cases h
    have ih:=bindO_mem h2
    rcases List.mem_cons.1 hp with rfl|hp
    ·cases x with
     | nrm=>exact⟨m1,h1,fun q hq=>by simp[hq]⟩
     | ext i=>cases h1;simp
     | ret=>cases h1;simp
    ·have:=ih p hp
     obtain⟨y,S2⟩:=p
     cases y with
     | nrm=>
       obtain⟨m,g1,g2⟩:=this
       exact⟨m,g1,fun q hq=>by simp[g2 q hq]⟩
     | ext i=>exact List.mem_append.2 (.inr this)
     | ret=>exact List.mem_append.2 (.inr this)
   ·cases h
def DrawOk(P:Program)(cx:Cx)(W0:World)(T0:Nat→Prop)(w0:World)(PU:Bool)(N:Nat)(f:Array Oper→St→Option (List St)):Prop:=
 ∀(id:Nat) (ops:Array Oper) (S:St) (outs:List St),f ops S=some outs→∀(ρ:Val) (T:Nat→Prop) (a:Act) (w:World) (Q:Exit→Act→World→Prop),Mod cx W0 T0 w0 PU N S ρ T a w →
  (∀S' a' w',S'∈outs→Nx cx W0 T0 w0 PU N S ρ T w S' a' w'→Q .normal a' w')→(Code.region id ops true).wp P Q a w
def Post(cx:Cx)(W0:World)(T0:Nat→Prop)(w0:World)(PU:Bool)(N:Nat)(S:St)(ρ:Val)(T:Nat→Prop)(w:World)(outs:Outs):Exit→Act→World→Prop:=
 fun e a' w'=>∃p∈outs,e=p.1.exit∧Nx cx W0 T0 w0 PU N S ρ T w p.2 a' w'
theorem Post.nx{S1:St}{ρ1:Val}{T1:Nat→Prop}{w1:World}{l m:Outs}(h0:∀n,n<S.nv→ρ1 n=ρ n)(h1:S.nv≤S1.nv)(h2:Ext T w T1 w1)(hs:∀q∈m,q∈l){e:Exit}{a':Act}{w':World}
  (h:Post cx W0 T0 w0 PU N S1 ρ1 T1 w1 m e a' w'):Post cx W0 T0 w0 PU N S ρ T w l e a' w':=by
 obtain⟨p,hp,he,hn⟩:=h
 exact⟨p,hs p hp,he,Nx.trans h0 h1 h2 hn⟩
theorem cond_val{x:Operand}{d:Option Tmp}{b:BE}(h:condOf S x=some (d,b))(hm:Mod cx W0 T0 w0 PU N S ρ T a w) :
  a.eval x=.bool (b.den ρ)∧(∀t,d=some t→∃s,look S.env t=some (.v (.one s))∧S.be s=some b∧a.tmps.getD t undef=.bool (b.den ρ)):=by
 unfold condOf at h
 split at h
 ·rename_i t
  split at h
  ·rename_i s hs
   cases hq:S.be s with
   | none=>rw[hq] at h;cases h
   | some b'=>
     rw[hq] at h
     have h:=oi h
     injection h with h1 h2
     subst h1;subst h2
     have hv:a.tmps.getD t undef=.bool (b'.den ρ):=(hm.env ρ (fun _ _=>rfl) t _ hs).trans (xu (hm.sat ρ (fun _ _=>rfl)) hq)
     exact⟨hv,fun t' ht=>by cases ht;exact⟨s,hs,hq,hv⟩⟩
  ·cases h
 ·cases h
  exact⟨rfl,fun t ht=>by cases ht⟩
 ·cases h
theorem runB_mem{f:St→Option Outs}:∀{l:List St} {outs:Outs},runB f l=some outs→∀S1∈l,dead S1=false→∃l1,f S1=some l1∧∀q∈l1,q∈outs
 | [],outs,h,S1,hS,_=>by cases hS
 | S::r,outs,h,S1,hS,hd=>by
   unfold runB catO at h
   split at h
   ·rename_i l1 l2 h1 h2
    cases h
    rcases List.mem_cons.1 hS with rfl|hS
    ·rw[if_neg (by rw[hd];simp)] at h1
     exact⟨l1,h1,fun q hq=>List.mem_append.2 (.inl hq)⟩
    ·obtain⟨l3,h3,h4⟩:=runB_mem h2 S1 hS hd
     exact⟨l3,h3,fun q hq=>List.mem_append.2 (.inr (h4 q hq))⟩
   ·cases h
theorem brs_ok{sp:Bool}{d:Tmp}{e:BE}{β:Bool}(hm:Mod cx W0 T0 w0 PU N (assume S d e β) ρ T a w)(hden:∀ρ':Val,(∀n,n<S.nv→ρ' n=ρ n)→e.den ρ'=β) :
  ∃S1∈brs sp S d e β,Mod cx W0 T0 w0 PU N S1 ρ T a w∧S1.nv=S.nv:=by
 unfold brs
 split
 ·split
  ·rename_i l hl
   split
   ·rename_i hall
    have hne:l.eval ρ≠0:=by
     have h1:=hden ρ (fun _ _=>rfl)
     cases e<;>cases β<;>simp only[nePart,Option.some.injEq,reduceCtorEq] at hl
     ·subst hl
      exact of_decide_eq_false h1
     ·rename_i e1
      cases e1<;>simp only[nePart,Option.some.injEq,reduceCtorEq] at hl
      subst hl
      simp only[BE.den,Bool.not_eq_true'] at h1
      exact of_decide_eq_false h1
    have key:∀f:Lin,(∀ρ':Val,(∀n,n<S.nv→ρ' n=ρ n)→0≤f.eval ρ')→Mod cx W0 T0 w0 PU N { assume S d e β with fs:=f::(assume S d e β).fs } ρ T a w:=by
     intro f hf
     refine⟨hm.size,hm.defers,hm.hist,fun ρ' hρ'=>?_,fun ρ' hρ'=>hm.env ρ' hρ'⟩
     obtain⟨g1,g2,g3,g4,g5,g6,g7⟩:=hm.sat ρ' hρ'
     refine⟨g1,g2,g3,g4,fun f' hf'=>?_,g6,g7⟩
     rcases List.mem_cons.1 hf' with rfl|hf'
     ·exact hf ρ' hρ'
     ·exact g5 f' hf'
    rcases Int.lt_or_gt_of_ne hne with h|h
    ·refine⟨_,List.mem_cons_of_mem _ List.mem_cons_self,key _ (fun ρ' hρ'=>?_),rfl⟩
     rw[Lin.qp,Lin.yu,lin_agree hall hρ'];omega
    ·refine⟨_,List.mem_cons_self,key _ (fun ρ' hρ'=>?_),rfl⟩
     rw[Lin.qp,lin_agree hall hρ'];omega
   ·exact⟨_,List.mem_cons_self,hm,rfl⟩
  ·exact⟨_,List.mem_cons_self,hm,rfl⟩
 ·exact⟨_,List.mem_cons_self,hm,rfl⟩
theorem ui{c:Cfg}(ht:Truth P c.cx W0 c.step)(hd:DrawOk P c.cx W0 T0 w0 c.PU c.N c.drawn):∀(code:Code) (k:Nat) {S:St} {ρ:Val} {T:Nat→Prop} {a:Act} {w:World} {outs:Outs},exec c k code S=some outs →
  Mod c.cx W0 T0 w0 c.PU c.N S ρ T a w→code.wp P (Post c.cx W0 T0 w0 c.PU c.N S ρ T w outs) a w
 | .skip,k,S,ρ,T,a,w,outs,h,hm=>by
   simp only[exec,Option.some.injEq] at h;subst h
   exact wp_skip ⟨(.nrm,S),by simp,rfl,Nx.refl hm⟩
 | .ret,k,S,ρ,T,a,w,outs,h,hm=>by
   simp only[exec,Option.some.injEq] at h;subst h
   exact wp_ret ⟨(.ret,S),by simp,rfl,Nx.refl hm⟩
 | .exit id,k,S,ρ,T,a,w,outs,h,hm=>by
   simp only[exec,Option.some.injEq] at h;subst h
   exact wp_exit ⟨(.ext id,S),by simp,rfl,Nx.refl hm⟩
 | .region id ops false,k,S,ρ,T,a,w,outs,h,hm=>by
   simp only[exec] at h
   obtain⟨hnv,Tq,hxq,hmq⟩:=mod_pubs c.cx.tb rfl ops.toList hm
   refine wp_mono (Q:=Post c.cx W0 T0 w0 c.PU c.N (pubs c.cx.tb S ops.toList) ρ Tq w outs) ?_ (fun e a' w' hp=>hp.nx (fun _ _=>rfl) (Nat.le_of_eq hnv.symm) hxq (fun q hq=>hq))
   generalize pubs c.cx.tb S ops.toList=Sq at *
   clear hm hnv hxq
   cases hq:jd c.step c.N c.PU ops ops.toList Sq with
   | none=>rw[hq] at h;cases h
   | some l=>
     rw[hq] at h
     have h:=oi h
     subst h
     refine wp_region_list (runOps_ok ht ops.toList hq hmq (fun S' a' w' hS hn=>⟨(.nrm,S'),by simp[hS],rfl,hn⟩))
 | .region id ops true,k,S,ρ,T,a,w,outs,h,hm=>by
   simp only[exec] at h
   obtain⟨hnv,Tq,hxq,hmq⟩:=mod_pubs c.cx.tb rfl ops.toList hm
   refine wp_mono (Q:=Post c.cx W0 T0 w0 c.PU c.N (pubs c.cx.tb S ops.toList) ρ Tq w outs) ?_ (fun e a' w' hp=>hp.nx (fun _ _=>rfl) (Nat.le_of_eq hnv.symm) hxq (fun q hq=>hq))
   generalize pubs c.cx.tb S ops.toList=Sq at *
   clear hm hnv hxq
   cases hq:c.drawn ops Sq with
   | none=>rw[hq] at h;cases h
   | some l=>
     rw[hq] at h
     have h:=oi h
     subst h
     exact hd id ops Sq l hq ρ Tq a w _ hmq (fun S' a' w' hS hn=>⟨(.nrm,S'),by simp[hS],rfl,hn⟩)
 | .seq x y,k,S,ρ,T,a,w,outs,h,hm=>by
   simp only[exec] at h
   split at h
   ·rename_i l hl
    have hmem:=bindO_mem h
    refine wp_seq (wp_mono (ui ht hd x k hl hm) ?_)
    rintro e a1 w1 ⟨p,hp,rfl,hn⟩
    have hp':=hmem p hp
    obtain⟨ex,S1⟩:=p
    cases ex with
    | nrm=>
      obtain⟨m,h1,h2⟩:=hp'
      obtain⟨ρ1,T1,g1,g2,g3,g4⟩:=hn
      exact wp_mono (ui ht hd y _ h1 g4) (fun e a' w' hpst=>hpst.nx g1 g2 g3 h2)
    | ext i=>exact⟨_,hp',rfl,hn⟩
    | ret=>exact⟨_,hp',rfl,hn⟩
   ·cases h
 | .cond x y z,k,S,ρ,T,a,w,outs,h,hm=>by
   simp only[exec] at h
   split at h
   ·rename_i d hc
    obtain⟨hv,-⟩:=cond_val hc hm
    exact wp_cond_true hv (ui ht hd y k h hm)
   ·rename_i d hc
    obtain⟨hv,-⟩:=cond_val hc hm
    exact wp_cond_false hv (ui ht hd z _ h hm)
   ·rename_i d e hnt hnf hc
    obtain⟨hv,hv2⟩:=cond_val hc hm
    obtain⟨s,hs1,hs2,hv3⟩:=hv2 d rfl
    unfold catO at h
    split at h
    ·rename_i l1 l2 h1 h2
     cases h
     have hasm:=mod_assume hm hs1 hs2 hv3
     have hden:∀ρ':Val,(∀n,n<S.nv→ρ' n=ρ n)→∀β,a.tmps.getD d undef=.bool β→e.den ρ'=β:=fun ρ' hρ' β hβ=>by
      have q1:=hm.env ρ' hρ' d _ hs1
      have q2:=xu (hm.sat ρ' hρ') hs2
      have q3:a.tmps.getD d undef=s.den ρ':=q1
      rw[hβ,q2] at q3
      injection q3 with q3
      exact q3.symm
     refine wp_cond_split hv (fun ht1=>?_) (fun hf1=>?_)
     ·rw[ht1] at hasm
      obtain⟨S1,hS1,hm1,hnv⟩:=brs_ok (sp:=c.sp) hasm (fun ρ' hρ'=>hden ρ' hρ' true (by rw[hv3,ht1]))
      obtain⟨l',hl',hsub⟩:=runB_mem h1 S1 hS1 (by
       cases hq:dead S1 with
       | false=>rfl
       | true=>exact(mod_dead hm1 hq).elim)
      exact wp_mono (ui ht hd y k hl' hm1) (fun e' a' w' hpst=>Post.nx (S1:=S1) (fun _ _=>rfl) (by omega) (Ext.refl T w) (fun q hq=>List.mem_append.2 (.inl (hsub q hq))) hpst)
     ·rw[hf1] at hasm
      obtain⟨S1,hS1,hm1,hnv⟩:=brs_ok (sp:=c.sp) hasm (fun ρ' hρ'=>hden ρ' hρ' false (by rw[hv3,hf1]))
      obtain⟨l',hl',hsub⟩:=runB_mem h2 S1 hS1 (by
       cases hq:dead S1 with
       | false=>rfl
       | true=>exact(mod_dead hm1 hq).elim)
      exact wp_mono (ui ht hd z _ hl' hm1) (fun e' a' w' hpst=>Post.nx (S1:=S1) (fun _ _=>rfl) (by omega) (Ext.refl T w) (fun q hq=>List.mem_append.2 (.inr (hsub q hq))) hpst)
    ·cases h
   ·cases h
 | .block id b,k,S,ρ,T,a,w,outs,h,hm=>by
   simp only[exec] at h
   cases hq:exec c k b S with
   | none=>rw[hq] at h;cases h
   | some l=>
     rw[hq] at h
     have h:=oi h
     subst h
     refine wp_block (wp_mono (ui ht hd b k hq hm) ?_)
     rintro e a1 w1 ⟨p,hp,rfl,hn⟩
     have hmem:(unBlock id p.1,p.2)∈l.map fun p=>(unBlock id p.1,p.2):=List.mem_map.2 ⟨p,hp,rfl⟩
     obtain⟨ex,S1⟩:=p
     cases ex with
     | nrm=>exact⟨_,hmem,rfl,hn⟩
     | ret=>exact⟨_,hmem,rfl,hn⟩
     | ext i=>
       show Exit.inBlock id _ (.exit i) a1 w1
       simp only[Exit.inBlock]
       simp only[unBlock] at hmem
       split
       ·rename_i e;rw[if_pos e] at hmem;exact⟨_,hmem,rfl,hn⟩
       ·rename_i e;rw[if_neg e] at hmem;exact⟨_,hmem,rfl,hn⟩
 | .scope b,k,S,ρ,T,a,w,outs,h,hm=>by
   simp only[exec] at h
   refine wp_scope_straight (wp_mono (ui ht hd b k h hm) ?_)
   rintro e a1 w1 ⟨p,hp,rfl,hn⟩
   obtain⟨ex,S1⟩:=p
   cases ex<;>exact⟨_,hp,rfl,hn⟩
 | .loop b,k,S,ρ,T,a,w,outs,h,hm=>by
   simp only[exec] at h
   obtain⟨hnv,Tq,hxq,hmq⟩:=mod_pubs c.cx.tb rfl (Code.opers b) hm
   refine wp_mono (Q:=Post c.cx W0 T0 w0 c.PU c.N (pubs c.cx.tb S (Code.opers b)) ρ Tq w outs) ?_ (fun e a' w' hp=>hp.nx (fun _ _=>rfl) (Nat.le_of_eq hnv.symm) hxq (fun q hq=>hq))
   generalize pubs c.cx.tb S (Code.opers b)=Sq at *
   clear hm hnv hxq
   split at h
   ·rename_i hd' hh
    split at h
    ·rename_i Sh hSh
     split at h
     ·rename_i hleq
      split at h
      ·rename_i l hl
       split at h
       ·rename_i hall
        cases h
        obtain⟨ρh,g1,g2,g3,-⟩:=leq_ok hSh hleq hmq hmq (fun _ _=>rfl) (Ext.refl Tq w)
        refine wp_loop (fun a1 w1=>∃ρ1 T1,(∀n,n<Sq.nv→ρ1 n=ρ n)∧Ext Tq w T1 w1∧Mod c.cx W0 T0 w0 c.PU c.N Sh ρ1 T1 a1 w1) (fun a1 _=>(slotEval a1 hd'.ms).toNat) ⟨ρh,Tq,g1,Ext.refl Tq w,g3⟩ ?_
        rintro a1 w1 ⟨ρ1,T1,k1,k2,k3⟩
        refine wp_mono (ui ht hd b (k+1) hl k3) ?_
        rintro e a2 w2 ⟨p,hp,rfl,hn⟩
        have hpa:=List.all_eq_true.1 hall p hp
        obtain⟨ex,S2⟩:=p
        obtain⟨ρ2,T2,n1,n2,n3,n4⟩:=hn
        have hag:∀n,n<Sq.nv→ρ2 n=ρ n:=fun n hn=>(n1 n (by omega)).trans (k1 n hn)
        cases ex with
        | nrm=>
          simp only[isNrm,Bool.not_true,Bool.false_or,roundOk,Bool.and_eq_true] at hpa
          obtain⟨hleq2,hms⟩:=hpa
          obtain⟨ρ3,q1,q2,q3,-⟩:=leq_ok hSh hleq2 hmq n4 hag (k2.trans n3)
          refine⟨⟨ρ3,T2,q1,k2.trans n3,q3⟩,?_⟩
          split at hms
          ·rename_i m0 m1 hm0 hm1
           simp only[Bool.and_eq_true] at hms
           have e0:=instL_ok (k3.env ρ2 n1) hm0
           have e1:=instL_ok (n4.env ρ2 (fun _ _=>rfl)) hm1
           have f0:=(n4.sat ρ2 (fun _ _=>rfl)).ent hms.1
           have f1:=(n4.sat ρ2 (fun _ _=>rfl)).ent hms.2
           rw[Lin.qp,e0] at f0
           rw[Lin.qp,Lin.qc,e0,e1] at f1
           show(slotEval a2 hd'.ms).toNat<(slotEval a1 hd'.ms).toNat
           omega
          ·cases hms
        | ext i=>exact⟨_,List.mem_filter.2 ⟨hp,rfl⟩,rfl,ρ2,T2,hag,by omega,k2.trans n3,n4⟩
        | ret=>exact⟨_,List.mem_filter.2 ⟨hp,rfl⟩,rfl,ρ2,T2,hag,by omega,k2.trans n3,n4⟩
       ·cases h
      ·cases h
     ·cases h
    ·cases h
   ·cases h
 | .label l,k,S,ρ,T,a,w,outs,h,hm=>by
   simp only[exec,Option.some.injEq] at h;subst h
   exact wp_label ⟨(.nrm,S),by simp,rfl,Nx.refl hm⟩
 | .goto l,k,S,ρ,T,a,w,outs,h,hm=>by simp only[exec] at h;cases h
 | .refuse l,k,S,ρ,T,a,w,outs,h,hm=>by simp only[exec] at h;cases h
 | .rangeFunc f p x y,k,S,ρ,T,a,w,outs,h,hm=>by simp only[exec] at h;cases h
theorem pure_one{o:Oper}{S':St}(hcx:CxOk P cx)(h:one (uw cx) N PU S o=some S')(hm:Mod cx W0 T0 w0 PU N S ρ T a w) :
  ∃v,(execOp a.eval o).run P w=.ok (.value v) w∧Nx cx W0 T0 w0 PU N S ρ T w S' (a.put o.dst v) w:=by
 have htr:Truth P cx W0 (uw cx):=by
  intro S o r hr base Ω T w a H
  unfold uw at hr
  cases hq:stepA cx S o with
  | none=>rw[hq] at hr;cases hr
  | some out=>
    rw[hq] at hr
    cases hr
    exact(stepA_ok hcx hq H).step H
 have hone:=one_ok htr h hm
 unfold one uw at h
 cases hq:stepA cx S o with
 | none=>rw[hq] at h;cases h
 | some out=>
   obtain⟨v,h1,-⟩:=stepA_ok hcx hq ⟨⟨ρ,fun _ _=>rfl⟩,hm.sat,hm.env⟩
   rw[h1] at hone
   exact⟨v,h1,hone⟩
theorem runStill_ok(hcx:CxOk P cx){ops:Array Oper}{Q:Act→Prop}{w:World}:∀(l:List Oper) {S:St} {ρ:Val} {T:Nat→Prop} {a:Act} {outs:List St},jd (uw cx) N PU ops l S=some outs→Mod cx W0 T0 w0 PU N S ρ T a w →
  (∀S' a',S'∈outs→Nx cx W0 T0 w0 PU N S ρ T w S' a' w→Q a')→wpStill P ops w Q l a
 | [],S,ρ,T,a,outs,h,hm,hQ=>by
   cases h
   exact hQ S a (by simp) (Nx.refl hm)
 | o::rest,S,ρ,T,a,outs,h,hm,hQ=>by
   unfold jd at h
   unfold wpStill
   have hgo:∀{S1:St} {outs1:List St},(∀S',S'∈outs1→S'∈outs)→Mod cx W0 T0 w0 PU N S1 ρ T a w→S1.nv=S.nv→∀{S2:St},one (uw cx) N PU S1 o=some S2→jd (uw cx) N PU ops rest S2=some outs1→o.still P a w (wpStill P ops w Q rest):=by
    intro S1 outs1 hsub hm1 hnv S2 h1 h2
    obtain⟨v,hv,ρ',T',g1,g2,g3,g4⟩:=pure_one hcx h1 hm1
    unfold Oper.still
    rw[hv,Oper.stillUpon_value]
    exact runStill_ok hcx rest h2 g4 (fun S' a' hS hn=>hQ S' a' (hsub S' hS) (Nx.trans (fun n hn=>g1 n (by omega)) (by omega) g3 hn))
   split at h
   ·rename_i hg
    rw[if_pos (by simp[Region.wanted,hg])]
    split at h
    ·rename_i S2 h1
     exact hgo (fun _ h=>h) hm rfl h1 h
    ·cases h
   ·rename_i j want hg
    split at h
    ·cases h
    ·rename_i d hgd
     split at h
     ·rename_i hdN
      have hy:=guard_not hgd hm hdN
      rw[if_neg (by simp only[Region.wanted,hg,hy];simp)]
      exact runStill_ok hcx rest h (mod_drop hm o.dst) (fun S' a' hS hn=>hQ S' a' hS (by
       obtain⟨ρ',T',g1,g2,g3,g4⟩:=hn
       have hnv:(drop S o.dst).nv=S.nv:=by cases o.dst<;>rfl
       exact⟨ρ',T',fun n hn=>g1 n (by omega),by omega,g3,g4⟩))
     ·cases h
    ·rename_i d b hgd
     split at h
     ·rename_i hdN
      obtain⟨s,hs1,hs2,hv,hy⟩:=guard_val hgd hm hdN
      have hwant:Region.wanted o (yielded ops a.tmps)=(b.den ρ == want):=by
       simp only[Region.wanted,hg,hy]
       cases b.den ρ<;>cases want<;>rfl
      split at h
      ·rename_i β
       split at h
       ·rename_i hβ
        rw[if_pos (by rw[hwant];simp[BE.den,hβ])]
        split at h
        ·rename_i S2 h1
         exact hgo (fun _ h=>h) hm rfl h1 h
        ·cases h
       ·rename_i hβ
        rw[if_neg (by rw[hwant];simp[BE.den,hβ])]
        exact runStill_ok hcx rest h (mod_drop hm o.dst) (fun S' a' hS hn=>hQ S' a' hS (by
         obtain⟨ρ',T',g1,g2,g3,g4⟩:=hn
         have hnv:(drop S o.dst).nv=S.nv:=by cases o.dst<;>rfl
         exact⟨ρ',T',fun n hn=>g1 n (by omega),by omega,g3,g4⟩))
      ·unfold both at h
       split at h
       ·rename_i l1 l2 hl1 hl2
        cases h
        have hasm:=mod_assume (β:=b.den ρ) hm hs1 hs2 hv
        by_cases hb:b.den ρ=want
        ·rw[if_pos (by rw[hwant];simp[hb])]
         rw[hb] at hasm
         split at hl1
         ·rename_i hdead
          exact(mod_dead hasm hdead).elim
         ·split at hl1
          ·rename_i S2 h1
           exact hgo (fun S' hS=>by simp[hS]) hasm rfl h1 hl1
          ·cases hl1
        ·rw[if_neg (by rw[hwant];simp[hb])]
         have hb':b.den ρ=!want:=by cases h1:b.den ρ<;>cases want<;>simp_all
         rw[hb'] at hasm
         split at hl2
         ·rename_i hdead
          exact(mod_dead hasm hdead).elim
         ·exact runStill_ok hcx rest hl2 (mod_drop hasm o.dst) (fun S' a' hS hn=>hQ S' a' (by simp[hS]) (by
           obtain⟨ρ',T',g1,g2,g3,g4⟩:=hn
           have hnv:(drop (assume S d b (!want)) o.dst).nv=S.nv:=by cases o.dst<;>rfl
           exact⟨ρ',T',fun n hn=>g1 n (by omega),by omega,g3,g4⟩))
       ·cases h
     ·cases h
def stillDraw(cx:Cx)(N:Nat)(PU:Bool)(ops:Array Oper)(S:St):Option (List St):=if Region.lexB .any ops then jd (uw cx) N PU ops ops.toList S else none
theorem stillDraw_ok(hcx:CxOk P cx)(hmix:P.follows .mixedOrders=true):DrawOk P cx W0 T0 w0 PU N (stillDraw cx N PU):=by
 intro id ops S outs h ρ T a w Q hm hQ
 unfold stillDraw at h
 split at h
 ·rename_i hB
  refine wp_region_still hmix hB (runStill_ok hcx ops.toList h hm.drew (fun S' a' hS hn=>hQ S' a' _ hS ?_))
  obtain⟨ρ',T',g1,g2,g3,g4⟩:=hn
  exact⟨ρ',T',g1,g2,⟨g3.sub,g3.row,g3.fz,g3.mp⟩,g4⟩
 ·cases h
end
open Go.RowKit
inductive PT where
 | one (ct:CT)
 | agg (l:List CT)
 | con (v:Value)
def PT.cts:PT→List CT
 | .one ct=>[ct]
 | .agg l=>l
 | .con _=>[]
def PT.cells:PT→Value→List Value
 | .one _,v=>[v]
 | .agg _,v=>v.cells.toList
 | .con _,_=>[]
def cellsAll:List PT→List Value→List Value
 | p::ps,v::vs=>p.cells v++cellsAll ps vs
 | _,_=>[]
def zx(ps:List PT):List CT:=ps.flatMap PT.cts
structure Ctr where
 ps:List PT
 pre:List Lin
 rs:List PT
 post:List Lin
 pu:Bool
 be:Option BE
def valOf(l:List Value):Val:=fun n=>l.getD n undef
section
variable(tb:Tab)(W0:World)
def TyVal(T:Nat→Prop)(w:World)(base:Nat):PT→Value→Prop
 | .one ct,v=>CV tb W0 T w base ct v
 | .agg l,v=>∃cs:Array Value,v=.agg cs∧cs.size=l.length∧∀(i:Nat) (ct:CT) (u:Value),l[i]? = some ct→cs[i]? = some u→CV tb W0 T w base ct u
 | .con c,v=>v=c
def TyAll(T:Nat→Prop)(w:World)(base:Nat):List PT→List Value→Prop
 | [],[]=>True
 | p::ps,v::vs=>TyVal tb W0 T w base p v∧TyAll T w base ps vs
 | _,_=>False
def IsRes(rs:List PT)(v:Value)(vs:List Value):Prop:=match rs with
 | [_]=>vs=[v]
 | _=>v=.tuple vs.toArray
end
def BeRes(C:Ctr)(az vs:List Value):Prop:=∀e,C.be=some e→vs=[.bool (e.den (valOf (cellsAll C.ps az)))]
def Enters(P:Program)(f:FuncId):Prop:=∃fn,P.funcs[f]? = some fn∧(fn.name == "runtime.NumGoroutine")=false∧fn.body.isNone=false
def Holds(P:Program)(cx:Cx)(W0:World)(f:FuncId)(C:Ctr):Prop:=Enters P f∧∀(T:Nat→Prop) (w:World) (args:Array Value),WT cx.tb W0 T w→TyAll cx.tb W0 T w w.heap.size C.ps args.toList →
 (∀l∈C.pre,0≤l.eval (valOf (cellsAll C.ps args.toList))) →
 Calls P f args w fun e w'=>∃v vs T',e=.returned v∧IsRes C.rs v vs∧TyAll cx.tb W0 T' w' w.heap.size C.rs vs∧(∀l∈C.post,0≤l.eval (valOf (cellsAll C.ps args.toList++cellsAll C.rs vs)))∧BeRes C args.toList vs∧Hist T w C.pu T' w'∧WT cx.tb W0 T' w'
def substT(ls:List Lin):List (Int×Nat)→Option Lin
 | []=>some (Lin.k 0)
 | (c,x)::r=>match ls[x]?,substT ls r with
   | some l,some m=>some ((l.sc c).add m)
   | _,_=>none
def substL(ls:List Lin)(l:Lin):Option Lin:=(substT ls l.ts).map fun m=>m.pl l.c
theorem substT_ok{ρ ν:Val}{ls:List Lin}(h:∀i l,ls[i]? = some l→l.eval ρ=meas (ν i)):∀{l:List (Int×Nat)} {m:Lin},substT ls l=some m→m.eval ρ=tsum ν l
 | [],m,hm=>by cases hm;rw[Lin.zh];rfl
 | (c,x)::r,m,hm=>by
   unfold substT at hm
   split at hm
   ·rename_i l m' h1 h2
    cases hm
    rw[Lin.jg,Lin.yu,h x l h1,substT_ok h h2];rfl
   ·cases hm
theorem substL_ok{ρ ν:Val}{ls:List Lin}(h:∀i l,ls[i]? = some l→l.eval ρ=meas (ν i)){l m:Lin}(hm:substL ls l=some m):m.eval ρ=l.eval ν:=by
 unfold substL at hm
 cases hq:substT ls l.ts with
 | none=>rw[hq] at hm;cases hm
 | some m'=>
   rw[hq] at hm
   have hm:=oi hm
   subst hm
   rw[Lin.qp,substT_ok h hq]
   unfold Lin.eval;omega
def argOk(S:St)(tb:Tab)(p:PT)(x:XV):Option (List SV):=match p,x with
 | .one ct,.v (.one s)=>if S.has tb s ct then some [s] else none
 | .agg l,.v (.agg c)=>if decide (c.length=l.length) && (c.zip l).all (fun q=>S.has tb q.1 q.2) then some c else none
 | .con c,.v (.one (.con v))=>if eqV v c then some [] else none
 | _,_=>none
def argsOk(S:St)(tb:Tab):List PT→List Operand→Option (List SV)
 | [],[]=>some []
 | p::ps,x::xs=>match S.op x,argsOk S tb ps xs with
   | some v,some r=>(argOk S tb p v).map fun c=>c++r
   | _,_=>none
 | _,_=>none
def resTV(nv:Nat):PT→TV
 | .agg l=>.agg (vars nv l.length)
 | _=>.one (.var nv)
def resTVs(nv:Nat):List PT→List TV
 | []=>[]
 | p::ps=>resTV nv p::resTVs (nv+p.cts.length) ps
def resXV(nv:Nat)(rs:List PT):XV:=match rs with
 | [p]=>.v (resTV nv p)
 | _=>.tup (resTVs nv rs)
def noCon:PT→Bool
 | .con _=>false
 | _=>true
def vlins(n:Nat):Nat→List Lin
 | 0=>[]
 | k+1=>Lin.at n::vlins (n+1) k
def mapO{α β:Type}(f:α→Option β):List α→Option (List β)
 | []=>some []
 | x::r=>match f x,mapO f r with
   | some y,some l=>some (y::l)
   | _,_=>none
theorem mapO_ok{α β:Type}{f:α→Option β}:∀{l:List α} {m:List β},mapO f l=some m→∀y∈m,∃x∈l,f x=some y
 | [],m,h,y,hy=>by cases h;cases hy
 | x::r,m,h,y,hy=>by
   unfold mapO at h
   split at h
   ·rename_i z l h1 h2
    cases h
    rcases List.mem_cons.1 hy with rfl|hy
    ·exact⟨x,by simp,h1⟩
    ·obtain⟨x',g1,g2⟩:=mapO_ok h2 y hy
     exact⟨x',by simp[g1],g2⟩
   ·cases h
def uq(f:Lin→Option Lin):BE→Option BE
 | .tt b=>some (.tt b)
 | .ge l=>(f l).map .ge
 | .eq l=>(f l).map .eq
 | .var _=>none
 | .not a=>(uq f a).map .not
 | .and a b=>match uq f a,uq f b with
   | some x,some y=>some (.and x y)
   | _,_=>none
 | .or a b=>match uq f a,uq f b with
   | some x,some y=>some (.or x y)
   | _,_=>none
theorem substB_ok{f:Lin→Option Lin}{ρ ν:Val}(h:∀l m,f l=some m→m.eval ρ=l.eval ν):∀{e b:BE},uq f e=some b→b.den ρ=e.den ν
 | .tt c,b,hb=>by cases hb;rfl
 | .ge l,b,hb=>by
   simp only[uq,Option.map_eq_some_iff] at hb
   obtain⟨m,h1,rfl⟩:=hb
   simp only[BE.den,h l m h1]
 | .eq l,b,hb=>by
   simp only[uq,Option.map_eq_some_iff] at hb
   obtain⟨m,h1,rfl⟩:=hb
   simp only[BE.den,h l m h1]
 | .var n,b,hb=>by cases hb
 | .not a,b,hb=>by
   simp only[uq,Option.map_eq_some_iff] at hb
   obtain⟨m,h1,rfl⟩:=hb
   simp only[BE.den,substB_ok h h1]
 | .and a c,b,hb=>by
   unfold uq at hb
   split at hb
   ·rename_i x y h1 h2;cases hb;simp only[BE.den,substB_ok h h1,substB_ok h h2]
   ·cases hb
 | .or a c,b,hb=>by
   unfold uq at hb
   split at hb
   ·rename_i x y h1 h2;cases hb;simp only[BE.den,substB_ok h h1,substB_ok h h2]
   ·cases hb
def beXV(C:Ctr)(nv:Nat)(cs:List SV):XV:=match C.be with
 | some e=>match C.rs with
   | [_]=>match uq (substL (cs.map SV.meas)) e with
     | some b=>.v (.one (.be b))
     | none=>resXV nv C.rs
   | _=>resXV nv C.rs
 | none=>resXV nv C.rs
def callA(tb:Tab)(C:Ctr)(S:St)(args:List Operand):Option Res:=match argsOk S tb C.ps args with
 | some cs=>if C.pre.all (fun l=>match substL (cs.map SV.meas) l with|some m=>S.ent m|none=>false) && C.rs.all noCon then
    match mapO (substL (cs.map SV.meas++vlins S.nv (zx C.rs).length)) C.post with
    | some fs=>some ⟨⟨beXV C S.nv cs,zx C.rs,fs⟩,.no,C.pu⟩
    | none=>none
   else none
 | none=>none
section
variable{P:Program}{cx:Cx}{W0:World}{S:St}{base:Nat}{ρ:Val}{T T':Nat→Prop}{w w':World}{a:Act}{Ω:Val→Prop}
theorem low_or{ct:CT}{v:Value}{b:Nat}(h:CV cx.tb W0 T w base ct v)(hl:ct.low=true):CV cx.tb W0 T w b ct v:=(h.mono (Ext.refl T w) (Nat.zero_le _)).rebase hl b
theorem argOk_ok{p:PT}{x:XV}{cs:List SV}(h:argOk S cx.tb p x=some cs)(hs:SatW cx.tb W0 S base ρ T w):(p.cts.all CT.low=true→∀b,TyVal cx.tb W0 T w b p (x.den ρ))∧p.cells (x.den ρ)=dens ρ cs:=by
 unfold argOk at h
 split at h
 ·rename_i ct s
  split at h
  ·rename_i hc
   cases h
   exact⟨fun hl b=>low_or (uo hs hc) (by simpa[PT.cts] using hl),rfl⟩
  ·cases h
 ·rename_i l c
  split at h
  ·rename_i hc
   cases h
   simp only[Bool.and_eq_true,decide_eq_true_eq] at hc
   refine⟨fun hl b=>⟨(dens ρ cs).toArray,rfl,by simpa[dens] using hc.1,fun i ct u h1 h2=>?_⟩,rfl⟩
   simp only[dens,List.getElem?_toArray,List.getElem?_map] at h2
   cases hq:cs[i]? with
   | none=>rw[hq] at h2;cases h2
   | some s=>
     rw[hq] at h2
     cases h2
     have hz:=List.all_eq_true.1 hc.2 (s,ct) (by
      refine List.mem_iff_getElem?.2 ⟨i,?_⟩
      rw[List.getElem?_zip_eq_some]
      exact⟨hq,h1⟩)
     exact low_or (uo hs hz) (List.all_eq_true.1 hl ct (List.mem_of_getElem? h1))
  ·cases h
 ·split at h
  ·rename_i hc
   cases h
   refine⟨fun _ _=>?_,rfl⟩
   have:=eqV_ok hc
   exact this
  ·cases h
 ·cases h
theorem argsOk_ok(hs:SatW cx.tb W0 S base ρ T w)(he:EnvOk S ρ a):∀{ps:List PT} {xs:List Operand} {cs:List SV},argsOk S cx.tb ps xs=some cs→(zx ps).all CT.low=true →
  (∀b,TyAll cx.tb W0 T w b ps (xs.map a.eval))∧cellsAll ps (xs.map a.eval)=dens ρ cs
 | [],[],cs,h,hl=>by cases h;exact⟨fun _=>trivial,rfl⟩
 | p::ps,x::xs,cs,h,hl=>by
   unfold argsOk at h
   split at h
   ·rename_i v r hv hr
    cases hq:argOk S cx.tb p v with
    | none=>rw[hq] at h;cases h
    | some c=>
      rw[hq] at h
      have h:=oi h
      subst h
      simp only[zx,List.flatMap_cons,List.all_append,Bool.and_eq_true] at hl
      obtain⟨g1,g2⟩:=argOk_ok hq hs
      obtain⟨k1,k2⟩:=argsOk_ok hs he hr hl.2
      rw[←jh he hv] at g1 g2
      refine⟨fun b=>⟨g1 hl.1 b,k1 b⟩,?_⟩
      simp only[List.map_cons,cellsAll,g2,k2,dens,List.map_append]
   ·cases h
 | [],_::_,cs,h,hl=>by cases h
 | _::_,[],cs,h,hl=>by cases h
theorem vlins_get:∀(k n i:Nat) (l:Lin),(vlins n k)[i]? = some l→i<k∧l=Lin.at (n+i)
 | 0,n,i,l,h=>by cases h
 | k+1,n,0,l,h=>by cases h;exact⟨by omega,rfl⟩
 | k+1,n,i+1,l,h=>by
   simp only[vlins,List.getElem?_cons_succ] at h
   obtain⟨h1,h2⟩:=vlins_get k (n+1) i l h
   exact⟨by omega,by rw[h2,show n+1+i=n+(i+1) by omega]⟩
theorem jk{p:PT}{v:Value}(h:TyVal cx.tb W0 T w base p v)(hc:noCon p=true):p.cells v=v.cells.toList∧(p.cells v).length=p.cts.length∧∀(i:Nat) (ct:CT) (u:Value),p.cts[i]? = some ct→(p.cells v)[i]? = some u→CV cx.tb W0 T w base ct u:=by
 cases p with
 | con c=>cases hc
 | one ct=>
   have h1:v.cells.toList=[v]:=by
    have:=CV.one h
    cases v<;>first|rfl|cases this
   refine⟨h1.symm,rfl,fun i ct' u h2 h3=>?_⟩
   cases i with
   | zero=>
     simp only[PT.cts,PT.cells,List.getElem?_cons_zero,Option.some.injEq] at h2 h3
     subst h2;subst h3
     exact h
   | succ i=>simp[PT.cts] at h2
 | agg l=>
   obtain⟨cs,rfl,h1,h2⟩:=h
   refine⟨rfl,by simpa[PT.cells,PT.cts,Value.cells] using h1,fun i ct u h3 h4=>h2 i ct u h3 ?_⟩
   simpa[PT.cells,Value.cells] using h4
theorem tyAll_cells:∀{ps:List PT} {vs:List Value},TyAll cx.tb W0 T w base ps vs→ps.all noCon=true→cellsAll ps vs=vs.flatMap (fun v=>v.cells.toList)∧(cellsAll ps vs).length=(zx ps).length ∧
  (∀(i:Nat) (ct:CT) (u:Value),(zx ps)[i]? = some ct→(cellsAll ps vs)[i]? = some u→CV cx.tb W0 T w base ct u)
 | [],[],_,_=>⟨rfl,rfl,fun i ct u h=>by simp[zx] at h⟩
 | p::ps,v::vs,h,hc=>by
   simp only[List.all_cons,Bool.and_eq_true] at hc
   obtain⟨h1,h2⟩:=h
   obtain⟨g1,g2,g3⟩:=jk h1 hc.1
   obtain⟨k1,k2,k3⟩:=tyAll_cells h2 hc.2
   refine⟨by simp only[cellsAll,List.flatMap_cons,k1,g1],by simp only[cellsAll,zx,List.flatMap_cons,List.length_append,g2];rw[k2];rfl,fun i ct u h3 h4=>?_⟩
   simp only[zx,List.flatMap_cons] at h3
   simp only[cellsAll] at h4
   by_cases hi:i<p.cts.length
   ·rw[List.getElem?_append_left hi] at h3
    rw[List.getElem?_append_left (by omega)] at h4
    exact g3 i ct u h3 h4
   ·rw[List.getElem?_append_right (by omega)] at h3
    rw[List.getElem?_append_right (by omega),g2] at h4
    exact k3 _ ct u h3 h4
theorem resTV_den{p:PT}{v:Value}{nv:Nat}(h:TyVal cx.tb W0 T w base p v)(hc:noCon p=true)(hb:∀i u,(p.cells v)[i]? = some u→ρ (nv+i)=u):(resTV nv p).den ρ=v:=by
 cases p with
 | con c=>cases hc
 | one ct=>
   have:=hb 0 v rfl
   exact this
 | agg l=>
   obtain⟨cs,rfl,h1,h2⟩:=h
   show Value.agg _=Value.agg cs
   congr 1
   apply Array.toList_inj.1
   refine List.ext_getElem? (fun i=>?_)
   simp only[dens,List.getElem?_map]
   by_cases hi:i<l.length
   ·rw[vars_get _ _ _ hi]
    simp only[Option.map_some,SV.den]
    have hi':i<cs.toList.length:=by simpa[h1] using hi
    rw[List.getElem?_eq_getElem hi',hb i cs.toList[i] (by simp[PT.cells,Value.cells,List.getElem?_eq_getElem hi'])]
   ·rw[List.getElem?_eq_none (by rw[vars_len];omega),List.getElem?_eq_none (by simp;omega)];rfl
theorem resTVs_den:∀{ps:List PT} {vs:List Value} {nv:Nat},TyAll cx.tb W0 T w base ps vs→ps.all noCon=true→(∀i u,(cellsAll ps vs)[i]? = some u→ρ (nv+i)=u)→(resTVs nv ps).map (TV.den ρ)=vs
 | [],[],nv,_,_,_=>rfl
 | p::ps,v::vs,nv,h,hc,hb=>by
   simp only[List.all_cons,Bool.and_eq_true] at hc
   obtain⟨h1,h2⟩:=h
   obtain⟨g1,g2,g3⟩:=jk h1 hc.1
   simp only[resTVs,List.map_cons]
   rw[resTV_den h1 hc.1 (fun i u hi=>hb i u (by
    simp only[cellsAll]
    rw[List.getElem?_append_left (List.getElem?_eq_some_iff.1 hi).1];exact hi)),resTVs_den h2 hc.2 (fun i u hi=>by
    have:=hb (p.cts.length+i) u (by
     simp only[cellsAll]
     rw[List.getElem?_append_right (by omega),g2,Nat.add_sub_cancel_left];exact hi)
    rw[←this];congr 1;omega)]
theorem callA_ok{o:Oper}{f:FuncId}{C:Ctr}{args ats:Array _}{r:Res}(hC:Holds P cx W0 f C)(hlow:(zx C.ps).all CT.low=true)(ho:o.op=.call { callee:=.value (.func f),args,argTypes:=ats })(h:callA cx.tb C S args.toList=some r)(H:Hyp cx W0 S base Ω T w a) :
  StepR P cx W0 S base Ω T w a o r:=by
 obtain⟨⟨fn,hf1,hf2,hf3⟩,hC⟩:=hC
 obtain⟨ρ0,h0⟩:=H.ex
 have hs0:=H.sat ρ0 h0
 unfold callA at h
 split at h
 ·rename_i cs hcs
  split at h
  ·rename_i hc
   simp only[Bool.and_eq_true] at hc
   obtain⟨hpre,hnc⟩:=hc
   split at h
   ·rename_i fs hfs
    cases h
    obtain⟨t1,t2⟩:=argsOk_ok hs0 (H.env ρ0 h0) hcs hlow
    have hrun:(execOp a.eval o).run P w=.ok (.enter f (args.map a.eval)) w:=by
     have hn:(fn.name == "runtime.NumGoroutine")=false:=hf2
     simp only[execOp,ho,resolve,Deferred.ofValue,Sem.run_bind,Sem.run_pure,Result.andThen_ok]
     have he:a.eval (.func f)=.func (.func f) #[] #[]:=rfl
     rw[he]
     simp only[Deferred.ofValue,Sem.run_pure,Result.andThen_ok,invoke,callFunc,Sem.run_bind,run_program,hf1]
     rw[if_neg (by rw[hn];simp),if_neg (by rw[hf3];simp)]
     simp
    unfold StepR
    rw[hrun]
    have hargs:(args.map a.eval).toList=args.toList.map a.eval:=by simp
    refine(hC T w (args.map a.eval) hs0.wt (by rw[hargs];exact t1 _) (fun l hl=>?_)).mono ?_
    ·have:=List.all_eq_true.1 hpre l hl
     split at this
     ·rename_i m hm
      have e:=hs0.ent this
      rw[hargs,t2,←substL_ok (ν:=valOf (dens ρ0 cs)) (fun i l' hl'=>?_) hm]
      ·exact e
      ·rw[List.getElem?_map] at hl'
       cases hq:cs[i]? with
       | none=>rw[hq] at hl';cases hl'
       | some s=>
         rw[hq] at hl'
         cases hl'
         rw[SV.meas_eval]
         simp[valOf,dens,hq]
     ·cases this
    ·rintro e w' ⟨v,vs,T',rfl,hres,hty,hpost,hbe,hhist,hwt⟩
     refine⟨v,rfl,T',none,⟨hwt,hhist.ext,hhist.new,hhist.size,hhist.os,hhist.tape,hhist.output,fun b hb hT _=>hhist.keep b hb (.inr hT),fun b hb hk=>hhist.keep b (Nat.lt_of_lt_of_le hb hs0.bs) hk⟩,fun ρ hρ hblk=>⟨?_,rfl⟩⟩
     obtain⟨c1,c2,c3⟩:=tyAll_cells hty hnc
     have hflat:flatV v=cellsAll C.rs vs:=by
      rw[c1]
      unfold IsRes at hres
      split at hres
      ·rename_i p hrs
       subst hres
       have hty':=hty
       rw[hrs] at hty' hnc
       obtain⟨g1,-,-⟩:=jk hty'.1 (by simpa using hnc)
       simp only[List.flatMap_cons,List.flatMap_nil,List.append_nil]
       cases p with
       | con c=>simp[noCon] at hnc
       | one ct=>rw[flat_one (CV.one hty'.1),←g1];rfl
       | agg l=>
         obtain⟨cs',rfl,-⟩:=hty'.1
         rfl
      ·subst hres;rfl
     have hget:∀i u,(cellsAll C.rs vs)[i]? = some u→ρ (S.nv+i)=u:=fun i u hi=>by
      have hlt:i<(zx C.rs).length:=by rw[←c2];exact(List.getElem?_eq_some_iff.1 hi).1
      rw[hblk i hlt,hflat,List.getD_eq_getElem?_getD,hi];rfl
     intro _
     refine⟨?_,fun i ct hi=>?_,fun fl hfl=>?_⟩
     ·have hsame:∀ρ,Ω ρ→dens ρ cs=dens ρ0 cs:=fun ρ hρ=>by
       rw[←(argsOk_ok (H.sat ρ hρ) (H.env ρ hρ) hcs hlow).2,t2]
      have hsb:∀l m,substL (cs.map SV.meas) l=some m→m.eval ρ=l.eval (valOf (dens ρ cs)):=fun l m hm=>substL_ok (ν:=valOf (dens ρ cs)) (fun i l' hl'=>by
       rw[List.getElem?_map] at hl'
       cases hq:cs[i]? with
       | none=>rw[hq] at hl';cases hl'
       | some s=>
         rw[hq] at hl'
         cases hl'
         rw[SV.meas_eval]
         simp[valOf,dens,hq]) hm
      have hbv:∀e b p,C.be=some e→C.rs=[p]→uq (substL (cs.map SV.meas)) e=some b→v=(SV.be b).den ρ:=by
       intro e b p h1 h2 h3
       have h4:=hbe e h1
       unfold IsRes at hres
       rw[h2] at hres
       simp only at hres
       rw[hres] at h4
       injection h4 with h4
       rw[h4,hargs,t2,←hsame ρ hρ]
       show _=Value.bool (b.den ρ)
       rw[substB_ok hsb h3]
      show v=(beXV C S.nv cs).den ρ
      have hgen:v=(resXV S.nv C.rs).den ρ:=by
       clear hbv
       unfold IsRes at hres
       unfold resXV
       split at hres
       ·rename_i p hrs
        subst hres
        have hty':=hty
        rw[hrs] at hty' hget hnc
        exact(resTV_den hty'.1 (by simpa using hnc) (fun i u hi=>hget i u (by simpa[cellsAll] using hi))).symm
       ·rename_i hne
        subst hres
        show Value.tuple _=Value.tuple _
        rw[resTVs_den hty hnc hget]
      unfold beXV
      split
      ·rename_i e he
       split
       ·rename_i p hp1
        split
        ·rename_i b' hb'
         exact hbv e b' p he hp1 hb'
        ·exact hgen
       ·exact hgen
      ·exact hgen
     ·have hlt:i<(cellsAll C.rs vs).length:=by rw[c2];exact(List.getElem?_eq_some_iff.1 hi).1
      have hu:=List.getElem?_eq_getElem hlt
      rw[hget i _ hu]
      exact(c3 i ct _ hi hu).mono (Ext.refl _ _) hs0.bs
     ·obtain⟨l,hl1,hl2⟩:=mapO_ok hfs fl hfl
      have hp:=hpost l hl1
      rw[hargs,t2] at hp
      have hsame:∀ρ,Ω ρ→dens ρ cs=dens ρ0 cs:=fun ρ hρ=>by
       rw[←(argsOk_ok (H.sat ρ hρ) (H.env ρ hρ) hcs hlow).2,t2]
      rw[←hsame ρ hρ] at hp
      rw[substL_ok (ν:=valOf (dens ρ cs++cellsAll C.rs vs)) (fun i l' hl'=>?_) hl2]
      ·exact hp
      ·by_cases hi:i<cs.length
       ·rw[List.getElem?_append_left (by simpa using hi),List.getElem?_map,List.getElem?_eq_getElem hi] at hl'
        cases hl'
        rw[SV.meas_eval]
        simp[valOf,dens,List.getElem?_append_left,hi]
       ·rw[List.getElem?_append_right (by simpa using Nat.le_of_not_lt hi),List.length_map] at hl'
        obtain⟨h1,rfl⟩:=vlins_get _ _ _ _ hl'
        have hlt:i-cs.length<(cellsAll C.rs vs).length:=by omega
        rw[Lin.qg,hget _ _ (List.getElem?_eq_getElem hlt)]
        unfold valOf
        rw[List.getD_eq_getElem?_getD,List.getElem?_append_right (by simp[dens];omega)]
        simp only[dens,List.length_map]
        rw[List.getElem?_eq_getElem hlt];rfl
   ·cases h
  ·cases h
 ·cases h
end
end Sy
end Go.Proofs.YtmadfhgiaonnlaaGreatDoor
