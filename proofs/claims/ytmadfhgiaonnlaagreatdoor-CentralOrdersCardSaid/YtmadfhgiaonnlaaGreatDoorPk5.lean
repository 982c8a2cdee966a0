import Derived.Laws.StructEq
import Derived.Laws.Cover3
import Derived.Laws.Small
import Derived.Test.YtmadfhgiaonnlaaGreatDoorPk4
set_option linter.unusedVariables false
set_option linter.unusedSimpArgs false
namespace Go.Proofs.YtmadfhgiaonnlaaGreatDoor
namespace Sy
open Go.RowKit
section
variable{P:Program}{cx:Cx}{W0:World}{S:St}{base:Nat}{ρ:Val}{T:Nat→Prop}{w:World}{a:Act}{Ω:Val→Prop}
theorem guard_plain(op:BinOp)(t:TypeId)(x y:Operand){u v:Value}(hu:u.oneCell'=true)(hn:u≠.nilIface):(eqGuard op t x y u v).run P w=.ok () w:=by
 have key:∀b:Bool,(if(!b)=true then(pure ():Sem Unit) else match u,v with
  | .nilIface,.nilIface=>if(x matches .const _) || (y matches .const _) then pure () else do
     if ←Op.eqGuardIn Op.maxDepth t u v then unsupported (.noEntry "binop/eql: two nil values of an interface type with methods, neither of them the literal nil")
  | .agg _,.agg _=>do
     if !(←program).eqGuardType (←program).depth t then return
     if ←Op.eqGuardIn Op.maxDepth t u v then unsupported (.noEntry "binop/eql: two nil values of an interface type with methods, in a part of a struct or an array")
  | _,_=>pure ()).run P w=.ok () w:=by
  intro b
  cases b
  ·simp only[Bool.not_false,if_true,Sem.run_pure]
  ·simp only[Bool.not_true,Bool.false_eq_true,if_false]
   cases u<;>first|rfl|(exact absurd rfl hn)|(cases hu)
 unfold eqGuard
 split<;>(first|exact key false|(cases u<;>first|rfl|(exact absurd rfl hn)|(cases hu)))
def eqv(a b:BE):BE:=.or (.and a b) (.and (.not a) (.not b))
theorem eqv_den(x y:BE):(eqv x y).den ρ=(x.den ρ == y.den ρ):=by
 simp only[eqv,BE.den]
 cases x.den ρ<;>cases y.den ρ<;>rfl
def isNilS:SV→Bool
 | .con (.slice none 0 0)=>true
 | _=>false
theorem isNilS_ok{s:SV}(h:isNilS s=true):s=.con (.slice none 0 0):=by
 unfold isNilS at h
 split at h
 ·rfl
 ·cases h
def St.isSl(S:St):SV→Bool
 | .con (.slice none 0 0)=>true
 | .var n=>match look S.ty n with
   | some (.sl _ _ _)=>true
   | some (.cs _ _ _)=>true
   | _=>false
 | _=>false
theorem isSl_den{s:SV}(h:SatW cx.tb W0 S base ρ T w)(hs:S.isSl s=true):∃A n c,s.den ρ=.slice A n c∧(A=none→n=0∧c=0):=by
 unfold St.isSl at hs
 split at hs
 ·exact⟨none,0,0,rfl,fun _=>⟨rfl,rfl⟩⟩
 ·split at hs
  ·rename_i n _ m e lb hq
   rcases h.ty n _ (zg hq) with h1|⟨-,h1⟩|⟨b,off,k,c,h1,-⟩
   ·exact⟨none,0,0,h1,fun _=>⟨rfl,rfl⟩⟩
   ·have h2:(SV.var n).den ρ=ρ n:=rfl
    rw[h2]
    generalize ρ n=z at h1
    cases h1
    ·exact⟨none,0,0,rfl,fun _=>⟨rfl,rfl⟩⟩
    ·exact⟨_,_,_,rfl,fun e=>by cases e⟩
    ·exact⟨_,_,_,rfl,fun e=>by cases e⟩
   ·exact⟨_,_,_,h1,fun e=>by cases e⟩
  ·rename_i n _ q e lb hq
   rcases h.ty n _ (zg hq) with h1|⟨b,off,k,c,cs,fr,h1,-⟩
   ·exact⟨none,0,0,h1,fun _=>⟨rfl,rfl⟩⟩
   ·exact⟨_,_,_,h1,fun e=>by cases e⟩
  ·cases hs
 ·cases hs
theorem jo{s:SV}{l:Lin}{A:Option Addr}{n c:Nat}(h:SatW cx.tb W0 S base ρ T w)(hd:s.den ρ=.slice A n c)(hl:S.len s=some l):l.eval ρ=n:=by
 cases s with
 | con v=>
   cases hd
   unfold St.len at hl
   split at hl<;>first|(rename_i e;injection e with e;injection e with e1 e2 e3;cases hl;rw[Lin.zh,e2];rfl)|cases hl|skip
   all_goals(rename_i e;cases e)
 | var m=>
   have hd':ρ m=.slice A n c:=hd
   simp only[St.len] at hl
   split at hl
   ·cases hl;rw[Lin.qg,hd'];rfl
   ·cases hl;rw[Lin.qg,hd'];rfl
   ·cases hl;rw[Lin.qg,hd'];rfl
   ·cases hl
 | lin k l=>cases hl
 | be b=>cases hl
 | ptr n o=>cases hl
def kd(cx:Cx)(t:TypeId):KD:=match look cx.td t with
 | some d=>d.k
 | none=>.oth
theorem qo(hcx:CxOk P cx){t:TypeId}{k:KD}(h:kd cx t=k)(hk:k≠.oth):∃u,P.underlying t=some u∧KD.of u=k:=by
 unfold kd at h
 split at h
 ·rename_i d hd
  obtain⟨u,h1,h2⟩:=jl (hcx t d hd)
  exact⟨u,h1,h2.trans h⟩
 ·exact absurd h.symm hk
def nilE(S:St)(l:Lin):Out:=⟨.v (.one (.be (.and (.eq l) (.var S.nv)))),[.bool],[]⟩
def nilN(S:St)(l:Lin):Out:=⟨.v (.one (.be (.not (.and (.eq l) (.not (.var S.nv)))))),[.bool],[]⟩
theorem nil_ok{s:SV}{l:Lin}{A:Option Addr}{n c:Nat}(h:SatW cx.tb W0 S base ρ T w)(hl:S.len s=some l)(hd:s.den ρ=.slice A n c)(hA:A=none→n=0∧c=0) :
  NewOk cx.tb W0 S (nilE S l) base ρ T w (.bool A.isNone)∧NewOk cx.tb W0 S (nilN S l) base ρ T w (.bool (!A.isNone)):=by
 have e:=jo h hd hl
 have key:∀(b:Bool) (x:XV),Blk ρ S.nv 1 (flatV (.bool b))→(.bool b=x.den ρ)→.bool b=x.den ρ∧(∀i ct,[CT.bool][i]? = some ct→CV cx.tb W0 T w base ct (ρ (S.nv+i)))∧∀f∈([]:List Lin),0≤f.eval ρ:=by
  intro b x hb hx
  have h0:ρ S.nv=.bool b:=hb 0 (by simp)
  refine⟨hx,fun i ct hi=>?_,by simp⟩
  cases i with
  | zero=>
    simp only[List.getElem?_cons_zero,Option.some.injEq] at hi
    subst hi
    rw[Nat.add_zero,h0];exact⟨b,rfl⟩
  | succ i=>simp at hi
 refine⟨fun hb=>key _ _ hb ?_,fun hb=>key _ _ hb ?_⟩
 ·have h0:ρ S.nv=.bool A.isNone:=hb 0 (by simp[nilE])
  show Value.bool A.isNone=.bool ((decide (l.eval ρ=0)) && boolOf (ρ S.nv))
  rw[h0,e]
  cases A with
  | none=>simp[boolOf,(hA rfl).1]
  | some A=>simp[boolOf]
 ·have h0:ρ S.nv=.bool (!A.isNone):=hb 0 (by simp[nilN])
  show Value.bool (!A.isNone)=.bool (!((decide (l.eval ρ=0)) && !(boolOf (ρ S.nv))))
  rw[h0,e]
  cases A with
  | none=>simp[boolOf,(hA rfl).1]
  | some A=>simp[boolOf]
def binA(cx:Cx)(S:St)(op:BinOp)(t:TypeId)(x y:SV):Option Out:=
 match S.lin x,S.lin y with
 | some (k,l),some (k',m)=>match op with
   | .shl=>shiftOp S .shl k l m
   | .shr=>shiftOp S .shr k l m
   | op=>if k=k' then intOp S op k l m else none
 | _,_=>match S.be x,S.be y with
   | some b,some c=>match kd cx t,op with
     | .bool,.eql=>some (mkS (.be (eqv b c)))
     | .bool,.neq=>some (mkS (.be (.not (eqv b c))))
     | _,_=>none
   | _,_=>if S.str x && S.str y then strOp S op x y else
     if S.isSl x && isNilS y then match kd cx t,op with
      | .sl _,.eql=>(S.len x).map (nilE S)
      | .sl _,.neq=>(S.len x).map (nilN S)
      | _,_=>none
     else none
theorem binA_ok(hcx:CxOk P cx){op:BinOp}{t:TypeId}{x y:SV}{out:Out}(h:binA cx S op t x y=some out)(hex:∃ρ,Ω ρ)(hs:∀ρ,Ω ρ→SatW cx.tb W0 S base ρ T w){u v:Value}(hu:∀ρ,Ω ρ→u=x.den ρ)(hv:∀ρ,Ω ρ→v=y.den ρ)(x' y':Operand) :
  ∃r,(do eqGuard op t x' y' u v;binOp op t u v:Sem Value).run P w=.ok r w∧∀ρ,Ω ρ→NewOk cx.tb W0 S out base ρ T w r:=by
 obtain⟨ρ0,h0⟩:=hex
 unfold binA at h
 split at h
 ·rename_i k l k' m hl hm
  have e1:=yh (hs ρ0 h0) hl
  have e2:=yh (hs ρ0 h0) hm
  rw[←hu ρ0 h0] at e1
  rw[←hv ρ0 h0] at e2
  have p1:∀ρ,Ω ρ→l.eval ρ0=l.eval ρ:=fun ρ hρ=>by
   have:=yh (hs ρ hρ) hl
   rw[←hu ρ hρ,e1] at this
   injection this
  have p2:∀ρ,Ω ρ→m.eval ρ0=m.eval ρ:=fun ρ hρ=>by
   have:=yh (hs ρ hρ) hm
   rw[←hv ρ hρ,e2] at this
   injection this
  subst e1
  subst e2
  have hg:=guard_plain (P:=P) (w:=w) op t x' y' (u:=.int k (l.eval ρ0)) (v:=.int k' (m.eval ρ0)) rfl (by simp)
  rw[Sem.run_bind,hg]
  simp only[Result.andThen_ok]
  split at h
  ·exact shiftOp_ok h ⟨ρ0,h0⟩ hs p1 p2 t
  ·exact shiftOp_ok h ⟨ρ0,h0⟩ hs p1 p2 t
  ·split at h
   ·rename_i hk
    subst hk
    exact intOp_ok h ⟨ρ0,h0⟩ hs p1 p2 t
   ·cases h
 ·split at h
  ·rename_i b c hb hc
   have e1:=xu (hs ρ0 h0) hb
   have e2:=xu (hs ρ0 h0) hc
   rw[←hu ρ0 h0] at e1
   rw[←hv ρ0 h0] at e2
   have p1:∀ρ,Ω ρ→b.den ρ0=b.den ρ:=fun ρ hρ=>by
    have:=xu (hs ρ hρ) hb
    rw[←hu ρ hρ,e1] at this
    injection this
   have p2:∀ρ,Ω ρ→c.den ρ0=c.den ρ:=fun ρ hρ=>by
    have:=xu (hs ρ hρ) hc
    rw[←hv ρ hρ,e2] at this
    injection this
   subst e1
   subst e2
   have hg:=guard_plain (P:=P) (w:=w) op t x' y' (u:=.bool (b.den ρ0)) (v:=.bool (c.den ρ0)) rfl (by simp)
   rw[Sem.run_bind,hg]
   simp only[Result.andThen_ok]
   split at h
   ·rename_i hk
    cases h
    obtain⟨u',g1,g2⟩:=qo hcx hk (by simp)
    have:u'=.bool:=by cases u'<;>simp_all [KD.of]
    subst this
    refine⟨_,run_eql_bool w t _ _ g1,fun ρ hρ=>y9 ?_⟩
    simp only[SV.den,eqv_den,p1 ρ hρ,p2 ρ hρ]
   ·rename_i hk
    cases h
    obtain⟨u',g1,g2⟩:=qo hcx hk (by simp)
    have:u'=.bool:=by cases u'<;>simp_all [KD.of]
    subst this
    refine⟨.bool (!(b.den ρ0 == c.den ρ0)),?_,fun ρ hρ=>y9 ?_⟩
    ·show(do pure (.bool (!(←Op.equal t _ _))):Sem Value).run P w=_
     rw[Sem.run_bind,run_equal_bool w t _ _ g1]
     rfl
    ·simp only[SV.den,BE.den,eqv_den,p1 ρ hρ,p2 ρ hρ]
   ·cases h
  ·split at h
   ·rename_i hst
    simp only[Bool.and_eq_true] at hst
    obtain⟨p,e1⟩:=str_den (hs ρ0 h0) hst.1
    obtain⟨q,e2⟩:=str_den (hs ρ0 h0) hst.2
    rw[←hu ρ0 h0] at e1
    rw[←hv ρ0 h0] at e2
    subst e1
    subst e2
    have hg:=guard_plain (P:=P) (w:=w) op t x' y' (u:=.string p) (v:=.string q) rfl (by simp)
    rw[Sem.run_bind,hg]
    simp only[Result.andThen_ok]
    exact strOp_ok h ⟨ρ0,h0⟩ hs (fun ρ hρ=>(hu ρ hρ).symm) (fun ρ hρ=>(hv ρ hρ).symm) t
   ·split at h
    ·rename_i hsl
     simp only[Bool.and_eq_true] at hsl
     obtain⟨A,n,c,e1,hA⟩:=isSl_den (hs ρ0 h0) hsl.1
     have e2:=isNilS_ok hsl.2
     subst e2
     rw[←hu ρ0 h0] at e1
     have e2:v=.slice none 0 0:=hv ρ0 h0
     subst e1
     subst e2
     have hg:=guard_plain (P:=P) (w:=w) op t x' y' (u:=.slice A n c) (v:=.slice none 0 0) rfl (by simp)
     rw[Sem.run_bind,hg]
     simp only[Result.andThen_ok]
     split at h
     ·rename_i e' hk
      obtain⟨l,hl,rfl⟩:=Option.map_eq_some_iff.1 h
      obtain⟨u',g1,g2⟩:=qo hcx hk (by simp)
      obtain⟨e'',rfl⟩:∃e'',u'=.slice e'':=by cases u'<;>simp_all [KD.of]
      refine⟨.bool A.isNone,?_,fun ρ hρ=>(nil_ok (hs ρ hρ) hl (hu ρ hρ).symm hA).1⟩
      show(do pure (.bool (←Op.equal t _ _)):Sem Value).run P w=_
      rw[Sem.run_bind,run_equal_slice_nil w t _ A n c g1]
      rfl
     ·rename_i e' hk
      obtain⟨l,hl,rfl⟩:=Option.map_eq_some_iff.1 h
      obtain⟨u',g1,g2⟩:=qo hcx hk (by simp)
      obtain⟨e'',rfl⟩:∃e'',u'=.slice e'':=by cases u'<;>simp_all [KD.of]
      refine⟨.bool (!A.isNone),?_,fun ρ hρ=>(nil_ok (hs ρ hρ) hl (hu ρ hρ).symm hA).2⟩
      show(do pure (.bool (!(←Op.equal t _ _))):Sem Value).run P w=_
      rw[Sem.run_bind,run_equal_slice_nil w t _ A n c g1]
      rfl
     ·cases h
    ·cases h
def unA(S:St)(op:UnOp)(x:SV):Option Out:=match op with
 | .not=>(S.be x).map fun b=>mkS (.be (.not b))
 | .neg=>(S.lin x).map fun kl=>arith S kl.1 (kl.2.sc (-1))
 | .xor=>(S.lin x).map fun kl=>full1 S kl.1 []
 | _=>none
theorem unA_ok{op:UnOp}{x:SV}{out:Out}(h:unA S op x=some out)(hex:∃ρ,Ω ρ)(hs:∀ρ,Ω ρ→SatW cx.tb W0 S base ρ T w){u:Value}(hu:∀ρ,Ω ρ→u=x.den ρ) :
  ∃r,(Op.unary op u).run P w=.ok r w∧∀ρ,Ω ρ→NewOk cx.tb W0 S out base ρ T w r:=by
 obtain⟨ρ0,h0⟩:=hex
 cases op<;>simp only[unA,reduceCtorEq] at h
 ·cases hl:S.lin x with
  | none=>rw[hl] at h;cases h
  | some kl=>
    obtain⟨k,l⟩:=kl
    rw[hl] at h
    have h:=oi h
    subst h
    have e1:=yh (hs ρ0 h0) hl
    rw[←hu ρ0 h0] at e1
    have p1:∀ρ,Ω ρ→l.eval ρ0=l.eval ρ:=fun ρ hρ=>by
     have:=yh (hs ρ hρ) hl
     rw[←hu ρ hρ,e1] at this
     injection this
    subst e1
    refine⟨.int k (k.wrap (0-l.eval ρ0)),by simp[Op.unary,Op.intArith],fun ρ hρ=>arith_ok (hs ρ hρ) (by rw[Lin.yu,p1 ρ hρ];show _=-1*l.eval ρ;omega)⟩
 ·cases hl:S.lin x with
  | none=>rw[hl] at h;cases h
  | some kl=>
    obtain⟨k,l⟩:=kl
    rw[hl] at h
    have h:=oi h
    subst h
    have e1:=yh (hs ρ0 h0) hl
    rw[←hu ρ0 h0] at e1
    subst e1
    exact⟨.int k (k.wrap ((BitVec.ofInt k.bits (if k.signed then -1 else k.max) ^^^ BitVec.ofInt k.bits (l.eval ρ0)).toNat:Int)),by simp only[Op.unary,Op.intBits,Sem.run_pure],fun ρ hρ=>zq ⟨_,rfl,(zi k _).1,(zi k _).2⟩ (by simp)⟩
 ·cases hl:S.be x with
  | none=>rw[hl] at h;cases h
  | some b=>
    rw[hl] at h
    have h:=oi h
    subst h
    have e1:=xu (hs ρ0 h0) hl
    rw[←hu ρ0 h0] at e1
    have p1:∀ρ,Ω ρ→b.den ρ0=b.den ρ:=fun ρ hρ=>by
     have:=xu (hs ρ hρ) hl
     rw[←hu ρ hρ,e1] at this
     injection this
    subst e1
    exact⟨.bool (!b.den ρ0),rfl,fun ρ hρ=>y9 (by simp only[SV.den,BE.den,p1 ρ hρ])⟩
def convA(cx:Cx)(S:St)(src dst:TypeId)(x:SV):Option Out:=match kd cx src,kd cx dst,S.lin x with
 | .int _,.int k,some (_,l)=>some (arith S k l)
 | .str,.str,_=>if S.str x then some (mkS x) else none
 | _,_,_=>none
theorem convA_ok(hcx:CxOk P cx){src dst:TypeId}{x:SV}{out:Out}(h:convA cx S src dst x=some out)(hex:∃ρ,Ω ρ)(hs:∀ρ,Ω ρ→SatW cx.tb W0 S base ρ T w){u:Value}(hu:∀ρ,Ω ρ→u=x.den ρ) :
  ∃r,(convert src dst u).run P w=.ok r w∧∀ρ,Ω ρ→NewOk cx.tb W0 S out base ρ T w r:=by
 obtain⟨ρ0,h0⟩:=hex
 unfold convA at h
 split at h
 ·rename_i k1 k k2 l hk1 hk hl
  cases h
  have e1:=yh (hs ρ0 h0) hl
  rw[←hu ρ0 h0] at e1
  have p1:∀ρ,Ω ρ→l.eval ρ0=l.eval ρ:=fun ρ hρ=>by
   have:=yh (hs ρ hρ) hl
   rw[←hu ρ hρ,e1] at this
   injection this
  subst e1
  obtain⟨u1,a1,b1⟩:=qo hcx hk1 (by simp)
  obtain⟨u2,a2,b2⟩:=qo hcx hk (by simp)
  have r1:u1=.int k1:=by cases u1<;>simp_all [KD.of]
  have r2:u2=.int k:=by cases u2<;>simp_all [KD.of]
  subst r1;subst r2
  refine⟨.int k (k.wrap (l.eval ρ0)),?_,fun ρ hρ=>arith_ok (hs ρ hρ) (p1 ρ hρ)⟩
  unfold convert
  rw[Sem.run_bind,run_underlying a1 w]
  simp only[Result.andThen_ok]
  rw[Sem.run_bind,run_underlying a2 w]
  rfl
 ·rename_i hk1 hk
  split at h
  ·rename_i hst
   cases h
   obtain⟨p,e1⟩:=str_den (hs ρ0 h0) hst
   rw[←hu ρ0 h0] at e1
   obtain⟨u1,a1,b1⟩:=qo hcx hk1 (by simp)
   obtain⟨u2,a2,b2⟩:=qo hcx hk (by simp)
   have r1:u1=.string:=by cases u1<;>simp_all [KD.of]
   have r2:u2=.string:=by cases u2<;>simp_all [KD.of]
   subst r1;subst r2
   refine⟨u,?_,fun ρ hρ=>y9 (hu ρ hρ)⟩
   subst e1
   unfold convert
   rw[Sem.run_bind,run_underlying a1 w]
   simp only[Result.andThen_ok]
   rw[Sem.run_bind,run_underlying a2 w]
   rfl
  ·cases h
 ·cases h
end
open Go.RowKit
section
variable{P:Program}{cx:Cx}{W0:World}{S:St}{base:Nat}{ρ:Val}{T:Nat→Prop}{w:World}{a:Act}{Ω:Val→Prop}
theorem CV.slc{tb:Tab}{m lb:Nat}{e:TypeId}{v:Value}(h:CV tb W0 T w base (.sl m e lb) v):∃A n c,v=.slice A n c∧n≤c∧c≤maxLen∧(A=none→n=0∧c=0)∧∀ad,A=some ad→c≠0→ad.spot=none:=by
 rcases h with h1|⟨-,h1⟩|⟨b,off,k,c,h1,h2,h3,h4,-⟩
 ·exact⟨none,0,0,h1,Nat.le_refl _,Nat.zero_le _,fun _=>⟨rfl,rfl⟩,fun _ e=>by cases e⟩
 ·cases h1 with
  | nil=>exact⟨none,0,0,rfl,Nat.le_refl _,Nat.zero_le _,fun _=>⟨rfl,rfl⟩,fun _ e=>by cases e⟩
  | emp a=>exact⟨some a,0,0,rfl,Nat.le_refl _,Nat.zero_le _,(fun e=>by cases e),fun _ _ h=>absurd rfl h⟩
  | sl f hb hn hl hc hs hf ht=>exact⟨_,_,_,rfl,hn,hc,(fun e=>by cases e),fun _ e _=>by cases e;rfl⟩
 ·exact⟨_,_,_,h1,h2,h4,(fun e=>by cases e),fun _ e _=>by cases e;rfl⟩
def St.slTy(S:St):SV→Option (Nat×TypeId×Nat)
 | .var n=>match look S.ty n with
   | some (.sl m e lb)=>some (m,e,lb)
   | some (.cs _ e lb)=>some (0,e,lb)
   | _=>none
 | _=>none
theorem slTy_ok{s:SV}{m lb:Nat}{e:TypeId}(h:SatW cx.tb W0 S base ρ T w)(hs:S.slTy s=some (m,e,lb)):∃n,s=.var n∧CV cx.tb W0 T w base (.sl m e lb) (ρ n)∧S.len s=some (Lin.at n):=by
 cases s with
 | var n=>
   simp only[St.slTy] at hs
   split at hs
   ·rename_i hq
    cases hs
    exact⟨n,rfl,h.ty n _ (zg hq),by simp only[St.len,hq]⟩
   ·rename_i hq
    cases hs
    exact⟨n,rfl,(h.ty n _ (zg hq)).sl_of,by simp only[St.len,hq]⟩
   ·cases hs
 | con v=>cases hs
 | lin k l=>cases hs
 | be b=>cases hs
 | ptr n o=>cases hs
def lenA(cx:Cx)(S:St)(t:TypeId)(x:SV):Option Out:=match kd cx t with
 | .str=>if S.str x then(S.len x).map fun l=>mkS (.lin .i64 l) else none
 | .sl _=>if S.isSl x then(S.len x).map fun l=>mkS (.lin .i64 l) else none
 | .ar n _=>some (mkS (.con (.int .i64 n)))
 | _=>none
theorem lenA_ok(hcx:CxOk P cx){t r:TypeId}{x:SV}{out:Out}(h:lenA cx S t x=some out)(hex:∃ρ,Ω ρ)(hs:∀ρ,Ω ρ→SatW cx.tb W0 S base ρ T w){u:Value}(hu:∀ρ,Ω ρ→u=x.den ρ) :
  ∃v,(Builtin.len_ #[t] r #[u]).run P w=.ok v w∧∀ρ,Ω ρ→NewOk cx.tb W0 S out base ρ T w v:=by
 obtain⟨ρ0,h0⟩:=hex
 unfold lenA at h
 split at h
 ·rename_i hk
  obtain⟨u',g1,g2⟩:=qo hcx hk (by simp)
  have:u'=.string:=by cases u'<;>simp_all [KD.of]
  subst this
  split at h
  ·rename_i hst
   cases hl:S.len x with
   | none=>rw[hl] at h;cases h
   | some l=>
     rw[hl] at h
     have h:=oi h
     subst h
     obtain⟨p,e1⟩:=str_den (hs ρ0 h0) hst
     rw[←hu ρ0 h0] at e1
     subst e1
     refine⟨goInt p.size,?_,fun ρ hρ=>y9 ?_⟩
     ·simp[Builtin.len_,Sem.run_bind,run_underlying g1 w]
     ·simp only[goInt,SV.den,len_str (hs ρ hρ) (hu ρ hρ).symm hl]
  ·cases h
 ·rename_i e hk
  obtain⟨u',g1,g2⟩:=qo hcx hk (by simp)
  obtain⟨e',rfl⟩:∃e',u'=.slice e':=by cases u'<;>simp_all [KD.of]
  split at h
  ·rename_i hst
   cases hl:S.len x with
   | none=>rw[hl] at h;cases h
   | some l=>
     rw[hl] at h
     have h:=oi h
     subst h
     obtain⟨A,n,c,e1,-⟩:=isSl_den (hs ρ0 h0) hst
     rw[←hu ρ0 h0] at e1
     subst e1
     refine⟨goInt n,?_,fun ρ hρ=>y9 ?_⟩
     ·simp[Builtin.len_,Sem.run_bind,run_underlying g1 w]
     ·simp only[goInt,SV.den,jo (hs ρ hρ) (hu ρ hρ).symm hl]
  ·cases h
 ·rename_i n e hk
  cases h
  obtain⟨u',g1,g2⟩:=qo hcx hk (by simp)
  obtain⟨n',e',rfl⟩:∃n' e',u'=.array n' e':=by cases u'<;>simp_all [KD.of]
  simp only[KD.of,KD.ar.injEq] at g2
  obtain⟨rfl,rfl⟩:=g2
  refine⟨goInt n',?_,fun ρ hρ=>y9 rfl⟩
  cases u<;>simp[Builtin.len_,Sem.run_bind,run_underlying g1 w]
 ·cases h
def capA(cx:Cx)(S:St)(t:TypeId)(x:SV):Option Out:=match kd cx t,S.slTy x,S.len x with
 | .sl _,some _,some l=>some (mk1 S (.int .i64 0 maxLen) [(Lin.at S.nv).sub l])
 | _,_,_=>none
theorem capA_ok(hcx:CxOk P cx){t r:TypeId}{x:SV}{out:Out}(h:capA cx S t x=some out)(hex:∃ρ,Ω ρ)(hs:∀ρ,Ω ρ→SatW cx.tb W0 S base ρ T w){u:Value}(hu:∀ρ,Ω ρ→u=x.den ρ) :
  ∃v,(Builtin.cap_ #[t] r #[u]).run P w=.ok v w∧∀ρ,Ω ρ→NewOk cx.tb W0 S out base ρ T w v:=by
 obtain⟨ρ0,h0⟩:=hex
 unfold capA at h
 split at h
 ·rename_i e q l hk hsl hl
  cases h
  obtain⟨m,e2,lb⟩:=q
  obtain⟨u',g1,g2⟩:=qo hcx hk (by simp)
  obtain⟨e',rfl⟩:∃e',u'=.slice e':=by cases u'<;>simp_all [KD.of]
  obtain⟨n,rfl,hcv,-⟩:=slTy_ok (hs ρ0 h0) hsl
  obtain⟨A,k,c,h1,h2,h3,-⟩:=hcv.slc
  have e1:=hu ρ0 h0
  rw[show(SV.var n).den ρ0=ρ0 n from rfl,h1] at e1
  subst e1
  refine⟨goInt c,by simp[Builtin.cap_,Sem.run_bind,run_underlying g1 w],fun ρ hρ=>zq ⟨_,rfl,by omega,by omega⟩ ?_⟩
  intro hv f hf
  simp only[List.mem_singleton] at hf
  subst hf
  rw[Lin.qc,Lin.qg,hv,jo (hs ρ hρ) (hu ρ hρ).symm hl]
  simp only[goInt,meas];omega
 ·cases h
def mmA(S:St)(mx:Bool)(x y:SV):Option Out:=match S.lin x,S.lin y with
 | some (k,l),some (k',m)=>if k=k' && S.inR k l && S.inR k m then some (full1 S k (
    (if mx then [(Lin.at S.nv).sub l,(Lin.at S.nv).sub m] else [l.sub (Lin.at S.nv),m.sub (Lin.at S.nv)])++(if S.ent l && S.ent m then [Lin.at S.nv] else []) ++
    (if S.ent (l.sub m) then(if mx then [l.sub (Lin.at S.nv)] else [(Lin.at S.nv).sub m]) else [])++(if S.ent (m.sub l) then(if mx then [m.sub (Lin.at S.nv)] else [(Lin.at S.nv).sub l]) else []))) else none
 | _,_=>none
theorem mmA_ok{mx:Bool}{x y:SV}{out:Out}{r:TypeId}{ts:Array TypeId}(h:mmA S mx x y=some out)(hex:∃ρ,Ω ρ)(hs:∀ρ,Ω ρ→SatW cx.tb W0 S base ρ T w){u v:Value}(hu:∀ρ,Ω ρ→u=x.den ρ)(hv:∀ρ,Ω ρ→v=y.den ρ) :
  ∃z,(if mx then Builtin.max_ ts r #[u,v] else Builtin.min_ ts r #[u,v]).run P w=.ok z w∧∀ρ,Ω ρ→NewOk cx.tb W0 S out base ρ T w z:=by
 obtain⟨ρ0,h0⟩:=hex
 unfold mmA at h
 split at h
 ·rename_i k l k' m hl hm
  split at h
  ·rename_i hc
   cases h
   simp only[Bool.and_eq_true,decide_eq_true_eq] at hc
   obtain⟨⟨rfl,c1⟩,c2⟩:=hc
   have e1:=yh (hs ρ0 h0) hl
   have e2:=yh (hs ρ0 h0) hm
   rw[←hu ρ0 h0] at e1
   rw[←hv ρ0 h0] at e2
   have p1:∀ρ,Ω ρ→l.eval ρ0=l.eval ρ:=fun ρ hρ=>by
    have:=yh (hs ρ hρ) hl
    rw[←hu ρ hρ,e1] at this
    injection this
   have p2:∀ρ,Ω ρ→m.eval ρ0=m.eval ρ:=fun ρ hρ=>by
    have:=yh (hs ρ hρ) hm
    rw[←hv ρ hρ,e2] at this
    injection this
   subst e1
   subst e2
   have r1:=inR_ok (hs ρ0 h0) c1
   have r2:=inR_ok (hs ρ0 h0) c2
   generalize hp:l.eval ρ0=p at *
   generalize hq:m.eval ρ0=q at *
   obtain⟨z,hz,hz2⟩:∃z,(if mx then Builtin.max_ ts r #[.int k p,.int k q] else Builtin.min_ ts r #[.int k p,.int k q]).run P w=.ok (.int k z) w∧z=if mx then max p q else min p q:=by
    cases mx
    ·refine⟨min p q,?_,rfl⟩
     simp only[Bool.false_eq_true,if_false,Builtin.min_,List.foldlM,Builtin.min2,Sem.run_bind,Sem.run_pure,Result.andThen_ok]
     congr 2;omega
    ·refine⟨max p q,?_,rfl⟩
     simp only[if_true,Builtin.max_,List.foldlM,Builtin.max2,Sem.run_bind,Sem.run_pure,Result.andThen_ok]
     congr 2;omega
   refine⟨_,hz,fun ρ hρ=>zq ⟨z,rfl,by split at hz2<;>omega,by split at hz2<;>omega⟩ ?_⟩
   intro hvv f hf
   have hmm:meas (ρ S.nv)=z:=by rw[hvv];rfl
   have a1:=p1 ρ hρ
   have a2:=p2 ρ hρ
   simp only[List.mem_append] at hf
   rcases hf with((hf|hf)|hf)|hf
   ·cases mx<;>simp only[Bool.false_eq_true,if_false,if_true,List.mem_cons,List.not_mem_nil,or_false] at hf hz2<;>rcases hf with rfl|rfl<;>rw[Lin.qc,Lin.qg,hmm]<;>omega
   ·split at hf
    ·rename_i hc
     simp only[Bool.and_eq_true] at hc
     have g1:=(hs ρ hρ).ent hc.1
     have g2:=(hs ρ hρ).ent hc.2
     simp only[List.mem_singleton] at hf
     subst hf
     rw[Lin.qg,hmm]
     split at hz2<;>omega
    ·simp at hf
   ·split at hf
    ·rename_i hc
     have g1:=(hs ρ hρ).ent hc
     rw[Lin.qc] at g1
     cases mx<;>simp only[Bool.false_eq_true,if_false,if_true,List.mem_cons,List.not_mem_nil,or_false] at hf hz2<;>subst hf<;>rw[Lin.qc,Lin.qg,hmm]<;>omega
    ·simp at hf
   ·split at hf
    ·rename_i hc
     have g1:=(hs ρ hρ).ent hc
     rw[Lin.qc] at g1
     cases mx<;>simp only[Bool.false_eq_true,if_false,if_true,List.mem_cons,List.not_mem_nil,or_false] at hf hz2<;>subst hf<;>rw[Lin.qc,Lin.qg,hmm]<;>omega
    ·simp at hf
  ·cases h
 ·cases h
def tdOf(cx:Cx)(t:TypeId):Option TD:=look cx.td t
def partA(cx:Cx)(t:TypeId)(l:List SV)(off:Nat):Option Out:=match tdOf cx t with
 | some d=>if d.k.agg then(if off+d.size≤l.length then some (mk0 (.v (.agg ((l.drop off).take d.size)))) else none) else match l[off]? with
   | some s=>some (mkS s)
   | none=>none
 | none=>none
theorem partA_ok(hcx:CxOk P cx){t:TypeId}{l:List SV}{off:Nat}{out:Out}(h:partA cx t l off=some out)(hex:∃ρ,Ω ρ){cs:Array Value}(hc:∀ρ,Ω ρ→cs.toList=dens ρ l) :
  ∃v,(part t cs off).run P w=.ok v w∧∀ρ,Ω ρ→NewOk cx.tb W0 S out base ρ T w v:=by
 obtain⟨ρ0,h0⟩:=hex
 unfold partA at h
 split at h
 ·rename_i d hd
  have htd:=hcx t d hd
  have hag:=um htd w
  have hsz:=zo htd w
  split at h
  ·rename_i hagg
   split at h
   ·rename_i hle
    cases h
    rw[hagg] at hag
    refine⟨.agg (cs.extract off (off+d.size)),by simp[part,Sem.run_bind,hag,hsz],fun ρ hρ=>mk0_ok ?_⟩
    show Value.agg _=Value.agg _
    congr 1
    apply Array.toList_inj.1
    rw[Array.toList_extract,hc ρ hρ]
    simp[dens,List.extract_eq_take_drop,List.map_drop,List.map_take]
   ·cases h
  ·rename_i hagg
   have hagg':d.k.agg=false:=by simpa using hagg
   rw[hagg'] at hag
   split at h
   ·rename_i s hs'
    cases h
    have hcs:∀ρ,Ω ρ→cs[off]? = some (s.den ρ):=fun ρ hρ=>by
     rw[←Array.getElem?_toList,hc ρ hρ]
     simp[dens,hs']
    refine⟨s.den ρ0,by simp[part,Sem.run_bind,hag,hcs ρ0 h0],fun ρ hρ=>y9 ?_⟩
    have:=(hcs ρ0 h0).symm.trans (hcs ρ hρ)
    exact oi this
   ·cases h
 ·cases h
def uh(cx:Cx)(t:TypeId)(f:Nat):Option (TypeId×Nat):=match kd cx t with
 | .st fs=>fs[f]?
 | _=>none
theorem jm(hcx:CxOk P cx){t ft:TypeId}{f off:Nat}(h:uh cx t f=some (ft,off)):∃fs fl,P.underlying t=some (.struct fs)∧fs[f]? = some fl∧fl.type=ft∧fl.offset=off:=by
 unfold uh at h
 split at h
 ·rename_i l hk
  obtain⟨u',g1,g2⟩:=qo hcx hk (by simp)
  obtain⟨fs,rfl⟩:∃fs,u'=.struct fs:=by cases u'<;>simp_all [KD.of]
  simp only[KD.of,KD.st.injEq] at g2
  rw[←g2,List.getElem?_map,Array.getElem?_toList] at h
  cases hq:fs[f]? with
  | none=>rw[hq] at h;cases h
  | some fl=>
    rw[hq] at h
    have h:=oi h
    injection h with h1 h2
    exact⟨fs,fl,g1,hq,h1,h2⟩
 ·cases h
def fieldA(cx:Cx)(t:TypeId)(x:XV)(f:Nat):Option Out:=match x,uh cx t f with
 | .v (.agg l),some (ft,off)=>partA cx ft l off
 | _,_=>none
theorem fieldA_ok(hcx:CxOk P cx){t:TypeId}{x:XV}{f:Nat}{out:Out}(h:fieldA cx t x f=some out)(hex:∃ρ,Ω ρ){u:Value}(hu:∀ρ,Ω ρ→u=x.den ρ) :
  ∃v,(Instr.field t u f).run P w=.ok v w∧∀ρ,Ω ρ→NewOk cx.tb W0 S out base ρ T w v:=by
 obtain⟨ρ0,h0⟩:=hex
 unfold fieldA at h
 split at h
 ·rename_i l ft off hf
  obtain⟨fs,fl,g1,g2,rfl,rfl⟩:=jm hcx hf
  have e1:u=.agg (dens ρ0 l).toArray:=hu ρ0 h0
  obtain⟨v,hv1,hv2⟩:=partA_ok (P:=P) (W0:=W0) (S:=S) (base:=base) (T:=T) (w:=w) hcx h ⟨ρ0,h0⟩ (cs:=(dens ρ0 l).toArray) (fun ρ hρ=>by
   have e2:u=.agg (dens ρ l).toArray:=hu ρ hρ
   rw[e1] at e2
   injection e2 with e2
   rw[e2])
  refine⟨v,?_,hv2⟩
  subst e1
  unfold Instr.field
  rw[Sem.run_bind,run_underlying g1 w]
  simp only[Result.andThen_ok,g2]
  rw[Sem.run_bind]
  simpa[asAgg] using hv1
 ·cases h
def faddrA(cx:Cx)(S:St)(t:TypeId)(x:SV)(f:Nat):Option Out:=match S.ptr x,uh cx t f with
 | some (n,o),some (ft,off)=>match tdOf cx ft with
   | some d=>if d.size=0 then none else some (mkS (.ptr n (o+off)))
   | none=>none
 | _,_=>none
theorem faddrA_ok(hcx:CxOk P cx){t:TypeId}{x:SV}{f:Nat}{out:Out}(h:faddrA cx S t x f=some out)(hex:∃ρ,Ω ρ)(hs:∀ρ,Ω ρ→SatW cx.tb W0 S base ρ T w){u:Value}(hu:∀ρ,Ω ρ→u=x.den ρ) :
  ∃v,(Instr.fieldAt t u f).run P w=.ok v w∧∀ρ,Ω ρ→NewOk cx.tb W0 S out base ρ T w v:=by
 obtain⟨ρ0,h0⟩:=hex
 unfold faddrA at h
 split at h
 ·rename_i n o ft off hp hf
  split at h
  ·rename_i d hd
   split at h
   ·cases h
   ·rename_i hne
    cases h
    obtain⟨fs,fl,g1,g2,rfl,rfl⟩:=jm hcx hf
    have e1:=vg (hs ρ0 h0) hp
    rw[←hu ρ0 h0] at e1
    refine⟨.pointer (some ⟨(addrOf (ρ0 n)).block,(addrOf (ρ0 n)).off+o+fl.offset,none⟩),?_,fun ρ hρ=>y9 ?_⟩
    ·subst e1
     unfold Instr.fieldAt
     rw[Sem.run_bind,run_underlying g1 w]
     simp only[Result.andThen_ok,g2]
     simp[Instr.sureAddr,fieldPlace,Sem.run_bind,zo (hcx _ d hd) w,hne,Addr.add_mid]
    ·have e2:=vg (hs ρ hρ) hp
     rw[←hu ρ hρ,e1] at e2
     injection e2 with e2;injection e2 with e2;injection e2 with e3 e4
     simp only[SV.den,←e3]
     rw[show(addrOf (ρ n)).off+(o+fl.offset)=(addrOf (ρ n)).off+o+fl.offset by omega,←e4]
  ·cases h
 ·cases h
end
open Go.RowKit
section
variable{P:Program}{cx:Cx}{W0:World}{S:St}{base:Nat}{ρ:Val}{T:Nat→Prop}{w:World}{a:Act}{Ω:Val→Prop}
def iaddrA(cx:Cx)(S:St)(t:TypeId)(x i:SV):Option Out:=match S.lin i with
 | none=>none
 | some (_,li)=>match kd cx t with
   | .sl e=>match S.slTy x,S.len x,tdOf cx e with
     | some (m,e',_),some ln,some d=>if decide (e'=e∧d.size=cx.tb.sz e) && S.ent li && S.ent ((ln.sub li).pl (-1)) then some (mk1 S (.pt m e) []) else none
     | _,_,_=>none
   | .ar n e=>match S.ptr x,tdOf cx e with
     | some (p,off),some d=>match cst li with
       | some c=>if 0≤c∧c<n∧1<n then some (mkS (.ptr p (off+c.toNat*d.size))) else none
       | none=>match look S.ty p with
         | some (.pt m u)=>if decide (1<n∧d.size=cx.tb.sz e) && (cx.tb.flat e).isSome && S.ent li && S.ent (((Lin.k n).sub li).pl (-1)) &&
            (List.range n).all (fun j=>sub ((cx.tb.flat e).getD []) ((cx.tb.flat u).getD []) (off+j*d.size)) then some (mk1 S (.pt m e) []) else none
         | _=>none
     | _,_=>none
   | _=>none
theorem xn(k:IntKind)(n:Int):(asIntOf (.int k n)).run P w=.ok (k,n) w:=rfl
theorem yw(b o n:Nat):(⟨b,o,none⟩:Addr).add n=⟨b,o+n,none⟩:=Addr.add_mid b o n
theorem iaddrA_ok(hcx:CxOk P cx){t:TypeId}{x i:SV}{out:Out}(h:iaddrA cx S t x i=some out)(hex:∃ρ,Ω ρ)(hs:∀ρ,Ω ρ→SatW cx.tb W0 S base ρ T w){u v:Value}(hu:∀ρ,Ω ρ→u=x.den ρ)(hv:∀ρ,Ω ρ→v=i.den ρ) :
  ∃r,(Instr.indexAt t u v).run P w=.ok r w∧∀ρ,Ω ρ→NewOk cx.tb W0 S out base ρ T w r:=by
 obtain⟨ρ0,h0⟩:=hex
 unfold iaddrA at h
 split at h
 ·cases h
 ·rename_i k li hli
  have e2:=yh (hs ρ0 h0) hli
  rw[←hv ρ0 h0] at e2
  subst e2
  split at h
  ·rename_i e hk
   split at h
   ·rename_i m e' lb ln d hsl hln hd
    split at h
    ·rename_i hc
     cases h
     simp only[Bool.and_eq_true,decide_eq_true_eq] at hc
     obtain⟨⟨⟨rfl,hsz⟩,c1⟩,c2⟩:=hc
     have q1:=(hs ρ0 h0).ent c1
     have q2:=(hs ρ0 h0).ent c2
     obtain⟨n,rfl,hcv,-⟩:=slTy_ok (hs ρ0 h0) hsl
     obtain⟨A,len,c,h1,h2,h3,h4,h5⟩:=hcv.slc
     have e1:=hu ρ0 h0
     rw[show(SV.var n).den ρ0=ρ0 n from rfl,h1] at e1
     have e3:=jo (hs ρ0 h0) (by rw[←hu ρ0 h0,e1]) hln
     rw[Lin.qp,Lin.qc,e3] at q2
     subst e1
     obtain⟨u',g1,g2⟩:=qo hcx hk (by simp)
     obtain⟨e'',rfl⟩:∃e'',u'=.slice e'':=by cases u'<;>simp_all [KD.of]
     simp only[KD.of,KD.sl.injEq] at g2
     subst g2
     cases A with
     | none=>have:=h4 rfl;omega
     | some ad=>
       obtain⟨b,off,sp⟩:=ad
       have:=h5 _ rfl (by omega)
       simp only at this
       subst this
       refine⟨.pointer (some ⟨b,off+(li.eval ρ0).toNat*cx.tb.sz e'',none⟩),?_,fun ρ hρ=>?_⟩
       ·unfold Instr.indexAt
        rw[Sem.run_bind,xn]
        simp only[Result.andThen_ok]
        have hun:=run_underlying g1 w
        simp[hun,q1,show li.eval ρ0<len by omega,zo (hcx _ d hd) w,hsz,yw]
       ·refine zq ?_ (by simp)
        have hcv':CV cx.tb W0 T w base (.sl m e'' lb) (.slice (some ⟨b,off,none⟩) len c):=by
         obtain⟨n',e4,hcv',-⟩:=slTy_ok (hs ρ hρ) hsl
         cases e4
         have:=hu ρ hρ
         rw[show(SV.var n).den ρ=ρ n from rfl] at this
         rw[this];exact hcv'
        exact hcv'.elem (by omega)
    ·cases h
   ·cases h
  ·rename_i n e hk
   obtain⟨u',g1,g2⟩:=qo hcx hk (by simp)
   obtain⟨n',e'',rfl⟩:∃n' e'',u'=.array n' e'':=by cases u'<;>simp_all [KD.of]
   simp only[KD.of,KD.ar.injEq] at g2
   obtain⟨rfl,rfl⟩:=g2
   split at h
   ·rename_i p off d hp hd
    have e1:=vg (hs ρ0 h0) hp
    rw[←hu ρ0 h0] at e1
    have hrun:0≤li.eval ρ0→li.eval ρ0<n'→1<n'→(Instr.indexAt t u (.int k (li.eval ρ0))).run P w=.ok (.pointer (some ⟨(addrOf (ρ0 p)).block,(addrOf (ρ0 p)).off+off+(li.eval ρ0).toNat*d.size,none⟩)) w:=by
     intro a1 a2 a3
     subst e1
     unfold Instr.indexAt
     rw[Sem.run_bind,xn]
     simp only[Result.andThen_ok]
     have hun:=run_underlying g1 w
     simp[hun,Instr.sureAddr,a1,a2,zo (hcx _ d hd) w,yw,Sem.run_bind]
    split at h
    ·rename_i c hc
     split at h
     ·rename_i hcc
      cases h
      have hcl:=cst_ok hc ρ0
      refine⟨_,hrun (by omega) (by omega) hcc.2.2,fun ρ hρ=>y9 ?_⟩
      have e2:=vg (hs ρ hρ) hp
      rw[←hu ρ hρ,e1] at e2
      injection e2 with e2;injection e2 with e2;injection e2 with e3 e4
      simp only[SV.den,hcl,←e3]
      rw[show(addrOf (ρ p)).off+(off+c.toNat*d.size)=(addrOf (ρ p)).off+off+c.toNat*d.size by omega,←e4]
     ·cases h
    ·split at h
     ·rename_i m uu hq
      split at h
      ·rename_i hc
       cases h
       simp only[Bool.and_eq_true,decide_eq_true_eq] at hc
       obtain⟨⟨⟨⟨⟨hn1,hsz⟩,hfl⟩,c1⟩,c2⟩,c3⟩:=hc
       have q1:=(hs ρ0 h0).ent c1
       have q2:=(hs ρ0 h0).ent c2
       rw[Lin.qp,Lin.qc,Lin.zh] at q2
       refine⟨_,hrun q1 (by omega) hn1,fun ρ hρ=>zq ?_ (by simp)⟩
       have hcv:=(hs ρ hρ).ty p _ (zg hq)
       obtain⟨b,o,hb,-⟩:=id hcv
       rw[hb] at hcv
       have hsub:=List.all_eq_true.1 c3 (li.eval ρ0).toNat (List.mem_range.2 (by omega))
       have e2:=vg (hs ρ hρ) hp
       rw[←hu ρ hρ,e1] at e2
       injection e2 with e2;injection e2 with e2;injection e2 with e3 e4
       have:=pt_sub hcv (Nat.le_refl m) hsub hfl
       have hb':addrOf (ρ p)=⟨b,o,none⟩:=by rw[hb];rfl
       rw[hb'] at e3 e4
       simp only at e3 e4
       rw[show(addrOf (ρ0 p)).off+off+(li.eval ρ0).toNat*d.size=o+(off+(li.eval ρ0).toNat*d.size) by omega]
       rw[show(addrOf (ρ0 p)).block=b from e3]
       exact this
      ·cases h
     ·cases h
   ·cases h
  ·cases h
def indexA(cx:Cx)(S:St)(t:TypeId)(x:XV)(i:SV):Option Out:=match S.lin i with
 | none=>none
 | some (_,li)=>match kd cx t,x with
   | .str,.v (.one s)=>match S.len s with
     | some ln=>if S.str s && S.ent li && S.ent ((ln.sub li).pl (-1)) then some (mk1 S (.int .u8 0 255) []) else none
     | none=>none
   | .ar n e,.v (.agg l)=>match tdOf cx e with
     | some d=>match cst li with
       | some c=>if 0≤c∧c<n then partA cx e l (c.toNat*d.size) else none
       | none=>match cx.tb.flat e with
         | some [ct]=>if decide (d.size=1∧d.k.agg=false∧n=l.length) && S.ent li && S.ent (((Lin.k n).sub li).pl (-1)) && l.all (fun s=>S.has cx.tb s ct) then some (mk1 S ct []) else none
         | _=>none
     | none=>none
   | _,_=>none
theorem indexA_ok(hcx:CxOk P cx){t:TypeId}{x:XV}{i:SV}{out:Out}(h:indexA cx S t x i=some out)(hex:∃ρ,Ω ρ)(hs:∀ρ,Ω ρ→SatW cx.tb W0 S base ρ T w){u v:Value}(hu:∀ρ,Ω ρ→u=x.den ρ)(hv:∀ρ,Ω ρ→v=i.den ρ) :
  ∃r,(Instr.index t u v).run P w=.ok r w∧∀ρ,Ω ρ→NewOk cx.tb W0 S out base ρ T w r:=by
 obtain⟨ρ0,h0⟩:=hex
 unfold indexA at h
 split at h
 ·cases h
 ·rename_i k li hli
  have e2:=yh (hs ρ0 h0) hli
  rw[←hv ρ0 h0] at e2
  subst e2
  split at h
  ·rename_i s hk
   obtain⟨u',g1,g2⟩:=qo hcx hk (by simp)
   have:u'=.string:=by cases u'<;>simp_all [KD.of]
   subst this
   split at h
   ·rename_i ln hln
    split at h
    ·rename_i hc
     cases h
     simp only[Bool.and_eq_true] at hc
     have q1:=(hs ρ0 h0).ent hc.1.2
     have q2:=(hs ρ0 h0).ent hc.2
     obtain⟨p,e1⟩:=str_den (hs ρ0 h0) hc.1.1
     have e3:=len_str (hs ρ0 h0) e1 hln
     have e4:u=s.den ρ0:=hu ρ0 h0
     rw[e1] at e4
     subst e4
     rw[Lin.qp,Lin.qc,e3] at q2
     have hlt:(li.eval ρ0).toNat<p.size:=by omega
     refine⟨.int .u8 (p[(li.eval ρ0).toNat]'hlt).toNat,?_,fun ρ hρ=>zq ⟨_,rfl,by omega,?_⟩ (by simp)⟩
     ·unfold Instr.index
      rw[Sem.run_bind,xn]
      simp only[Result.andThen_ok]
      rw[Sem.run_bind,run_underlying g1 w]
      have hg:p[(li.eval ρ0).toNat]? = some (p[(li.eval ρ0).toNat]'hlt):=by simp[hlt]
      simp[q1,hg]
     ·have:=(p[(li.eval ρ0).toNat]'hlt).toNat_lt
      omega
    ·cases h
   ·cases h
  ·rename_i n e l hk
   obtain⟨u',g1,g2⟩:=qo hcx hk (by simp)
   obtain⟨n',e'',rfl⟩:∃n' e'',u'=.array n' e'':=by cases u'<;>simp_all [KD.of]
   simp only[KD.of,KD.ar.injEq] at g2
   obtain⟨rfl,rfl⟩:=g2
   have e1:u=.agg (dens ρ0 l).toArray:=hu ρ0 h0
   have hall:∀ρ,Ω ρ→(dens ρ0 l).toArray.toList=dens ρ l:=fun ρ hρ=>by
    have e2:u=.agg (dens ρ l).toArray:=hu ρ hρ
    rw[e1] at e2
    injection e2 with e2
    rw[e2]
   split at h
   ·rename_i d hd
    have hrun:∀r,0≤li.eval ρ0→li.eval ρ0<n'→(part e'' (dens ρ0 l).toArray ((li.eval ρ0).toNat*d.size)).run P w=.ok r w→(Instr.index t u (.int k (li.eval ρ0))).run P w=.ok r w:=by
     intro r a1 a2 a3
     subst e1
     unfold Instr.index
     rw[Sem.run_bind,xn]
     simp only[Result.andThen_ok]
     rw[Sem.run_bind,run_underlying g1 w]
     simp only[Result.andThen_ok]
     rw[if_pos ⟨a1,a2⟩,Sem.run_bind,zo (hcx _ d hd) w]
     exact a3
    split at h
    ·rename_i c hc
     split at h
     ·rename_i hcc
      have hcl:=cst_ok hc ρ0
      obtain⟨r,hr1,hr2⟩:=partA_ok (P:=P) (W0:=W0) (S:=S) (base:=base) (T:=T) (w:=w) hcx h ⟨ρ0,h0⟩ hall
      exact⟨r,hrun r (by omega) (by omega) (by rw[hcl];exact hr1),hr2⟩
     ·cases h
    ·split at h
     ·rename_i ct hfl
      split at h
      ·rename_i hc
       cases h
       simp only[Bool.and_eq_true,decide_eq_true_eq] at hc
       obtain⟨⟨⟨⟨hs1,hagg,hn⟩,c1⟩,c2⟩,c3⟩:=hc
       have q1:=(hs ρ0 h0).ent c1
       have q2:=(hs ρ0 h0).ent c2
       rw[Lin.qp,Lin.qc,Lin.zh] at q2
       have hlt:(li.eval ρ0).toNat<l.length:=by omega
       have hag:=um (hcx _ d hd) w
       rw[hagg] at hag
       refine⟨(l[(li.eval ρ0).toNat]'hlt).den ρ0,hrun _ q1 (by omega) ?_,fun ρ hρ=>zq ?_ (by simp)⟩
       ·rw[hs1,Nat.mul_one]
        simp[part,Sem.run_bind,hag,dens,List.getElem?_eq_getElem hlt]
       ·have h3:=List.all_eq_true.1 c3 _ (List.getElem_mem hlt)
        have h4:=uo (hs ρ hρ) h3
        have h5:=hall ρ hρ
        have h6:(l[(li.eval ρ0).toNat]'hlt).den ρ0=(l[(li.eval ρ0).toNat]'hlt).den ρ:=by
         have:=congrArg (fun z:List Value=>z[(li.eval ρ0).toNat]?) h5
         simpa[dens,List.getElem?_eq_getElem hlt] using this
        rw[h6];exact h4
      ·cases h
     ·cases h
   ·cases h
  ·cases h
end
open Go.RowKit
section
variable{P:Program}{cx:Cx}{W0:World}{S:St}{base:Nat}{ρ:Val}{T:Nat→Prop}{w:World}{a:Act}{Ω:Val→Prop}
def boundL(S:St)(dflt:Lin):Option SV→Option Lin
 | none=>some dflt
 | some s=>(S.lin s).map (·.2)
def sliceA(cx:Cx)(S:St)(t:TypeId)(x:SV)(lo hi mx:Option SV):Option Out:=match S.len x with
 | none=>none
 | some ln=>match boundL S (Lin.k 0) lo,boundL S ln hi,boundL S ln mx with
   | some l,some h,some m=>
     if S.ent l && S.ent (h.sub l) && S.ent (m.sub h) && S.ent (ln.sub m) then match kd cx t with
      | .str=>if S.str x && mx.isNone && S.ent ((Lin.k (2^62)).sub ln) then some (mk1 S (.str (2^62)) [(Lin.at S.nv).sub (h.sub l),(h.sub l).sub (Lin.at S.nv)]) else none
      | .sl e=>match S.slTy x,tdOf cx e with
        | some (md,e',lb),some d=>if decide (e'=e∧d.size=cx.tb.sz e) then some (mk1 S (.sl md e lb) [(Lin.at S.nv).sub (h.sub l),(h.sub l).sub (Lin.at S.nv)]) else none
        | _,_=>none
      | _=>none
     else none
   | _,_,_=>none
theorem ji{k:IntKind}{i:Int}{y:Nat}(c:BoundsCode)(h0:0≤i)(h1:i≤y):(Instr.sliceBound (.int k i) y c).run P w=.ok i.toNat w:=by
 unfold Instr.sliceBound
 rw[Sem.run_bind,xn]
 simp[h0,h1]
theorem bounds_ok(isSl:Bool){len cap:Nat}{lo hi mx:Option Value}{l h m:Int}(hc:len≤cap)(h0:0≤l)(h1:l≤h)(h2:h≤m)(h3:m≤len)
  (hlo:lo=none∧l=0∨∃k,lo=some (.int k l)) (hhi:hi=none∧h=len∧mx=none∨∃k,hi=some (.int k h)) (hmx:mx=none∧m=len∨∃k,mx=some (.int k m)) :
  (Instr.sliceBounds isSl len cap lo hi mx).run P w=.ok (l.toNat,h.toNat,if mx=none then cap else m.toNat) w:=by
 rcases hmx with⟨rfl,rfl⟩|⟨km,rfl⟩
 ·rcases hhi with⟨rfl,rfl,-⟩|⟨kh,rfl⟩
  ·rcases hlo with⟨rfl,rfl⟩|⟨kl,rfl⟩
   ·simp[Instr.sliceBounds]
   ·simp[Instr.sliceBounds,ji (P:=P) (w:=w) (k:=kl) .sliceB h0 (show l≤(len:Nat) by omega)]
  ·have e1:=fun c=>ji (P:=P) (w:=w) (k:=kh) (y:=cap) c (show 0≤h by omega) (show h≤cap by omega)
   rcases hlo with⟨rfl,rfl⟩|⟨kl,rfl⟩
   ·simp[Instr.sliceBounds,e1]
   ·have e2:=fun c=>ji (P:=P) (w:=w) (k:=kl) (y:=h.toNat) c h0 (show l≤h.toNat by omega)
    simp[Instr.sliceBounds,e1,e2]
 ·rcases hhi with⟨-,-,e⟩|⟨kh,rfl⟩
  ·cases e
  ·have e0:=fun c=>ji (P:=P) (w:=w) (k:=km) (y:=cap) c (show 0≤m by omega) (show m≤cap by omega)
   have e1:=fun c=>ji (P:=P) (w:=w) (k:=kh) (y:=m.toNat) c (show 0≤h by omega) (show h≤m.toNat by omega)
   rcases hlo with⟨rfl,rfl⟩|⟨kl,rfl⟩
   ·simp[Instr.sliceBounds,e0,e1]
   ·have e2:=fun c=>ji (P:=P) (w:=w) (k:=kl) (y:=h.toNat) c h0 (show l≤h.toNat by omega)
    simp[Instr.sliceBounds,e0,e1,e2]
theorem CV.cut{tb:Tab}{md lb:Nat}{e:TypeId}{A:Option Addr}{n c:Nat}(hv:CV tb W0 T w base (.sl md e lb) (.slice A n c)){l h m:Nat}(h1:l≤h)(h2:h≤m)(h3:m≤c)(h4:h≤n) :
  CV tb W0 T w base (.sl md e lb) (.slice (if m=l then A else A.map (·.add (l*tb.sz e))) (h-l) (m-l)):=by
 rcases hv with h5|⟨h0,h5⟩|⟨b,off,n',c',h5,h6,h7,h8,h9,h10,h11,h12,cs,fr,h13,h14⟩
 ·injection h5 with e1 e2 e3
  subst e1;subst e2;subst e3
  have e1:h=0:=by omega
  have e2:l=0:=by omega
  have e3:m=0:=by omega
  subst e1;subst e2;subst e3
  exact .inl rfl
 ·cases h5 with
  | nil=>
    have e1:h=0:=by omega
    have e2:l=0:=by omega
    have e3:m=0:=by omega
    subst e1;subst e2;subst e3
    exact .inl rfl
  | emp a=>
    have e1:h=0:=by omega
    have e2:l=0:=by omega
    have e3:m=0:=by omega
    subst e1;subst e2;subst e3
    exact .inr (.inl ⟨h0,.emp a⟩)
  | sl f hb hn hl hc hs hf ht=>
    rename_i b off
    refine .inr (.inl ⟨h0,?_⟩)
    by_cases hml:m=l
    ·rw[if_pos hml]
     have e1:h-l=0:=by omega
     rw[e1]
     exact .sl f hb (by omega) (by omega) (by omega) hs (fun j k hj=>absurd hj (by omega)) (fun j k ct hj=>absurd hj (by omega))
    ·rw[if_neg hml]
     simp only[Option.map_some,yw]
     refine .sl (fun j k=>f (j+l) k) hb (by omega) (by omega) (by omega) hs (fun j k hj hk=>?_) (fun j k ct hj hk=>ht (j+l) k ct (by omega) hk)
     rw[show off+l*tb.sz e+j*tb.sz e+k=off+(j+l)*tb.sz e+k by rw[Nat.add_mul];omega]
     exact hf (j+l) k (by omega) hk
 ·injection h5 with e1 e2 e3
  subst e1;subst e2;subst e3
  have hm:=Nat.mul_le_mul_right (tb.sz e) h3
  by_cases hml:m=l
  ·rw[if_pos hml]
   refine .inr (.inr ⟨b,off,_,_,rfl,by omega,by omega,by omega,h9,h10,h11,h12,cs,fr,h13,?_⟩)
   rw[show m-l=0 by omega,Nat.zero_mul];omega
  ·rw[if_neg hml]
   simp only[Option.map_some,yw]
   refine .inr (.inr ⟨b,_,_,_,rfl,by omega,by omega,by omega,h9,h10,h11,?_,cs,fr,h13,?_⟩)
   ·rw[Nat.add_mod,h12,Nat.mul_mod_left];simp
   ·have:l*tb.sz e+(m-l)*tb.sz e=m*tb.sz e:=by rw[←Nat.add_mul];congr 1;omega
    omega
theorem sliceA_ok(hcx:CxOk P cx){t:TypeId}{x:SV}{lo hi mx:Option SV}{out:Out}(h:sliceA cx S t x lo hi mx=some out)(hex:∃ρ,Ω ρ)(hs:∀ρ,Ω ρ→SatW cx.tb W0 S base ρ T w){u:Value}{vl vh vm:Option Value}(hu:∀ρ,Ω ρ→u=x.den ρ)
  (hvl:∀ρ,Ω ρ→vl=lo.map (SV.den ρ)) (hvh:∀ρ,Ω ρ→vh=hi.map (SV.den ρ)) (hvm:∀ρ,Ω ρ→vm=mx.map (SV.den ρ)) (hmh:mx.isSome=true→hi.isSome=true) :
  ∃r,(Instr.sliceAt t u vl vh vm).run P w=.ok r w∧∀ρ,Ω ρ→NewOk cx.tb W0 S out base ρ T w r:=by
 obtain⟨ρ0,h0⟩:=hex
 unfold sliceA at h
 split at h
 ·cases h
 ·rename_i ln hln
  split at h
  ·rename_i l hh m hl hhi hm
   split at h
   ·rename_i hc
    simp only[Bool.and_eq_true] at hc
    obtain⟨⟨⟨c1,c2⟩,c3⟩,c4⟩:=hc
    have q1:=(hs ρ0 h0).ent c1
    have q2:=(hs ρ0 h0).ent c2
    have q3:=(hs ρ0 h0).ent c3
    have q4:=(hs ρ0 h0).ent c4
    rw[Lin.qc] at q2 q3 q4
    have hb:∀{d:Lin} {o:Option SV} {z:Lin} {ov:Option Value},boundL S d o=some z→(∀ρ,Ω ρ→ov=o.map (SV.den ρ))→∀ρ,Ω ρ→(o=none∧ov=none∧z=d)∨∃k,ov=some (.int k (z.eval ρ)):=by
     intro d o z ov hz hov ρ hρ
     cases o with
     | none=>cases hz;exact .inl ⟨rfl,hov ρ hρ,rfl⟩
     | some s=>
       simp only[boundL] at hz
       cases hq:S.lin s with
       | none=>rw[hq] at hz;cases hz
       | some kl=>
         obtain⟨k,l'⟩:=kl
         rw[hq] at hz
         cases hz
         exact .inr ⟨k,by rw[hov ρ hρ];simp only[Option.map_some,yh (hs ρ hρ) hq]⟩
    have bl:=hb hl hvl ρ0 h0
    have bh:=hb hhi hvh ρ0 h0
    have bm:=hb hm hvm ρ0 h0
    have hrun:∀(isSl:Bool) (len cap:Nat),ln.eval ρ0=len→len≤cap→(Instr.sliceBounds isSl len cap vl vh vm).run P w=.ok ((l.eval ρ0).toNat,(hh.eval ρ0).toNat,if vm=none then cap else(m.eval ρ0).toNat) w:=by
     intro isSl len cap e1 e2
     refine bounds_ok isSl e2 q1 (by omega) (by omega) (by omega) ?_ ?_ ?_
     ·rcases bl with⟨-,h1,h2⟩|⟨k,h1⟩
      ·exact .inl ⟨h1,by rw[h2,Lin.zh]⟩
      ·exact .inr ⟨k,h1⟩
     ·rcases bh with⟨h3,h1,h2⟩|⟨k,h1⟩
      ·refine .inl ⟨h1,by rw[h2,e1],?_⟩
       have:=hvm ρ0 h0
       cases mx with
       | none=>exact this
       | some z=>have:=hmh rfl;rw[h3] at this;cases this
      ·exact .inr ⟨k,h1⟩
     ·rcases bm with⟨-,h1,h2⟩|⟨k,h1⟩
      ·exact .inl ⟨h1,by rw[h2,e1]⟩
      ·exact .inr ⟨k,h1⟩
    have hfacts:∀(v:Value),meas v=(hh.eval ρ0).toNat-(l.eval ρ0).toNat→(∀ρ,Ω ρ→l.eval ρ=l.eval ρ0∧hh.eval ρ=hh.eval ρ0)→∀ρ,Ω ρ→ρ S.nv=v→∀f∈[(Lin.at S.nv).sub (hh.sub l),(hh.sub l).sub (Lin.at S.nv)],0≤f.eval ρ:=by
     intro v hm' hlh ρ hρ hv f hf
     obtain⟨e1,e2⟩:=hlh ρ hρ
     simp only[List.mem_cons,List.not_mem_nil,or_false] at hf
     rcases hf with rfl|rfl<;>simp only[Lin.qc,Lin.qg,hv,hm',e1,e2]<;>omega
    split at h
    ·rename_i hk
     obtain⟨u',g1,g2⟩:=qo hcx hk (by simp)
     have:u'=.string:=by cases u'<;>simp_all [KD.of]
     subst this
     split at h
     ·rename_i hst
      cases h
      simp only[Bool.and_eq_true] at hst
      obtain⟨p,e1⟩:=str_den (hs ρ0 h0) hst.1.1
      rw[←hu ρ0 h0] at e1
      subst e1
      have el:∀ρ,Ω ρ→ln.eval ρ=p.size:=fun ρ hρ=>len_str (hs ρ hρ) (hu ρ hρ).symm hln
      have hvm0:vm=none:=by
       have:=hvm ρ0 h0
       cases mx with
       | none=>exact this
       | some z=>simp at hst
      have hr:=hrun false p.size p.size (el ρ0 h0) (Nat.le_refl _)
      have hlh:∀ρ,Ω ρ→l.eval ρ=l.eval ρ0∧hh.eval ρ=hh.eval ρ0:=by
       intro ρ hρ
       refine⟨?_,?_⟩
       ·rcases bl with⟨-,h1,h2⟩|⟨k,h1⟩
        ·rw[h2,Lin.zh,Lin.zh]
        ·rcases hb hl hvl ρ hρ with⟨-,h3,-⟩|⟨k',h3⟩
         ·rw[h1] at h3;cases h3
         ·rw[h1] at h3;injection h3 with h3;injection h3 with h3 h4;exact h4.symm
       ·rcases bh with⟨-,h1,h2⟩|⟨k,h1⟩
        ·rw[h2,el ρ hρ,el ρ0 h0]
        ·rcases hb hhi hvh ρ hρ with⟨-,h3,-⟩|⟨k',h3⟩
         ·rw[h1] at h3;cases h3
         ·rw[h1] at h3;injection h3 with h3;injection h3 with h3 h4;exact h4.symm
      have hsz:(p.extract (l.eval ρ0).toNat (hh.eval ρ0).toNat).size=(hh.eval ρ0).toNat-(l.eval ρ0).toNat:=by
       rw[ByteArray.size_extract];have:=el ρ0 h0;omega
      have hle:=(hs ρ0 h0).ent hst.2
      rw[Lin.qc,Lin.zh,el ρ0 h0] at hle
      have hel:=el ρ0 h0
      refine⟨.string (p.extract (l.eval ρ0).toNat (hh.eval ρ0).toNat),?_,fun ρ hρ=>zq ⟨_,rfl,by rw[hsz];omega⟩ (hfacts _ (by simp only[meas,hsz];omega) hlh ρ hρ)⟩
      unfold Instr.sliceAt
      rw[Sem.run_bind,run_underlying g1 w]
      simp only[Result.andThen_ok]
      unfold Instr.slice
      rw[Sem.run_bind,run_underlying g1 w]
      subst hvm0
      simp only[Result.andThen_ok,Option.isSome_none,Bool.false_eq_true,if_false]
      rw[Sem.run_bind,hr]
      rfl
     ·cases h
    ·rename_i e hk
     split at h
     ·rename_i md e' lb d hsl hd
      split at h
      ·rename_i hc2
       cases h
       obtain⟨rfl,hsz⟩:=of_decide_eq_true hc2
       obtain⟨u',g1,g2⟩:=qo hcx hk (by simp)
       obtain⟨e'',rfl⟩:∃e'',u'=.slice e'':=by cases u'<;>simp_all [KD.of]
       simp only[KD.of,KD.sl.injEq] at g2
       subst g2
       obtain⟨n,rfl,hcv,-⟩:=slTy_ok (hs ρ0 h0) hsl
       obtain⟨A,len,c,h1,h2,h3,h4,h5⟩:=hcv.slc
       have e1:=hu ρ0 h0
       rw[show(SV.var n).den ρ0=ρ0 n from rfl,h1] at e1
       subst e1
       have el:∀ρ,Ω ρ→ln.eval ρ=len:=fun ρ hρ=>jo (hs ρ hρ) (hu ρ hρ).symm hln
       have hr:=hrun true len c (el ρ0 h0) h2
       have hlh:∀ρ,Ω ρ→l.eval ρ=l.eval ρ0∧hh.eval ρ=hh.eval ρ0:=by
        intro ρ hρ
        refine⟨?_,?_⟩
        ·rcases bl with⟨-,h1,h2⟩|⟨k,h1⟩
         ·rw[h2,Lin.zh,Lin.zh]
         ·rcases hb hl hvl ρ hρ with⟨-,h3,-⟩|⟨k',h3⟩
          ·rw[h1] at h3;cases h3
          ·rw[h1] at h3;injection h3 with h3;injection h3 with h3 h4;exact h4.symm
        ·rcases bh with⟨-,h1,h2⟩|⟨k,h1⟩
         ·rw[h2,el ρ hρ,el ρ0 h0]
         ·rcases hb hhi hvh ρ hρ with⟨-,h3,-⟩|⟨k',h3⟩
          ·rw[h1] at h3;cases h3
          ·rw[h1] at h3;injection h3 with h3;injection h3 with h3 h4;exact h4.symm
       have hel:=el ρ0 h0
       generalize hM:(if vm=none then c else(m.eval ρ0).toNat)=M at hr
       have hM1:(hh.eval ρ0).toNat≤M∧M≤c:=by
        rw[←hM]
        split<;>omega
       refine⟨.slice (if M=(l.eval ρ0).toNat then A else A.map (·.add ((l.eval ρ0).toNat*cx.tb.sz e''))) ((hh.eval ρ0).toNat-(l.eval ρ0).toNat) (M-(l.eval ρ0).toNat),?_,fun ρ hρ=>zq ?_ (hfacts _ (by simp only[meas];omega) hlh ρ hρ)⟩
       ·unfold Instr.sliceAt
        rw[Sem.run_bind,run_underlying g1 w]
        simp only[Result.andThen_ok]
        unfold Instr.slice
        rw[Sem.run_bind,run_underlying g1 w]
        simp only[Result.andThen_ok]
        rw[Sem.run_bind,hr]
        simp only[Result.andThen_ok]
        rw[Sem.run_bind,zo (hcx _ d hd) w]
        simp only[Result.andThen_ok,Sem.run_pure,hsz]
       ·have hcv':CV cx.tb W0 T w base (.sl md e'' lb) (.slice A len c):=by
         obtain⟨n',e4,hcv',-⟩:=slTy_ok (hs ρ hρ) hsl
         cases e4
         have:=hu ρ hρ
         rw[show(SV.var n).den ρ=ρ n from rfl] at this
         rw[this];exact hcv'
        exact hcv'.cut (by omega) hM1.1 hM1.2 (by omega)
      ·cases h
     ·cases h
    ·cases h
   ·cases h
  ·cases h
end
end Sy
end Go.Proofs.YtmadfhgiaonnlaaGreatDoor
