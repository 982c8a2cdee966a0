import Derived.Test.YtmadfhgiaonnlaaGreatDoorPk3
set_option linter.unusedVariables false
set_option linter.unusedSimpArgs false
namespace Go.Proofs.YtmadfhgiaonnlaaGreatDoor
namespace Sy
open Go.RowKit
inductive KD where
 | int (k:IntKind)
 | bool
 | str
 | sl (e:TypeId)
 | pt (e:TypeId)
 | st (fs:List (TypeId×Nat))
 | ar (n:Nat) (e:TypeId)
 | mp (k e:TypeId)
 | oth
def KD.of:TypeDesc→KD
 | .int k=>.int k
 | .bool=>.bool
 | .string=>.str
 | .slice e=>.sl e
 | .pointer e=>.pt e
 | .struct fs=>.st (fs.toList.map fun f=>(f.type,f.offset))
 | .array n e=>.ar n e
 | .map k e=>.mp k e
 | _=>.oth
structure TD where
 k:KD
 size:Nat
 bytes:Nat
 zero:List Value
 eq:Bool
def TdOk(P:Program)(t:TypeId)(d:TD):Prop:=
 (P.underlying t).map KD.of=some d.k∧(P.info? t).map (fun i=>(i.size,i.bytes,i.zero.map fun z=>z.cells.toList))=some (d.size,d.bytes,some d.zero) ∧
   (d.eq=true→P.stoodInHeld t=false∧P.eqGuardType P.depth t=false)
def KD.agg:KD→Bool
 | .st _=>true
 | .ar _ _=>true
 | _=>false
def look{α:Type}:List (Nat×α)→Nat→Option α
 | [],_=>none
 | (m,x)::r,n=>if m=n then some x else look r n
theorem zg{α:Type}:∀{l:List (Nat×α)} {n:Nat} {x:α},look l n=some x→(n,x)∈l
 | [],_,_,h=>by cases h
 | (m,y)::r,n,x,h=>by
   unfold look at h
   split at h
   ·rename_i e;subst e;cases h;simp
   ·exact List.mem_cons_of_mem _ (zg h)
structure Box where
 n:Nat
 t:TypeId
 cs:List (Option SV)
structure St where
 nv:Nat
 env:List (Nat×XV)
 ty:List (Nat×CT)
 fs:List Lin
 bx:List Box
structure Cx where
 tb:Tab
 td:List (Nat×TD)
structure CxOk(P:Program)(cx:Cx):Prop where
 td:∀t d,look cx.td t=some d→TdOk P t d
 fz:fzTab cx.tb=true
instance {P:Program} {cx:Cx}:CoeFun (CxOk P cx) (fun _=>∀t d,look cx.td t=some d→TdOk P t d):=⟨CxOk.td⟩
theorem CxOk.no{P:Program}{cx:Cx}(h:CxOk P cx){e:TypeId}{l:List CT}(hf:cx.tb.flat e=some l){i:Nat}{ct:CT}(hi:l[i]? = some ct)(hn:ct.isFz=false):fzE e=false:=by
 cases hq:fzE e with
 | false=>rfl
 | true=>
   have:∀tb:Tab,fzTab tb=true→tb.flat e=some l→l.all CT.isFz=true:=by
    intro tb
    induction tb with
    | nil=>intro _ h;cases h
    | cons p r ih=>
      intro h1 h2
      simp only[fzTab,List.all_cons,Bool.and_eq_true] at h1
      obtain⟨u,m⟩:=p
      unfold Tab.flat at h2
      split at h2
      ·rename_i hu
       subst hu
       cases h2
       simpa[hq] using h1.1
      ·exact ih h1.2 h2
   have h1:=List.all_eq_true.1 (this _ h.fz hf) ct (List.mem_of_getElem? hi)
   rw[hn] at h1;cases h1
section
variable(tb:Tab)(W0:World)
def BoxOk(T:Nat→Prop)(w:World)(base:Nat)(ρ:Val)(b:Box):Prop:=∃g cs,ρ b.n=.pointer (some ⟨g,0,none⟩)∧¬T g∧base≤g∧w.heap[g]? = some (.cells cs b.t (0,0)) ∧
 cs.size=b.cs.length∧∀(i:Nat) (s:SV),b.cs[i]? = some (some s)→cs[i]? = some (s.den ρ)
structure SatW(S:St)(base:Nat)(ρ:Val)(T:Nat→Prop)(w:World):Prop where
 wt:WT tb W0 T w
 lo:W0.heap.size≤base
 bs:base≤w.heap.size
 ty:∀n ct,(n,ct)∈S.ty→CV tb W0 T w base ct (ρ n)
 fs:∀f∈S.fs,0≤f.eval ρ
 bx:∀b∈S.bx,BoxOk T w base ρ b
 ap:∀b∈S.bx,∀c∈S.bx,b.n≠c.n→ρ b.n≠ρ c.n
def EnvOk(S:St)(ρ:Val)(a:Act):Prop:=∀t x,look S.env t=some x→a.tmps.getD t undef=x.den ρ
end
def CT.rng:CT→Option (Int×Int)
 | .int _ lo hi=>some (lo,hi)
 | .str lb=>some (0,lb)
 | .sl _ _ lb=>some (0,lb)
 | .cs _ _ lb=>some (0,lb)
 | _=>none
def St.rng(S:St):Rng:=fun x=>(look S.ty x).bind CT.rng
def St.ent(S:St)(l:Lin):Bool:=entD S.rng S.fs 10 0 l || entQ S.rng S.fs l || Sy.ent S.rng S.fs 5 l
section
variable{P:Program}{cx:Cx}{W0:World}{S:St}{base:Nat}{ρ:Val}{T:Nat→Prop}{w:World}{a:Act}
theorem CV.rng{tb:Tab}{ct:CT}{v:Value}{lo hi:Int}(h:CV tb W0 T w base ct v)(hr:ct.rng=some (lo,hi)):lo≤meas v∧meas v≤hi:=by
 cases ct<;>simp only[CT.rng,Option.some.injEq,Prod.mk.injEq,reduceCtorEq] at hr
 ·obtain⟨rfl,rfl⟩:=hr
  obtain⟨n,rfl,h1,h2⟩:=h
  exact⟨h1,h2⟩
 ·obtain⟨rfl,rfl⟩:=hr
  obtain⟨s,rfl,h1⟩:=h
  exact⟨by simp[meas],by simp only[meas];omega⟩
 ·obtain⟨rfl,rfl⟩:=hr
  rcases h with rfl|⟨-,h⟩|⟨b,off,n,c,rfl,h2,h3,-⟩
  ·exact⟨by simp[meas],by simp[meas]⟩
  ·cases h
   ·exact⟨by simp[meas],by simp[meas]⟩
   ·exact⟨by simp[meas],by simp[meas]⟩
   ·exact⟨by simp[meas],by simp only[meas];omega⟩
  ·exact⟨by simp[meas],by simp only[meas];omega⟩
 ·obtain⟨rfl,rfl⟩:=hr
  rcases h with rfl|⟨b,off,n,c,cs,fr,rfl,h2,h3,-⟩
  ·exact⟨by simp[meas],by simp[meas]⟩
  ·exact⟨by simp[meas],by simp only[meas];omega⟩
theorem SatW.rng(h:SatW cx.tb W0 S base ρ T w):S.rng.ok ρ:=by
 intro x lo hi hx
 unfold St.rng at hx
 cases hq:look S.ty x with
 | none=>rw[hq] at hx;cases hx
 | some ct=>
   rw[hq] at hx
   exact(h.ty x ct (zg hq)).rng hx
theorem SatW.ent(h:SatW cx.tb W0 S base ρ T w){l:Lin}(he:S.ent l=true):0≤l.eval ρ:=by
 rcases(Bool.or_eq_true _ _).mp he with he|he
 ·rcases(Bool.or_eq_true _ _).mp he with he|he
  ·exact entD_sound _ ρ h.rng _ h.fs _ _ _ he
  ·exact entQ_sound _ ρ h.rng _ h.fs _ he
 ·exact xx _ ρ h.rng _ h.fs _ _ he
def St.op(S:St):Operand→Option XV
 | .tmp t=>look S.env t
 | .const (.agg cs)=>some (.v (.agg (cs.toList.map .con)))
 | .const (.tuple _)=>none
 | .const v=>some (.v (.one (.con v)))
 | .global _=>none
 | .func f=>some (.v (.one (.con (.func (.func f) #[] #[]))))
theorem jh{x:Operand}{v:XV}(h:EnvOk S ρ a)(hx:S.op x=some v):a.eval x=v.den ρ:=by
 cases x with
 | tmp t=>exact h t v hx
 | global g=>cases hx
 | func f=>cases hx;rfl
 | const c=>
   cases c<;>simp only[St.op,Option.some.injEq,reduceCtorEq] at hx<;>subst hx<;>try rfl
   rename_i cs
   have:dens ρ (cs.toList.map .con)=cs.toList:=by
    unfold dens
    rw[List.map_map]
    exact List.map_id cs.toList
   show Value.agg cs=Value.agg (dens ρ (cs.toList.map .con)).toArray
   rw[this]
def St.one(S:St)(x:Operand):Option SV:=match S.op x with
 | some (.v (.one s))=>some s
 | _=>none
theorem qi{x:Operand}{s:SV}(h:EnvOk S ρ a)(hx:S.one x=some s):a.eval x=s.den ρ:=by
 unfold St.one at hx
 split at hx
 ·rename_i h1;cases hx;exact jh h h1
 ·cases hx
def St.lin(S:St):SV→Option (IntKind×Lin)
 | .con (.int k n)=>some (k,Lin.k n)
 | .lin k l=>some (k,l)
 | .var n=>match look S.ty n with
   | some (.int k _ _)=>some (k,Lin.at n)
   | _=>none
 | _=>none
theorem yh{s:SV}{k:IntKind}{l:Lin}(h:SatW cx.tb W0 S base ρ T w)(hs:S.lin s=some (k,l)):s.den ρ=.int k (l.eval ρ):=by
 cases s with
 | con v=>cases v<;>simp only[St.lin,Option.some.injEq,Prod.mk.injEq,reduceCtorEq] at hs;obtain⟨rfl,rfl⟩:=hs;simp[SV.den,Lin.zh]
 | lin k' l'=>cases hs;rfl
 | be b=>cases hs
 | ptr n o=>cases hs
 | var n=>
   simp only[St.lin] at hs
   split at hs
   ·rename_i k' lo hi hq
    cases hs
    obtain⟨m,hm,-⟩:=h.ty n _ (zg hq)
    rw[Lin.qg]
    show ρ n=_
    rw[hm];rfl
   ·cases hs
def St.be(S:St):SV→Option BE
 | .con (.bool b)=>some (.tt b)
 | .be b=>some b
 | .var n=>match look S.ty n with
   | some .bool=>some (.var n)
   | _=>none
 | _=>none
theorem xu{s:SV}{b:BE}(h:SatW cx.tb W0 S base ρ T w)(hs:S.be s=some b):s.den ρ=.bool (b.den ρ):=by
 cases s with
 | con v=>cases v<;>simp only[St.be,Option.some.injEq,reduceCtorEq] at hs;subst hs;rfl
 | be b'=>cases hs;rfl
 | lin k' l'=>cases hs
 | ptr n o=>cases hs
 | var n=>
   simp only[St.be] at hs
   split at hs
   ·rename_i hq
    cases hs
    obtain⟨m,hm⟩:=h.ty n _ (zg hq)
    show ρ n=.bool (boolOf (ρ n))
    rw[hm];rfl
   ·cases hs
def St.len(S:St):SV→Option Lin
 | .con (.string s)=>some (Lin.k s.size)
 | .con (.slice none 0 0)=>some (Lin.k 0)
 | .var n=>match look S.ty n with
   | some (.str _)=>some (Lin.at n)
   | some (.sl _ _ _)=>some (Lin.at n)
   | some (.cs _ _ _)=>some (Lin.at n)
   | _=>none
 | _=>none
def St.ptr(S:St):SV→Option (Nat×Nat)
 | .ptr n off=>some (n,off)
 | .var n=>if S.bx.any (fun b=>b.n=n) then some (n,0) else match look S.ty n with
   | some (.pt _ _)=>some (n,0)
   | _=>none
 | _=>none
theorem vg{s:SV}{n off:Nat}(h:SatW cx.tb W0 S base ρ T w)(hs:S.ptr s=some (n,off)):s.den ρ=.pointer (some ⟨(addrOf (ρ n)).block,(addrOf (ρ n)).off+off,none⟩):=by
 cases s with
 | con v=>cases hs
 | be b'=>cases hs
 | lin k' l'=>cases hs
 | ptr m o=>cases hs;rfl
 | var m=>
   simp only[St.ptr] at hs
   split at hs
   ·rename_i hb
    cases hs
    obtain⟨b,hb1,hb2⟩:=List.any_eq_true.1 hb
    obtain⟨g,cs,hg,-⟩:=h.bx b hb1
    have hbn:b.n=n:=of_decide_eq_true hb2
    rw[hbn] at hg
    show ρ n=_
    rw[hg];rfl
   ·split at hs
    ·rename_i mm t hq
     cases hs
     obtain⟨b,o,hg,-⟩:=h.ty n _ (zg hq)
     show ρ n=_
     rw[hg];rfl
    ·cases hs
def conTy:Value→CT→Bool
 | .int k n,.int k' lo hi=>decide (k=k'∧lo≤n∧n≤hi)
 | .bool _,.bool=>true
 | .string s,.str lb=>decide (s.size≤lb)
 | .slice none 0 0,.sl _ _ _=>true
 | .slice none 0 0,.cs _ _ _=>true
 | .map none,.mp _ _=>true
 | .int k n,.fz (.int k')=>decide (k=k'∧k.min≤n∧n≤k.max)
 | .string s,.fz .str=>decide (s.size≤maxLen)
 | .int k n,.idx _=>decide (k=.i64∧0≤n)
 | .func (.func f) x y,.fn fs [] []=>decide (f∈fs∧x.size=0∧y.size=0)
 | v,.any=>v.oneCell'
 | _,_=>false
def sub(l m:List CT)(off:Nat):Bool:=decide (off+l.length≤m.length∧(m.drop off).take l.length=l)
def varTy(S:St)(tb:Tab)(n:Nat)(off:Nat):CT→CT→Bool
 | .int k' _ _,.int k lo hi=>decide (off=0∧k'=k) && S.ent ((Lin.at n).pl (-lo)) && S.ent ((Lin.k hi).sub (Lin.at n))
 | .sl m' e' _,.sl m e lb=>decide (off=0∧m≤m'∧e'=e) && S.ent ((Lin.k lb).sub (Lin.at n))
 | .str _,.str lb=>decide (off=0) && S.ent ((Lin.k lb).sub (Lin.at n))
 | .bool,.bool=>decide (off=0)
 | .pt m' u,.pt m t=>decide (m≤m') && sub ((tb.flat t).getD []) ((tb.flat u).getD []) off && (tb.flat t).isSome
 | .int k' _ _,.idx _=>decide (off=0∧k'=.i64) && S.ent (Lin.at n)
 | .fn fs l m,.fn fs' l' m'=>decide (off=0) && CT.le (.fn fs l m) (.fn fs' l' m')
 | .cs q e lb,.cs q' e' lb'=>decide (off=0∧q=q'∧e=e') && S.ent ((Lin.k lb').sub (Lin.at n))
 | .int k' _ _,.fz (.int k)=>decide (off=0∧k'=k) && S.ent ((Lin.at n).pl (-k.min)) && S.ent ((Lin.k k.max).sub (Lin.at n))
 | .str _,.fz .str=>decide (off=0) && S.ent ((Lin.k maxLen).sub (Lin.at n))
 | .mp k t,.mp k' t'=>decide (off=0∧k=k'∧t=t')
 | ct,.any=>decide (off=0)
 | _,_=>false
def St.has(S:St)(tb:Tab):SV→CT→Bool
 | .con v,ct=>conTy v ct
 | .lin k l,.int k' lo hi=>decide (k=k') && S.ent (l.pl (-lo)) && S.ent ((Lin.k hi).sub l)
 | .lin k l,.idx _=>decide (k=.i64) && S.ent l
 | .lin k l,.fz (.int k')=>decide (k=k') && S.ent (l.pl (-k.min)) && S.ent ((Lin.k k.max).sub l)
 | .lin _ _,.any=>true
 | .be _,.bool=>true
 | .be _,.any=>true
 | .var n,ct=>match look S.ty n with
   | some ct'=>varTy S tb n 0 ct' ct
   | none=>false
 | .ptr n off,ct=>match look S.ty n with
   | some ct'=>match ct' with
     | .pt m u=>varTy S tb n off (.pt m u) ct
     | _=>false
   | none=>false
 | _,_=>false
theorem conTy_ok{tb:Tab}{v:Value}{ct:CT}(h:conTy v ct=true):CV tb W0 T w base ct v:=by
 unfold conTy at h
 split at h
 ·obtain⟨rfl,h1,h2⟩:=of_decide_eq_true h;exact⟨_,rfl,h1,h2⟩
 ·exact⟨_,rfl⟩
 ·exact⟨_,rfl,of_decide_eq_true h⟩
 ·exact .inl rfl
 ·exact .inl rfl
 ·exact .inl rfl
 ·obtain⟨rfl,h1,h2⟩:=of_decide_eq_true h;exact⟨_,rfl,h1,h2⟩
 ·exact⟨_,rfl,of_decide_eq_true h⟩
 ·obtain⟨rfl,h1⟩:=of_decide_eq_true h;exact⟨_,rfl,h1⟩
 ·obtain⟨h1,h2,h3⟩:=of_decide_eq_true h;exact⟨_,_,_,rfl,h1,⟨h2,fun i m t hi=>by simp at hi⟩,⟨h3,fun i m t hi=>by simp at hi⟩⟩
 ·exact h
 ·cases h
theorem AV.tight{tb:Tab}{e:TypeId}{a:Nat}{v:Value}(h:AV tb W0 (.sl 0 e a) v){b:Nat}(hb:meas v≤b):AV tb W0 (.sl 0 e b) v:=by
 cases h with
 | nil=>exact .nil
 | emp a=>exact .emp a
 | sl f h1 hn hl hc hs hf ht=>exact .sl f h1 hn (by simp only[meas] at hb;omega) hc hs hf ht
theorem pt_sub{tb:Tab}{m m':Nat}{t u:TypeId}{b o off:Nat}(h:CV tb W0 T w base (.pt m' u) (.pointer (some ⟨b,o,none⟩)))(hm:m≤m')(hs:sub ((tb.flat t).getD []) ((tb.flat u).getD []) off=true)(ht:(tb.flat t).isSome=true) :
  CV tb W0 T w base (.pt m t) (.pointer (some ⟨b,o+off,none⟩)):=by
 obtain⟨b',o',e,h⟩:=h
 injection e with e;injection e with e;injection e with e1 e2 e3
 subst e1;subst e2
 obtain⟨hlen,hsub⟩:=of_decide_eq_true hs
 have hk:∀k ct,((tb.flat t).getD [])[k]? = some ct→((tb.flat u).getD [])[off+k]? = some ct:=by
  intro k ct hk
  rw[←hsub] at hk
  have hl:k<((tb.flat t).getD []).length:=by
   rcases Nat.lt_or_ge k ((tb.flat t).getD []).length with h|h
   ·exact h
   ·rw[List.getElem?_eq_none (by rw[List.length_take];omega)] at hk;cases hk
  rw[List.getElem?_take,if_pos hl,List.getElem?_drop] at hk
  exact hk
 refine⟨b,o+off,rfl,?_⟩
 rcases h with⟨h0,h1,h2⟩|⟨h1,h2,te,⟨cs,fr,h3,h4⟩,h5⟩
 ·exact .inl ⟨by omega,h1,fun k ct hkk=>by rw[Nat.add_assoc];exact h2 _ _ (hk k ct hkk)⟩
 ·refine .inr ⟨h1,fun hx=>h2 (by omega),te,⟨cs,fr,h3,?_⟩,fun k ct hkk=>by rw[Nat.add_assoc];exact h5 _ _ (hk k ct hkk)⟩
  have e1:∀x,tb.sz x=((tb.flat x).getD []).length:=fun x=>by unfold Tab.sz;cases tb.flat x<;>simp
  rw[e1] at h4 ⊢
  omega
theorem varTy_ok{n off:Nat}{ct' ct:CT}(h:SatW cx.tb W0 S base ρ T w)(hq:look S.ty n=some ct')(hv:varTy S cx.tb n off ct' ct=true)(s:SV)(hs:s=.var n∧off=0∨s=.ptr n off∧∃m u,ct'=.pt m u):CV cx.tb W0 T w base ct (s.den ρ):=by
 have hcv:=h.ty n _ (zg hq)
 have hpt:∀m u,ct'=.pt m u→∃b o,ρ n=.pointer (some ⟨b,o,none⟩)∧s.den ρ=.pointer (some ⟨b,o+off,none⟩):=by
  rintro m u rfl
  obtain⟨b,o,hg,-⟩:=hcv
  refine⟨b,o,hg,?_⟩
  rcases hs with⟨rfl,rfl⟩|⟨rfl,-⟩
  ·exact hg
  ·simp[SV.den,hg,addrOf]
 have hvar:(∀m u,ct'≠.pt m u)→s=.var n:=by
  intro hne
  rcases hs with⟨rfl,-⟩|⟨-,m,u,e⟩
  ·rfl
  ·exact absurd e (hne m u)
 unfold varTy at hv
 split at hv
 ·rw[hvar (by simp)]
  simp only[Bool.and_eq_true,decide_eq_true_eq] at hv
  obtain⟨⟨⟨-,rfl⟩,h1⟩,h2⟩:=hv
  have q1:=h.ent h1
  have q2:=h.ent h2
  rw[Lin.qp,Lin.qg] at q1
  rw[Lin.qc,Lin.zh,Lin.qg] at q2
  obtain⟨m,hm,-⟩:=hcv
  have hm':(SV.var n).den ρ=.int _ m:=hm
  rw[hm] at q1 q2
  simp only[meas] at q1 q2
  exact⟨m,hm',by omega,by omega⟩
 ·rw[hvar (by simp)]
  simp only[Bool.and_eq_true,decide_eq_true_eq] at hv
  obtain⟨⟨-,h0,rfl⟩,h2⟩:=hv
  have q2:=h.ent h2
  rw[Lin.qc,Lin.zh,Lin.qg] at q2
  rcases hcv with h1|⟨h3,h1⟩|⟨b,o,m,c,h1,h3,h4,h5,h6,h7,h8,h9,h10⟩
  ·exact .inl h1
  ·exact .inr (.inl ⟨by omega,h1.tight (by omega)⟩)
  ·rw[h1] at q2
   simp only[meas] at q2
   exact .inr (.inr ⟨b,o,m,c,h1,h3,by omega,h5,h6,fun hx=>h7 (by omega),h8,h9,h10⟩)
 ·rw[hvar (by simp)]
  simp only[Bool.and_eq_true,decide_eq_true_eq] at hv
  have q2:=h.ent hv.2
  rw[Lin.qc,Lin.zh,Lin.qg] at q2
  obtain⟨m,hm,-⟩:=hcv
  rw[hm] at q2
  simp only[meas] at q2
  exact⟨m,hm,by omega⟩
 ·rw[hvar (by simp)];exact hcv
 ·rename_i m' u m t
  simp only[Bool.and_eq_true,decide_eq_true_eq] at hv
  obtain⟨b,o,hg,hd⟩:=hpt _ _ rfl
  rw[hg] at hcv
  rw[hd]
  exact pt_sub hcv hv.1.1 hv.1.2 hv.2
 ·rw[hvar (by simp)]
  simp only[Bool.and_eq_true,decide_eq_true_eq] at hv
  obtain⟨⟨-,rfl⟩,h1⟩:=hv
  have q1:=h.ent h1
  rw[Lin.qg] at q1
  obtain⟨m,hm,-⟩:=hcv
  have hm':(SV.var n).den ρ=.int _ m:=hm
  rw[hm] at q1
  simp only[meas] at q1
  exact⟨m,hm',q1⟩
 ·rw[hvar (by simp)]
  simp only[Bool.and_eq_true,decide_eq_true_eq] at hv
  exact CV.le hcv hv.2
 ·rw[hvar (by simp)]
  simp only[Bool.and_eq_true,decide_eq_true_eq] at hv
  obtain⟨⟨-,rfl,rfl⟩,h2⟩:=hv
  have q2:=h.ent h2
  rw[Lin.qc,Lin.zh,Lin.qg] at q2
  rcases hcv with h1|⟨b,o,m,c,cs,fr,h1,h3,h4,h5⟩
  ·exact .inl h1
  ·rw[h1] at q2
   simp only[meas] at q2
   exact .inr ⟨b,o,m,c,cs,fr,h1,h3,by omega,h5⟩
 ·rw[hvar (by simp)]
  simp only[Bool.and_eq_true,decide_eq_true_eq] at hv
  obtain⟨⟨⟨-,rfl⟩,h1⟩,h2⟩:=hv
  have q1:=h.ent h1
  have q2:=h.ent h2
  rw[Lin.qp,Lin.qg] at q1
  rw[Lin.qc,Lin.zh,Lin.qg] at q2
  obtain⟨m,hm,-⟩:=hcv
  have hm':(SV.var n).den ρ=.int _ m:=hm
  rw[hm] at q1 q2
  simp only[meas] at q1 q2
  exact⟨m,hm',by omega,by omega⟩
 ·rw[hvar (by simp)]
  simp only[Bool.and_eq_true,decide_eq_true_eq] at hv
  have q2:=h.ent hv.2
  rw[Lin.qc,Lin.zh,Lin.qg] at q2
  obtain⟨m,hm,-⟩:=hcv
  rw[hm] at q2
  simp only[meas] at q2
  exact⟨m,hm,by omega⟩
 ·rw[hvar (by simp)]
  obtain⟨-,rfl,rfl⟩:=of_decide_eq_true hv
  exact hcv
 ·rcases hs with⟨rfl,rfl⟩|⟨rfl,m,u,rfl⟩
  ·exact hcv.one
  ·rfl
 ·cases hv
theorem uo{s:SV}{ct:CT}(h:SatW cx.tb W0 S base ρ T w)(hs:S.has cx.tb s ct=true):CV cx.tb W0 T w base ct (s.den ρ):=by
 unfold St.has at hs
 split at hs
 ·exact conTy_ok hs
 ·simp only[Bool.and_eq_true,decide_eq_true_eq] at hs
  obtain⟨⟨rfl,h1⟩,h2⟩:=hs
  have q1:=h.ent h1
  have q2:=h.ent h2
  rw[Lin.qp] at q1
  rw[Lin.qc,Lin.zh] at q2
  exact⟨_,rfl,by omega,by omega⟩
 ·simp only[Bool.and_eq_true,decide_eq_true_eq] at hs
  obtain⟨rfl,h1⟩:=hs
  exact⟨_,rfl,h.ent h1⟩
 ·simp only[Bool.and_eq_true,decide_eq_true_eq] at hs
  obtain⟨⟨rfl,h1⟩,h2⟩:=hs
  have q1:=h.ent h1
  have q2:=h.ent h2
  rw[Lin.qp] at q1
  rw[Lin.qc,Lin.zh] at q2
  exact⟨_,rfl,by omega,by omega⟩
 ·rfl
 ·exact⟨_,rfl⟩
 ·rfl
 ·split at hs
  ·rename_i ct' hq
   exact varTy_ok h hq hs _ (.inl ⟨rfl,rfl⟩)
  ·cases hs
 ·split at hs
  ·rename_i n off _ ct' hq
   split at hs
   ·exact varTy_ok h hq hs _ (.inr ⟨rfl,_,_,rfl⟩)
   ·cases hs
  ·cases hs
 ·cases hs
end
open Go.RowKit
theorem wrap_in{k:IntKind}{n:Int}(h1:k.min≤n)(h2:n≤k.max):k.wrap n=n:=by
 cases k<;>simp only[IntKind.min,IntKind.max,IntKind.wrap,IntKind.bits,IntKind.signed] at*<;> simp at*<;> omega
theorem zi(k:IntKind)(n:Int):k.min≤k.wrap n∧k.wrap n≤k.max:=by
 cases k<;>simp only[IntKind.min,IntKind.max,IntKind.wrap,IntKind.bits,IntKind.signed]<;>simp<;>omega
structure Out where
 v:XV
 tys:List CT
 fs:List Lin
def flatV:Value→List Value
 | .agg cs=>cs.toList
 | .tuple vs=>vs.toList.flatMap fun v=>v.cells.toList
 | v=>[v]
def Blk(ρ:Val)(nv m:Nat)(l:List Value):Prop:=∀i,i<m→ρ (nv+i)=l.getD i undef
section
variable(tb:Tab)(W0:World)
def NewOk(S:St)(o:Out)(base:Nat)(ρ:Val)(T:Nat→Prop)(w:World)(v:Value):Prop:=Blk ρ S.nv o.tys.length (flatV v) →
 v=o.v.den ρ∧(∀i ct,o.tys[i]? = some ct→CV tb W0 T w base ct (ρ (S.nv+i)))∧∀f∈o.fs,0≤f.eval ρ
end
def mk0(x:XV):Out:=⟨x,[],[]⟩
def mkS(s:SV):Out:=⟨.v (.one s),[],[]⟩
def mk1(S:St)(ct:CT)(fs:List Lin):Out:=⟨.v (.one (.var S.nv)),[ct],fs⟩
def full(k:IntKind):CT:=.int k k.min k.max
section
variable{P:Program}{cx:Cx}{W0:World}{S:St}{base:Nat}{ρ:Val}{T:Nat→Prop}{w:World}{a:Act}
theorem mk0_ok{x:XV}{v:Value}(h:v=x.den ρ):NewOk cx.tb W0 S (mk0 x) base ρ T w v:=fun _=>⟨h,by simp[mk0],by simp[mk0]⟩
theorem y9{s:SV}{v:Value}(h:v=s.den ρ):NewOk cx.tb W0 S (mkS s) base ρ T w v:=fun _=>⟨h,by simp[mkS],by simp[mkS]⟩
theorem flat_one{v:Value}(h:v.oneCell'=true):flatV v=[v]:=by cases v<;>first|rfl|cases h
theorem zq{ct:CT}{fs:List Lin}{v:Value}(h:CV cx.tb W0 T w base ct v)(hf:ρ S.nv=v→∀f∈fs,0≤f.eval ρ):NewOk cx.tb W0 S (mk1 S ct fs) base ρ T w v:=by
 intro hb
 have h0:=hb 0 (by simp[mk1])
 rw[flat_one h.one] at h0
 have h0':ρ S.nv=v:=h0
 refine⟨h0'.symm,fun i ct' hi=>?_,hf h0'⟩
 cases i with
 | zero=>
   simp only[mk1,List.getElem?_cons_zero,Option.some.injEq] at hi
   subst hi
   rw[Nat.add_zero,h0'];exact h
 | succ i=>simp[mk1] at hi
theorem jl{t:TypeId}{d:TD}(h:TdOk P t d):∃u,P.underlying t=some u∧KD.of u=d.k:=by
 obtain⟨h1,-⟩:=h
 cases hq:P.underlying t with
 | none=>rw[hq] at h1;cases h1
 | some u=>rw[hq] at h1;exact⟨u,rfl,oi h1⟩
theorem yl{t:TypeId}{d:TD}(h:TdOk P t d):∃i,P.info? t=some i∧i.size=d.size∧i.bytes=d.bytes∧∃z,i.zero=some z∧z.cells.toList=d.zero:=by
 obtain⟨-,h1,-⟩:=h
 cases hq:P.info? t with
 | none=>rw[hq] at h1;cases h1
 | some i=>
   rw[hq] at h1
   have h2:=oi h1
   injection h2 with h3 h4
   injection h4 with h5 h6
   cases hz:i.zero with
   | none=>rw[hz] at h6;cases h6
   | some z=>rw[hz] at h6;exact⟨i,rfl,h3,h5,z,hz,oi h6⟩
theorem zo{t:TypeId}{d:TD}(h:TdOk P t d)(w:World):(sizeOf t).run P w=.ok d.size w:=by
 obtain⟨i,h1,h2,-⟩:=yl h
 simp[sizeOf,typeInfo,h1,h2]
theorem um{t:TypeId}{d:TD}(h:TdOk P t d)(w:World):(isAgg t).run P w=.ok d.k.agg w:=by
 obtain⟨u,h1,h2⟩:=jl h
 unfold isAgg
 rw[Sem.run_bind,run_underlying h1 w,←h2]
 cases u<;>rfl
structure Hyp(cx:Cx)(W0:World)(S:St)(base:Nat)(Ω:Val→Prop)(T:Nat→Prop)(w:World)(a:Act):Prop where
 ex:∃ρ,Ω ρ
 sat:∀ρ,Ω ρ→SatW cx.tb W0 S base ρ T w
 env:∀ρ,Ω ρ→EnvOk S ρ a
def Pure(P:Program)(cx:Cx)(W0:World)(S:St)(base:Nat)(Ω:Val→Prop)(T:Nat→Prop)(w:World)(a:Act)(o:Oper)(out:Out):Prop:=
 ∃v,(execOp a.eval o).run P w=.ok (.value v) w∧∀ρ,Ω ρ→NewOk cx.tb W0 S out base ρ T w v
variable{Ω:Val→Prop}
def arith(S:St)(k:IntKind)(l:Lin):Out:=if S.ent (l.pl (-k.min)) && S.ent ((Lin.k k.max).sub l) then mkS (.lin k l) else mk1 S (full k) []
theorem arith_ok{k:IntKind}{l:Lin}{z:Int}(h:SatW cx.tb W0 S base ρ T w)(hz:z=l.eval ρ):NewOk cx.tb W0 S (arith S k l) base ρ T w (.int k (k.wrap z)):=by
 unfold arith
 split
 ·rename_i hc
  simp only[Bool.and_eq_true] at hc
  have q1:=h.ent hc.1
  have q2:=h.ent hc.2
  rw[Lin.qp] at q1
  rw[Lin.qc,Lin.zh] at q2
  refine y9 ?_
  rw[wrap_in (by omega) (by omega),hz];rfl
 ·exact zq ⟨_,rfl,(zi k z).1,(zi k z).2⟩ (by simp)
def full1(S:St)(k:IntKind)(fs:List Lin):Out:=mk1 S (full k) fs
def St.inR(S:St)(k:IntKind)(l:Lin):Bool:=S.ent (l.pl (-k.min)) && S.ent ((Lin.k k.max).sub l)
theorem inR_ok{k:IntKind}{l:Lin}(h:SatW cx.tb W0 S base ρ T w)(hr:S.inR k l=true):k.min≤l.eval ρ∧l.eval ρ≤k.max:=by
 simp only[St.inR,Bool.and_eq_true] at hr
 have q1:=h.ent hr.1
 have q2:=h.ent hr.2
 rw[Lin.qp] at q1
 rw[Lin.qc,Lin.zh] at q2
 omega
def cst(l:Lin):Option Int:=match l.ts with
 | []=>some l.c
 | _=>none
theorem cst_ok{l:Lin}{c:Int}(h:cst l=some c)(ρ:Val):l.eval ρ=c:=by
 unfold cst at h
 split at h
 ·rename_i hl;cases h;simp[Lin.eval,hl,tsum]
 ·cases h
def intOp(S:St)(op:BinOp)(k:IntKind)(x y:Lin):Option Out:=match op with
 | .add=>some (arith S k (x.add y))
 | .sub=>some (arith S k (x.sub y))
 | .mul=>match cst y with
   | some c=>some (arith S k (x.sc c))
   | none=>match cst x with
     | some c=>some (arith S k (y.sc c))
     | none=>some (full1 S k [])
 | .quo=>if S.ent (y.pl (-1)) then some (full1 S k (if S.ent x && S.inR k x then [Lin.at S.nv,x.sub (Lin.at S.nv)]++(match cst y with
    | some c=>[x.sub ((Lin.at S.nv).sc c),(((Lin.at S.nv).sc c).pl (c-1)).sub x]
    | none=>[]) else [])) else none
 | .rem=>if S.ent (y.pl (-1)) && S.inR k x then some (full1 S k ((y.pl (-1)).sub (Lin.at S.nv)::(if S.ent x then [Lin.at S.nv,x.sub (Lin.at S.nv)] else [(y.pl (-1)).add (Lin.at S.nv)]))) else none
 | .and=>some (full1 S k [])
 | .or=>some (full1 S k [])
 | .xor=>some (full1 S k [])
 | .andNot=>some (full1 S k [])
 | .eql=>some (mkS (.be (.eq (x.sub y))))
 | .neq=>some (mkS (.be (.not (.eq (x.sub y)))))
 | .lss=>some (mkS (.be (.ge ((y.sub x).pl (-1)))))
 | .leq=>some (mkS (.be (.ge (y.sub x))))
 | .gtr=>some (mkS (.be (.ge ((x.sub y).pl (-1)))))
 | .geq=>some (mkS (.be (.ge (x.sub y))))
 | _=>none
theorem tdiv_facts{x y:Int}(hx:0≤x)(hy:1≤y):0≤x.tdiv y∧x.tdiv y≤x∧y*x.tdiv y≤x∧x≤y*x.tdiv y+(y-1):=by
 rw[Int.tdiv_eq_ediv_of_nonneg hx]
 have h1:=Int.mul_ediv_add_emod x y
 have h2:=Int.emod_nonneg x (show y≠0 by omega)
 have h3:=Int.emod_lt_of_pos x (show 0<y by omega)
 have h4:0≤x/y:=Int.ediv_nonneg hx (by omega)
 have h5:x/y≤y*(x/y):=by
  have:=Int.mul_le_mul_of_nonneg_right (show(1:Int)≤y by omega) h4
  omega
 exact⟨h4,by omega,by omega,by omega⟩
theorem tmod_facts{x y:Int}(hy:1≤y):(0≤x→0≤x.tmod y∧x.tmod y≤x)∧x.tmod y≤y-1∧-(y-1)≤x.tmod y∧(x≤x.tmod y∨x.tmod y≤x)∧(0≤x∨(x≤x.tmod y∧x.tmod y≤0)):=by
 rcases Int.le_total 0 x with hx|hx
 ·rw[Int.tmod_eq_emod_of_nonneg hx]
  have h2:=Int.emod_nonneg x (show y≠0 by omega)
  have h3:=Int.emod_lt_of_pos x (show 0<y by omega)
  have h1:=Int.mul_ediv_add_emod x y
  have h4:0≤y*(x/y):=Int.mul_nonneg (by omega) (Int.ediv_nonneg hx (by omega))
  exact⟨fun _=>⟨h2,by omega⟩,by omega,by omega,by omega,.inl hx⟩
 ·have e:x.tmod y=-((-x).tmod y):=by rw[Int.neg_tmod];omega
  rw[e,Int.tmod_eq_emod_of_nonneg (show 0≤-x by omega)]
  have h2:=Int.emod_nonneg (-x) (show y≠0 by omega)
  have h3:=Int.emod_lt_of_pos (-x) (show 0<y by omega)
  have h1:=Int.mul_ediv_add_emod (-x) y
  have h4:0≤y*(-x/y):=Int.mul_nonneg (by omega) (Int.ediv_nonneg (by omega) (by omega))
  exact⟨fun h=>by have:x=0:=by omega
                  subst this;simp,by omega,by omega,by omega,by omega⟩
theorem bin_add(k:IntKind)(t:TypeId)(p q:Int):(binOp .add t (.int k p) (.int k q)).run P w=.ok (.int k (k.wrap (p+q))) w:=by simp[binOp,Op.intArith]
theorem bin_sub(k:IntKind)(t:TypeId)(p q:Int):(binOp .sub t (.int k p) (.int k q)).run P w=.ok (.int k (k.wrap (p-q))) w:=by simp[binOp,Op.intArith]
theorem bin_mul(k:IntKind)(t:TypeId)(p q:Int):(binOp .mul t (.int k p) (.int k q)).run P w=.ok (.int k (k.wrap (p*q))) w:=by simp[binOp,Op.intArith]
theorem bin_quo(k:IntKind)(t:TypeId)(p q:Int)(hq:¬q=0):(binOp .quo t (.int k p) (.int k q)).run P w=.ok (.int k (k.wrap (p.tdiv q))) w:=by simp[binOp,Op.intDiv,hq]
theorem bin_rem(k:IntKind)(t:TypeId)(p q:Int)(hq:¬q=0):(binOp .rem t (.int k p) (.int k q)).run P w=.ok (.int k (p.tmod q)) w:=by simp[binOp,Op.intDiv,hq]
theorem bin_bits(op:BinOp)(h:op=.and∨op=.or∨op=.xor∨op=.andNot)(k:IntKind)(t:TypeId)(p q:Int):∃z,(binOp op t (.int k p) (.int k q)).run P w=.ok (.int k (k.wrap z)) w:=by
 rcases h with rfl|rfl|rfl|rfl
 ·exact⟨((BitVec.ofInt k.bits p &&& BitVec.ofInt k.bits q).toNat:Int),by simp only[binOp,ne_eq,not_true_eq_false,if_false,Op.intBits,Sem.run_pure]⟩
 ·exact⟨((BitVec.ofInt k.bits p ||| BitVec.ofInt k.bits q).toNat:Int),by simp only[binOp,ne_eq,not_true_eq_false,if_false,Op.intBits,Sem.run_pure]⟩
 ·exact⟨((BitVec.ofInt k.bits p ^^^ BitVec.ofInt k.bits q).toNat:Int),by simp only[binOp,ne_eq,not_true_eq_false,if_false,Op.intBits,Sem.run_pure]⟩
 ·exact⟨((BitVec.ofInt k.bits p &&& ~~~BitVec.ofInt k.bits q).toNat:Int),by simp only[binOp,ne_eq,not_true_eq_false,if_false,Op.intBits,Sem.run_pure]⟩
theorem bin_cmp(op:BinOp)(k:IntKind)(t:TypeId)(p q:Int)(b:Bool)(h:op=.eql∧b=decide (p=q)∨op=.neq∧b=!decide (p=q)∨op=.lss∧b=decide (p<q)∨op=.leq∧b=decide (p≤q)∨op=.gtr∧b=decide (q<p)∨op=.geq∧b=decide (q≤p)) :
  (binOp op t (.int k p) (.int k q)).run P w=.ok (.bool b) w:=by
 rcases h with⟨rfl,rfl⟩|⟨rfl,rfl⟩|⟨rfl,rfl⟩|⟨rfl,rfl⟩|⟨rfl,rfl⟩|⟨rfl,rfl⟩<;>simp[binOp,Op.intCmp]<;>(first|rfl|(by_cases e:p=q<;>simp[e]))
theorem intOp_ok{op:BinOp}{k:IntKind}{x y:Lin}{out:Out}(h:intOp S op k x y=some out)(hex:∃ρ,Ω ρ)(hs:∀ρ,Ω ρ→SatW cx.tb W0 S base ρ T w){p q:Int}(hp:∀ρ,Ω ρ→p=x.eval ρ)(hq:∀ρ,Ω ρ→q=y.eval ρ)(t:TypeId) :
  ∃v,(binOp op t (.int k p) (.int k q)).run P w=.ok v w∧∀ρ,Ω ρ→NewOk cx.tb W0 S out base ρ T w v:=by
 obtain⟨ρ0,h0⟩:=hex
 cases op<;>simp only[intOp,Option.some.injEq,reduceCtorEq] at h
 ·subst h;exact⟨_,bin_add ..,fun ρ hρ=>arith_ok (hs ρ hρ) (by rw[Lin.jg,←hp ρ hρ,←hq ρ hρ])⟩
 ·subst h;exact⟨_,bin_sub ..,fun ρ hρ=>arith_ok (hs ρ hρ) (by rw[Lin.qc,←hp ρ hρ,←hq ρ hρ])⟩
 ·split at h
  ·rename_i c hc
   cases h
   exact⟨_,bin_mul ..,fun ρ hρ=>arith_ok (hs ρ hρ) (by rw[Lin.yu,←hp ρ hρ,hq ρ hρ,cst_ok hc ρ,Int.mul_comm])⟩
  ·split at h
   ·rename_i c hc
    cases h
    exact⟨_,bin_mul ..,fun ρ hρ=>arith_ok (hs ρ hρ) (by rw[Lin.yu,hp ρ hρ,←hq ρ hρ,cst_ok hc ρ])⟩
   ·cases h
    exact⟨_,bin_mul ..,fun ρ hρ=>zq ⟨_,rfl,(zi k _).1,(zi k _).2⟩ (by simp)⟩
 ·split at h
  ·rename_i hy
   cases h
   have hy1:=(hs ρ0 h0).ent hy
   rw[Lin.qp,←hq ρ0 h0] at hy1
   have hne:¬q=0:=by omega
   refine⟨_,bin_quo _ _ _ _ hne,fun ρ hρ=>zq ⟨_,rfl,(zi k _).1,(zi k _).2⟩ ?_⟩
   intro hv f hf
   split at hf
   ·rename_i hx
    simp only[Bool.and_eq_true] at hx
    have hx0:=(hs ρ hρ).ent hx.1
    have hxr:=inR_ok (hs ρ hρ) hx.2
    rw[←hp ρ hρ] at hx0 hxr
    obtain⟨g1,g2,g3,g4⟩:=tdiv_facts hx0 (show 1≤q by omega)
    have hk0:k.min≤0:=by cases k<;>decide
    have hw:k.wrap (p.tdiv q)=p.tdiv q:=wrap_in (by omega) (by omega)
    have hm:meas (ρ S.nv)=p.tdiv q:=by rw[hv,hw];rfl
    simp only[List.mem_append,List.mem_cons,List.not_mem_nil,or_false] at hf
    rcases hf with(rfl|rfl)|hf
    ·rw[Lin.qg,hm];exact g1
    ·rw[Lin.qc,Lin.qg,hm,←hp ρ hρ];omega
    ·split at hf
     ·rename_i c hc
      have hqc:q=c:=by rw[hq ρ hρ,cst_ok hc ρ]
      subst hqc
      simp only[List.mem_cons,List.not_mem_nil,or_false] at hf
      rcases hf with rfl|rfl
      ·rw[Lin.qc,Lin.yu,Lin.qg,hm,←hp ρ hρ];omega
      ·rw[Lin.qc,Lin.qp,Lin.yu,Lin.qg,hm,←hp ρ hρ];omega
     ·simp at hf
   ·simp at hf
  ·cases h
 ·split at h
  ·rename_i hy
   cases h
   simp only[Bool.and_eq_true] at hy
   have hy1:=(hs ρ0 h0).ent hy.1
   have hxr:=inR_ok (hs ρ0 h0) hy.2
   rw[Lin.qp,←hq ρ0 h0] at hy1
   rw[←hp ρ0 h0] at hxr
   have hne:¬q=0:=by omega
   obtain⟨g1,g2,g3,g4,g5⟩:=tmod_facts (x:=p) (show 1≤q by omega)
   have hk0:k.min≤0∧0≤k.max:=by cases k<;>decide
   refine⟨_,bin_rem _ _ _ _ hne,fun ρ hρ=>zq ⟨_,rfl,?_,?_⟩ ?_⟩
   ·omega
   ·rcases g5 with g|g
    ·have:=(g1 g).2;omega
    ·omega
   ·intro hv f hf
    have hm:meas (ρ S.nv)=p.tmod q:=by rw[hv];rfl
    simp only[List.mem_cons] at hf
    rcases hf with rfl|hf
    ·rw[Lin.qc,Lin.qp,Lin.qg,hm,←hq ρ hρ];omega
    ·split at hf
     ·rename_i hx
      have hx0:=(hs ρ hρ).ent hx
      rw[←hp ρ hρ] at hx0
      simp only[List.mem_cons,List.not_mem_nil,or_false] at hf
      rcases hf with rfl|rfl
      ·rw[Lin.qg,hm];exact(g1 hx0).1
      ·rw[Lin.qc,Lin.qg,hm,←hp ρ hρ];have:=(g1 hx0).2;omega
     ·simp only[List.mem_singleton] at hf
      subst hf
      rw[Lin.jg,Lin.qp,Lin.qg,hm,←hq ρ hρ];omega
  ·cases h
 ·subst h;obtain⟨z,hz⟩:=bin_bits (P:=P) (w:=w) .and (by simp) k t p q;exact⟨_,hz,fun ρ hρ=>zq ⟨_,rfl,(zi k _).1,(zi k _).2⟩ (by simp)⟩
 ·subst h;obtain⟨z,hz⟩:=bin_bits (P:=P) (w:=w) .or (by simp) k t p q;exact⟨_,hz,fun ρ hρ=>zq ⟨_,rfl,(zi k _).1,(zi k _).2⟩ (by simp)⟩
 ·subst h;obtain⟨z,hz⟩:=bin_bits (P:=P) (w:=w) .xor (by simp) k t p q;exact⟨_,hz,fun ρ hρ=>zq ⟨_,rfl,(zi k _).1,(zi k _).2⟩ (by simp)⟩
 ·subst h;obtain⟨z,hz⟩:=bin_bits (P:=P) (w:=w) .andNot (by simp) k t p q;exact⟨_,hz,fun ρ hρ=>zq ⟨_,rfl,(zi k _).1,(zi k _).2⟩ (by simp)⟩
 all_goals
  subst h
  refine⟨_,bin_cmp _ k t p q _ (by simp only[reduceCtorEq,false_and,true_and,or_false,false_or];rfl),fun ρ hρ=>y9 ?_⟩
  have e1:=hp ρ hρ
  have e2:=hq ρ hρ
  simp only[SV.den,BE.den,Lin.qc,Lin.qp,←e1,←e2,Value.bool.injEq]
  first
   | (rw[Bool.eq_iff_iff];simp only[decide_eq_true_eq];omega)
   | (congr 1;rw[Bool.eq_iff_iff];simp only[decide_eq_true_eq];omega)
theorem bin_shl(k k':IntKind)(t:TypeId)(p q:Int)(hq:0≤q):(binOp .shl t (.int k p) (.int k' q)).run P w=.ok (.int k (k.wrap (p*2^(min q.toNat k.bits)))) w:=by
 have:¬q<0:=by omega
 simp[binOp,Op.shift,this]
theorem bin_shr(k k':IntKind)(t:TypeId)(p q:Int)(hq:0≤q):(binOp .shr t (.int k p) (.int k' q)).run P w=.ok (.int k (p.fdiv (2^(min q.toNat k.bits)))) w:=by
 have:¬q<0:=by omega
 simp[binOp,Op.shift,this]
theorem fdiv_facts(p:Int)(n:Nat):(0≤p→0≤p.fdiv (2^n)∧p.fdiv (2^n)≤p)∧(p≤0→p≤p.fdiv (2^n)∧p.fdiv (2^n)≤0):=by
 have hpos:(0:Int)<2^n:=Int.pow_pos (by decide)
 rw[Int.fdiv_eq_ediv_of_nonneg p (Int.le_of_lt hpos)]
 have h1:=Int.mul_ediv_add_emod p (2^n)
 have h2:=Int.emod_nonneg p (show(2:Int)^n≠0 by omega)
 have h3:=Int.emod_lt_of_pos p hpos
 refine⟨fun h=>?_,fun h=>?_⟩
 ·have h4:0≤p/2^n:=Int.ediv_nonneg h (by omega)
  have h5:p/2^n≤2^n*(p/2^n):=by
   have:=Int.mul_le_mul_of_nonneg_right (show(1:Int)≤2^n by omega) h4
   omega
  omega
 ·have h4:p/2^n≤0:=by
   rcases(by omega:0<p/2^n∨p/2^n≤0) with h' | h'
   ·have:=Int.mul_le_mul_of_nonneg_left (show(1:Int)≤p/2^n by omega) (Int.le_of_lt hpos)
    omega
   ·exact h'
  refine⟨?_,h4⟩
  rcases(by omega:p/2^n<p∨p≤p/2^n) with h' | h'
  ·have h6:=Int.mul_le_mul_of_nonneg_left (show p/2^n≤p-1 by omega) (Int.le_of_lt hpos)
   have h7:=Int.mul_le_mul_of_nonpos_right (show(1:Int)≤2^n by omega) h
   rw[Int.mul_sub] at h6
   omega
  ·exact h'
def shiftOp(S:St)(op:BinOp)(k:IntKind)(x y:Lin):Option Out:=match op with
 | .shl=>if S.ent y then some (full1 S k []) else none
 | .shr=>if S.ent y && S.inR k x then some (full1 S k ((if S.ent x then [Lin.at S.nv,x.sub (Lin.at S.nv)] else [])++match cst y with
    | some c=>if 0≤c∧c.toNat≤k.bits then [x.sub ((Lin.at S.nv).sc (2^c.toNat)),(((Lin.at S.nv).sc (2^c.toNat)).pl (2^c.toNat-1)).sub x] else []
    | none=>[])) else none
 | _=>none
theorem shiftOp_ok{op:BinOp}{k k':IntKind}{x y:Lin}{out:Out}(h:shiftOp S op k x y=some out)(hex:∃ρ,Ω ρ)(hs:∀ρ,Ω ρ→SatW cx.tb W0 S base ρ T w){p q:Int}(hp:∀ρ,Ω ρ→p=x.eval ρ)(hq:∀ρ,Ω ρ→q=y.eval ρ)(t:TypeId) :
  ∃v,(binOp op t (.int k p) (.int k' q)).run P w=.ok v w∧∀ρ,Ω ρ→NewOk cx.tb W0 S out base ρ T w v:=by
 obtain⟨ρ0,h0⟩:=hex
 cases op<;>simp only[shiftOp,reduceCtorEq] at h
 ·split at h
  ·rename_i hy
   cases h
   have hy1:=(hs ρ0 h0).ent hy
   rw[←hq ρ0 h0] at hy1
   exact⟨_,bin_shl _ _ _ _ _ hy1,fun ρ hρ=>zq ⟨_,rfl,(zi k _).1,(zi k _).2⟩ (by simp)⟩
  ·cases h
 ·split at h
  ·rename_i hy
   cases h
   simp only[Bool.and_eq_true] at hy
   have hy1:=(hs ρ0 h0).ent hy.1
   rw[←hq ρ0 h0] at hy1
   have hxr:=inR_ok (hs ρ0 h0) hy.2
   rw[←hp ρ0 h0] at hxr
   obtain⟨g1,g2⟩:=fdiv_facts p (min q.toNat k.bits)
   have hk0:k.min≤0∧0≤k.max:=by cases k<;>decide
   have hr:k.min≤p.fdiv (2^(min q.toNat k.bits))∧p.fdiv (2^(min q.toNat k.bits))≤k.max:=by
    rcases Int.le_total 0 p with h|h
    ·have:=g1 h;omega
    ·have:=g2 h;omega
   refine⟨_,bin_shr _ _ _ _ _ hy1,fun ρ hρ=>zq ⟨_,rfl,hr.1,hr.2⟩ ?_⟩
   intro hv f hf
   have hm:meas (ρ S.nv)=p.fdiv (2^(min q.toNat k.bits)):=by rw[hv];rfl
   rcases List.mem_append.1 hf with hf|hf
   rotate_left
   ·split at hf
    ·rename_i c hc
     split at hf
     ·rename_i hcb
      have hqc:q=c:=by rw[hq ρ hρ,cst_ok hc]
      have hmin:min q.toNat k.bits=c.toNat:=by rw[hqc];omega
      rw[hmin] at hm
      have e1:=Int.mul_ediv_add_emod p (2^c.toNat)
      have hpos:(0:Int)<2^c.toNat:=Int.pow_pos (by decide)
      have e2:=Int.emod_nonneg p (Int.ne_of_gt hpos)
      have e3:=Int.emod_lt_of_pos p hpos
      rw[Int.fdiv_eq_ediv_of_nonneg _ (Int.le_of_lt hpos)] at hm
      simp only[List.mem_cons,List.not_mem_nil,or_false] at hf
      rcases hf with rfl|rfl
      ·rw[Lin.qc,Lin.yu,Lin.qg,hm,←hp ρ hρ];omega
      ·rw[Lin.qc,Lin.qp,Lin.yu,Lin.qg,hm,←hp ρ hρ];omega
     ·simp at hf
    ·simp at hf
   split at hf
   ·rename_i hx
    have hx0:=(hs ρ hρ).ent hx
    rw[←hp ρ hρ] at hx0
    simp only[List.mem_cons,List.not_mem_nil,or_false] at hf
    rcases hf with rfl|rfl
    ·rw[Lin.qg,hm];exact(g1 hx0).1
    ·rw[Lin.qc,Lin.qg,hm,←hp ρ hρ];have:=(g1 hx0).2;omega
   ·simp at hf
  ·cases h
def St.str(S:St):SV→Bool
 | .con (.string _)=>true
 | .var n=>match look S.ty n with
   | some (.str _)=>true
   | _=>false
 | _=>false
theorem str_den{s:SV}(h:SatW cx.tb W0 S base ρ T w)(hs:S.str s=true):∃b,s.den ρ=.string b:=by
 cases s with
 | con v=>cases v<;>simp only[St.str,Bool.false_eq_true] at hs;exact⟨_,rfl⟩
 | var n=>
   simp only[St.str] at hs
   split at hs
   ·rename_i lb hq
    obtain⟨b,hb,-⟩:=h.ty n _ (zg hq)
    exact⟨b,hb⟩
   ·cases hs
 | lin k l=>cases hs
 | be b=>cases hs
 | ptr n o=>cases hs
theorem len_str{s:SV}{l:Lin}{b:ByteArray}(h:SatW cx.tb W0 S base ρ T w)(hd:s.den ρ=.string b)(hl:S.len s=some l):l.eval ρ=b.size:=by
 cases s with
 | con v=>
   cases hd
   simp only[St.len,Option.some.injEq] at hl
   subst hl
   exact Lin.zh ρ _
 | var n=>
   have hd':ρ n=.string b:=hd
   simp only[St.len] at hl
   split at hl
   ·cases hl;rw[Lin.qg,hd'];rfl
   ·cases hl;rw[Lin.qg,hd'];rfl
   ·cases hl;rw[Lin.qg,hd'];rfl
   ·cases hl
 | lin k l=>cases hl
 | be b=>cases hl
 | ptr n o=>cases hl
def same(x y:SV):Bool:=match x,y with
 | .var n,.var m=>decide (n=m)
 | _,_=>false
theorem same_ok{x y:SV}(h:same x y=true):x=y:=by
 cases x<;>cases y<;>simp only[same,Bool.false_eq_true,decide_eq_true_eq] at h
 subst h;rfl
def strOp(S:St)(op:BinOp)(x y:SV):Option Out:=match op with
 | .add=>match S.len x,S.len y with
   | some l,some m=>if S.ent ((Lin.k (2^62)).sub (l.add m)) then some (mk1 S (.str (2^62)) [(Lin.at S.nv).sub (l.add m),(l.add m).sub (Lin.at S.nv)]) else none
   | _,_=>none
 | .eql=>if same x y then some (mkS (.be (.tt true))) else some (mk1 S .bool [])
 | .neq=>if same x y then some (mkS (.be (.tt false))) else some (mk1 S .bool [])
 | .lss=>some (mk1 S .bool [])
 | .leq=>some (mk1 S .bool [])
 | .gtr=>some (mk1 S .bool [])
 | .geq=>some (mk1 S .bool [])
 | _=>none
theorem bin_str(op:BinOp)(t:TypeId)(x y:ByteArray):(binOp op t (.string x) (.string y)).run P w=(Op.stringOp op x y).run P w:=by
 cases op<;>rfl
theorem strOp_ok{op:BinOp}{x y:SV}{out:Out}(h:strOp S op x y=some out)(hex:∃ρ,Ω ρ)(hs:∀ρ,Ω ρ→SatW cx.tb W0 S base ρ T w){p q:ByteArray}(hp:∀ρ,Ω ρ→x.den ρ=.string p)(hq:∀ρ,Ω ρ→y.den ρ=.string q)(t:TypeId) :
  ∃v,(binOp op t (.string p) (.string q)).run P w=.ok v w∧∀ρ,Ω ρ→NewOk cx.tb W0 S out base ρ T w v:=by
 rw[bin_str]
 obtain⟨ρ0,h0⟩:=hex
 cases op<;>simp only[strOp,Option.some.injEq,reduceCtorEq] at h
 case add=>
  split at h
  ·rename_i l m hl hm
   split at h
   ·rename_i he
    cases h
    have g0:=(hs ρ0 h0).ent he
    have e1:=len_str (hs ρ0 h0) (hp ρ0 h0) hl
    have e2:=len_str (hs ρ0 h0) (hq ρ0 h0) hm
    rw[Lin.qc,Lin.zh,Lin.jg,e1,e2] at g0
    have hmax:¬((p.size+q.size:Nat):Int) > IntKind.i64.max:=by
     have:IntKind.i64.max=9223372036854775807:=by decide
     omega
    refine⟨.string (p++q),by simp only[Op.stringOp,hmax,if_false,Sem.run_pure],fun ρ hρ=>zq ⟨_,rfl,by simp only[ByteArray.size_append];omega⟩ ?_⟩
    intro hv f hf
    have e1:=len_str (hs ρ hρ) (hp ρ hρ) hl
    have e2:=len_str (hs ρ hρ) (hq ρ hρ) hm
    have hm':meas (ρ S.nv)=p.size+q.size:=by rw[hv];simp[meas,ByteArray.size_append]
    simp only[List.mem_cons,List.not_mem_nil,or_false] at hf
    rcases hf with rfl|rfl<;>rw[Lin.qc,Lin.jg,Lin.qg,hm',e1,e2]<;>omega
   ·cases h
  ·cases h
 case eql=>
  split at h
  ·rename_i hxy
   cases h
   have:=same_ok hxy
   subst this
   have hpq:p=q:=by have:=(hp ρ0 h0).symm.trans (hq ρ0 h0);injection this
   subst hpq
   exact⟨_,rfl,fun ρ hρ=>y9 (by simp[SV.den,BE.den])⟩
  ·cases h;exact⟨_,rfl,fun ρ hρ=>zq ⟨_,rfl⟩ (by simp)⟩
 case neq=>
  split at h
  ·rename_i hxy
   cases h
   have:=same_ok hxy
   subst this
   have hpq:p=q:=by have:=(hp ρ0 h0).symm.trans (hq ρ0 h0);injection this
   subst hpq
   exact⟨_,rfl,fun ρ hρ=>y9 (by simp[SV.den,BE.den])⟩
  ·cases h;exact⟨_,rfl,fun ρ hρ=>zq ⟨_,rfl⟩ (by simp)⟩
 all_goals
  subst h
  exact⟨_,rfl,fun ρ hρ=>zq ⟨_,rfl⟩ (by simp)⟩
end
end Sy
end Go.Proofs.YtmadfhgiaonnlaaGreatDoor
