import Derived.Test.YtmadfhgiaonnlaaGreatDoorPk5
set_option linter.unusedVariables false
set_option linter.unusedSimpArgs false
namespace Go.Proofs.YtmadfhgiaonnlaaGreatDoor
namespace Sy
open Go.RowKit
section
variable{P:Program}{cx:Cx}{W0:World}{S:St}{base:Nat}{ρ:Val}{T:Nat→Prop}{w:World}{a:Act}{Ω:Val→Prop}
theorem load_agg{t:TypeId}{d:TD}(htd:TdOk P t d)(hag:d.k.agg=true){b off:Nat}{cs:List Value}(hl:cs.length=d.size)(hr:w.rangeAt b off cs) :
  (Instr.loadAt t (.pointer (some ⟨b,off,none⟩))).run P w=.ok (.agg cs.toArray) w:=by
 obtain⟨u,h1,h2⟩:=jl htd
 obtain⟨i,h3,h4,-⟩:=yl htd
 refine run_loadAt_mid w b off t cs u hr h1 ?_ (by rw[h3,hl,←h4];rfl)
 rw[←h2] at hag
 cases u<;>first|rfl|cases hag
theorem load_one{t:TypeId}{d:TD}(htd:TdOk P t d)(hag:d.k.agg=false){b off:Nat}{v:Value}(hr:w.cell? ⟨b,off,none⟩=some v) :
  (Instr.loadAt t (.pointer (some ⟨b,off,none⟩))).run P w=.ok v w:=by
 have h:=um htd w
 rw[hag] at h
 simp[Instr.loadAt,Instr.sureAddr,loadVar,Sem.run_bind,h,hr]
def allSome{α:Type}:List (Option α)→Option (List α)
 | []=>some []
 | none::_=>none
 | some x::r=>(allSome r).map (x::·)
theorem allSome_eq{α:Type}:∀{l:List (Option α)} {m:List α},allSome l=some m→l=m.map some
 | [],m,h=>by cases h;rfl
 | none::r,m,h=>by cases h
 | some x::r,m,h=>by
   simp only[allSome] at h
   cases hq:allSome r with
   | none=>rw[hq] at h;cases h
   | some m'=>
     rw[hq] at h
     have h:=oi h
     subst h
     rw[allSome_eq hq];rfl
def vars(n:Nat):Nat→List SV
 | 0=>[]
 | k+1=>.var n::vars (n+1) k
theorem vars_get:∀(k n i:Nat),i<k→(vars n k)[i]? = some (.var (n+i))
 | 0,n,i,h=>by omega
 | k+1,n,0,h=>rfl
 | k+1,n,i+1,h=>by
   simp only[vars,List.getElem?_cons_succ]
   rw[vars_get k (n+1) i (by omega)]
   congr 2;omega
theorem vars_len:∀(k n:Nat),(vars n k).length=k
 | 0,_=>rfl
 | k+1,n=>by simp[vars,vars_len k]
def mkA(S:St)(tys:List CT):Out:=⟨.v (.agg (vars S.nv tys.length)),tys,[]⟩
theorem mkA_ok{tys:List CT}{cs:List Value}(hl:cs.length=tys.length)(ht:∀(i:Nat) (ct:CT) (v:Value),tys[i]? = some ct→cs[i]? = some v→CV cx.tb W0 T w base ct v):NewOk cx.tb W0 S (mkA S tys) base ρ T w (.agg cs.toArray):=by
 intro hb
 have hb':∀i,i<tys.length→ρ (S.nv+i)=cs.getD i undef:=hb
 refine⟨?_,fun i ct hi=>?_,by simp[mkA]⟩
 ·show Value.agg _=Value.agg _
  congr 2
  refine List.ext_getElem? (fun i=>?_)
  simp only[dens,List.getElem?_map]
  by_cases h:i<tys.length
  ·rw[vars_get _ _ _ h]
   simp only[Option.map_some,SV.den,hb' i h]
   rw[List.getD_eq_getElem?_getD,List.getElem?_eq_getElem (by omega)];rfl
  ·rw[List.getElem?_eq_none (by omega),List.getElem?_eq_none (by rw[vars_len];omega)];rfl
 ·have hlt:i<tys.length:=(List.getElem?_eq_some_iff.1 hi).1
  rw[hb' i hlt,List.getD_eq_getElem?_getD,List.getElem?_eq_getElem (by omega)]
  exact ht i ct _ hi (List.getElem?_eq_getElem _)
def boxOf(S:St)(n:Nat):Option Box:=S.bx.find? fun b=>decide (b.n=n)
def CT.low:CT→Bool
 | .sl m _ _=>decide (m≤1)
 | .pt m _=>decide (m≤1)
 | .fn _ l m=>l.all (fun p=>decide (p.1≤1∨p.1=9)) && m.all (fun p=>decide (p.1≤1∨p.1=9))
 | _=>true
theorem PV.rebase{tb:Tab}{m:Nat}{t:TypeId}{v:Value}(h:PV tb W0 T w 0 m t v)(hm:m≤1)(base:Nat):PV tb W0 T w base m t v:=by
 obtain⟨b,off,h1,h|⟨h2,h3,h4⟩⟩:=h
 ·exact⟨b,off,h1,.inl h⟩
 ·exact⟨b,off,h1,.inr ⟨h2,fun hx=>by omega,h4⟩⟩
theorem BV.rebase{tb:Tab}{m:Nat}{t:TypeId}{v:Value}(h:BV tb W0 T w 0 m t v)(hm:m≤1∨m=9)(base:Nat):BV tb W0 T w base m t v:=by
 unfold BV at h ⊢
 split at h
 ·rename_i h9;rw[if_pos h9];exact h
 ·rename_i h9;rw[if_neg h9];exact h.rebase (by omega) base
theorem PVs.rebase{tb:Tab}{l:List (Nat×TypeId)}{vs:Array Value}(h:PVs tb W0 T w 0 l vs)(hl:l.all (fun p=>decide (p.1≤1∨p.1=9))=true)(base:Nat):PVs tb W0 T w base l vs:=
 ⟨h.1,fun i m t hi=>by obtain⟨u,h1,h2⟩:=h.2 i m t hi;exact⟨u,h1,h2.rebase (of_decide_eq_true (List.all_eq_true.1 hl (m,t) (List.mem_of_getElem? hi))) base⟩⟩
theorem CV.rebase{tb:Tab}{ct:CT}{v:Value}(h:CV tb W0 T w 0 ct v)(hl:ct.low=true)(base:Nat):CV tb W0 T w base ct v:=by
 cases ct with
 | int k lo hi=>exact h
 | bool=>exact h
 | str lb=>exact h
 | any=>exact h
 | idx d=>exact h
 | sl m e lb=>
   have hm:=of_decide_eq_true hl
   rcases h with h|h|⟨b,off,n,c,h1,h2,h3,h4,h5,h6,h7⟩
   ·exact .inl h
   ·exact .inr (.inl h)
   ·exact .inr (.inr ⟨b,off,n,c,h1,h2,h3,h4,h5,fun hx=>by omega,h7⟩)
 | pt m t=>
   have hm:=of_decide_eq_true hl
   obtain⟨b,off,h1,h|⟨h2,h3,h4⟩⟩:=h
   ·exact⟨b,off,h1,.inl h⟩
   ·exact⟨b,off,h1,.inr ⟨h2,fun hx=>by omega,h4⟩⟩
 | fn fs l m=>
   simp only[CT.low,Bool.and_eq_true] at hl
   obtain⟨f,y,z,h1,h2,h3,h4⟩:=h
   exact⟨f,y,z,h1,h2,h3.rebase hl.1 base,h4.rebase hl.2 base⟩
 | fz b=>cases b<;>exact h
 | cs q e lb=>exact h
 | mp k t=>exact h
def ctsOf(tb:Tab)(u:TypeId)(off n:Nat):Option (List CT):=
 if((((tb.flat u).getD []).drop off).take n).length=n∧((((tb.flat u).getD []).drop off).take n).all CT.low=true then some ((((tb.flat u).getD []).drop off).take n) else none
theorem ctsOf_ok{tb:Tab}{u:TypeId}{off n:Nat}{l:List CT}(h:ctsOf tb u off n=some l):l.length=n∧(∀ct∈l,ct.low=true)∧∀i,i<n→∃ct,l[i]? = some ct∧((tb.flat u).getD [])[off+i]? = some ct:=by
 unfold ctsOf at h
 split at h
 ·rename_i hc
  cases h
  refine⟨hc.1,fun ct hm=>List.all_eq_true.1 hc.2 ct hm,fun i hi=>?_⟩
  have hi':i<((((tb.flat u).getD []).drop off).take n).length:=by omega
  have hct:=List.getElem?_eq_getElem hi'
  have hct2:=hct
  rw[List.getElem?_take,if_pos hi,List.getElem?_drop] at hct2
  exact⟨_,hct,hct2⟩
 ·cases h
def loadA(cx:Cx)(S:St)(t:TypeId)(x:SV):Option Out:=match S.ptr x,tdOf cx t with
 | some (n,off),some d=>match boxOf S n with
   | some b=>match allSome ((b.cs.drop off).take d.size) with
     | some l=>if l.length=d.size then(if d.k.agg then some (mk0 (.v (.agg l))) else match l with
       | [s]=>some (mkS s)
       | _=>none) else none
     | none=>none
   | none=>match look S.ty n with
     | some (.pt _ u)=>match ctsOf cx.tb u off d.size with
       | some cts=>if d.k.agg then some (mkA S (cts.map CT.thaw)) else match cts with
         | [ct]=>some (mk1 S ct.thaw [])
         | _=>none
       | none=>none
     | _=>none
 | _,_=>none
theorem boxOf_ok{n:Nat}{b:Box}(h:boxOf S n=some b):b∈S.bx∧b.n=n:=
 by
 have h1:=List.find?_some h
 exact⟨List.mem_of_find?_eq_some h,by simpa using h1⟩
theorem loadA_ok(hcx:CxOk P cx){t:TypeId}{x:SV}{out:Out}(h:loadA cx S t x=some out)(hex:∃ρ,Ω ρ)(hs:∀ρ,Ω ρ→SatW cx.tb W0 S base ρ T w){u:Value}(hu:∀ρ,Ω ρ→u=x.den ρ) :
  ∃r,(Instr.loadAt t u).run P w=.ok r w∧∀ρ,Ω ρ→NewOk cx.tb W0 S out base ρ T w r:=by
 obtain⟨ρ0,h0⟩:=hex
 unfold loadA at h
 split at h
 ·rename_i n off d hp hd
  have htd:=hcx t d hd
  have e1:=vg (hs ρ0 h0) hp
  rw[←hu ρ0 h0] at e1
  split at h
  ·rename_i b hb
   obtain⟨hbm,rfl⟩:=boxOf_ok hb
   split at h
   ·rename_i l hl
    have hl:=allSome_eq hl
    split at h
    ·rename_i hlen
     have key:∀ρ,Ω ρ→∃g,u=.pointer (some ⟨g,off,none⟩)∧w.rangeAt g off (dens ρ l):=by
      intro ρ hρ
      obtain⟨g,cs,a1,a2,a3,a4,a5,a6⟩:=(hs ρ hρ).bx b hbm
      have e2:=vg (hs ρ hρ) hp
      rw[←hu ρ hρ,a1] at e2
      refine⟨g,by rw[e2];simp[addrOf],fun j v hv=>?_⟩
      rw[cell_of_row w g (off+j) cs b.t (0,0) a4]
      simp only[dens,List.getElem?_map] at hv
      cases hq:l[j]? with
      | none=>rw[hq] at hv;cases hv
      | some s=>
        rw[hq] at hv
        cases hv
        have hj:j<l.length:=(List.getElem?_eq_some_iff.1 hq).1
        refine a6 (off+j) s ?_
        have:=congrArg (fun z:List (Option SV)=>z[j]?) hl
        simp only[List.getElem?_take,List.getElem?_drop,List.getElem?_map,hq] at this
        rw[if_pos (by omega)] at this
        exact this
     obtain⟨g,eg,hr⟩:=key ρ0 h0
     have hsame:∀ρ,Ω ρ→dens ρ0 l=dens ρ l:=by
      intro ρ hρ
      obtain⟨g',eg',hr'⟩:=key ρ hρ
      rw[eg] at eg'
      injection eg' with eg';injection eg' with eg';injection eg' with eg'
      subst eg'
      refine List.ext_getElem? (fun i=>?_)
      cases hq:(dens ρ0 l)[i]? with
      | none=>
        have:l.length≤i:=by simpa[dens] using hq
        rw[List.getElem?_eq_none (by simpa[dens] using this)]
      | some v=>
        have h1:=hr i v hq
        have hi:i<l.length:=by simpa[dens] using(List.getElem?_eq_some_iff.1 hq).1
        have h2:=hr' i ((dens ρ l)[i]'(by simpa[dens] using hi)) (List.getElem?_eq_getElem _)
        rw[h1] at h2
        rw[List.getElem?_eq_getElem (by simpa[dens] using hi),h2]
     split at h
     ·rename_i hag
      cases h
      exact⟨_,by rw[eg];exact load_agg htd hag (by simpa[dens] using hlen) hr,fun ρ hρ=>mk0_ok (by rw[hsame ρ hρ];rfl)⟩
     ·rename_i hag
      split at h
      ·rename_i s
       cases h
       have hc:=hr 0 _ rfl
       rw[Nat.add_zero] at hc
       refine⟨_,by rw[eg];exact load_one htd (by simpa using hag) hc,fun ρ hρ=>y9 ?_⟩
       have:=hsame ρ hρ
       simpa[dens] using this
      ·cases h
    ·cases h
   ·cases h
  ·split at h
   ·rename_i m uu hq
    split at h
    ·rename_i cts hcts
     obtain⟨hlen,hlow,hget⟩:=ctsOf_ok hcts
     have hcv:=(hs ρ0 h0).ty n _ (zg hq)
     obtain⟨b,o,hb,-⟩:=id hcv
     rw[hb] at hcv
     have eu:u=.pointer (some ⟨b,o+off,none⟩):=by rw[e1,hb];rfl
     have hlist:∃cs:List Value,cs.length=d.size∧∀i,i<d.size→∃v ct,cs[i]? = some v∧cts[i]? = some ct∧w.cell? ⟨b,o+off+i,none⟩=some v∧CV cx.tb W0 T w base ct v:=by
      have:∀k,k≤d.size→∃cs:List Value,cs.length=k∧∀i,i<k→∃v ct,cs[i]? = some v∧cts[i]? = some ct∧w.cell? ⟨b,o+off+i,none⟩=some v∧CV cx.tb W0 T w base ct v:=by
       intro k
       induction k with
       | zero=>exact fun _=>⟨[],rfl,fun i hi=>by omega⟩
       | succ k ih=>
         intro hk
         obtain⟨cs,hl,hx⟩:=ih (by omega)
         obtain⟨ct,h1,h2⟩:=hget k (by omega)
         obtain⟨v,hv1,hv2⟩:=(hs ρ0 h0).wt.load hcv h2
         refine⟨cs++[v],by simp[hl],fun i hi=>?_⟩
         by_cases hik:i<k
         ·obtain⟨v',ct',g1,g2⟩:=hx i hik
          exact⟨v',ct',by rw[List.getElem?_append_left (by omega)];exact g1,g2⟩
         ·have:i=k:=by omega
          subst this
          exact⟨v,ct,by rw[List.getElem?_append_right (by omega),hl];simp,h1,by rw[Nat.add_assoc];exact hv1,hv2.rebase (hlow ct (List.mem_of_getElem? h1)) base⟩
      exact this d.size (Nat.le_refl _)
     obtain⟨cs,hl,hx⟩:=hlist
     have hr:w.rangeAt b (o+off) cs:=by
      intro j v hv
      obtain⟨v',ct,g1,g2,g3,g4⟩:=hx j (by have:=(List.getElem?_eq_some_iff.1 hv).1;omega)
      rw[hv] at g1
      cases g1
      exact g3
     split at h
     ·rename_i hag
      cases h
      refine⟨_,by rw[eu];exact load_agg htd hag hl hr,fun ρ hρ=>mkA_ok (by rw[List.length_map];omega) (fun i ct v h1 h2=>?_)⟩
      obtain⟨v',ct',g1,g2,g3,g4⟩:=hx i (by have:=(List.getElem?_eq_some_iff.1 h2).1;omega)
      rw[h2] at g1
      cases g1
      rw[List.getElem?_map,g2] at h1
      cases h1
      exact g4.thaw
     ·rename_i hag
      split at h
      ·rename_i ct
       cases h
       have hd1:d.size=1:=by rw[←hlen];rfl
       obtain⟨v,ct',g1,g2,g3,g4⟩:=hx 0 (by omega)
       cases g2
       exact⟨_,by rw[eu];exact load_one htd (by simpa using hag) g3,fun ρ hρ=>zq g4.thaw (by simp)⟩
      ·cases h
    ·cases h
   ·cases h
 ·cases h
def splice(l:List SV)(off:Nat)(vs:List SV):List SV:=l.take off++vs++l.drop (off+vs.length)
theorem foldl_set:∀(vs:List Value) (cs:Array Value) (off k:Nat),off+k+vs.length≤cs.size →
  ((vs.zipIdx k).foldl (fun(cs:Array Value) (x:Value×Nat)=>cs.setIfInBounds (off+x.2) x.1) cs).toList=cs.toList.take (off+k)++vs++cs.toList.drop (off+k+vs.length)
 | [],cs,off,k,h=>by simp
 | v::vs,cs,off,k,h=>by
   rw[List.zipIdx_cons,List.foldl_cons,foldl_set vs _ off (k+1) (by simp only[Array.size_setIfInBounds,List.length_cons] at *;omega)]
   simp only[Array.toList_setIfInBounds,List.length_cons] at *
   have h1:off+k<cs.toList.length:=by simp;omega
   rw[show off+(k+1)=off+k+1 by omega,List.take_set,List.drop_set,if_pos (by omega),List.set_eq_take_append_cons_drop,if_pos (by rw[List.length_take];omega)]
   simp only[List.take_take,List.drop_take,List.append_assoc,List.cons_append]
   rw[show min (off+k) (off+k+1)=off+k by omega,show off+k+1-(off+k+1)=0 by omega]
   simp only[List.take_zero,List.nil_append]
   rw[show off+k+1+vs.length=off+k+(vs.length+1) by omega]
def fillS(place:Nat→Option (Nat×Nat)):List SV→List (Nat×TV)→Option (List SV)
 | cells,[]=>some cells
 | cells,(i,tv)::r=>match place i with
   | none=>none
   | some (off,size)=>if tv.cells.length=size∧off+size≤cells.length then fillS place (splice cells off tv.cells) r else none
theorem tv_cells(ρ:Val)(tv:TV)(h:∀s,tv=.one s→(s.den ρ).oneCell'=true):(tv.den ρ).cells.toList=dens ρ tv.cells:=by
 cases tv with
 | agg l=>rfl
 | one s=>
   have:=h s rfl
   show(s.den ρ).cells.toList=[s.den ρ]
   generalize s.den ρ=v at *
   cases v<;>first|rfl|cases this
theorem fillS_ok{place:Nat→Option (Nat×Nat)}(ρ:Val):∀(parts:List (Nat×TV)) (cells:List SV) (cs:Array Value) (l:List SV),(∀p∈parts,∀s,p.2=.one s→(s.den ρ).oneCell'=true)→fillS place cells parts=some l→cs.toList=dens ρ cells →
  ∃r,Instr.fill place cs (parts.map fun p=>(p.1,p.2.den ρ))=some r∧r.toList=dens ρ l
 | [],cells,cs,l,ho,h,hc=>by cases h;exact⟨cs,rfl,hc⟩
 | (i,tv)::r,cells,cs,l,ho,h,hc=>by
   unfold fillS at h
   split at h
   ·cases h
   ·rename_i off size hp
    split at h
    ·rename_i hcc
     have htc:=tv_cells ρ tv (ho (i,tv) (by simp))
     have hsz:(tv.den ρ).cells.size=size:=by rw[←Array.length_toList,htc,←hcc.1];simp[dens]
     have hcs:cs.size=cells.length:=by rw[←Array.length_toList,hc];simp[dens]
     obtain⟨q,hq1,hq2⟩:=fillS_ok ρ r (splice cells off tv.cells) ((tv.den ρ).cells.zipIdx.foldl (fun cs (c,j)=>cs.setIfInBounds (off+j) c) cs) l (fun p hp=>ho p (by simp[hp])) h (by
      rw[←Array.foldl_toList,Array.toList_zipIdx,htc]
      have:=foldl_set (dens ρ tv.cells) cs off 0 (by simp only[dens,List.length_map];omega)
      simp only[Nat.add_zero] at this
      refine this.trans ?_
      rw[hc]
      simp[dens,splice,List.map_append,List.map_take,List.map_drop])
     refine⟨q,?_,hq2⟩
     simp only[List.map_cons,Instr.fill,hp]
     rw[if_neg]
     ·exact hq1
     ·simp only[hsz,bne_self_eq_false,ne_eq,not_true_eq_false,decide_false,Bool.false_or,decide_eq_true_eq]
      omega
    ·cases h
def svOne(S:St):SV→Bool
 | .con v=>v.oneCell'
 | .var n=>(look S.ty n).isSome || S.bx.any (fun b=>decide (b.n=n))
 | _=>true
theorem uk{s:SV}(h:SatW cx.tb W0 S base ρ T w)(hs:svOne S s=true):(s.den ρ).oneCell'=true:=by
 cases s with
 | con v=>exact hs
 | lin k l=>rfl
 | be b=>rfl
 | ptr n o=>rfl
 | var n=>
   simp only[svOne,Bool.or_eq_true] at hs
   rcases hs with hs|hs
   ·cases hq:look S.ty n with
    | none=>rw[hq] at hs;cases hs
    | some ct=>exact(h.ty n ct (zg hq)).one
   ·obtain⟨b,hb1,hb2⟩:=List.any_eq_true.1 hs
    obtain⟨g,cs,hg,-⟩:=h.bx b hb1
    rw[of_decide_eq_true hb2] at hg
    show(ρ n).oneCell'=true
    rw[hg];rfl
end
open Go.RowKit
section
variable{P:Program}{cx:Cx}{W0:World}{S:St}{base:Nat}{ρ:Val}{T:Nat→Prop}{w:World}{a:Act}{Ω:Val→Prop}
def placesOf(cx:Cx):List (TypeId×Nat)→Option (List (Nat×Nat))
 | []=>some []
 | (t,off)::r=>match tdOf cx t,placesOf cx r with
   | some d,some l=>some ((off,d.size)::l)
   | _,_=>none
theorem places_run(hcx:CxOk P cx):∀(fs:List Field) (l:List (Nat×Nat)),placesOf cx (fs.map fun f=>(f.type,f.offset))=some l →
  (fs.mapM (fun f=>do pure (f.offset,←sizeOf f.type):Field→Sem (Nat×Nat))).run P w=.ok l w
 | [],l,h=>by cases h;rfl
 | f::r,l,h=>by
   simp only[List.map_cons,placesOf] at h
   split at h
   ·rename_i d l' hd hl'
    cases h
    have ih:=places_run hcx r l' hl'
    rw[List.mapM_cons,Sem.run_bind,Sem.run_bind,zo (hcx _ d hd) w]
    simp only[Result.andThen_ok,Sem.run_pure]
    rw[Sem.run_bind,ih]
    rfl
   ·cases h
def partsOf(S:St):List (Nat×Operand)→Option (List (Nat×TV))
 | []=>some []
 | (i,x)::r=>match S.op x,partsOf S r with
   | some (.v (.one s)),some l=>if svOne S s then some ((i,.one s)::l) else none
   | some (.v (.agg c)),some l=>some ((i,.agg c)::l)
   | _,_=>none
theorem partsOf_ok(h:SatW cx.tb W0 S base ρ T w)(he:EnvOk S ρ a):∀(ps:List (Nat×Operand)) (l:List (Nat×TV)),partsOf S ps=some l →
  (ps.map fun p=>(p.1,a.eval p.2))=(l.map fun p=>(p.1,p.2.den ρ))∧∀p∈l,∀s,p.2=.one s→(s.den ρ).oneCell'=true
 | [],l,hp=>by cases hp;exact⟨rfl,by simp⟩
 | (i,x)::r,l,hp=>by
   simp only[partsOf] at hp
   split at hp
   ·rename_i s l' hx hl'
    split at hp
    ·rename_i ho
     cases hp
     obtain⟨g1,g2⟩:=partsOf_ok h he r l' hl'
     refine⟨by simp only[List.map_cons,g1,jh he hx];rfl,fun p hpm s' hs'=>?_⟩
     rcases List.mem_cons.1 hpm with rfl|hpm
     ·cases hs';exact uk h ho
     ·exact g2 p hpm s' hs'
    ·cases hp
   ·rename_i c l' hx hl'
    cases hp
    obtain⟨g1,g2⟩:=partsOf_ok h he r l' hl'
    refine⟨by simp only[List.map_cons,g1,jh he hx];rfl,fun p hpm s' hs'=>?_⟩
    rcases List.mem_cons.1 hpm with rfl|hpm
    ·cases hs'
    ·exact g2 p hpm s' hs'
   ·cases hp
def buildA(cx:Cx)(S:St)(t:TypeId)(parts:List (Nat×Operand)):Option Out:=match tdOf cx t,partsOf S parts with
 | some d,some ps=>match d.k with
   | .st fs=>match placesOf cx fs with
     | some pl=>(fillS (pl[·]?) (d.zero.map .con) ps).map fun l=>mk0 (.v (.agg l))
     | none=>none
   | .ar _ e=>match tdOf cx e with
     | some de=>(fillS (fun i=>some (i*de.size,de.size)) (d.zero.map .con) ps).map fun l=>mk0 (.v (.agg l))
     | none=>none
   | _=>none
 | _,_=>none
theorem buildA_ok(hcx:CxOk P cx){t:TypeId}{parts:Array (Nat×Operand)}{out:Out}(h:buildA cx S t parts.toList=some out)(hex:∃ρ,Ω ρ)(hs:∀ρ,Ω ρ→SatW cx.tb W0 S base ρ T w)(he:∀ρ,Ω ρ→EnvOk S ρ a) :
  ∃r,(Instr.build t (parts.map fun(i,x)=>(i,a.eval x))).run P w=.ok r w∧∀ρ,Ω ρ→NewOk cx.tb W0 S out base ρ T w r:=by
 obtain⟨ρ0,h0⟩:=hex
 unfold buildA at h
 split at h
 ·rename_i d ps hd hps
  have htd:=hcx t d hd
  obtain⟨u',g1,g2⟩:=jl htd
  obtain⟨i,hi1,hi2,hi3,z,hz1,hz2⟩:=yl htd
  have hzero:(zeroValue t).run P w=.ok z w:=by simp[zeroValue,typeInfo,hi1,hz1]
  have hconv:∀ρ,Ω ρ→(parts.map fun(i,x)=>(i,a.eval x)).toList=(ps.map fun p=>(p.1,p.2.den ρ)):=fun ρ hρ=>by
   rw[←(partsOf_ok (hs ρ hρ) (he ρ hρ) _ _ hps).1,Array.toList_map]
  have hone:=(partsOf_ok (hs ρ0 h0) (he ρ0 h0) _ _ hps).2
  have hz:∀ρ:Val,z.cells.toList=dens ρ (d.zero.map .con):=fun ρ=>by
   rw[hz2];unfold dens;rw[List.map_map];exact(List.map_id _).symm
  have hfin:∀(place:Nat→Option (Nat×Nat)) (o:Out),(fillS place (d.zero.map .con) ps).map (fun l=>mk0 (.v (.agg l)))=some o→∃q,Instr.fill place z.cells (parts.map fun(i,x)=>(i,a.eval x)).toList=some q∧∀ρ,Ω ρ→NewOk cx.tb W0 S o base ρ T w (.agg q):=by
   intro place o ho
   cases hq:fillS place (d.zero.map .con) ps with
   | none=>rw[hq] at ho;cases ho
   | some l=>
     rw[hq] at ho
     have ho:=oi ho
     subst ho
     obtain⟨q,hq1,hq2⟩:=fillS_ok ρ0 ps _ z.cells l hone hq (hz ρ0)
     refine⟨q,by rw[hconv ρ0 h0];exact hq1,fun ρ hρ=>mk0_ok ?_⟩
     obtain⟨q',hq3,hq4⟩:=fillS_ok ρ ps _ z.cells l ((partsOf_ok (hs ρ hρ) (he ρ hρ) _ _ hps).2) hq (hz ρ)
     rw[←hconv ρ hρ,hconv ρ0 h0,hq1] at hq3
     cases hq3
     show Value.agg q=Value.agg _
     congr 1
     exact Array.toList_inj.1 hq4
  split at h
  ·rename_i fs hk
   rw[hk] at g2
   obtain⟨fl,rfl⟩:∃fl,u'=.struct fl:=by cases u'<;>simp_all [KD.of]
   simp only[KD.of,KD.st.injEq] at g2
   split at h
   ·rename_i pl hpl
    obtain⟨q,hq1,hq2⟩:=hfin _ _ h
    refine⟨.agg q,?_,hq2⟩
    have hm:(fl.mapM (fun f=>do pure (f.offset,←sizeOf f.type):Field→Sem (Nat×Nat))).run P w=.ok pl.toArray w:=by
     rw[Array.mapM_eq_mapM_toList,Sem.run_map,places_run hcx fl.toList pl (by rw[g2];exact hpl)]
     rfl
    unfold Instr.build
    rw[Sem.run_bind,hzero]
    simp only[Result.andThen_ok]
    rw[Sem.run_bind,run_underlying g1 w]
    simp only[Result.andThen_ok]
    rw[Sem.run_bind,hm]
    simp only[Result.andThen_ok]
    have:(fun x:Nat=>pl.toArray[x]?)=(fun x:Nat=>pl[x]?):=by funext x;simp
    rw[this,hq1]
    rfl
   ·cases h
  ·rename_i n e hk
   rw[hk] at g2
   obtain⟨n',e',rfl⟩:∃n' e',u'=.array n' e':=by cases u'<;>simp_all [KD.of]
   simp only[KD.of,KD.ar.injEq] at g2
   obtain⟨rfl,rfl⟩:=g2
   split at h
   ·rename_i de hde
    obtain⟨q,hq1,hq2⟩:=hfin _ _ h
    refine⟨.agg q,?_,hq2⟩
    unfold Instr.build
    rw[Sem.run_bind,hzero]
    simp only[Result.andThen_ok]
    rw[Sem.run_bind,run_underlying g1 w]
    simp only[Result.andThen_ok]
    rw[Sem.run_bind,zo (hcx _ de hde) w]
    simp only[Result.andThen_ok]
    rw[hq1]
    rfl
   ·cases h
  ·cases h
 ·cases h
def pickA(S:St)(c:SV)(x y:Operand):Option Out:=match S.be c with
 | some (.tt true)=>(S.op x).map mk0
 | some (.tt false)=>(S.op y).map mk0
 | some b=>match S.one x,S.one y with
   | some sx,some sy=>match S.be sx,S.be sy with
     | some p,some q=>some (mkS (.be (.or (.and b p) (.and (.not b) q))))
     | _,_=>none
   | _,_=>none
 | none=>none
theorem pickA_ok{c:SV}{x y:Operand}{out:Out}(h:pickA S c x y=some out)(hs:SatW cx.tb W0 S base ρ T w)(he:EnvOk S ρ a):∃b,c.den ρ=.bool b∧NewOk cx.tb W0 S out base ρ T w (if b then a.eval x else a.eval y):=by
 unfold pickA at h
 split at h
 ·rename_i hb
  cases hq:S.op x with
  | none=>rw[hq] at h;cases h
  | some v=>
    rw[hq] at h
    have h:=oi h
    subst h
    exact⟨true,xu hs hb,mk0_ok (jh he hq)⟩
 ·rename_i hb
  cases hq:S.op y with
  | none=>rw[hq] at h;cases h
  | some v=>
    rw[hq] at h
    have h:=oi h
    subst h
    exact⟨false,xu hs hb,mk0_ok (jh he hq)⟩
 ·rename_i b h1 h2 hb
  split at h
  ·rename_i sx sy hx hy
   split at h
   ·rename_i p q hp hq
    cases h
    refine⟨_,xu hs hb,y9 ?_⟩
    rw[qi he hx,qi he hy,xu hs hp,xu hs hq]
    show _=Value.bool ((b.den ρ && p.den ρ) || (!b.den ρ && q.den ρ))
    cases b.den ρ<;>simp
   ·cases h
  ·cases h
 ·cases h
def stepA(cx:Cx)(S:St)(o:Oper):Option Out:=match o.op with
 | .move x=>(S.op x).map mk0
 | .assign x=>(S.op x).map mk0
 | .pick c x y=>match S.one c with
   | some c=>pickA S c x y
   | none=>none
 | .build t parts=>buildA cx S t parts.toList
 | .load t x=>match S.one x with
   | some x=>loadA cx S t x
   | none=>none
 | .nilCheck x=>match S.one x with
   | some s=>if(S.ptr s).isSome then some (mkS s) else none
   | none=>none
 | .binOp op t x y _=>match S.one x,S.one y with
   | some x,some y=>binA cx S op t x y
   | _,_=>none
 | .unOp op _ x=>match S.one x with
   | some x=>unA S op x
   | none=>none
 | .convert s d x=>match S.one x with
   | some x=>convA cx S s d x
   | none=>none
 | .slice t x lo hi mx=>match S.one x with
   | some s=>match(match lo with|none=>some none|some z=>(S.one z).map some),(match hi with|none=>some none|some z=>(S.one z).map some),(match mx with|none=>some none|some z=>(S.one z).map some) with
     | some l,some h,some m=>if m.isSome && h.isNone then none else sliceA cx S t s l h m
     | _,_,_=>none
   | none=>none
 | .fieldAddr t x f=>match S.one x with
   | some x=>faddrA cx S t x f
   | none=>none
 | .field t x f=>match S.op x with
   | some x=>fieldA cx t x f
   | none=>none
 | .indexAddr t x i=>match S.one x,S.one i with
   | some x,some i=>iaddrA cx S t x i
   | _,_=>none
 | .index t x i=>match S.op x,S.one i with
   | some x,some i=>indexA cx S t x i
   | _,_=>none
 | .extract x i=>match S.op x with
   | some (.tup l)=>(l[i]?).map fun t=>mk0 (.v t)
   | _=>none
 | .makeFunc fn first cap=>if first.size=0∧cap.size=0 then some (mkS (.con (.func fn #[] #[]))) else none
 | .call { callee:=.builtin .len,args,argTypes }=>match args.toList,argTypes.toList with
   | [x],[t]=>match S.one x with
     | some x=>lenA cx S t x
     | none=>match S.op x,kd cx t with
       | some (.v (.agg _)),.ar n _=>some (mkS (.con (.int .i64 n)))
       | _,_=>none
   | _,_=>none
 | .call { callee:=.builtin .cap,args,argTypes }=>match args.toList,argTypes.toList with
   | [x],[t]=>match S.one x with
     | some x=>capA cx S t x
     | none=>none
   | _,_=>none
 | .call { callee:=.builtin .min,args,argTypes }=>match args.toList with
   | [x,y]=>match S.one x,S.one y with
     | some x,some y=>mmA S false x y
     | _,_=>none
   | _=>none
 | .call { callee:=.builtin .max,args,argTypes }=>match args.toList with
   | [x,y]=>match S.one x,S.one y with
     | some x,some y=>mmA S true x y
     | _,_=>none
   | _=>none
 | _=>none
theorem run_v{s:Sem Value}{r:Value}(h:s.run P w=.ok r w):(do pure (.value (←s)):Sem Next).run P w=.ok (.value r) w:=by
 rw[Sem.run_bind,h];rfl
theorem arr1{α:Type}{l:Array α}{x:α}(h:l.toList=[x]):l=#[x]:=Array.toList_inj.1 h
theorem arr2{α:Type}{l:Array α}{x y:α}(h:l.toList=[x,y]):l=#[x,y]:=Array.toList_inj.1 h
theorem optArg{z:Option Operand}{s:Option SV}(h:(match z with|none=>some none|some z=>(S.one z).map some)=some s)(he:EnvOk S ρ a):z.map a.eval=s.map (SV.den ρ):=by
 cases z with
 | none=>cases h;rfl
 | some z=>
   simp only at h
   cases hq:S.one z with
   | none=>rw[hq] at h;cases h
   | some q=>rw[hq] at h;cases h;simp[qi he hq]
theorem stepA_ok(hcx:CxOk P cx){o:Oper}{out:Out}(h:stepA cx S o=some out)(H:Hyp cx W0 S base Ω T w a):Pure P cx W0 S base Ω T w a o out:=by
 have hs:=H.sat
 have he:=H.env
 have hex:=H.ex
 obtain⟨ρ0,h0⟩:=id hex
 have h1:∀{x:Operand} {s:SV},S.one x=some s→∀ρ,Ω ρ→a.eval x=s.den ρ:=fun hx ρ hρ=>qi (he ρ hρ) hx
 have h2:∀{x:Operand} {s:XV},S.op x=some s→∀ρ,Ω ρ→a.eval x=s.den ρ:=fun hx ρ hρ=>jh (he ρ hρ) hx
 unfold Pure
 unfold stepA at h
 split at h
 ·rename_i x ho
  cases hq:S.op x with
  | none=>rw[hq] at h;cases h
  | some v=>
    rw[hq] at h
    have h:=oi h
    subst h
    exact⟨a.eval x,by simp[execOp,ho],fun ρ hρ=>mk0_ok (h2 hq ρ hρ)⟩
 ·rename_i x ho
  cases hq:S.op x with
  | none=>rw[hq] at h;cases h
  | some v=>
    rw[hq] at h
    have h:=oi h
    subst h
    exact⟨a.eval x,by simp[execOp,ho],fun ρ hρ=>mk0_ok (h2 hq ρ hρ)⟩
 ·rename_i c x y ho
  split at h
  ·rename_i c' hc
   obtain⟨b,hb,-⟩:=pickA_ok h (hs ρ0 h0) (he ρ0 h0)
   refine⟨if b then a.eval x else a.eval y,?_,fun ρ hρ=>?_⟩
   ·simp[execOp,ho,h1 hc ρ0 h0,hb,asBool]
   ·obtain⟨b',hb',hn⟩:=pickA_ok h (hs ρ hρ) (he ρ hρ)
    have e:=(h1 hc ρ0 h0).symm.trans (h1 hc ρ hρ)
    rw[hb,hb'] at e
    injection e with e
    subst e
    exact hn
  ·cases h
 ·rename_i t parts ho
  obtain⟨r,h3,h4⟩:=buildA_ok hcx h hex hs he
  exact⟨r,by simp only[execOp,ho];exact run_v h3,h4⟩
 ·rename_i t x ho
  split at h
  ·rename_i s hx
   obtain⟨r,h3,h4⟩:=loadA_ok hcx h hex hs (h1 hx)
   exact⟨r,by simp only[execOp,ho];exact run_v h3,h4⟩
  ·cases h
 ·rename_i x ho
  split at h
  ·rename_i s hx
   split at h
   ·rename_i hp
    cases h
    cases hq:S.ptr s with
    | none=>rw[hq] at hp;cases hp
    | some no=>
      obtain⟨n,off⟩:=no
      have e1:=vg (hs ρ0 h0) hq
      rw[←h1 hx ρ0 h0] at e1
      exact⟨a.eval x,by simp[execOp,ho,e1],fun ρ hρ=>y9 (h1 hx ρ hρ)⟩
   ·cases h
  ·cases h
 ·rename_i op t x y u ho
  split at h
  ·rename_i x' y' hx hy
   obtain⟨r,h3,h4⟩:=binA_ok hcx h hex hs (h1 hx) (h1 hy) x y
   exact⟨r,by simp only[execOp,ho];exact run_v h3,h4⟩
  ·cases h
 ·rename_i op t x ho
  split at h
  ·rename_i x' hx
   obtain⟨r,h3,h4⟩:=unA_ok h hex hs (h1 hx)
   exact⟨r,by simp only[execOp,ho];exact run_v h3,h4⟩
  ·cases h
 ·rename_i s d x ho
  split at h
  ·rename_i x' hx
   obtain⟨r,h3,h4⟩:=convA_ok hcx h hex hs (h1 hx)
   exact⟨r,by simp only[execOp,ho];exact run_v h3,h4⟩
  ·cases h
 ·rename_i t x lo hi mx ho
  split at h
  ·rename_i s hx
   split at h
   ·rename_i l hh m hl hhi hm
    split at h
    ·cases h
    ·rename_i hmh
     obtain⟨r,h3,h4⟩:=sliceA_ok hcx h hex hs (h1 hx) (fun ρ hρ=>optArg hl (he ρ hρ)) (fun ρ hρ=>optArg hhi (he ρ hρ)) (fun ρ hρ=>optArg hm (he ρ hρ)) (fun hm=>by
      cases hh with
      | some z=>rfl
      | none=>rw[hm] at hmh;simp at hmh)
     exact⟨r,by simp only[execOp,ho];exact run_v h3,h4⟩
   ·cases h
  ·cases h
 ·rename_i t x f ho
  split at h
  ·rename_i s hx
   obtain⟨r,h3,h4⟩:=faddrA_ok hcx h hex hs (h1 hx)
   exact⟨r,by simp only[execOp,ho];exact run_v h3,h4⟩
  ·cases h
 ·rename_i t x f ho
  split at h
  ·rename_i s hx
   obtain⟨r,h3,h4⟩:=fieldA_ok (P:=P) (W0:=W0) (S:=S) (base:=base) (T:=T) (w:=w) hcx h hex (h2 hx)
   exact⟨r,by simp only[execOp,ho];exact run_v h3,h4⟩
  ·cases h
 ·rename_i t x i ho
  split at h
  ·rename_i x' i' hx hi
   obtain⟨r,h3,h4⟩:=iaddrA_ok hcx h hex hs (h1 hx) (h1 hi)
   exact⟨r,by simp only[execOp,ho];exact run_v h3,h4⟩
  ·cases h
 ·rename_i t x i ho
  split at h
  ·rename_i x' i' hx hi
   obtain⟨r,h3,h4⟩:=indexA_ok hcx h hex hs (h2 hx) (h1 hi)
   exact⟨r,by simp only[execOp,ho];exact run_v h3,h4⟩
  ·cases h
 ·rename_i x i ho
  split at h
  ·rename_i l hx
   cases hq:l[i]? with
   | none=>rw[hq] at h;cases h
   | some t=>
     rw[hq] at h
     have h:=oi h
     subst h
     have e1:∀ρ,Ω ρ→a.eval x=.tuple (l.map (TV.den ρ)).toArray:=fun ρ hρ=>h2 hx ρ hρ
     refine⟨t.den ρ0,?_,fun ρ hρ=>mk0_ok ?_⟩
     ·simp only[execOp,ho]
      refine run_v ?_
      simp[Instr.extract,e1 ρ0 h0,hq]
     ·have e2:=(e1 ρ0 h0).symm.trans (e1 ρ hρ)
      injection e2 with e2
      have e3:=congrArg (fun z:Array Value=>z[i]?) e2
      show t.den ρ0=t.den ρ
      simpa[hq] using e3
  ·cases h
 ·rename_i fn first cap ho
  split at h
  ·rename_i hc
   cases h
   have e1:first=#[]:=Array.eq_empty_of_size_eq_zero hc.1
   have e2:cap=#[]:=Array.eq_empty_of_size_eq_zero hc.2
   subst e1;subst e2
   exact⟨_,by simp[execOp,ho,Instr.makeFunc],fun ρ hρ=>y9 rfl⟩
  ·cases h
 ·rename_i args ats ho
  split at h
  ·rename_i x t hx ht
   have e1:=arr1 hx
   have e2:=arr1 ht
   subst e1;subst e2
   split at h
   ·rename_i s hs1
    obtain⟨r,h3,h4⟩:=lenA_ok (r:=o.type) hcx h hex hs (h1 hs1)
    exact⟨r,by simp only[execOp,ho,resolve,invoke,builtin];simpa[Sem.run_bind] using run_v h3,h4⟩
   ·split at h
    ·rename_i l n e hl hk
     cases h
     obtain⟨u',g1,g2⟩:=qo hcx hk (by simp)
     obtain⟨n',e',rfl⟩:∃n' e',u'=.array n' e':=by cases u'<;>simp_all [KD.of]
     simp only[KD.of,KD.ar.injEq] at g2
     obtain⟨rfl,rfl⟩:=g2
     refine⟨goInt n',?_,fun ρ hρ=>y9 rfl⟩
     have hv:a.eval x=.agg (dens ρ0 l).toArray:=h2 hl ρ0 h0
     simp[execOp,ho,resolve,invoke,builtin,Builtin.len_,hv,Sem.run_bind,run_underlying g1 w]
    ·cases h
  ·cases h
 ·rename_i args ats ho
  split at h
  ·rename_i x t hx ht
   have e1:=arr1 hx
   have e2:=arr1 ht
   subst e1;subst e2
   split at h
   ·rename_i s hs1
    obtain⟨r,h3,h4⟩:=capA_ok (r:=o.type) hcx h hex hs (h1 hs1)
    exact⟨r,by simp only[execOp,ho,resolve,invoke,builtin];simpa[Sem.run_bind] using run_v h3,h4⟩
   ·cases h
  ·cases h
 ·rename_i args ats ho
  split at h
  ·rename_i x y hx
   have e1:=arr2 hx
   subst e1
   split at h
   ·rename_i x' y' hx' hy'
    obtain⟨r,h3,h4⟩:=mmA_ok (mx:=false) (r:=o.type) (ts:=ats) h hex hs (h1 hx') (h1 hy')
    exact⟨r,by simp only[execOp,ho,resolve,invoke,builtin];simpa[Sem.run_bind] using run_v h3,h4⟩
   ·cases h
  ·cases h
 ·rename_i args ats ho
  split at h
  ·rename_i x y hx
   have e1:=arr2 hx
   subst e1
   split at h
   ·rename_i x' y' hx' hy'
    obtain⟨r,h3,h4⟩:=mmA_ok (mx:=true) (r:=o.type) (ts:=ats) h hex hs (h1 hx') (h1 hy')
    exact⟨r,by simp only[execOp,ho,resolve,invoke,builtin];simpa[Sem.run_bind] using run_v h3,h4⟩
   ·cases h
  ·cases h
 ·cases h
end
open Go.RowKit
theorem heap_setCells_other(b:Nat):∀(vs:List Value) (o:Nat) (w:World) (k:Nat),k≠b→(w.setCells b o vs).heap[k]? = w.heap[k]?
 | [],_,_,_,_=>rfl
 | v::r,o,w,k,h=>by rw[World.setCells,heap_setCells_other b r (o+1) _ k h,Below.heap_setCell _ _ _ _ h]
theorem yj(b:Nat):∀(vs:List Value) (o:Nat) (w:World),(w.setCells b o vs).heap.size=w.heap.size∧(w.setCells b o vs).os=w.os∧(w.setCells b o vs).tape=w.tape∧(w.setCells b o vs).output=w.output
 | [],_,_=>⟨rfl,rfl,rfl,rfl⟩
 | v::r,o,w=>by
   rw[World.setCells]
   obtain⟨h1,h2,h3,h4⟩:=yj b r (o+1) (w.setCell ⟨b,o,none⟩ v)
   exact⟨h1.trans (by simp[World.setCell]),h2,h3,h4⟩
theorem yf(b:Nat)(e:TypeId)(fr:Nat×Nat):∀(vs:List Value) (o:Nat) (w:World) (cs:Array Value),w.heap[b]? = some (.cells cs e fr) →
  ∃cs',(w.setCells b o vs).heap[b]? = some (.cells cs' e fr)∧cs'.size=cs.size∧∀i,cs'[i]? = if o≤i∧i<o+vs.length∧i<cs.size then vs[i-o]? else cs[i]?
 | [],o,w,cs,h=>⟨cs,h,rfl,fun i=>by rw[if_neg (by simp only[List.length_nil];omega)]⟩
 | v::r,o,w,cs,h=>by
   have h1:(w.setCell ⟨b,o,none⟩ v).heap[b]? = some (.cells (cs.setIfInBounds o v) e fr):=by
    simp[World.setCell,Array.getElem?_modify,h]
   obtain⟨cs',g1,g2,g3⟩:=yf b e fr r (o+1) _ _ h1
   refine⟨cs',by rw[World.setCells];exact g1,by rw[g2];simp,fun i=>?_⟩
   rw[g3,Array.getElem?_setIfInBounds]
   simp only[Array.size_setIfInBounds,List.length_cons]
   by_cases hio:i=o
   ·subst hio
    rw[if_neg (by omega),if_pos rfl]
    by_cases hs:i<cs.size
    ·rw[if_pos hs,if_pos (by omega),Nat.sub_self];rfl
    ·rw[if_neg hs,if_neg (by omega),Array.getElem?_eq_none (by omega)]
   ·rw[if_neg (show ¬o=i by omega)]
    by_cases hc:o+1≤i∧i<o+1+r.length∧i<cs.size
    ·rw[if_pos hc,if_pos (by omega),show i-o=(i-(o+1))+1 by omega,List.getElem?_cons_succ]
    ·rw[if_neg hc,if_neg (by omega)]
section
variable(tb:Tab)(W0:World)
structure Stp(T:Nat→Prop)(w:World)(T':Nat→Prop)(w':World)(base:Nat)(pu:Bool)(ex:Option Nat):Prop where
 wt:WT tb W0 T' w'
 ext:Ext T w T' w'
 new:∀b,T' b→T b∨w.heap.size≤b
 size:w.heap.size≤w'.heap.size
 os:w'.os=w.os
 tape:w'.tape=w.tape
 output:w'.output=w.output
 keep:∀b,b<w.heap.size→¬T b→ex≠some b→w'.heap[b]? = w.heap[b]?
 pure:∀b,b<base→(pu=true∨¬T b)→w'.heap[b]? = w.heap[b]?
end
inductive Ef where
 | no
 | box (t:TypeId) (cs:List SV)
 | put (n off:Nat) (vs:List SV)
structure Res where
 out:Out
 ef:Ef
 pu:Bool
section
variable{P:Program}{cx:Cx}{W0:World}{S:St}{base:Nat}{ρ:Val}{T T':Nat→Prop}{w w':World}{a:Act}{Ω:Val→Prop}
theorem Stp.refl{tb:Tab}(h:WT tb W0 T w)(base:Nat)(pu:Bool):Stp tb W0 T w T w base pu none:=
 ⟨h,Ext.refl T w,fun _ h=>.inl h,Nat.le_refl _,rfl,rfl,rfl,fun _ _ _ _=>rfl,fun _ _ _=>rfl⟩
def EfOk(ef:Ef)(base:Nat)(ρ:Val)(T:Nat→Prop)(w:World)(T':Nat→Prop)(w':World)(v:Value)(ex:Option Nat):Prop:=match ef with
 | .no=>ex=none
 | .box t cs=>ex=none∧∃g,v=.pointer (some ⟨g,0,none⟩)∧¬T' g∧base≤g∧w.heap.size≤g∧w'.heap[g]? = some (.cells (dens ρ cs).toArray t (0,0))
 | .put n off vs=>∃g cs cs' t,ex=some g∧ρ n=.pointer (some ⟨g,0,none⟩)∧w.heap[g]? = some (.cells cs t (0,0))∧w'.heap[g]? = some (.cells cs' t (0,0))∧cs'.size=cs.size∧off+vs.length≤cs.size ∧
    ∀i,cs'[i]? = if off≤i∧i<off+vs.length then(dens ρ vs)[i-off]? else cs[i]?
def StepR(P:Program)(cx:Cx)(W0:World)(S:St)(base:Nat)(Ω:Val→Prop)(T:Nat→Prop)(w:World)(a:Act)(o:Oper)(r:Res):Prop:=
 Reg4.StepOk P (fun v w'=>∃T' ex,Stp cx.tb W0 T w T' w' base r.pu ex∧∀ρ,Ω ρ→Blk ρ S.nv r.out.tys.length (flatV v)→NewOk cx.tb W0 S r.out base ρ T' w' v∧EfOk r.ef base ρ T w T' w' v ex) ((execOp a.eval o).run P w)
theorem Pure.step{o:Oper}{out:Out}(h:Pure P cx W0 S base Ω T w a o out)(H:Hyp cx W0 S base Ω T w a):StepR P cx W0 S base Ω T w a o ⟨out,.no,true⟩:=by
 obtain⟨v,h1,h2⟩:=h
 obtain⟨ρ0,h0⟩:=H.ex
 unfold StepR
 rw[h1]
 exact⟨T,none,Stp.refl (H.sat ρ0 h0).wt base true,fun ρ hρ _=>⟨h2 ρ hρ,rfl⟩⟩
theorem run_w{s:Sem Value}{r:Value}(h:s.run P w=.ok r w'):(do pure (.value (←s)):Sem Next).run P w=.ok (.value r) w':=by
 rw[Sem.run_bind,h];rfl
theorem alloc_heap(w:World)(o:Obj)(k:Nat)(h:k≠w.heap.size):(w.alloc o).heap[k]? = w.heap[k]?:=by
 show(w.heap.push o)[k]? = _
 rw[Array.getElem?_push,if_neg h]
theorem stp_box{tb:Tab}(h:WT tb W0 T w)(hb:base≤w.heap.size)(cs:Array Value)(t:TypeId):Stp tb W0 T w T (w.alloc (.cells cs t)) base true none:=by
 have hk:∀b,b<w.heap.size→(w.alloc (.cells cs t)).heap[b]? = w.heap[b]?:=fun b hb=>alloc_heap w _ b (by omega)
 obtain⟨h1,h2⟩:=h.frame (w':=w.alloc (.cells cs t)) (by simp) (fun b hb=>hk b (Nat.lt_of_lt_of_le hb h.size)) (fun b hb=>hk b (h.lt hb)) (fun b es c hb=>by rw[hk b (by rcases Nat.lt_or_ge b w.heap.size with h1|h1;exact h1;rw[Array.getElem?_eq_none h1] at hb;cases hb)];exact hb)
 exact⟨h1,h2,fun _ h=>.inl h,by simp,rfl,rfl,rfl,fun b hb _ _=>hk b hb,fun b hb' _=>hk b (by omega)⟩
theorem ef_box{tb:Tab}(h:WT tb W0 T w)(hb:base≤w.heap.size){cs:Array Value}{t:TypeId}{l:List SV}(hc:cs=(dens ρ l).toArray) :
  EfOk (.box t l) base ρ T w T (w.alloc (.cells cs t)) (.pointer (some ⟨w.heap.size,0,none⟩)) none:=
 ⟨rfl,w.heap.size,rfl,fun hT=>absurd (h.lt hT) (Nat.lt_irrefl _),hb,Nat.le_refl _,by rw[hc];exact heap_alloc_new w _⟩
def boxCells(S:St):XV→Option (List SV)
 | .v (.one s)=>if svOne S s then some [s] else none
 | .v (.agg l)=>some l
 | _=>none
theorem boxCells_ok{x:XV}{l:List SV}(h:boxCells S x=some l)(hs:SatW cx.tb W0 S base ρ T w):(x.den ρ).cells=(dens ρ l).toArray:=by
 unfold boxCells at h
 split at h
 ·rename_i s
  split at h
  ·rename_i ho
   cases h
   have:=uk hs ho
   show(s.den ρ).cells=#[s.den ρ]
   generalize s.den ρ=v at *
   cases v<;>first|rfl|cases this
  ·cases h
 ·cases h;rfl
 ·cases h
def boxA(S:St)(t:TypeId)(l:List SV):Res:=⟨mk1 S .any [],.box t l,true⟩
theorem boxA_ok{o:Oper}{t:TypeId}{x:Operand}{xv:XV}{l:List SV}(ho:o.op=.box t x)(hx:S.op x=some xv)(hl:boxCells S xv=some l)(H:Hyp cx W0 S base Ω T w a):StepR P cx W0 S base Ω T w a o (boxA S t l):=by
 obtain⟨ρ0,h0⟩:=H.ex
 have hw:=(H.sat ρ0 h0).wt
 have hb:=(H.sat ρ0 h0).bs
 have hrun:(execOp a.eval o).run P w=.ok (.value (.pointer (some ⟨w.heap.size,0,none⟩))) (w.alloc (.cells (a.eval x).cells t)):=by
  simp only[execOp,ho]
  exact run_w rfl
 unfold StepR
 rw[hrun]
 refine⟨T,none,stp_box hw hb _ t,fun ρ hρ _=>⟨zq (v:=.pointer _) rfl (by simp),?_⟩⟩
 refine ef_box hw hb ?_
 rw[jh (H.env ρ hρ) hx]
 exact boxCells_ok hl (H.sat ρ hρ)
theorem allocA_ok(hcx:CxOk P cx){o:Oper}{t:TypeId}{d:TD}(ho:o.op=.alloc t)(hd:tdOf cx t=some d)(H:Hyp cx W0 S base Ω T w a):StepR P cx W0 S base Ω T w a o (boxA S t (d.zero.map .con)):=by
 obtain⟨ρ0,h0⟩:=H.ex
 have hw:=(H.sat ρ0 h0).wt
 have hb:=(H.sat ρ0 h0).bs
 obtain⟨i,hi1,hi2,hi3,z,hz1,hz2⟩:=yl (hcx t d hd)
 have hrun:(execOp a.eval o).run P w=.ok (.value (.pointer (some ⟨w.heap.size,0,none⟩))) (w.alloc (.cells z.cells t)):=by
  simp only[execOp,ho]
  refine run_w ?_
  simp[Instr.alloc,zeroValue,typeInfo,hi1,hz1,Sem.run_bind,newVar,newRow]
 unfold StepR
 rw[hrun]
 refine⟨T,none,stp_box hw hb _ t,fun ρ hρ _=>⟨zq (v:=.pointer _) rfl (by simp),?_⟩⟩
 refine ef_box hw hb ?_
 apply Array.toList_inj.1
 rw[hz2]
 show d.zero=dens ρ _
 unfold dens
 rw[List.map_map];exact(List.map_id _).symm
theorem store_run{t:TypeId}{d:TD}(htd:TdOk P t d){b off:Nat}{v:Value}{vs:List Value}(hv:v.cells.toList=vs)(hl:vs.length=d.size){cs:Array Value}{e:TypeId}{fr:Nat×Nat}(hc:w.heap[b]? = some (.cells cs e fr))(hf:Fz cs fr)(hle:off+vs.length≤cs.size)
  (h1:∀v∈vs,v.oneCell'=true):(Instr.storeAt t (.pointer (some ⟨b,off,none⟩)) v).run P w=.ok () (w.setCells b off vs):=by
 have hst:=run_storeCells_cells (P:=P) b off vs 0 w (fun j hj=>by
  rw[cell_of_row w b _ cs e fr hc,Array.getElem?_eq_getElem (by omega)];rfl) (fun j hj=>by
  simp only[World.frozen?,hc]
  rcases hf with rfl|hf
  ·simp
  ·have:¬fr.1≤off+j:=by omega
   simp[this]) h1
 rw[Nat.add_zero] at hst
 have hsz:v.cells.size=d.size:=by rw[←Array.length_toList,hv,hl]
 simp[Instr.storeAt,Instr.sureAddr,storeVar,Sem.run_bind,zo htd w,hsz,hv,hst]
def stCells(S:St):XV→Option (List SV)
 | .v (.one s)=>if svOne S s then some [s] else none
 | .v (.agg l)=>if l.all (svOne S) then some l else none
 | _=>none
theorem stCells_ok{x:XV}{l:List SV}(h:stCells S x=some l)(hs:SatW cx.tb W0 S base ρ T w):(x.den ρ).cells.toList=dens ρ l∧∀v∈dens ρ l,v.oneCell'=true:=by
 unfold stCells at h
 split at h
 ·rename_i s
  split at h
  ·rename_i ho
   cases h
   have:=uk hs ho
   refine⟨?_,by simpa[dens] using this⟩
   show(s.den ρ).cells.toList=[s.den ρ]
   generalize s.den ρ=v at *
   cases v<;>first|rfl|cases this
  ·cases h
 ·rename_i l'
  split at h
  ·rename_i ho
   cases h
   refine⟨rfl,fun v hv=>?_⟩
   simp only[dens,List.mem_map] at hv
   obtain⟨s,hs1,rfl⟩:=hv
   exact uk hs (List.all_eq_true.1 ho s hs1)
  ·cases h
 ·cases h
def storeA(cx:Cx)(S:St)(t:TypeId)(x:SV)(y:XV):Option Res:=match S.ptr x,tdOf cx t,stCells S y with
 | some (n,off),some d,some l=>if l.length=d.size∧0<d.size then match boxOf S n with
   | some b=>if off+l.length≤b.cs.length then some ⟨mk0 (.v (.one (.con undef))),.put n off l,true⟩ else none
   | none=>match look S.ty n with
     | some (.pt m u)=>match ctsOf cx.tb u off d.size with
       | some cts=>if decide (1≤m) && (l.zip cts).all (fun p=>S.has cx.tb p.1 p.2) && cts.all (fun ct=>!ct.frozen) then some ⟨mk0 (.v (.one (.con undef))),.no,decide (2≤m)⟩ else none
       | none=>none
     | _=>none
   else none
 | _,_,_=>none
theorem storeA_ok(hcx:CxOk P cx){o:Oper}{t:TypeId}{x y:Operand}{s:SV}{xv:XV}{r:Res}(ho:o.op=.store t x y)(hx:S.one x=some s)(hy:S.op y=some xv)(h:storeA cx S t s xv=some r)(H:Hyp cx W0 S base Ω T w a):StepR P cx W0 S base Ω T w a o r:=by
 obtain⟨ρ0,h0⟩:=H.ex
 have hs0:=H.sat ρ0 h0
 unfold storeA at h
 split at h
 ·rename_i n off d l hp hd hl
  split at h
  ·rename_i hlen0
   obtain⟨hlen,hpos⟩:=hlen0
   have htd:=hcx t d hd
   have e1:=vg hs0 hp
   rw[←qi (H.env ρ0 h0) hx] at e1
   obtain⟨hc1,hc2⟩:=stCells_ok hl hs0
   rw[←jh (H.env ρ0 h0) hy] at hc1
   have hdl:∀ρ,(dens ρ l).length=l.length:=fun ρ=>by simp[dens]
   have hsame:∀ρ,Ω ρ→dens ρ l=dens ρ0 l:=fun ρ hρ=>by
    have:=(stCells_ok hl (H.sat ρ hρ)).1
    rw[←jh (H.env ρ hρ) hy,hc1] at this
    exact this.symm
   have hrun:∀{b o':Nat} {cs:Array Value} {e:TypeId} {fr:Nat×Nat},a.eval x=.pointer (some ⟨b,o',none⟩)→w.heap[b]? = some (.cells cs e fr)→Fz cs fr→o'+l.length≤cs.size →
    (execOp a.eval o).run P w=.ok .skip (w.setCells b o' (dens ρ0 l)):=by
    intro b o' cs e fr hax hc hf hle
    simp only[execOp,ho]
    rw[Sem.run_bind,hax,store_run htd hc1 (by rw[hdl];exact hlen) hc hf (by rw[hdl];exact hle) hc2]
    rfl
   split at h
   ·rename_i b hb
    split at h
    ·rename_i hle
     cases h
     obtain⟨hbm,rfl⟩:=boxOf_ok hb
     obtain⟨g,cs,a1,a2,a3,a4,a5,a6⟩:=hs0.bx b hbm
     have hax:a.eval x=.pointer (some ⟨g,off,none⟩):=by rw[e1,a1];simp[addrOf]
     unfold StepR
     rw[hrun hax a4 (.inl rfl) (by omega)]
     obtain⟨cs',b1,b2,b3⟩:=yf g b.t (0,0) (dens ρ0 l) off w cs a4
     obtain⟨r1,r2,r3,r4⟩:=yj g (dens ρ0 l) off w
     have hother:=fun k (hk:k≠g)=>heap_setCells_other g (dens ρ0 l) off w k hk
     obtain⟨f1,f2⟩:=hs0.wt.frame (w':=w.setCells g off (dens ρ0 l)) (by rw[r1];exact Nat.le_refl _) (fun k hk=>hother k (by have:=hs0.lo;omega)) (fun k hk=>hother k (fun e=>a2 (e ▸ hk))) (fun k es c hk=>by rw[hother k (fun e=>by rw[e,a4] at hk;cases hk)];exact hk)
     refine⟨T,some g,⟨f1,f2,fun _ h=>.inl h,by rw[r1];exact Nat.le_refl _,r2,r3,r4,fun k hk _ hne=>hother k (fun e=>hne (by rw[e])),fun k hk _=>hother k (by omega)⟩,fun ρ hρ _=>⟨mk0_ok rfl,?_⟩⟩
     obtain⟨g',cs2,c1,c2,c3,c4,c5,c6⟩:=(H.sat ρ hρ).bx b hbm
     have e2:=vg (H.sat ρ hρ) hp
     rw[←qi (H.env ρ hρ) hx,hax,c1] at e2
     simp only[addrOf,Value.pointer.injEq,Option.some.injEq,Addr.mk.injEq] at e2
     obtain⟨rfl,-⟩:=e2
     refine⟨g,cs,cs',b.t,rfl,c1,a4,b1,b2,by omega,fun i=>?_⟩
     rw[b3 i,hsame ρ hρ,hdl]
     by_cases hi:off≤i∧i<off+l.length
     ·rw[if_pos ⟨hi.1,hi.2,by omega⟩,if_pos hi]
     ·rw[if_neg (fun h=>hi ⟨h.1,h.2.1⟩),if_neg hi]
    ·cases h
   ·split at h
    ·rename_i m u hq
     split at h
     ·rename_i cts hcts
      split at h
      ·rename_i hc
       cases h
       simp only[Bool.and_eq_true,decide_eq_true_eq] at hc
       obtain⟨⟨hm,hall⟩,hfrz⟩:=hc
       obtain⟨hclen,hlow,hget⟩:=ctsOf_ok hcts
       have hcv:=hs0.ty n _ (zg hq)
       obtain⟨b,o',hb,hk⟩:=hcv
       rcases hk with⟨hk,-⟩|⟨hT,hown,te,⟨cs,fr,hrow,hsz⟩,hcts2⟩
       ·omega
       ·have hax:a.eval x=.pointer (some ⟨b,o'+off,none⟩):=by rw[e1,hb];rfl
        obtain⟨cs1,e,fr1,lt,q1,q2,q3,q4,q5⟩:=hs0.wt.typed b hT
        rw[hrow] at q1
        injection q1 with q1;injection q1 with q1 q6 q7
        subst q1;subst q6;subst q7
        have hle:off+l.length≤cx.tb.sz u:=by
         obtain⟨ct,-,h2⟩:=hget (l.length-1) (by omega)
         have:=tab_len h2
         omega
        unfold StepR
        rw[hrun hax hrow q2 (by omega)]
        obtain⟨cs',b1,b2,b3⟩:=yf b te fr (dens ρ0 l) (o'+off) w cs hrow
        obtain⟨r1,r2,r3,r4⟩:=yj b (dens ρ0 l) (o'+off) w
        have hother:=fun k (hk:k≠b)=>heap_setCells_other b (dens ρ0 l) (o'+off) w k hk
        have hne:fzE te=false:=by
         obtain⟨ct,g1,g2⟩:=hget 0 (by omega)
         have g3:=hcts2 _ ct g2
         unfold Tab.ctAt at g3
         rw[q3] at g3
         simp only[Option.bind_some] at g3
         have h5:=List.all_eq_true.1 hfrz ct (List.mem_of_getElem? g1)
         exact hcx.no q3 g3 (by cases ct<;>first|rfl|simp[CT.frozen] at h5)
        obtain⟨f1,f2⟩:=hs0.wt.write (w':=w.setCells b (o'+off) (dens ρ0 l)) hne hT hrow q3 b2 b1 (by rcases q2 with h|h;exact .inl h;exact .inr (by omega)) hother r1 (fun i v hv=>by
         rw[b3 i,hdl] at hv
         split at hv
         ·rename_i hi
          obtain⟨hi1,hi2,hi3⟩:=hi
          have hj:i-(o'+off)<l.length:=by omega
          obtain⟨ct,g1,g2⟩:=hget (i-(o'+off)) (by omega)
          have g3:=hcts2 _ ct g2
          unfold Tab.ctAt at g3
          rw[q3] at g3
          simp only[Option.bind_some] at g3
          rw[show o'+(off+(i-(o'+off)))=i by omega] at g3
          refine .inr ⟨ct,g3,?_⟩
          simp only[dens,List.getElem?_map,List.getElem?_eq_getElem hj,Option.map_some,Option.some.injEq] at hv
          subst hv
          have hz:=List.all_eq_true.1 hall (l[i-(o'+off)],ct) (by
           refine List.mem_iff_getElem?.2 ⟨i-(o'+off),?_⟩
           rw[List.getElem?_zip_eq_some]
           exact⟨List.getElem?_eq_getElem hj,g1⟩)
          exact(uo hs0 hz).mono (Ext.refl T w) (Nat.zero_le _)
         ·exact .inl hv) (.inr (fun i v hv=>by
         rw[b3 i,hdl] at hv
         split at hv
         ·rename_i hi
          obtain⟨hi1,hi2,hi3⟩:=hi
          obtain⟨ct,g1,g2⟩:=hget (i-(o'+off)) (by omega)
          have g3:=hcts2 _ ct g2
          unfold Tab.ctAt at g3
          rw[q3] at g3
          simp only[Option.bind_some] at g3
          rw[show o'+(off+(i-(o'+off)))=i by omega] at g3
          exact .inr ⟨ct,g3,by simpa using List.all_eq_true.1 hfrz ct (List.mem_of_getElem? g1)⟩
         ·exact .inl hv))
        refine⟨T,none,⟨f1,f2,fun _ h=>.inl h,by rw[r1];exact Nat.le_refl _,r2,r3,r4,fun k hk hkT _=>hother k (fun e=>hkT (e ▸ hT)),fun k hk hpu=>hother k (fun e=>?_)⟩,fun ρ hρ _=>⟨mk0_ok rfl,rfl⟩⟩
        subst e
        rcases hpu with hpu|hpu
        ·have:=hown (of_decide_eq_true hpu);omega
        ·exact hpu hT
      ·cases h
     ·cases h
    ·cases h
  ·cases h
 ·cases h
end
end Sy
end Go.Proofs.YtmadfhgiaonnlaaGreatDoor
