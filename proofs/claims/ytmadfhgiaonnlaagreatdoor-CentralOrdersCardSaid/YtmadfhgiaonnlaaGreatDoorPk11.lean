import Derived.Laws.BytesArg
import Derived.MapKept
import Derived.Test.YtmadfhgiaonnlaaGreatDoorPk10
set_option linter.unusedVariables false
set_option linter.unusedSimpArgs false
namespace Go.Proofs.YtmadfhgiaonnlaaGreatDoor
namespace Sy
open Go.RowKit
def s2bA(cx:Cx)(S:St)(src dst:TypeId)(x:SV):Option Res:=match kd cx src,kd cx dst,S.len x with
 | .str,.sl e,some ls=>match kd cx e,cx.tb.flat e with
   | .int .u8,some [.int .u8 0 255]=>if S.str x && S.ent ((Lin.k maxLen).sub ls) then some ⟨mk1 S (.sl 2 e maxLen) [(Lin.at S.nv).sub ls,ls.sub (Lin.at S.nv)],.no,true⟩ else none
   | _,_=>none
 | _,_,_=>none
def b2sA(cx:Cx)(S:St)(src dst:TypeId)(x:SV):Option Res:=match kd cx src,kd cx dst,S.slTy x,S.len x with
 | .sl e,.str,some (_,e',lb),some ls=>match kd cx e,cx.tb.flat e with
   | .int .u8,some [.int .u8 0 255]=>if e'=e then some ⟨mk1 S (.str lb) [(Lin.at S.nv).sub ls,ls.sub (Lin.at S.nv)],.no,true⟩ else none
   | _,_=>none
 | _,_,_,_=>none
section
variable{P:Program}{cx:Cx}{W0:World}{S:St}{base:Nat}{ρ:Val}{T T':Nat→Prop}{w w':World}{a:Act}{Ω:Val→Prop}
theorem stp_newf{cs:Array Value}{e:TypeId}{l:List CT}{fr:Nat×Nat}(h:WT cx.tb W0 T w)(hb:base≤w.heap.size)(hz:Fz cs fr)(hf:cx.tb.flat e=some l)(hl:0<l.length)
  (hni:noIdx l=true) (ht:∀i v,cs[i]? = some v→∃ct,l[i%l.length]? = some ct∧CV cx.tb W0 T w 0 ct v):Stp cx.tb W0 T w (add T w.heap.size) (w.drew.alloc (.cells cs e fr)) base true none:=by
 have hk:∀b,b<w.heap.size→(w.drew.alloc (.cells cs e fr)).heap[b]? = w.heap[b]?:=fun b hb=>alloc_heap w.drew _ b (by show b≠w.heap.size;omega)
 obtain⟨g1,g2⟩:=h.frame (w':=w.drew.alloc (.cells cs e fr)) (by show w.heap.size≤(w.heap.push _).size;simp) (fun b hb=>hk b (Nat.lt_of_lt_of_le hb h.size)) (fun b hb=>hk b (h.lt hb)) (fun b es c hb=>by rw[hk b (by rcases Nat.lt_or_ge b w.heap.size with h1|h1;exact h1;rw[Array.getElem?_eq_none h1] at hb;cases hb)];exact hb)
 have hnew:(w.drew.alloc (.cells cs e fr)).heap[w.heap.size]? = some (.cells cs e fr):=heap_alloc_new w.drew _
 obtain⟨h2,h3⟩:=g1.join (g:=w.heap.size) h.size hnew hz hf hl (fun i v hv=>by
  obtain⟨ct,q1,q2⟩:=ht i v hv
  exact⟨ct,q1,q2.mono g2 (Nat.le_refl _)⟩) (ix_no hni _)
 refine⟨h2,g2.trans h3,fun b hb=>?_,by show w.heap.size≤(w.heap.push _).size;simp,rfl,rfl,rfl,fun b hb _ _=>hk b hb,fun b hb' _=>hk b (by omega)⟩
 rcases hb with hb|rfl
 ·exact .inl hb
 ·exact .inr (Nat.le_refl _)
theorem s2bA_ok(hcx:CxOk P cx){o:Oper}{src dst:TypeId}{x:Operand}{s:SV}{r:Res}(ho:o.op=.convert src dst x)(hx:S.one x=some s)(h:s2bA cx S src dst s=some r)(H:Hyp cx W0 S base Ω T w a):StepR P cx W0 S base Ω T w a o r:=by
 obtain⟨ρ0,h0⟩:=H.ex
 have hs0:=H.sat ρ0 h0
 unfold s2bA at h
 split at h
 ·rename_i e ls hk1 hk2 hls
  split at h
  ·rename_i hk3 hf
   split at h
   ·rename_i hc
    cases h
    simp only[Bool.and_eq_true] at hc
    obtain⟨hstr,hent⟩:=hc
    obtain⟨b,hb⟩:=str_den hs0 hstr
    have ex:=(qi (H.env ρ0 h0) hx).trans hb
    obtain⟨u1,p1,p2⟩:=qo hcx hk1 (by simp)
    have:u1=.string:=by cases u1<;>simp_all [KD.of]
    subst this
    obtain⟨u2,p3,p4⟩:=qo hcx hk2 (by simp)
    obtain⟨e'',rfl⟩:∃e'',u2=.slice e'':=by cases u2<;>simp_all [KD.of]
    simp only[KD.of,KD.sl.injEq] at p4
    subst p4
    obtain⟨u3,p5,p6⟩:=qo hcx hk3 (by simp)
    have:u3=.int .u8:=by cases u3<;>simp_all [KD.of]
    subst this
    have hlen:∀ρ,Ω ρ→ls.eval ρ=b.size:=fun ρ hρ=>by
     have e1:s.den ρ=.string b:=by rw[←qi (H.env ρ hρ) hx,ex]
     exact len_str (H.sat ρ hρ) e1 hls
    have q:=hs0.ent hent
    rw[Lin.qc,Lin.zh,hlen ρ0 h0] at q
    have hml:maxLen=9223372036854775807:=by decide
    have hcap:=grownCap_ge w b.size 0 e''
    have hcap2:grownCap w b.size 0 e''≤maxLen:=grownCap_le_maxLen w _ _ _ (by omega)
    have hsz:(bytesRow b (grownCap w b.size 0 e'')).size=grownCap w b.size 0 e'':=by
     simp only[bytesRow,Array.size_append,Array.size_map,Array.size_replicate]
     have:b.data.size=b.size:=rfl
     omega
    have hty:∀i v,(bytesRow b (grownCap w b.size 0 e''))[i]? = some v→∃ct,([.int .u8 0 255]:List CT)[i%([.int .u8 0 255]:List CT).length]? = some ct∧CV cx.tb W0 T w 0 ct v:=by
     intro i v hv
     refine⟨.int .u8 0 255,by simp[Nat.mod_one],?_⟩
     unfold bytesRow at hv
     rw[Array.getElem?_append] at hv
     split at hv
     ·rw[Array.getElem?_map] at hv
      cases hq:b.data[i]? with
      | none=>rw[hq] at hv;cases hv
      | some y=>
        rw[hq] at hv
        cases hv
        exact⟨_,rfl,by omega,by have:=y.toNat_lt;omega⟩
     ·rw[Array.getElem?_replicate] at hv
      split at hv
      ·cases hv;exact⟨0,rfl,by omega,by omega⟩
      ·cases hv
    have hst:=stp_newf (cx:=cx) (base:=base) (w:=w) (fr:=((bytesRow b (grownCap w b.size 0 e'')).size,(bytesRow b (grownCap w b.size 0 e'')).size+1)) hs0.wt hs0.bs (.inr (Nat.le_refl _)) hf (by simp) rfl hty
    have hrun:(execOp a.eval o).run P w=.ok (.value (.slice (some ⟨w.heap.size,0,none⟩) b.size (grownCap w b.size 0 e'')))
     (w.drew.alloc (.cells (bytesRow b (grownCap w b.size 0 e'')) e'' ((bytesRow b (grownCap w b.size 0 e'')).size,(bytesRow b (grownCap w b.size 0 e'')).size+1))):=by
     simp only[execOp,ho,ex]
     exact run_w (run_bytes_of_string w src dst e'' b p1 p3 p5)
    unfold StepR
    rw[hrun]
    have hsz1:cx.tb.sz e''=1:=by simp[Tab.sz,hf]
    refine⟨add T w.heap.size,none,hst,fun ρ hρ _=>⟨zq (.inr (.inr ⟨w.heap.size,0,b.size,_,rfl,hcap,by omega,hcap2,.inr rfl,fun _=>hs0.bs,by omega,Nat.zero_mod _,_,_,heap_alloc_new w.drew _,by rw[hsz1,hsz];omega⟩)) ?_,rfl⟩⟩
    intro hv g hg
    simp only[List.mem_cons,List.not_mem_nil,or_false] at hg
    rcases hg with rfl|rfl<;>rw[Lin.qc,Lin.qg,hv,hlen ρ hρ]<;>simp only[meas]<;>omega
   ·cases h
  ·cases h
 ·cases h
theorem b2sA_ok(hcx:CxOk P cx){o:Oper}{src dst:TypeId}{x:Operand}{s:SV}{r:Res}(ho:o.op=.convert src dst x)(hx:S.one x=some s)(h:b2sA cx S src dst s=some r)(H:Hyp cx W0 S base Ω T w a):StepR P cx W0 S base Ω T w a o r:=by
 obtain⟨ρ0,h0⟩:=H.ex
 have hs0:=H.sat ρ0 h0
 unfold b2sA at h
 split at h
 ·rename_i e m e' lb ls hk1 hk2 hst hls
  split at h
  ·rename_i hk3 hf
   split at h
   ·rename_i hee
    subst hee
    cases h
    obtain⟨n,rfl,hcv,-⟩:=slTy_ok hs0 hst
    obtain⟨u1,p1,p2⟩:=qo hcx hk1 (by simp)
    obtain⟨e'',rfl⟩:∃e'',u1=.slice e'':=by cases u1<;>simp_all [KD.of]
    simp only[KD.of,KD.sl.injEq] at p2
    subst p2
    obtain⟨u2,p3,p4⟩:=qo hcx hk2 (by simp)
    have:u2=.string:=by cases u2<;>simp_all [KD.of]
    subst this
    obtain⟨u3,p5,p6⟩:=qo hcx hk3 (by simp)
    have:u3=.int .u8:=by cases u3<;>simp_all [KD.of]
    subst this
    obtain⟨A,k,c,v1,v2,v3,v4,v5⟩:=hcv.slc
    have ex:a.eval x=.slice A k c:=(qi (H.env ρ0 h0) hx).trans v1
    have hlen:∀ρ,Ω ρ→ls.eval ρ=k:=fun ρ hρ=>jo (H.sat ρ hρ) (by rw[←qi (H.env ρ hρ) hx,ex]) hls
    have hklb:k≤lb:=by
     rw[v1] at hcv
     have:=hcv.rng (lo:=0) (hi:=lb) rfl
     simp only[meas] at this
     omega
    have hres:∃y:ByteArray,y.size=k∧(convert src dst (.slice A k c)).run P w=.ok (.string y) w:=by
     cases A with
     | none=>
       obtain⟨rfl,rfl⟩:=v4 rfl
       exact⟨ByteArray.empty,rfl,run_convert_bytes_nil w src e'' p1 p5 0 0 dst p3⟩
     | some ad=>
       by_cases hc0:c=0
       ·have hk0:k=0:=by omega
        subst hk0
        subst hc0
        refine⟨ByteArray.empty,rfl,?_⟩
        rw[run_convert_bytes_string w src dst e'' _ 0 0 p1 p5 p3,run_bytesToString w ad 0 0 [] (by simpa using run_loadCells_list (P:=P) w ad [] (fun j v h=>by simp at h))]
        rfl
       obtain⟨b,off,sp⟩:=ad
       have hsp:=v5 _ rfl hc0
       simp only at hsp
       subst hsp
       rw[v1] at hcv
       obtain⟨news,n1,n2⟩:=CV.rows hs0.wt hf (by simp) hcv
       have hint:∀j,j<k→∃z:Int,news[j]? = some (.int .u8 z):=fun j hj=>by
        have hjl:j<news.length:=by rw[n1];simpa using hj
        obtain⟨-,ct,q1,q2⟩:=n2 j news[j] (List.getElem?_eq_getElem hjl)
        simp only[List.length_singleton,Nat.mod_one,List.getElem?_cons_zero,Option.some.injEq] at q1
        subst q1
        obtain⟨z,hz,-⟩:=q2
        exact⟨z,by rw[List.getElem?_eq_getElem hjl,hz]⟩
       obtain⟨xs,hx1,hx2⟩:=list_of (Q:=fun j z=>news[j]? = some (.int .u8 z)) k hint
       refine⟨strOfNums xs,?_,run_convert_bytes_arg w src e'' p1 p5 b off k c xs hx1 (fun i hi=>?_) dst p3⟩
       ·simp[strOfNums,ByteArray.size,hx1]
       ·have hil:i<xs.length:=by omega
        have:=hx2 i xs[i] (List.getElem?_eq_getElem hil)
        rw[(n2 i _ this).1,List.getD_eq_getElem?_getD,List.getElem?_eq_getElem hil];rfl
    obtain⟨y,hy,hconv⟩:=hres
    have hrun:(execOp a.eval o).run P w=.ok (.value (.string y)) w:=by
     simp only[execOp,ho,ex]
     exact run_w hconv
    unfold StepR
    rw[hrun]
    refine⟨T,none,Stp.refl hs0.wt base true,fun ρ hρ _=>⟨zq ⟨y,rfl,by omega⟩ ?_,rfl⟩⟩
    intro hv g hg
    simp only[List.mem_cons,List.not_mem_nil,or_false] at hg
    rcases hg with rfl|rfl<;>rw[Lin.qc,Lin.qg,hv,hlen ρ hρ]<;>simp only[meas]<;>omega
   ·cases h
  ·cases h
 ·cases h
end
open Go.RowKit
def csTy(S:St):SV→Option (Nat×TypeId×Nat)
 | .var n=>match look S.ty n with
   | some (.cs q e lb)=>some (q,e,lb)
   | _=>none
 | _=>none
def appCsA(cx:Cx)(S:St)(t:TypeId)(s x:SV):Option Res:=match kd cx t,S.len x,csTy S x with
 | .sl e,some lx,some (q,e',lb)=>match tdOf cx e,cx.tb.flat e with
   | some d,some f=>if isNilS s && decide (e'=e) && fzE e && zeroOk d f && decide (lb≤LM∧d.bytes≤32768) then
      some ⟨mk1 S (.cs q e lb) [(Lin.at S.nv).sub lx,lx.sub (Lin.at S.nv)],.no,true⟩ else none
   | _,_=>none
 | _,_,_=>none
section
variable{P:Program}{cx:Cx}{W0:World}{S:St}{base:Nat}{ρ:Val}{T T':Nat→Prop}{w w':World}{a:Act}{Ω:Val→Prop}
theorem csTy_ok{s:SV}{q lb:Nat}{e:TypeId}(h:SatW cx.tb W0 S base ρ T w)(hs:csTy S s=some (q,e,lb)):∃n,s=.var n∧CV cx.tb W0 T w base (.cs q e lb) (ρ n):=by
 cases s with
 | var n=>
   simp only[csTy] at hs
   split at hs
   ·rename_i hq
    cases hs
    exact⟨n,rfl,h.ty n _ (zg hq)⟩
   ·cases hs
 | con v=>cases hs
 | lin k l=>cases hs
 | be b=>cases hs
 | ptr n o=>cases hs
theorem appCsA_ok(hcx:CxOk P cx){o:Oper}{t:TypeId}{s x:Operand}{ss sx:SV}{r:Res}(ho:o.op=.call { callee:=.builtin .append,args:=#[s,x],argTypes:=#[t,t] })(hs1:S.one s=some ss)(hx1:S.one x=some sx)(h:appCsA cx S t ss sx=some r)(H:Hyp cx W0 S base Ω T w a) :
  StepR P cx W0 S base Ω T w a o r:=by
 obtain⟨ρ0,h0⟩:=H.ex
 have hs0:=H.sat ρ0 h0
 unfold appCsA at h
 split at h
 ·rename_i e lx q e' lb hk hlx hcs
  split at h
  ·rename_i d f hd hf
   split at h
   ·rename_i hcc
    cases h
    simp only[Bool.and_eq_true,decide_eq_true_eq] at hcc
    obtain⟨⟨⟨⟨hnil,rfl⟩,hfz⟩,hz⟩,hlb,hby⟩:=hcc
    obtain⟨u',g1,g2⟩:=qo hcx hk (by simp)
    obtain⟨e'',rfl⟩:∃e'',u'=.slice e'':=by cases u'<;>simp_all [KD.of]
    simp only[KD.of,KD.sl.injEq] at g2
    subst g2
    obtain⟨i,hi1,hi2,hi3,z,hz1,hz2⟩:=yl (hcx _ d hd)
    obtain⟨z1,z2,z3,-⟩:=zeroOk_ok (cx:=cx) (W0:=W0) (T:=T) (w:=w) (base:=base) hz
    have ed:a.eval s=.slice none 0 0:=by rw[qi (H.env ρ0 h0) hs1,isNilS_ok hnil];rfl
    obtain⟨m,rfl,hcv⟩:=csTy_ok hs0 hcs
    have ex:a.eval x=ρ0 m:=qi (H.env ρ0 h0) hx1
    have hLM:(LM:Int)=4294967296:=by decide
    have hLM':LM=4294967296:=by decide
    have hml:maxLen=9223372036854775807:=by decide
    have hsz:i.size=f.length:=by rw[hi2,z2]
    have hszt:cx.tb.sz e''=f.length:=by simp[Tab.sz,hf]
    have hexec:∀{v:Value} {w1:World},(Builtin.append_ #[t,t] o.type #[.slice none 0 0,ρ0 m]).run P w=.ok v w1→(execOp a.eval o).run P w=.ok (.value v) w1:=by
     intro v w1 hr
     rw[←ed,←ex] at hr
     simp only[execOp,ho,resolve,invoke,builtin]
     simpa[Sem.run_bind] using run_w hr
    have hlen:∀ρ,Ω ρ→ρ m=ρ0 m:=fun ρ hρ=>by
     have:a.eval x=ρ m:=qi (H.env ρ hρ) hx1
     rw[←this,ex]
    have hfacts:∀(v:Value),meas v=meas (ρ0 m)→∀ρ,Ω ρ→ρ S.nv=v→∀g∈[(Lin.at S.nv).sub lx,lx.sub (Lin.at S.nv)],0≤g.eval ρ:=by
     intro v hv ρ hρ hρv g hg
     have e1:lx.eval ρ=meas (ρ0 m):=by
      have hA:∃A n c,(SV.var m).den ρ=.slice A n c:=by
       obtain⟨m',e1,h2⟩:=csTy_ok (H.sat ρ hρ) hcs
       cases e1
       rcases h2 with h2|⟨b,off,n,c,cs,fr,h2,-⟩
       ·exact⟨_,_,_,h2⟩
       ·exact⟨_,_,_,h2⟩
      obtain⟨A,n,c,hA⟩:=hA
      rw[jo (H.sat ρ hρ) hA hlx,←hlen ρ hρ]
      have:ρ m=.slice A n c:=hA
      rw[this];rfl
     simp only[List.mem_cons,List.not_mem_nil,or_false] at hg
     rcases hg with rfl|rfl<;>simp only[Lin.qc,Lin.qg,hρv,hv,e1]<;>omega
    rcases hcv with hn|⟨b,off,k,c',cs,fr,u1,u2,u3,u4,u5,u6,u7,u8,u9,u10,u11⟩
    ·unfold StepR
     rw[hn] at hexec hfacts
     rw[hexec (jr g1 hi1 rfl (run_firstCells_none w _ _ _ _))]
     exact⟨T,none,Stp.refl hs0.wt base _,fun ρ hρ _=>⟨zq (.inl rfl) (hfacts _ (by simp[meas]) ρ hρ),rfl⟩⟩
    ·rw[u1] at hexec hfacts
     rw[hszt] at u7 u10 u11
     have hkc:k*f.length≤c'*f.length:=Nat.mul_le_mul_right _ u2
     let news:=(cs.toList.drop off).take (k*f.length)
     have hnl:news.length=k*f.length:=by
      show((cs.toList.drop off).take (k*f.length)).length=_
      have hcl:cs.toList.length=cs.size:=Array.length_toList
      rw[List.length_take,List.length_drop,hcl]
      omega
     have hng:∀j v,news[j]? = some v→cs[off+j]? = some v:=fun j v hv=>by
      have hj:j<k*f.length:=by rw[←hnl];exact(List.getElem?_eq_some_iff.1 hv).1
      have hv':((cs.toList.drop off).take (k*f.length))[j]? = some v:=hv
      rw[List.getElem?_take,if_pos hj,List.getElem?_drop,Array.getElem?_toList] at hv'
      exact hv'
     have hcell:∀j v,news[j]? = some v→w.cell? ⟨b,off+j,none⟩=some v:=fun j v hv=>by rw[cell_of_row w b _ cs e'' fr u9];exact hng j v hv
     obtain⟨cs1,te,fr1,lt,t1,t2,t3,t4,t5⟩:=hs0.wt.typed b u5
     rw[u9] at t1
     injection t1 with t1;injection t1 with t1 t6 t7
     subst t1;subst t6;subst t7
     rw[hf] at t3
     cases t3
     by_cases hk0:k=0
     ·subst hk0
      have hnn:news=[]:=List.length_eq_zero_iff.1 (by rw[hnl,Nat.zero_mul])
      unfold StepR
      rw[hexec (jr g1 hi1 rfl (by
       have:=run_firstCells_some (P:=P) w i.size 0 ⟨b,off,none⟩ 0 c' [] (by simp) (fun j v h=>by simp at h)
       exact this))]
      exact⟨T,none,Stp.refl hs0.wt base _,fun ρ hρ _=>⟨zq (.inl rfl) (hfacts _ (by simp[meas]) ρ hρ),rfl⟩⟩
     ·have hkp:0<k:=by omega
      have hcapge:k≤grownCap w k 0 e'':=grownCap_ge w _ _ _
      have hcaple:grownCap w k 0 e''≤maxLen:=grownCap_le_maxLen w _ _ _ (by omega)
      have hbytes:k*i.bytes≤140737488355328:=by
       have h1:k*i.bytes≤4294967296*32768:=Nat.mul_le_mul (by omega) (by omega)
       omega
      have hrun:=run_append_nil (P:=P) w t o.type e'' i z g1 hi1 hz1 ⟨b,off,none⟩ k c' news (by rw[hnl,hsz]) (fun j v hv=>by rw[yw];exact hcell j v hv) hkp (by omega) (by omega)
      generalize hq:news.toArray++Builtin.zeroCells z.cells (grownCap w k 0 e''-k)=Q at hrun
      unfold StepR
      rw[hexec hrun]
      have hd1:=stp_drew (tb:=cx.tb) hs0.wt base
      have hzs:z.cells.size=f.length:=by rw[←Array.length_toList,hz2,z1]
      have hqty:∀j v,Q[j]? = some v→∃ct,f[j%f.length]? = some ct∧CV cx.tb W0 T w.drew 0 ct v:=by
       intro j v hv
       rw[←hq] at hv
       have hns:news.toArray.size=k*f.length:=by simpa using hnl
       by_cases h2:j<k*f.length
       ·rw[Array.getElem?_append_left (by omega)] at hv
        have hv':news[j]? = some v:=by simpa using hv
        obtain⟨ct,p1,p2⟩:=t5 (off+j) v (hng j v hv')
        refine⟨ct,?_,p2.mono hd1.ext (Nat.le_refl _)⟩
        rw[←p1];congr 1
        have hoff:off=off/f.length*f.length:=by
         have:=Nat.div_add_mod off f.length
         rw[u7,Nat.add_zero,Nat.mul_comm] at this
         exact this.symm
        rw[hoff,Nat.add_comm,Nat.add_mul_mod_self_right]
       ·rw[Array.getElem?_append_right (by omega),hns] at hv
        rw[zeroCells_eq] at hv
        obtain⟨ct,p1,p2⟩:=cyc_ok (cx:=cx) (W0:=W0) (T:=T) (w:=w) (base:=0) hz hz2 _ _ v hv
        refine⟨ct,?_,p2.mono hd1.ext (Nat.le_refl _)⟩
        rw[←p1];congr 1
        conv=>lhs;rw[show j=(j-k*f.length)+k*f.length by omega]
        rw[Nat.add_mul_mod_self_right]
      have hd2:=stp_new (base:=base) (w:=w.drew) hd1.wt hs0.bs hf z3 (zeroOk_no hz) hqty true
      have hqs:grownCap w k 0 e''*f.length≤Q.size:=by
       rw[←hq]
       simp only[Array.size_append,List.size_toArray,hnl,size_zeroCells,hzs]
       rw[←Nat.add_mul]
       exact Nat.mul_le_mul_right _ (by omega)
      have h:=hd1.trans hd2
      have hwd:w.drew.heap.size=w.heap.size:=rfl
      rw[hwd] at h
      refine⟨add T w.heap.size,none,⟨h.wt,h.ext,h.new,h.size,h.os,h.tape,h.output,h.keep,fun b hb _=>h.pure b hb (.inl rfl)⟩,fun ρ hρ _=>⟨zq ?_ (hfacts _ (by simp[meas]) ρ hρ),rfl⟩⟩
      refine .inr ⟨w.heap.size,0,k,grownCap w k 0 e'',Q,(0,0),rfl,hcapge,u3,hcaple,.inr rfl,u6,Nat.zero_mod _,hfz,heap_alloc_new w.drew _,by rw[hszt];omega,?_⟩
      rw[hszt,List.drop_zero]
      have:Q.toList.take (k*f.length)=news:=by
       rw[←hq]
       simp only[Array.toList_append]
       rw[List.take_append_of_le_length (by simp[hnl])]
       rw[List.take_of_length_le (by simp[hnl])]
      rw[this]
      exact u11
   ·cases h
  ·cases h
 ·cases h
end
open Go.RowKit
def copyA(cx:Cx)(S:St)(t:TypeId)(s x:SV):Option Res:=match kd cx t,S.len s,S.len x with
 | .sl e,some ls,some lx=>match tdOf cx e,cx.tb.flat e,dstOk cx S e s with
   | some d,some f,some m=>if !fzE e && f.all (fun ct=>!ct.frozen) && zeroOk d f && srcOk cx S e x then
      some ⟨mk1 S (full .i64) [Lin.at S.nv,ls.sub (Lin.at S.nv),lx.sub (Lin.at S.nv)],.no,decide (2≤m)⟩ else none
   | _,_,_=>none
 | _,_,_=>none
section
variable{P:Program}{cx:Cx}{W0:World}{S:St}{base:Nat}{ρ:Val}{T T':Nat→Prop}{w w':World}{a:Act}{Ω:Val→Prop}
theorem copy_some{t ty e:TypeId}{i:TypeInfo}(ht:P.underlying t=some (.slice e))(hi:P.info? e=some i){b off n c:Nat}{cs:Array Value}{te:TypeId}{fr:Nat×Nat}(hc:w.heap[b]? = some (.cells cs te fr))(hf:Fz cs fr)
  {x:Value} {k:Nat} {news:List Value} (hx:(Builtin.lenOf x).run P w=.ok k w) (hn:(Builtin.firstCells i.size (Nat.min k n) x).run P w=.ok news.toArray w) (h1:∀v∈news,v.oneCell'=true) (hfit:off+news.length≤cs.size) :
  (Builtin.copy_ #[t,t] ty #[.slice (some ⟨b,off,none⟩) n c,x]).run P w=.ok (goInt (Nat.min k n)) (w.setCells b off news):=by
 have hst:=run_storeCells_cells (P:=P) b off news 0 w (fun j hj=>by
  rw[cell_of_row w b _ cs te fr hc,Array.getElem?_eq_getElem (by omega)];rfl) (fun j hj=>by
  simp only[World.frozen?,hc]
  rcases hf with rfl|hf
  ·simp
  ·have:¬fr.1≤off+j:=by omega
   simp[this]) h1
 rw[Nat.add_zero] at hst
 simp only[Nat.min_def] at hn
 simp[Builtin.copy_,run_underlying ht,sizeOf,typeInfo,hi,hx,hn,hst,Nat.min_def]
theorem copy_none{t ty e:TypeId}{i:TypeInfo}(ht:P.underlying t=some (.slice e))(hi:P.info? e=some i){x:Value}{k:Nat}(hx:(Builtin.lenOf x).run P w=.ok k w)(hn:(Builtin.firstCells i.size 0 x).run P w=.ok #[] w) :
  (Builtin.copy_ #[t,t] ty #[.slice none 0 0,x]).run P w=.ok (goInt 0) w:=by
 simp[Builtin.copy_,run_underlying ht,sizeOf,typeInfo,hi,hx,hn]
theorem copyA_ok(hcx:CxOk P cx){o:Oper}{t:TypeId}{s x:Operand}{ss sx:SV}{r:Res}(ho:o.op=.call { callee:=.builtin .copy,args:=#[s,x],argTypes:=#[t,t] })(hs1:S.one s=some ss)(hx1:S.one x=some sx)(h:copyA cx S t ss sx=some r)(H:Hyp cx W0 S base Ω T w a) :
  StepR P cx W0 S base Ω T w a o r:=by
 obtain⟨ρ0,h0⟩:=H.ex
 have hs0:=H.sat ρ0 h0
 unfold copyA at h
 split at h
 ·rename_i e ls lx hk hls hlx
  split at h
  ·rename_i d f m hd hf hm
   split at h
   ·rename_i hcc
    cases h
    simp only[Bool.and_eq_true,Bool.not_eq_true'] at hcc
    obtain⟨⟨⟨hne,hnf⟩,hz⟩,hsrc⟩:=hcc
    obtain⟨u',g1,g2⟩:=qo hcx hk (by simp)
    obtain⟨e'',rfl⟩:∃e'',u'=.slice e'':=by cases u'<;>simp_all [KD.of]
    simp only[KD.of,KD.sl.injEq] at g2
    subst g2
    obtain⟨i,hi1,hi2,hi3,z,hz1,hz2⟩:=yl (hcx _ d hd)
    obtain⟨z1,z2,z3,-⟩:=zeroOk_ok (cx:=cx) (W0:=W0) (T:=T) (w:=w) (base:=base) hz
    obtain⟨lb1,hcx1⟩:=src_cv hs0 hsrc
    obtain⟨hm1,lb2,hcs1⟩:=dst_cv hs0 hm
    have ed:=qi (H.env ρ0 h0) hs1
    have ex:=qi (H.env ρ0 h0) hx1
    rw[←ed] at hcs1
    rw[←ex] at hcx1
    obtain⟨A,n,c,v1,v2,v3,v4,v5⟩:=hcs1.slc
    obtain⟨B,k,c',u1,u2,u3,u4,u5⟩:=hcx1.slc
    have hsz:i.size=f.length:=by rw[hi2,z2]
    rw[v1] at hcs1
    rw[u1] at hcx1
    have hml:maxLen=9223372036854775807:=by decide
    have hexec:∀{v:Value} {w1:World},(Builtin.copy_ #[t,t] o.type #[.slice A n c,.slice B k c']).run P w=.ok v w1→(execOp a.eval o).run P w=.ok (.value v) w1:=by
     intro v w1 hr
     rw[←v1,←u1] at hr
     simp only[execOp,ho,resolve,invoke,builtin]
     simpa[Sem.run_bind] using run_w hr
    have hfacts:∀j:Nat,j≤n→j≤k→∀ρ,Ω ρ→ρ S.nv=goInt j→∀g∈[Lin.at S.nv,ls.sub (Lin.at S.nv),lx.sub (Lin.at S.nv)],0≤g.eval ρ:=by
     intro j hj1 hj2 ρ hρ hρv g hg
     have e1:=jo (H.sat ρ hρ) (by rw[←qi (H.env ρ hρ) hs1,v1]) hls
     have e2:=jo (H.sat ρ hρ) (by rw[←qi (H.env ρ hρ) hx1,u1]) hlx
     have hmj:meas (goInt j)=(j:Int):=rfl
     simp only[List.mem_cons,List.not_mem_nil,or_false] at hg
     rcases hg with rfl|rfl|rfl<;>simp only[Lin.qc,Lin.qg,hρv,hmj,e1,e2]<;>omega
    have hint:∀j:Nat,j≤n→CV cx.tb W0 T w base (full .i64) (goInt j):=fun j hj=>⟨j,rfl,by show(-9223372036854775808:Int)≤j;omega,by show(j:Int)≤9223372036854775807;omega⟩
    cases A with
    | none=>
      obtain⟨rfl,rfl⟩:=v4 rfl
      have hfc:(Builtin.firstCells i.size 0 (.slice B k c')).run P w=.ok #[] w:=by
       cases B with
       | none=>obtain⟨rfl,rfl⟩:=u4 rfl;exact run_firstCells_none w _ _ _ _
       | some ad=>exact run_firstCells_some (P:=P) w i.size 0 ad k c' [] (by simp) (fun j v h=>by simp at h)
      unfold StepR
      rw[hexec (copy_none g1 hi1 rfl hfc)]
      exact⟨T,none,Stp.refl hs0.wt base _,fun ρ hρ _=>⟨zq (hint 0 (by omega)) (hfacts 0 (by omega) (by omega) ρ hρ),rfl⟩⟩
    | some ad=>
      obtain⟨b,off,sp⟩:=ad
      have hsp:sp=none:=by
       rcases hcs1 with hb|⟨hb,-⟩|⟨b',off',n',cc,b1,-⟩
       ·cases hb
       ·omega
       ·injection b1 with e1;injection e1 with e1;injection e1
      subst hsp
      rcases hcs1 with hb|⟨hb,-⟩|⟨b',off',n',cc,b1,b2,b3,b4,b5,b6,b7,b8,cs,fr,b9,b10⟩
      ·cases hb
      ·omega
      ·injection b1 with e1 e2 e3
       injection e1 with e1;injection e1 with e1 e4
       subst e1;subst e2;subst e3;subst e4
       obtain⟨cs1,te,fr1,lt,t1,t2,t3,t4,t5⟩:=hs0.wt.typed b b5
       rw[b9] at t1
       injection t1 with t1;injection t1 with t1 t6 t7
       subst t1;subst t6;subst t7
       rw[hf] at t3
       cases t3
       have hszt:cx.tb.sz e''=f.length:=by simp[Tab.sz,hf]
       rw[hszt] at b8 b10
       have hsrcc:∃news:List Value,news.length=Nat.min k n*f.length∧(∀j v,news[j]? = some v→∃ct,f[j%f.length]? = some ct∧CV cx.tb W0 T w 0 ct v)∧(Builtin.firstCells i.size (Nat.min k n) (.slice B k c')).run P w=.ok news.toArray w:=by
        cases B with
        | none=>
          obtain⟨rfl,rfl⟩:=u4 rfl
          exact⟨[],by simp,fun j v h=>by simp at h,by
           have h0:Nat.min 0 n=0:=Nat.zero_min n
           rw[h0];exact run_firstCells_none w _ _ _ _⟩
        | some ad=>
          by_cases hc0:c'=0
          ·have hk0:k=0:=by omega
           subst hk0
           exact⟨[],by simp,fun j v h=>by simp at h,by
            have h0:Nat.min 0 n=0:=Nat.zero_min n
            rw[h0];exact run_firstCells_some (P:=P) w i.size 0 ad 0 c' [] (by simp) (fun j v h=>by simp at h)⟩
          obtain⟨b2',off2,sp⟩:=ad
          have hsp:=u5 _ rfl hc0
          simp only at hsp
          subst hsp
          obtain⟨news,n1,n2⟩:=CV.rows hs0.wt hf z3 hcx1
          have hmk:Nat.min k n*f.length≤k*f.length:=Nat.mul_le_mul_right _ (Nat.min_le_left k n)
          have hget:∀j v,(news.take (Nat.min k n*f.length))[j]? = some v→news[j]? = some v:=fun j v hv=>by
           rw[List.getElem?_take] at hv
           split at hv
           ·exact hv
           ·cases hv
          refine⟨news.take (Nat.min k n*f.length),by rw[List.length_take];omega,fun j v hv=>(n2 j v (hget j v hv)).2,?_⟩
          exact run_firstCells_some (P:=P) w i.size (Nat.min k n) ⟨b2',off2,none⟩ k c' _ (by rw[hsz,List.length_take];omega) (fun j v hv=>by rw[yw];exact(n2 j v (hget j v hv)).1)
       obtain⟨news,n1,n2,n3⟩:=hsrcc
       have hone:∀v∈news,v.oneCell'=true:=fun v hv=>by
        obtain⟨j,hj⟩:=List.getElem?_of_mem hv
        obtain⟨ct,-,hc⟩:=n2 j v hj
        exact hc.one
       have hmul:Nat.min k n*f.length≤c*f.length:=Nat.mul_le_mul_right _ (Nat.le_trans (Nat.min_le_right k n) b2)
       have hfit:off+news.length≤cs.size:=by omega
       unfold StepR
       rw[hexec (copy_some g1 hi1 b9 t2 rfl n3 hone hfit)]
       obtain⟨cs',k1,k2,k3⟩:=yf b e'' fr news off w cs b9
       obtain⟨r1,r2,r3,r4⟩:=yj b news off w
       have hother:=fun q (hq:q≠b)=>heap_setCells_other b news off w q hq
       have hoff:off=off/f.length*f.length:=by
        have:=Nat.div_add_mod off f.length
        rw[b8,Nat.add_zero,Nat.mul_comm] at this
        exact this.symm
       have hct:∀q v,off≤q→news[q-off]? = some v→∃ct,f[q%f.length]? = some ct∧CV cx.tb W0 T w 0 ct v:=fun q v hq hv=>by
        obtain⟨ct,p1,p2⟩:=n2 _ v hv
        refine⟨ct,?_,p2⟩
        rw[←p1]
        congr 1
        have e5:q=(q-off)+off/f.length*f.length:=by rw[←hoff];omega
        conv=>lhs;rw[e5]
        rw[Nat.add_mul_mod_self_right]
       obtain⟨f1,f2⟩:=hs0.wt.write (w':=w.setCells b off news) hne b5 b9 hf k2 k1 (by rcases t2 with h|h;exact .inl h;exact .inr (by omega)) hother r1 (fun q v hv=>by
        rw[k3 q] at hv
        split at hv
        ·rename_i hq;exact .inr (hct q v hq.1 hv)
        ·exact .inl hv) (.inr (fun q v hv=>by
        rw[k3 q] at hv
        split at hv
        ·rename_i hq
         obtain⟨ct,p1,-⟩:=hct q v hq.1 hv
         exact .inr ⟨ct,p1,by simpa using List.all_eq_true.1 hnf ct (List.mem_of_getElem? p1)⟩
        ·exact .inl hv))
       refine⟨T,none,⟨f1,f2,fun _ h=>.inl h,by rw[r1];exact Nat.le_refl _,r2,r3,r4,fun q hq hqT _=>hother q (fun e=>hqT (e ▸ b5)),fun q hq hpu=>hother q (fun e=>?_)⟩,fun ρ hρ _=>⟨zq ((hint _ (Nat.min_le_right k n)).mono f2 (Nat.le_refl _)) (hfacts _ (Nat.min_le_right k n) (Nat.min_le_left k n) ρ hρ),rfl⟩⟩
       subst e
       rcases hpu with hpu|hpu
       ·have:=b6 (of_decide_eq_true hpu);omega
       ·exact hpu b5
   ·cases h
  ·cases h
 ·cases h
end
open Go.RowKit
section
variable{P:Program}{cx:Cx}{W0:World}{S:St}{base:Nat}{ρ:Val}{T T':Nat→Prop}{w w':World}{a:Act}{Ω:Val→Prop}
theorem checkKey_ok(hcx:CxOk P cx)(em:Bool):∀(n:Nat) (t:TypeId) (l:List KD) (d:TD),leafs cx n t=some l→tdOf cx t=some d→∀(f:Nat) (x:Value),n≤f→ValK d.k.agg l x→(Instr.checkKey em f t x).run P w=.ok () w
 | 0,t,l,d,h,hd,f,x,hf,hx=>by cases h
 | n+1,t,l,d,h,hd,f,x,hf,hx=>by
   obtain⟨f,rfl⟩:∃f',f=f'+1:=⟨f-1,by omega⟩
   obtain⟨u,g1,g2⟩:=jl (hcx t d hd)
   unfold leafs at h
   rw[hd] at h
   simp only at h
   split at h
   ·rename_i k hk
    cases h
    rw[hk] at hx g2
    obtain⟨k1,e1,hx⟩:=hx
    cases e1
    obtain⟨n1,rfl⟩:=hx
    have:u=.int k:=by cases u<;>simp_all [KD.of]
    subst this
    simp[Instr.checkKey,run_underlying g1]
   ·rename_i hk
    cases h
    rw[hk] at hx g2
    obtain⟨k1,e1,hx⟩:=hx
    cases e1
    obtain⟨n1,rfl⟩:=hx
    have:u=.bool:=by cases u<;>simp_all [KD.of]
    subst this
    simp[Instr.checkKey,run_underlying g1]
   ·rename_i hk
    cases h
    rw[hk] at hx g2
    obtain⟨k1,e1,hx⟩:=hx
    cases e1
    obtain⟨n1,rfl⟩:=hx
    have:u=.string:=by cases u<;>simp_all [KD.of]
    subst this
    simp[Instr.checkKey,run_underlying g1]
   ·rename_i fs hk
    split at h
    ·rename_i heq
     split at h
     ·rename_i l' hl'
      split at h
      ·rename_i hlen
       have e0:l'=l:=oi h
       subst e0
       rw[hk] at hx g2
       obtain⟨xs,rfl,cx1⟩:=hx
       obtain⟨fl,rfl⟩:∃fl,u=.struct fl:=by cases u<;>simp_all [KD.of]
       simp only[KD.of,KD.st.injEq] at g2
       subst g2
       simp only[Instr.checkKey,Sem.run_bind,run_underlying g1,Result.andThen_ok]
       rw[←Array.forIn_toList]
       have key:∀(gs:List Field) (pos:Nat) (l0:List KD),leafsL (leafs cx n) (gs.map fun f=>(f.type,f.offset)) pos=some l0→Cells l0 xs pos →
        (forIn gs PUnit.unit fun(g:Field) (_:PUnit)=>(if g.name≠ "_" then(do let v ←part g.type xs g.offset;Instr.checkKey em f g.type v;pure (ForInStep.yield PUnit.unit)) else pure (ForInStep.yield PUnit.unit):Sem (ForInStep PUnit))).run P w=.ok PUnit.unit w:=by
        intro gs
        induction gs with
        | nil=>intro pos l0 _ _;simp
        | cons g gs ih=>
          intro pos l0 h0 hx0
          simp only[List.map_cons,leafsL] at h0
          split at h0
          ·rename_i hoff
           split at h0
           ·rename_i l1 hl1
            cases hr:leafsL (leafs cx n) (gs.map fun f=>(f.type,f.offset)) (pos+l1.length) with
            | none=>rw[hr] at h0;cases h0
            | some l2=>
              rw[hr] at h0
              simp only[Option.map_some,Option.some.injEq] at h0
              subst h0
              have hx1:Cells l1 xs pos:=fun j k hj=>hx0 j k (by rw[List.getElem?_append_left (List.getElem?_eq_some_iff.1 hj).1];exact hj)
              have hx2:Cells l2 xs (pos+l1.length):=fun j k hj=>by
               have:=hx0 (l1.length+j) k (by rw[List.getElem?_append_right (by omega),Nat.add_sub_cancel_left];exact hj)
               rwa [←Nat.add_assoc] at this
              obtain⟨dg,hdg,-⟩:=leafs_td hl1
              rw[←hoff] at hx1
              obtain⟨va,a1,a2⟩:=part_val (w:=w) hcx hl1 hdg hx1
              have hck:=checkKey_ok hcx em n g.type l1 dg hl1 hdg f va (by omega) a2
              have hih:=ih _ _ hr hx2
              rw[List.forIn_cons]
              by_cases hn:g.name≠ "_"
              ·simp only[if_pos hn,Sem.run_bind,a1,Result.andThen_ok,hck,Sem.run_pure]
               exact hih
              ·simp only[if_neg hn,Sem.run_bind,Sem.run_pure,Result.andThen_ok]
               exact hih
           ·cases h0
          ·cases h0
       have hkey:=key fl.toList 0 l' hl' cx1
       rw[hkey];rfl
      ·cases h
     ·cases h
    ·cases h
   ·cases h
theorem findAsking_ok(hcx:CxOk P cx){t:TypeId}{ks:List KD}{d:TD}{n:Nat}(hn:n≤Op.maxDepth)(hk:leafs cx n t=some ks)(hd:tdOf cx t=some d){x:Value}(hx:ValK d.k.agg ks x):∀(es:List MapEntry) (i:Nat),(∀e∈es,ValK d.k.agg ks e.key) →
  ∃r,(Instr.findAsking t x es i).run P w=.ok r w∧∀j v,r=some (j,v)→∃e∈es,e.val=v
 | [],i,h=>⟨none,by simp[Instr.findAsking],fun j v e=>by cases e⟩
 | e::es,i,h=>by
   obtain⟨β,hβ⟩:=eqIn_ok (w:=w) hcx n t ks d hk hd Op.maxDepth x e.key hn hx (h e (by simp))
   obtain⟨r,h1,h2⟩:=findAsking_ok hcx hn hk hd hx es (i+1) (fun e' he=>h e' (by simp[he]))
   unfold Instr.findAsking
   cases β with
   | true=>exact⟨some (i,e.val),by simp[Sem.run_bind,Op.equal,hβ],fun j v hjv=>by cases hjv;exact⟨e,by simp,rfl⟩⟩
   | false=>
     refine⟨r,by simp[Sem.run_bind,Op.equal,hβ,h1],fun j v hjv=>?_⟩
     obtain⟨e',q1,q2⟩:=h2 j v hjv
     exact⟨e',by simp[q1],q2⟩
theorem findNow_mem{u:TypeDesc}{x:Value}:∀(es:List MapEntry) (i:Nat) (r:Option (Nat×Value)),Instr.findNow u x es i=some r→∀j v,r=some (j,v)→∃e∈es,e.val=v
 | [],i,r,h,j,v,hr=>by subst hr;simp[Instr.findNow] at h
 | e::es,i,r,h,j,v,hr=>by
   unfold Instr.findNow at h
   split at h
   ·cases h;cases hr;exact⟨e,by simp,rfl⟩
   ·obtain⟨e',q1,q2⟩:=findNow_mem es (i+1) r h j v hr
    exact⟨e',by simp[q1],q2⟩
   ·cases h
theorem findKey_ok(hcx:CxOk P cx){t:TypeId}{ks:List KD}{d:TD}{n:Nat}(hn:n≤Op.maxDepth)(hk:leafs cx n t=some ks)(hd:tdOf cx t=some d){x:Value}(hx:ValK d.k.agg ks x)(es:List MapEntry)(h:∀e∈es,ValK d.k.agg ks e.key) :
  ∃r,(Instr.findKey t x es).run P w=.ok r w∧∀j v,r=some (j,v)→∃e∈es,e.val=v:=by
 obtain⟨u,g1,g2⟩:=jl (hcx t d hd)
 unfold Instr.findKey
 cases hq:Instr.findNow u x es 0 with
 | some r=>exact⟨r,by simp[Sem.run_bind,run_underlying g1,hq],fun j v hr=>findNow_mem es 0 r hq j v hr⟩
 | none=>
   obtain⟨r,h1,h2⟩:=findAsking_ok (w:=w) hcx hn hk hd hx es 0 h
   exact⟨r,by simp[Sem.run_bind,run_underlying g1,hq,h1],h2⟩
def ctK:KD→CT→Bool
 | .int k,.int k' _ _=>decide (k=k')
 | .bool,.bool=>true
 | .str,.str _=>true
 | _,_=>false
def ctKs:List KD→List CT→Bool
 | [],[]=>true
 | k::r,c::q=>ctK k c && ctKs r q
 | _,_=>false
theorem ctK_ok{k:KD}{c:CT}{v:Value}(h:ctK k c=true)(hv:VT cx.tb W0 T w c v):IsK k v:=by
 unfold ctK at h
 split at h
 ·have e:=of_decide_eq_true h
  subst e
  obtain⟨n,rfl,-⟩:=hv
  exact⟨n,rfl⟩
 ·exact hv
 ·obtain⟨s,rfl,-⟩:=hv
  exact⟨s,rfl⟩
 ·cases h
theorem ctKs_ok:∀{l:List KD} {m:List CT},ctKs l m=true→∀(j:Nat) (k:KD),l[j]? = some k→∃c,m[j]? = some c∧ctK k c=true
 | [],[],_,j,k,hj=>by simp at hj
 | k0::r,c::q,h,j,k,hj=>by
   simp only[ctKs,Bool.and_eq_true] at h
   cases j with
   | zero=>simp only[List.getElem?_cons_zero,Option.some.injEq] at hj;subst hj;exact⟨c,rfl,h.1⟩
   | succ j=>exact ctKs_ok h.2 j k (by simpa using hj)
 | [],_::_,h,_,_,_=>by cases h
 | _::_,[],h,_,_,_=>by cases h
theorem uj{t:TypeId}{d:TD}{ks:List KD}{fk:List CT}(hag:d.k.agg=true)(hf:cx.tb.flat t=some fk)(hne:fk.length≠1)(h:ctKs ks fk=true){u:Value}(hu:xq cx.tb W0 T w t u):ValK d.k.agg ks u:=by
 rw[hag]
 rcases hu with⟨cs,rfl,h1,h2⟩|⟨ct,h1,-⟩
 ·refine⟨cs,rfl,fun j k hj=>?_⟩
  obtain⟨c,q1,q2⟩:=ctKs_ok h j k hj
  rw[hf] at h2
  obtain⟨v,q3,q4⟩:=h2 j c q1
  exact⟨v,by rw[Nat.zero_add];exact q3,ctK_ok q2 q4⟩
 ·rw[hf] at h1
  cases h1
  exact absurd rfl hne
def mpTy(S:St):SV→Option (TypeId×TypeId)
 | .var n=>match look S.ty n with
   | some (.mp k e)=>some (k,e)
   | _=>none
 | _=>none
def lookupA(cx:Cx)(S:St)(t:TypeId)(x:SV)(y:XV):Option Res:=match mpTy S x,kd cx t,y with
 | some (k,e),.mp k' e',.v (.agg l)=>match tdOf cx k,leafs cx 30 k,cx.tb.flat k,tdOf cx e,cx.tb.flat e with
   | some d,some ks,some fk,some de,some fe=>
     if decide (k=k'∧e=e'∧fk.length≠1∧fe.length≠1) && d.k.agg && kindsS S ks l && ctKs ks fk && zeroOk de fe then
      some ⟨⟨.tup [.agg (vars S.nv fe.length),.one (.var (S.nv+fe.length))],fe++[.bool],[]⟩,.no,true⟩ else none
   | _,_,_,_,_=>none
 | _,_,_=>none
theorem lookup_new{fe:List CT}{cs:Array Value}{b:Bool}(hl:cs.size=fe.length)(hc:∀(i:Nat) (ct:CT) (v:Value),fe[i]? = some ct→cs[i]? = some v→CV cx.tb W0 T w base ct v) :
  NewOk cx.tb W0 S ⟨.tup [.agg (vars S.nv fe.length),.one (.var (S.nv+fe.length))],fe++[.bool],[]⟩ base ρ T w (.tuple #[.agg cs,.bool b]):=by
 intro hb
 have hfl:flatV (.tuple #[.agg cs,.bool b])=cs.toList++[.bool b]:=by simp[flatV,Value.cells]
 rw[hfl] at hb
 have hlen:(fe++[CT.bool]).length=fe.length+1:=by simp
 have h1:∀i,i<fe.length→ρ (S.nv+i)=cs.toList.getD i undef:=fun i hi=>by
  have:=hb i (by simp;omega)
  rw[this]
  simp[List.getD_eq_getElem?_getD,List.getElem?_append_left (show i<cs.toList.length by simpa[hl] using hi)]
 have h2:ρ (S.nv+fe.length)=.bool b:=by
  have:=hb fe.length (by simp)
  rw[this]
  simp[List.getD_eq_getElem?_getD,←hl]
 have hcv:∀i ct,fe[i]? = some ct→CV cx.tb W0 T w base ct (ρ (S.nv+i)):=fun i ct hi=>by
  have hlt:i<fe.length:=(List.getElem?_eq_some_iff.1 hi).1
  rw[h1 i hlt]
  have:cs[i]? = some (cs.toList.getD i undef):=by
   rw[List.getD_eq_getElem?_getD]
   simp[show i<cs.size by omega]
  exact hc i ct _ hi this
 refine⟨?_,fun i ct hi=>?_,by simp⟩
 ·show _=Value.tuple _
  simp only[List.map_cons,List.map_nil,TV.den,SV.den,h2]
  have:cs.toList=dens ρ (vars S.nv fe.length):=by
   refine List.ext_getElem? fun i=>?_
   simp only[dens,List.getElem?_map]
   by_cases h:i<fe.length
   ·rw[vars_get _ _ _ h]
    simp only[Option.map_some,SV.den,h1 i h]
    rw[List.getD_eq_getElem?_getD,List.getElem?_eq_getElem (by simpa[hl] using h)];rfl
   ·rw[List.getElem?_eq_none (by simp;omega),List.getElem?_eq_none (by rw[vars_len];omega)];rfl
  rw[←this]
 ·rcases Nat.lt_or_ge i fe.length with h|h
  ·rw[List.getElem?_append_left h] at hi
   exact hcv i ct hi
  ·rw[List.getElem?_append_right h] at hi
   have:i=fe.length:=by
    have:=(List.getElem?_eq_some_iff.1 hi).1
    simp at this
    omega
   subst this
   simp at hi
   subst hi
   rw[h2]
   exact⟨b,rfl⟩
theorem lookupA_ok(hcx:CxOk P cx){o:Oper}{t:TypeId}{x y:Operand}{sx:SV}{yv:XV}{r:Res}(ho:o.op=.lookup t x y true)(hx:S.one x=some sx)(hy:S.op y=some yv)(h:lookupA cx S t sx yv=some r)(H:Hyp cx W0 S base Ω T w a):StepR P cx W0 S base Ω T w a o r:=by
 obtain⟨ρ0,h0⟩:=H.ex
 have hs0:=H.sat ρ0 h0
 unfold lookupA at h
 split at h
 ·rename_i k e k' e' l hm hkd
  split at h
  ·rename_i d ks fk de fe hd hks hfk hde hfe
   split at h
   ·rename_i hc
    cases h
    simp only[Bool.and_eq_true,decide_eq_true_eq] at hc
    obtain⟨⟨⟨⟨⟨rfl,rfl,hn1,hn2⟩,hag⟩,hkl⟩,hkf⟩,hz⟩:=hc
    obtain⟨n,rfl,hty⟩:∃n,sx=.var n∧look S.ty n=some (.mp k e):=by
     unfold mpTy at hm
     split at hm
     ·rename_i n
      split at hm
      ·rename_i k1 e1 hq
       cases hm
       exact⟨n,rfl,hq⟩
      ·cases hm
     ·cases hm
    have hcv:=hs0.ty n _ (zg hty)
    have ex:a.eval x=ρ0 n:=qi (H.env ρ0 h0) hx
    have ey:a.eval y=.agg (dens ρ0 l).toArray:=jh (H.env ρ0 h0) hy
    obtain⟨u',g1,g2⟩:=qo hcx hkd (by simp)
    obtain⟨k1,e1,rfl⟩:∃k1 e1,u'=.map k1 e1:=by cases u'<;>simp_all [KD.of]
    simp only[KD.of,KD.mp.injEq] at g2
    obtain⟨rfl,rfl⟩:=g2
    have hval:ValK d.k.agg ks (.agg (dens ρ0 l).toArray):=by
     rw[hag]
     refine⟨_,rfl,fun j k hj=>?_⟩
     obtain⟨v,q1,q2⟩:=kindsS_ok hs0 hkl j k hj
     exact⟨v,by rw[Nat.zero_add];simpa using q1,q2⟩
    obtain⟨z1,z2,z3,z4⟩:=zeroOk_ok (cx:=cx) (W0:=W0) (T:=T) (w:=w) (base:=base) hz
    obtain⟨i,hi1,hi2,hi3,z,hz1,hz2⟩:=yl (hcx _ de hde)
    obtain⟨zs,rfl⟩:∃zs:Array Value,z=.agg zs:=by
     have hlz:z.cells.toList.length=fe.length:=by rw[hz2];exact z1
     cases z<;>first|exact⟨_,rfl⟩|(exfalso;simp[Value.cells] at hlz;omega)
    have key:∀(es:Array MapEntry),MapT cx.tb W0 T w k1 e1 es→((ρ0 n=.map none∧es=#[])∨∃b c,ρ0 n=.map (some b)∧w.heap[b]? = some (.map es c)) →
     ∃(cs:Array Value) (b:Bool),(Instr.lookup t (ρ0 n) (.agg (dens ρ0 l).toArray) true).run P w=.ok (.tuple #[.agg cs,.bool b]) w∧cs.size=fe.length∧∀(i:Nat) (ct:CT) (v:Value),fe[i]? = some ct→cs[i]? = some v→CV cx.tb W0 T w base ct v:=by
     intro es hes hget
     have hck:∀em:Bool,(Instr.checkKey em 10000 k1 (.agg (dens ρ0 l).toArray)).run P w=.ok () w:=fun em=>checkKey_ok (w:=w) hcx em 30 k1 ks d hks hd 10000 _ (by omega) hval
     obtain⟨r,hr1,hr2⟩:=findKey_ok (w:=w) hcx (by decide) hks hd hval es.toList (fun e he=>uj hag hfk hn1 hkf (hes e he).1)
     cases r with
     | none=>
       refine⟨zs,false,?_,?_,fun i ct v hi hv=>?_⟩
       ·rcases hget with⟨p1,rfl⟩|⟨b,c,p1,p2⟩
        ·have hr0:(Instr.findKey k1 (.agg (dens ρ0 l).toArray) []).run P w=.ok _ w:=hr1
         simp[Instr.lookup,Sem.run_bind,run_underlying g1,p1,hck,hr0,zeroValue,typeInfo,hi1,hz1]
        ·have hgo:(getObj b).run P w=.ok (.map es c) w:=Go.MapKept.run_getObj_map p2
         simp[Instr.lookup,Sem.run_bind,run_underlying g1,p1,hgo,hck,hr1,zeroValue,typeInfo,hi1,hz1]
       ·have:zs.toList.length=fe.length:=by rw[←z1,←hz2];rfl
        simpa using this
       ·have hlt:i<fe.length:=(List.getElem?_eq_some_iff.1 hi).1
        obtain⟨v1,ct1,p1,p2,p3⟩:=z4 i hlt
        rw[hi] at p2
        cases p2
        have hzs:zs.toList=de.zero:=hz2
        rw[←hzs,Array.getElem?_toList,hv] at p1
        cases p1
        exact p3
     | some jv=>
       obtain⟨j,v⟩:=jv
       obtain⟨e,he1,he2⟩:=hr2 j v rfl
       rcases(hes e he1).2 with⟨cs,q1,q2,q3⟩|⟨ct,q1,-⟩
       ·rw[he2] at q1
        subst q1
        refine⟨cs,true,?_,by rw[q2];simp[Tab.sz,hfe],fun i ct v hi hv=>?_⟩
        ·rcases hget with⟨p1,rfl⟩|⟨b,c,p1,p2⟩
         ·have hr0:(Instr.findKey k1 (.agg (dens ρ0 l).toArray) []).run P w=.ok _ w:=hr1
          simp[Instr.lookup,Sem.run_bind,run_underlying g1,p1,hck,hr0]
         ·have hgo:(getObj b).run P w=.ok (.map es c) w:=Go.MapKept.run_getObj_map p2
          simp[Instr.lookup,Sem.run_bind,run_underlying g1,p1,hgo,hck,hr1]
        ·rw[hfe] at q3
         obtain⟨x1,p1,p2⟩:=q3 i ct hi
         rw[hv] at p1
         cases p1
         exact p2.cv
       ·rw[hfe] at q1
        cases q1
        exact absurd rfl hn2
    have hfin:∀es:Array MapEntry,MapT cx.tb W0 T w k1 e1 es→((ρ0 n=.map none∧es=#[])∨∃b c,ρ0 n=.map (some b)∧w.heap[b]? = some (.map es c))→StepR P cx W0 S base Ω T w a o ⟨⟨.tup [.agg (vars S.nv fe.length),.one (.var (S.nv+fe.length))],fe++[.bool],[]⟩,.no,true⟩:=by
     intro es h1 h2
     obtain⟨cs,b,hrun,hl,hcs⟩:=key es h1 h2
     unfold StepR
     have hex:(execOp a.eval o).run P w=.ok (.value (.tuple #[.agg cs,.bool b])) w:=by
      simp only[execOp,ho,ex,ey]
      exact run_w hrun
     rw[hex]
     exact⟨T,none,Stp.refl hs0.wt base true,fun ρ hρ _=>⟨lookup_new hl hcs,rfl⟩⟩
    rcases hcv with h1|⟨b,es,c,h1,h2,h3⟩
    ·exact hfin #[] (fun e he=>by simp at he) (.inl ⟨h1,rfl⟩)
    ·exact hfin es h3 (.inr ⟨b,c,h1,h2⟩)
   ·cases h
  ·cases h
 ·cases h
end
open Go.RowKit
def stepG(cx:Cx)(G:Gam):x9:=fun S o=>match o.op with
 | .call { callee:=.value (.func f),args,argTypes:=_ }=>match look G f with
   | some C=>callA cx.tb C S args.toList
   | none=>none
 | .call { callee:=.value x,args,argTypes:=_ }=>match S.one x with
   | some s=>callF cx.tb G S s args.toList
   | none=>none
 | .makeFunc fn first cap=>if first.size=0∧cap.size=0 then(stepA cx S o).map fun out=>⟨out,.no,true⟩ else makeFunA cx.tb G S fn first.toList cap.toList
 | .binOp op t x y _=>match S.op x,S.op y with
   | some (.v (.agg l)),some (.v (.agg m))=>structA cx S op t (.v (.agg l)) (.v (.agg m))
   | _,_=>(stepA cx S o).map fun out=>⟨out,.no,true⟩
 | .convert s d x=>match S.one x with
   | some v=>match s2bA cx S s d v with
     | some r=>some r
     | none=>match b2sA cx S s d v with
       | some r=>some r
       | none=>(stepA cx S o).map fun out=>⟨out,.no,true⟩
   | none=>none
 | .box t x=>match S.op x with
   | some xv=>(boxCells S xv).map fun l=>boxA S t l
   | none=>none
 | .alloc t=>(tdOf cx t).map fun d=>boxA S t (d.zero.map .con)
 | .store t x y=>match S.one x,S.op y with
   | some s,some v=>storeA cx S t s v
   | _,_=>none
 | .makeSlice t x y=>match S.one x,S.one y with
   | some s,some v=>makeA cx S t s v
   | _,_=>none
 | .buildSlice t n ps=>bsliceA cx S t n ps.toList
 | .call { callee:=.builtin .append,args,argTypes }=>match args.toList,argTypes.toList with
   | [s,x],[t,t']=>if t=t' then match S.one s,S.one x with
     | some s,some x=>match appCsA cx S t s x with
       | some r=>some r
       | none=>appA cx S t s x
     | _,_=>none else none
   | _,_=>none
 | .call { callee:=.builtin .copy,args,argTypes }=>match args.toList,argTypes.toList with
   | [s,x],[t,t']=>if t=t' then match S.one s,S.one x with
     | some s,some x=>copyA cx S t s x
     | _,_=>none else none
   | _,_=>none
 | .lookup t x y true=>match S.one x,S.op y with
   | some s,some v=>lookupA cx S t s v
   | _,_=>none
 | _=>(stepA cx S o).map fun out=>⟨out,.no,true⟩
section
variable{P:Program}{cx:Cx}{W0:World}
theorem stepG_ok{G:Gam}(hcx:CxOk P cx)(hG:GamOk P cx W0 G):Truth P cx W0 (stepG cx G):=by
 intro S o r h base Ω T w a H
 have hdef:∀{r:Res},((stepA cx S o).map fun out=>(⟨out,.no,true⟩:Res))=some r→StepR P cx W0 S base Ω T w a o r:=by
  intro r h
  cases hq:stepA cx S o with
  | none=>rw[hq] at h;cases h
  | some out=>
    rw[hq] at h
    cases h
    exact(stepA_ok hcx hq H).step H
 unfold stepG at h
 split at h
 ·rename_i f args ats ho
  split at h
  ·rename_i C hC
   obtain⟨h1,h2⟩:=hG f C hC
   exact callA_ok h1 h2 ho h H
  ·cases h
 ·rename_i x args ats hne ho
  split at h
  ·rename_i s hs
   exact callF_ok hG ho hs h H
  ·cases h
 ·rename_i fn first cap ho
  split at h
  ·exact hdef h
  ·exact makeFunA_ok ho h H
 ·rename_i op t x y t' ho
  split at h
  ·rename_i l m hx hy
   exact structA_ok hcx ho hx hy h H
  ·exact hdef h
 ·rename_i s d x ho
  split at h
  ·rename_i v hx
   split at h
   ·rename_i r' hr
    cases h
    exact s2bA_ok hcx ho hx hr H
   ·split at h
    ·rename_i r' hr
     cases h
     exact b2sA_ok hcx ho hx hr H
    ·exact hdef h
  ·cases h
 ·rename_i t x ho
  split at h
  ·rename_i xv hx
   cases hq:boxCells S xv with
   | none=>rw[hq] at h;cases h
   | some l=>
     rw[hq] at h
     cases h
     exact boxA_ok ho hx hq H
  ·cases h
 ·rename_i t ho
  cases hq:tdOf cx t with
  | none=>rw[hq] at h;cases h
  | some d=>
    rw[hq] at h
    cases h
    exact allocA_ok hcx ho hq H
 ·rename_i t x y ho
  split at h
  ·rename_i s v hx hy
   exact storeA_ok hcx ho hx hy h H
  ·cases h
 ·rename_i t x y ho
  split at h
  ·rename_i s v hx hy
   exact makeA_ok hcx ho hx hy h H
  ·cases h
 ·rename_i t n ps ho
  exact bsliceA_ok hcx ho h H
 ·rename_i args ats ho
  split at h
  ·rename_i s x t t' ha ht
   have e1:=arr2 ha
   have e2:=arr2 ht
   subst e1;subst e2
   split at h
   ·rename_i htt
    subst htt
    split at h
    ·rename_i s' x' hs hx
     split at h
     ·rename_i r' hr
      cases h
      exact appCsA_ok hcx ho hs hx hr H
     ·exact appA_ok hcx ho hs hx h H
    ·cases h
   ·cases h
  ·cases h
 ·rename_i args ats ho
  split at h
  ·rename_i s x t t' ha ht
   have e1:=arr2 ha
   have e2:=arr2 ht
   subst e1;subst e2
   split at h
   ·rename_i htt
    subst htt
    split at h
    ·rename_i s' x' hs hx
     exact copyA_ok hcx ho hs hx h H
    ·cases h
   ·cases h
  ·cases h
 ·rename_i t x y ho
  split at h
  ·rename_i s v hx hy
   exact lookupA_ok hcx ho hx hy h H
  ·cases h
 ·cases hq:stepA cx S o with
  | none=>rw[hq] at h;cases h
  | some out=>
    rw[hq] at h
    cases h
    exact(stepA_ok hcx hq H).step H
theorem qj:GamOk P cx W0 []:=fun f C h=>by cases h
theorem qy{G:Gam}{f:FuncId}{C:Ctr}(h:Holds P cx W0 f C)(hl:(zx C.ps).all CT.low=true)(hG:GamOk P cx W0 G):GamOk P cx W0 ((f,C)::G):=fun g D hg=>by
 simp only[look] at hg
 split at hg
 ·rename_i e;subst e;cases hg;exact⟨h,hl⟩
 ·exact hG g D hg
end
end Sy
end Go.Proofs.YtmadfhgiaonnlaaGreatDoor
