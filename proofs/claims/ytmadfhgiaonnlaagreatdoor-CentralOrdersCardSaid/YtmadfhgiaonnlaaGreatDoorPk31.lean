import Derived.Deep.DeepAppendRoom
import Derived.Laws.Closers25b
import Derived.OrdersIn
import Derived.OwnWalkIn
import Derived.Test.YtmadfhgiaonnlaaGreatDoorPk20
import Derived.Test.YtmadfhgiaonnlaaGreatDoorPk30
set_option linter.unusedVariables false
set_option linter.unusedSimpArgs false
namespace Go.Proofs.YtmadfhgiaonnlaaGreatDoor
namespace Ver
open Go.RowKit Cen
open EncW (jb lineC flds)
open Enc (putF)
open MonW (I64)
theorem wpList_makeC{P:Program}{ops:Array Oper}{rest:List Oper}{o:Oper}{a:Act}{w:World}{Q:Exit→Act→World→Prop}(hgd:o.guard=none)(x y:Operand)(t:TypeId)(hop:o.op=.makeSlice t x y)
  (e:TypeId) (i0:TypeInfo) (z:Value) (size:Nat) (h1:P.underlying t=some (.slice e)) (h2:P.info? e=some i0) (h3:i0.zero=some z) (h4:i0.size=size) (h5:i0.bytes≤4096)
  (L C:Int) (n c:Nat) (hx:a.eval x=.int .i64 L) (hy:a.eval y=.int .i64 C) (hL:L=n) (hC:C=c) (hnc:n≤c) (hc:c≤16777216)
  (h:∀w' cur,Blk w' w.heap.size e cur→cur.size=c*size→Below w.heap.size w w'→wpList P ops Q rest (a.put o.dst (.slice (some ⟨w.heap.size,0,none⟩) n c)) w'):wpList P ops Q (o::rest) a w:=by
 subst hL hC
 have hb:(i0.bytes:Int)*c≤281474976710656:=by
  have h0:(i0.bytes:Int)*c≤4096*c:=Int.mul_le_mul_of_nonneg_right (by omega) (by omega)
  omega
 have hrun:=run_make (P:=P) w t e i0 z h1 h2 h3 .i64 .i64 n c (by omega) (by omega) hb (by omega)
 refine wpList_plain hgd fun K hK=>?_
 unfold Oper.wp
 have hex:(execOp a.eval o).run P w=.ok (.value (.slice (some ⟨w.heap.size,0,none⟩) n c)) (w.alloc (.cells (madeCells z.cells (c*i0.size)) e)):=by
  simp only[execOp,hop,hx,hy]
  simpa[Sem.run_bind] using EncW.run_w hrun
 rw[hex]
 exact hK _ _ (h _ _ (Blk.new w e _) (by rw[size_madeCells,h4]) (below_new w _))
theorem copy_some{P:Program}{w:World}{t ty e:TypeId}{i:TypeInfo}(ht:P.underlying t=some (.slice e))(hi:P.info? e=some i){b n c:Nat}{cs:Array Value}(hc:Blk w b e cs)
  {x:Value} {k:Nat} {news:List Value} (hx:(Builtin.lenOf x).run P w=.ok k w) (hn:(Builtin.firstCells i.size (Nat.min k n) x).run P w=.ok news.toArray w) (h1:∀v∈news,v.oneCell'=true) (hfit:news.length≤cs.size) :
  (Builtin.copy_ #[t,t] ty #[.slice (some ⟨b,0,none⟩) n c,x]).run P w=.ok (goInt (Nat.min k n)) (w.setRow b (news++cs.toList.drop news.length).toArray):=by
 have hst:=run_storeCells_at P b 0 e news 0 cs w hc (by simpa using hfit) h1
 simp only[Nat.add_zero,Nat.zero_add,List.take_zero,List.nil_append] at hst
 simp only[Nat.min_def] at hn
 simp[Builtin.copy_,run_underlying ht,sizeOf,typeInfo,hi,hx,hn,hst,Nat.min_def]
theorem wpList_copyC{α:Type}{R:List Value→α→Prop}{P:Program}{ops:Array Oper}{rest:List Oper}{o:Oper}{a:Act}{w:World}{Q:Exit→Act→World→Prop}(hgd:o.guard=none)(d s:Operand)(t:TypeId)
  (hop:o.op=.call { callee:=.builtin .copy,args:=#[d,s],argTypes:=#[t,t] })
  (e:TypeId) (i0:TypeInfo) (size:Nat) (hs0:0<size) (h1:P.underlying t=some (.slice e)) (h2:P.info? e=some i0) (h4:i0.size=size)
  (g n c:Nat) (cur:Array Value) (A:Option Addr) (c':Nat) (xs:List α) (hd:a.eval d=.slice (some ⟨g,0,none⟩) n c) (hs:a.eval s=.slice A n c')
  (hk:Blk w g e cur) (hcs:cur.size=c*size) (hnc:n≤c) (hcm:c≤maxLen) (hsl:SliceAt R size w (.slice A n c') xs) (h6:∀r x,R r x→∀u∈r,u.oneCell'=true) (base:Nat) (hb:base≤g)
  (h:∀w',Own R e size base w' (.slice (some ⟨g,0,none⟩) n c) xs→Below base w w'→wpList P ops Q rest (a.put o.dst (.int .i64 n)) w'):wpList P ops Q (o::rest) a w:=by
 have hln:=hsl.len
 obtain⟨rs,hr1,hr2⟩:=hsl.rows hs0
 have hfl:rs.flatten.length=n*size:=by
  have:∀(l:List (List Value)),(∀r∈l,r.length=size)→l.flatten.length=l.length*size:=by
   intro l
   induction l with
   | nil=>intro _;simp
   | cons r l ih=>intro hl;rw[List.flatten_cons,List.length_append,ih (fun r h=>hl r (List.mem_cons_of_mem _ h)),hl r (List.mem_cons_self ..),List.length_cons,Nat.succ_mul];omega
  rw[this rs hr1.each,hr1.1,hln.1]
 have hone:∀u∈rs.flatten,u.oneCell'=true:=by
  intro u hu
  obtain⟨r,hr,hu⟩:=List.mem_flatten.1 hu
  obtain⟨j,hj,rfl⟩:=List.getElem_of_mem hr
  have hjx:j<xs.length:=by rw[←hr1.1];exact hj
  exact h6 _ _ (hr1.2 j _ _ (List.getElem?_eq_getElem hj) (List.getElem?_eq_getElem hjx)).2 u hu
 have hle:n*size≤cur.size:=by rw[hcs];exact Nat.mul_le_mul_right _ hnc
 have hown:∀w':World,w'.heap[g]? = some (.cells (rs.flatten++cur.toList.drop (n*size)).toArray e (0,0))→w'.ownsRow base e size (.slice (some ⟨g,0,none⟩) n c) n rs.flatten:=by
  intro w' hw'
  refine⟨hfl,.inr ⟨g,c,_,rfl,hb,hw',hnc,hcm,?_,?_⟩⟩
  ·simp only[List.size_toArray,List.length_append,List.length_drop,Array.length_toList,hfl]
   omega
  ·simp only
   rw[←hfl,List.take_left']
   rfl
 refine wpList_plain hgd fun K hK=>?_
 have hmin:Nat.min n n=n:=Nat.min_self n
 have hlen:(Builtin.lenOf (.slice A n c')).run P w=.ok n w:=rfl
 have fin:wpList P ops Q rest (a.put o.dst (.int .i64 n)) (w.setRow g (rs.flatten++cur.toList.drop rs.flatten.length).toArray):=by
  refine h _ ⟨rs,?_,hr1⟩ (below_setRow (Below.refl _ _) hb _)
  rw[←hln.1]
  refine hown _ ?_
  rw[←hfl]
  exact setRow_heap w g cur _ e _ hk
 have go:(Builtin.firstCells i0.size n (.slice A n c')).run P w=.ok rs.flatten.toArray w→wpList P ops Q rest (a.put o.dst (.int .i64 n)) (w.setRow g (rs.flatten++cur.toList.drop rs.flatten.length).toArray)→∀K:Act→World→Prop,(∀a w,wpList P ops Q rest a w→K a w)→o.wp P a w K Q:=by
  intro hfc hw K hK
  have hrun:=copy_some (P:=P) (ty:=o.type) (c:=c) h1 h2 hk hlen (news:=rs.flatten) (by rw[hmin];exact hfc) hone (by rw[hfl];exact hle)
  rw[hmin] at hrun
  have hgo:goInt (n:Int)=.int .i64 n:=rfl
  rw[hgo] at hrun
  have hex:(execOp a.eval o).run P w=.ok (.value (.int .i64 n)) (w.setRow g (rs.flatten++cur.toList.drop rs.flatten.length).toArray):=by
   simp only[execOp,hop,resolve,invoke,builtin,List.map_toArray,List.map_cons,List.map_nil,hd,hs]
   simpa[Sem.run_bind] using EncW.run_w hrun
  unfold Oper.wp
  rw[hex]
  exact hK _ _ hw
 refine go ?_ fin K hK
 cases A with
 | none=>
   have hn0:n=0:=by
    obtain⟨A2,c2,e2,g1,-,h0,-⟩:=hsl
    injection e2 with e3 e4 e5
    have:=h0 e3.symm
    omega
   subst hn0
   have hnil:rs.flatten=[]:=List.eq_nil_of_length_eq_zero (by rw[hfl];omega)
   rw[hnil]
   simp[Builtin.firstCells]
 | some ad=>exact run_firstCells_some (P:=P) w i0.size n ad n c' rs.flatten (by rw[hfl,h4]) (fun j v hj=>hr2 ad rfl j v hj)
theorem identOk_size{s:ByteArray}(h:IdW.x8 s=true):s.size≤36:=by
 unfold IdW.x8 at h
 simp only[Bool.and_eq_true,decide_eq_true_eq] at h
 exact h.1.2
theorem infoL:(Tryz.prog.info? 69).map (fun i=>(i.zero,i.size,i.bytes))=some (some (.agg #[i 0,i 0,.string ⟨#[]⟩,.string ⟨#[]⟩,.string ⟨#[]⟩,.int .u64 0]),6,72):=by kernel_rfl
theorem info_parts{P:Program}{t:TypeId}{z:Value}{n b:Nat}(h:(P.info? t).map (fun i=>(i.zero,i.size,i.bytes))=some (some z,n,b)):∃i,P.info? t=some i∧i.zero=some z∧i.size=n∧i.bytes=b:=by
 cases hi:P.info? t with
 | none=>rw[hi] at h;cases h
 | some i=>
   rw[hi] at h
   simp only[Option.map_some,Option.some.injEq,Prod.mk.injEq] at h
   exact⟨i,rfl,h.1,h.2.1,h.2.2⟩
theorem Lns_one{w:World}:∀r x,LnR w r x→∀u∈r,u.oneCell'=true:=by
 rintro r x ⟨rfl,-⟩
 exact Ln_one x
abbrev OwnL (base:Nat) (w:World) (v:Value) (l:List Ln):Prop:=Own (LnR w) 69 6 base w v l
theorem OwnL.call{base:Nat}{w w':World}{v:Value}{l:List Ln}(h:OwnL base w v l)(hb:Below w.heap.size w w'):OwnL base w' v l:=Own.call h hb
def APost(w:World)(v:Value)(l:List Ln)(at_:Int)(who what on_:ByteArray)(e:Ending)(w':World):Prop:=
 Hid (Below w.heap.size w w')∧((∃k:Int,1≤k∧k≤4∧e=.returned (.tuple #[v,i k]))∨∃(x:Ln) (b:Nat),e=.returned (.tuple #[.slice (some ⟨b,0,none⟩) (l.length+1) (l.length+1),i 0])∧x.who=who∧x.on_=on_∧x.at_=at_∧Chain (l++[x]) ∧
  Hid (OwnL w.heap.size w' (.slice (some ⟨b,0,none⟩) (l.length+1) (l.length+1)) (l++[x])))
theorem append_fits{w:World}{base g n:Nat}{l:List Ln}{x:Ln}(hn:n=l.length)(ho:OwnL base w (.slice (some ⟨g,0,none⟩) n (n+1)) l):∃xs,w.ownsRow base 69 6 (.slice (some ⟨g,0,none⟩) n (n+1)) n xs ∧
  ∀w',w'.ownsRow base 69 6 (.slice (some ⟨g,0,none⟩) (n+1) (n+1)) (n+1) (xs++(lnA x).toList)→x.who.size≤maxLen→x.what.size≤maxLen→x.on_.size≤maxLen→OwnL base w' (.slice (some ⟨g,0,none⟩) (n+1) (n+1)) (l++[x]):=by
 subst hn
 obtain⟨rs,h1,h2⟩:=ho
 refine⟨_,h1,fun w' h q1 q2 q3=>⟨rs++[(lnA x).toList],?_,rows_snoc' h2 rfl ⟨rfl,q1,q2,q3⟩⟩⟩
 simpa using h
set_option maxRecDepth 100000 in
set_option maxHeartbeats 4000000 in
theorem append_(A:Option Addr)(n c:Nat)(l:List Ln)(at_:Int)(who what on_:ByteArray)(w:World)(h:LnsAt w (.slice A n c) l)(hc:Chain l)(ha:I64 at_)(z1:who.size≤maxLen)(z2:what.size≤maxLen)(z3:on_.size≤maxLen) :
  Calls Tryz.prog 31 #[.slice A n c,i at_,.string who,.string what,.string on_] w (APost w (.slice A n c) l at_ who what on_):=by
 obtain⟨rfl,hnc,hcm⟩:=h.len
 have hlen:=hc.1
 obtain⟨i0,hi0,hz0,hz1,hz2⟩:=info_parts infoL
 have HL:=Lib.hid h
 have HC:=Lib.hid hc
 have HPV:Hid (∀j,j+1=l.length→∃b off,A=some ⟨b,off,none⟩∧∀W,Below w.heap.size w W→W.cell? ⟨b,off+j*6+1,none⟩=some (i (ahead l l.length).2)):=fun j hj=>by
  obtain⟨b,off,e,hr',-⟩:=h.at_ (show j<l.length by omega)
  refine⟨b,off,e,fun W hb=>?_⟩
  have e1:=ahead_succ (List.getElem?_eq_getElem (show j<l.length by omega))
  rw[hj] at e1
  rw[e1]
  exact hr' W (Kept.of hb) 1 _ rfl
 have HP0:Hid (l.length=0→ahead l l.length=(0,0)):=fun e=>by rw[e];rfl
 have HHD:=Lib.hid (fun W (hb:Below w.heap.size w W)=>head_ A l.length c l W (h.call hb) hlen)
 have HX:Hid (∀x,OkLn l l.length x→l.length<4096→Chain (l++[x])):=fun x hx hl=>hc.snoc hl hx
 have HV1:=Lib.hid (fun W=>IdW.valid_ who W z1)
 have HV2:=Lib.hid (fun W=>IdW.valid_ what W z2)
 obtain⟨pv,pa,hpv⟩:∃s a,ahead l l.length=(s,a):=⟨_,_,rfl⟩
 have HAH:Hid ((ahead l l.length).1=pv∧(ahead l l.length).2=pa):=by rw[hpv];exact⟨rfl,rfl⟩
 rw[hpv] at HP0 HPV HHD
 simp only at HPV HHD
 have HZ:=Lib.hid (And.intro z1 (And.intro z2 z3))
 unfold maxLen at z3 hcm
 unfold I64 at ha
 clear h hc z1 z2 hpv
 generalize hn:l.length=n at *
 have HN:=Lib.hid hn
 clear hn
 go_enter Tryz.func31,Tryz.ntmps31
 by_cases h0:4096≤n
 ·have hz:(4096:Int)≤(n:Int):=by omega
  go_wp2_with fail
  go_ret2
  exact⟨Lib.hid (Below.refl _ _),.inl ⟨3,by decide,by decide,rfl⟩⟩
 have hz:¬(4096:Int)≤(n:Int):=by omega
 go_upto_region 4 with(fail)
 go_cut [39] (fun s39 wd=>∃q:Bool,s39=.bool q∧(q=false→0≤at_∧at_≤268435456∧pa≤at_)∧Below w.heap.size w wd)
 case first=>
  by_cases a1:at_<0
  ·go_wp2_with fail
   go_meet
   exact⟨true,rfl,(fun e=>by cases e),by repeat(first|(with_reducible exact Below.refl _ _)|(with_reducible refine below_drewN' ?_ _)|(with_reducible refine Below.drew ?_)|(with_reducible refine Below.setCell ?_ (by first|(simp;done)|(simp;omega)|omega) _)|(with_reducible refine below_alloc ?_ _)|(with_reducible refine Below.alloc ?_ (by first|(simp;done)|(simp;omega)|omega) _))⟩
  have d1:decide (at_<0)=false:=by simp;omega
  by_cases a2:268435456<at_
  ·go_wp2_with fail
   go_meet
   exact⟨true,rfl,(fun e=>by cases e),by repeat(first|(with_reducible exact Below.refl _ _)|(with_reducible refine below_drewN' ?_ _)|(with_reducible refine Below.drew ?_)|(with_reducible refine Below.setCell ?_ (by first|(simp;done)|(simp;omega)|omega) _)|(with_reducible refine below_alloc ?_ _)|(with_reducible refine Below.alloc ?_ (by first|(simp;done)|(simp;omega)|omega) _))⟩
  have d2:decide (268435456<at_)=false:=by simp;omega
  by_cases hn0:n=0
  ·have hgd:decide ((0:Int)<(n:Int))=false:=by simp[hn0]
   have hgn:decide (0<n)=false:=by simp[hn0]
   have e:=HP0.out hn0
   injection e with e1 e2
   clear hn0
   go_wp2_with fail
   go_meet
   exact⟨false,rfl,(fun _=>by omega),by repeat(first|(with_reducible exact Below.refl _ _)|(with_reducible refine below_drewN' ?_ _)|(with_reducible refine Below.drew ?_)|(with_reducible refine Below.setCell ?_ (by first|(simp;done)|(simp;omega)|omega) _)|(with_reducible refine below_alloc ?_ _)|(with_reducible refine Below.alloc ?_ (by first|(simp;done)|(simp;omega)|omega) _))⟩
  ·have hgd:decide ((0:Int)<(n:Int))=true:=by simp;omega
   have hgn:decide (0<n)=true:=by simp;omega
   obtain⟨j,hj⟩:∃j,n=j+1:=⟨n-1,by omega⟩
   obtain⟨b,off,rfl,hcl⟩:=HPV.out j hj.symm
   have l1:=hcl w (Below.refl _ _)
   have hjz:(n:Int)-1=(j:Int):=by omega
   have hjw:IntKind.i64.wrap (j:Int)=j:=by simp[IntKind.wrap,IntKind.bits,IntKind.signed];omega
   have hjl:(j:Int)<(n:Int):=by omega
   have hj0:(0:Int)≤(j:Int):=by omega
   clear hn0 hj hcl
   go_wp2_with fail
   go_meet
   exact⟨decide (at_<pa),rfl,(fun e=>by simp at e;omega),by repeat(first|(with_reducible exact Below.refl _ _)|(with_reducible refine below_drewN' ?_ _)|(with_reducible refine Below.drew ?_)|(with_reducible refine Below.setCell ?_ (by first|(simp;done)|(simp;omega)|omega) _)|(with_reducible refine below_alloc ?_ _)|(with_reducible refine Below.alloc ?_ (by first|(simp;done)|(simp;omega)|omega) _))⟩
 case rest=>
 obtain⟨q,rfl,hq,hbq⟩:=hcut
 have HB:=Lib.hid hbq
 clear hbq
 cases q with
 | true=>
   go_wp2_with fail
   go_ret2
   exact⟨HB,.inl ⟨2,by decide,by decide,rfl⟩⟩
 | false=>
 obtain⟨a1,a2,a3⟩:=hq rfl
 clear hq
 go_upto_region 6 with(fail)
 go_cut [48] (fun s48 wd=>∃q:Bool,s48=.bool q∧(q=false→IdW.x8 who=true∧IdW.x8 what=true)∧Below w.heap.size w wd)
 case first=>
  go_wp2_with fail
  refine(HV1.out _).mono ?_
  rintro e w1 ⟨rfl,hb⟩
  have hb1:=below_call HB.out hb
  cases hv:IdW.x8 who with
  | false=>
    go_wp2_with fail
    go_meet
    exact⟨true,rfl,(fun e=>by cases e),hb1⟩
  | true=>
    have HB1:=Lib.hid hb1
    clear hb hb1
    go_wp2_with fail
    refine(HV2.out _).mono ?_
    rintro e w2 ⟨rfl,hb⟩
    have hb2:=below_call HB1.out hb
    cases hv2:IdW.x8 what with
    | false=>
      go_wp2_with fail
      go_meet
      exact⟨true,rfl,(fun e=>by cases e),hb2⟩
    | true=>
      go_wp2_with fail
      go_meet
      exact⟨false,rfl,(fun _=>⟨by first|rfl|exact hv,by first|rfl|exact hv2⟩),hb2⟩
 case rest=>
 clear HB
 obtain⟨q,rfl,hq,hbq⟩:=hcut
 have HB:=Lib.hid hbq
 clear hbq
 cases q with
 | true=>
   go_wp2_with fail
   go_ret2
   exact⟨HB,.inl ⟨4,by decide,by decide,rfl⟩⟩
 | false=>
 obtain⟨v1,v2⟩:=hq rfl
 have v1:=identOk_size v1
 have v2:=identOk_size v2
 clear hq
 by_cases h64:64<on_.size
 ·have h64z:(64:Int)<(on_.size:Int):=by omega
  go_wp2_with fail
  go_ret2
  exact⟨HB,.inl ⟨3,by decide,by decide,rfl⟩⟩
 have h64z:¬(64:Int)<(on_.size:Int):=by omega
 have hw1:IntKind.i64.wrap ((n:Int)+1)=n+1:=by simp[IntKind.wrap,IntKind.bits,IntKind.signed];omega
 have HK0:=Lib.hid (Blk.new wc 69 #[i 0,i 0,.string ⟨#[]⟩,.string ⟨#[]⟩,.string ⟨#[]⟩,.int .u64 0])
 have HK:=Lib.hid (zf #[i (n+1),i at_,.string who,.string what,.string on_,.int .u64 0] HK0.out)
 have HBX:=Lib.hid (qm #[i (n+1),i at_,.string who,.string what,.string on_,.int .u64 0] (below_new wc (.cells #[i 0,i 0,.string ⟨#[]⟩,.string ⟨#[]⟩,.string ⟨#[]⟩,.int .u64 0] 69)) (Nat.le_refl _))
 have HG:Hid (w.heap.size≤wc.heap.size):=HB.out.size
 go_upto_region 11 with(refine wpList_store_rowTo rfl 69 (.tmp 13) (.tmp 60) rfl rfl wc.heap.size #[i (n+1),i at_,.string who,.string what,.string on_,.int .u64 0] (by kernel_rfl) (by kernel_rfl) 69 #[i 0,i 0,.string ⟨#[]⟩,.string ⟨#[]⟩,.string ⟨#[]⟩,.int .u64 0] HK0.out (by kernel_rfl) (by kernel_rfl) (by kernel_rfl) ?_)
 generalize (wc.alloc (.cells _ 69)).setRow wc.heap.size _=wy at *
 have HBY:=Lib.hid (below_call HB.out HBX.out)
 generalize wc.heap.size=g at *
 have HH:=Lib.hid (fun W=>EncW.hash_ pv (n+1) at_ who what on_ 0 W (by unfold I64;omega) (by unfold I64;omega) (by omega) (by omega) (by omega))
 have HS:Hid (∀s,jb pv (n+1) at_ who what on_=s→Chain (l++[⟨n+1,at_,who,what,on_,s⟩])):=fun s hs=>by
  refine HX.out _ ?_ (by omega)
  obtain⟨b1,b2⟩:=HAH.out
  exact⟨rfl,a1,by rw[b2];exact a3,a2,by show who.size≤_;omega,by show what.size≤_;omega,by show on_.size≤_;omega,by rw[b1];exact hs.symm⟩
 unfold lineC at HH
 generalize hsm:jb pv (n+1) at_ who what on_=sm at *
 have HCH:=Lib.hid (HS.out sm rfl)
 clear HB HK0 HBX HPV HP0 HX HV1 HV2 HAH HS hsm
 go_wp2_with fail
 refine RegC.region 5 (fun kz=>match kz with|0=>some (.slice A n c)|1=>some (.int .u64 pv)|2=>some (.agg #[i (n+1),i at_,.string who,.string what,.string on_,.int .u64 0])|3=>some (.int .u64 sm)|4=>some (.pointer (some ⟨g,5,none⟩))|_=>none) (by kernel_rfl) (by kernel_rfl) (Reg4.in_of (n:=77) (by kernel_rfl) rfl) ?_ ?_
 ·intro idx o hj ho a' w' hG hop
  have hj':idx=0∨idx=1∨idx=2∨idx=3∨idx=4:=by omega
  clear hj
  rcases hj' with rfl|rfl|rfl|rfl|rfl
  ·obtain rfl:=oi ho
   have h0:a'.tmps[0]?.getD undef=_:=gdt (hop 0 (by simp[Op.operands,Call.operands]))
   refine Reg4.StepOk.mono (R:=fun v W=>v=.slice A n c∧W=w') ?_ (fun v W h=>?_)
   ·go_simp
    all_goals(try exact⟨rfl,rfl⟩)
   ·obtain⟨rfl,rfl⟩:=h
    exact⟨fun x hx=>oi hx,Below.refl _ _⟩
  ·obtain rfl:=oi ho
   have h61:a'.tmps[61]?.getD undef=.slice A n c:=gdt (hop 61 (by simp[Op.operands,Call.operands]) _ rfl)
   refine Reg4.StepOk.mono (R:=fun v W=>v=.int .u64 pv∧Hid (Below w'.heap.size w' W)) ?_ (fun v W h=>?_)
   ·go_simp
    refine(HHD.out _ (below_call HBY.out hG)).mono ?_
    rintro e w5 ⟨rfl,rfl⟩
    exact⟨_,rfl,rfl,Lib.hid (Below.refl _ _)⟩
   ·obtain⟨rfl,hb⟩:=h
    exact⟨fun x hx=>oi hx,hb.out⟩
  ·obtain rfl:=oi ho
   have h13:a'.tmps[13]?.getD undef=_:=gdt (hop 13 (by simp[Op.operands,Call.operands]))
   have kc:=(HK.out.call hG).cell
   refine Reg4.StepOk.mono (R:=fun v W=>v=.agg #[i (n+1),i at_,.string who,.string what,.string on_,.int .u64 0]∧W=w') ?_ (fun v W h=>?_)
   ·go_simp
    all_goals(try exact⟨rfl,rfl⟩)
   ·obtain⟨rfl,rfl⟩:=h
    exact⟨fun x hx=>oi hx,Below.refl _ _⟩
  ·obtain rfl:=oi ho
   have h62:a'.tmps[62]?.getD undef=.int .u64 pv:=gdt (hop 62 (by simp[Op.operands,Call.operands]) _ rfl)
   have h63:a'.tmps[63]?.getD undef=.agg #[i (n+1),i at_,.string who,.string what,.string on_,.int .u64 0]:=gdt (hop 63 (by simp[Op.operands,Call.operands]) _ rfl)
   refine Reg4.StepOk.mono (R:=fun v W=>v=.int .u64 sm∧Hid (Below w'.heap.size w' W)) ?_ (fun v W h=>?_)
   ·go_simp
    refine(HH.out _).mono ?_
    rintro e w5 ⟨rfl,hb⟩
    exact⟨_,rfl,rfl,hb⟩
   ·obtain⟨rfl,hb⟩:=h
    exact⟨fun x hx=>oi hx,hb.out⟩
  ·obtain rfl:=oi ho
   have h13:a'.tmps[13]?.getD undef=_:=gdt (hop 13 (by simp[Op.operands,Call.operands]))
   refine Reg4.StepOk.mono (R:=fun v W=>v=.pointer (some ⟨g,5,none⟩)∧W=w') ?_ (fun v W h=>?_)
   ·go_simp
    all_goals(try exact⟨rfl,rfl⟩)
   ·obtain⟨rfl,rfl⟩:=h
    exact⟨fun x hx=>oi hx,Below.refl _ _⟩
 ·intro vals w' hG hv
  have hv0:vals 0=.slice A n c:=hv 0 _ (by omega) rfl
  have hv1:vals 1=.int .u64 pv:=hv 1 _ (by omega) rfl
  have hv2:vals 2=.agg #[i (n+1),i at_,.string who,.string what,.string on_,.int .u64 0]:=hv 2 _ (by omega) rfl
  have hv3:vals 3=.int .u64 sm:=hv 3 _ (by omega) rfl
  have hv4:vals 4=.pointer (some ⟨g,5,none⟩):=hv 4 _ (by omega) rfl
  simp only[Reg4.puts,Reg4.dstOf,List.range,List.range.loop,if_true,List.drop_succ_cons,List.drop_zero,hv0,hv1,hv2,hv3,hv4]
  clear hv hv0 hv1 hv2 hv3 hv4
  simp[Act.put]
  have HKW:=Lib.hid (HK.out.call hG)
  have HBW:=Lib.hid (below_call HBY.out hG)
  have hgl:g<w'.heap.size:=HKW.out.lt
  have kc:=HKW.out.cell
  have kf:=HKW.out.frozen
  have HKS:Hid (Blk (w'.setCell ⟨g,5,none⟩ (.int .u64 sm)) g 69 #[i (n+1),i at_,.string who,.string what,.string on_,.int .u64 sm]):=by show Blk _ _ _ _;simpa using HKW.out.set_ 5 (.int .u64 sm)
  have HBS:Hid (Below w.heap.size w (w'.setCell ⟨g,5,none⟩ (.int .u64 sm))):=HBW.out.setCell (p:=⟨g,5,none⟩) HG.out _
  clear hG
  go_wp2_with (at_make;go_loud (refine wpList_makeC rfl (.tmp 66) (.tmp 68) 45 rfl 69 i0 _ 6 Tryz.underlying45 hi0 hz0 hz1 (by omega) _ _ n (n+1) rfl rfl rfl (by simp) (by omega) (by omega) ?_))
  intro w7 cur hk7 hs7 hb7
  have hsz:(w'.setCell ⟨g,5,none⟩ (.int .u64 sm)).heap.size=w'.heap.size:=by simp
  rw[←hsz] at hb7
  have HS7:Hid (w.heap.size≤w'.heap.size):=HBW.out.size
  have HB7:=Lib.hid (below_call HBS.out hb7)
  have HK7:=Lib.hid (HKS.out.call hb7)
  have HC7:=Lib.hid hk7
  have HSL:=Lib.hid (HL.out.call HB7.out)
  clear hsz hb7 HKW HBW HKS HBS
  generalize w'.heap.size=g7 at *
  clear  hk7 kc kf
  have HGL:Hid (g<g7):=hgl
  go_wp2_with (((refine wpList_copyC rfl (.tmp 70) (.tmp 71) 45 rfl 69 i0 6 (by omega) Tryz.underlying45 hi0 hz1 g7 n (n+1) cur A c l rfl rfl HC7.out hs7 (by omega) (by unfold maxLen;omega) HSL.out Lns_one g7 (Nat.le_refl _) ?_)))
  intro w8 ho8 hb8
  obtain⟨xs,ho9,hfit⟩:=append_fits (x:=⟨n+1,at_,who,what,on_,sm⟩) HN.out.symm ho8
  have HO9:=Lib.hid ho9
  have HF:=Lib.hid hfit
  have HB8:Hid (Below w.heap.size w w8):=HB7.out.trans (hb8.mono (by have:=HS7.out;exact this))
  have HK8:Hid (Blk w8 g 69 #[i (n+1),i at_,.string who,.string what,.string on_,.int .u64 sm]):=by
   show _=_
   rw[hb8.block g HGL.out]
   exact HK7.out
  have kc:=HK8.out.cell
  clear ho9 hfit ho8 hb8
  have HO10:=Lib.hid (ownsRow_call HO9.out (below_new w8 (.cells #[i (n+1),i at_,.string who,.string what,.string on_,.int .u64 sm] 69)))
  go_wp2_with (at_builtin;go_loud (refine wpList_append_own_spare _ rfl (.tmp 73) (.tmp 75) 45 rfl g7 69 i0 6 Tryz.underlying45 hi0 hz1 g7 n (n+1) xs rfl HO10.out ⟨w8.heap.size,0,none⟩ 1 1 (lnA ⟨n+1,at_,who,what,on_,sm⟩).toList rfl rfl (blk_cells (Blk.new w8 _ _)) (Ln_one _) (by omega) ?_))
  intro w9 ho11 hg11
  have HB9:Hid (Below w.heap.size w w9):=(below_alloc HB8.out _).grown hg11 (below_alloc HB8.out _).size (fun k hk=>by obtain rfl:=oi hk;exact HS7.out)
  have HR9:=Lib.hid (Own.lower (HF.out w9 ho11 HZ.out.1 HZ.out.2.1 HZ.out.2.2) HS7.out)
  go_wp2_with fail
  go_ret2
  have e:=HN.out
  subst e
  exact⟨HB9,.inr ⟨⟨l.length+1,at_,who,what,on_,sm⟩,g7,rfl,rfl,rfl,rfl,HCH.out,HR9⟩⟩
end Ver
namespace Sy
open Go.RowKit
section
variable{W0:World}{T:Nat→Prop}{w:World}
theorem lineSum_u64(pv sq at_:Int)(s1 s2 s3:ByteArray):0≤EncW.jb pv sq at_ s1 s2 s3∧EncW.jb pv sq at_ s1 s2 s3≤18446744073709551615:=by
 unfold EncW.jb Sip.sum Sip.fin
 exact⟨bits_lo_u64 _ _ _,bits_hi_u64 _ _ _⟩
theorem lines_len(l:List Cen.Ln):(l.flatMap (fun x=>(Cen.lnA x).toList)).length=l.length*6:=by
 induction l with
 | nil=>rfl
 | cons x l ih=>rw[List.flatMap_cons,List.length_append,ih,List.length_cons];simp;omega
theorem lines_at{l:List Cen.Ln}{j o:Nat}{x:Cen.Ln}{u:Value}(hx:l[j]? = some x)(hu:(Cen.lnA x).toList[o]? = some u):(l.flatMap (fun x=>(Cen.lnA x).toList))[j*6+o]? = some u:=by
 induction l generalizing j with
 | nil=>simp at hx
 | cons y l ih=>
   have h6:(Cen.lnA y).toList.length=6:=rfl
   have ho:o<6:=by
    have:=(List.getElem?_eq_some_iff.1 hu).1
    simpa using this
   rw[List.flatMap_cons]
   cases j with
   | zero=>
     simp at hx
     subst hx
     rw[List.getElem?_append_left (by rw[h6];omega),Nat.zero_mul,Nat.zero_add]
     exact hu
   | succ j=>
     rw[List.getElem?_append_right (by rw[h6];omega),h6,show(j+1)*6+o-6=j*6+o by omega]
     exact ih (by simpa using hx)
theorem lines_get{l:List Cen.Ln}{k:Nat}{u:Value}(h:(l.flatMap (fun x=>(Cen.lnA x).toList))[k]? = some u):∃x,l[k/6]? = some x∧(Cen.lnA x).toList[k%6]? = some u:=by
 have hk:=(List.getElem?_eq_some_iff.1 h).1
 rw[lines_len] at hk
 have hj:k/6<l.length:=by omega
 have hm:k%6<(Cen.lnA l[k/6]).toList.length:=by show _<6;omega
 have h2:=lines_at (List.getElem?_eq_getElem hj) (List.getElem?_eq_getElem hm)
 rw[show k/6*6+k%6=k by omega,h] at h2
 exact⟨_,List.getElem?_eq_getElem hj,by rw[List.getElem?_eq_getElem hm];exact h2.symm⟩
theorem line_cv{l:List Cen.Ln}{k:Nat}{x:Cen.Ln}(h:Ver.OkLn l k x)(hk:k≤4096){o:Nat}{u:Value}(hu:(Cen.lnA x).toList[o]? = some u){w:World}{base:Nat} :
  ∃ct,([.fz (.int .i64),.fz (.int .i64),.fz .str,.fz .str,.fz .str,.fz (.int .u64)]:List CT)[o]? = some ct∧CV cx.tb W0 T w base ct u:=by
 have ho:o<6:=by
  have:=(List.getElem?_eq_some_iff.1 hu).1
  simpa using this
 have hml:maxLen=9223372036854775807:=by decide
 obtain⟨a1,a2,a3,a4,a5,a6,a7,a8⟩:=h
 have ho':o=0∨o=1∨o=2∨o=3∨o=4∨o=5:=by omega
 rcases ho' with rfl|rfl|rfl|rfl|rfl|rfl<;>(cases hu;refine⟨_,rfl,?_⟩)
 ·exact⟨_,rfl,by show(-9223372036854775808:Int)≤_;omega,by show _≤(9223372036854775807:Int);omega⟩
 ·exact⟨_,rfl,by show(-9223372036854775808:Int)≤_;omega,by show _≤(9223372036854775807:Int);omega⟩
 ·exact⟨_,rfl,by omega⟩
 ·exact⟨_,rfl,by omega⟩
 ·exact⟨_,rfl,by omega⟩
 ·obtain⟨b1,b2⟩:=lineSum_u64 (Ver.ahead l k).1 x.sq x.at_ x.who x.what x.on_
  rw[←a8] at b1 b2
  exact⟨_,rfl,by show(0:Int)≤_;omega,by show _≤(18446744073709551615:Int);omega⟩
theorem lns_at{lb base:Nat}{v:Value}(h:CV cx.tb W0 T w base (.cs 0 69 lb) v):∃l,Cen.LnsAt w v l∧Ver.Chain l:=by
 rcases h with rfl|⟨b,off,n,c,cs,fr,rfl,h1,h2,h3,h4,h5,h6,h7,h8,h9,l,h10,h11⟩
 ·exact⟨[],SliceAt.nil,Ver.Chain.nil⟩
 ·have hsz:cx.tb.sz 69=6:=rfl
  rw[hsz] at h6 h9 h10
  have hn:n=l.length:=by
   have e:=congrArg List.length h10
   rw[lines_len,List.length_take,List.length_drop,Array.length_toList,Nat.min_eq_left (by have:=Nat.mul_le_mul_right 6 h1;omega)] at e
   omega
  subst hn
  refine⟨l,⟨_,c,rfl,h1,h3,(fun e=>by cases e),fun j x hx=>⟨b,off,(Cen.lnA x).toList,rfl,rfl,?_,fun o u hu=>?_⟩⟩,h11⟩
  ·have ok:=h11.2 j x hx
   have hml:maxLen=9223372036854775807:=by decide
   exact⟨rfl,by have:=ok.who;omega,by have:=ok.what;omega,by have:=ok.on_;omega⟩
  ·have hg:=lines_at hx hu
   rw[←h10] at hg
   obtain⟨hlt,-⟩:=List.getElem?_eq_some_iff.1 hg
   rw[List.length_take] at hlt
   rw[List.getElem?_take,if_pos (by omega),List.getElem?_drop,Array.getElem?_toList] at hg
   rw[cell_of_row w b _ cs 69 fr h8,←Nat.add_assoc] at *
   exact hg
theorem lines_join(hw:WT cx.tb W0 T w){B b n:Nat}(hB:W0.heap.size≤B){l:List Cen.Ln}(hn:n=l.length)(ho:Ver.OwnL B w (.slice (some ⟨b,0,none⟩) n n) l)(hc:Ver.Chain l)(base:Nat) :
  ∃b',B≤b'∧WT cx.tb W0 (add T b') w∧Ext T w (add T b') w∧CV cx.tb W0 (add T b') w base (.cs 0 69 8192) (.slice (some ⟨b,0,none⟩) n n):=by
 subst hn
 obtain⟨rs,⟨h1,h2⟩,h3⟩:=ho
 rcases h2 with⟨e,-⟩|⟨g,cap,cur,e,hg,hh,-,hm,hs,ht⟩
 ·cases e
 injection e with e1 e2 e3
 injection e1 with e1
 injection e1 with e1
 subst e1 e3
 have hrs:rs.flatten=l.flatMap (fun x=>(Cen.lnA x).toList):=by
  have hr:rs=l.map (fun x=>(Cen.lnA x).toList):=by
   apply List.ext_getElem?
   intro j
   rw[List.getElem?_map]
   cases hx:l[j]? with
   | none=>
     have:=List.getElem?_eq_none_iff.1 hx
     simp[h3.1,this]
   | some x=>
     have hj:=(List.getElem?_eq_some_iff.1 hx).1
     have hj2:j<rs.length:=by rw[h3.1];exact hj
     have:=(h3.2 j _ _ (List.getElem?_eq_getElem hj2) hx).2.1
     rw[List.getElem?_eq_getElem hj2,this]
     rfl
  rw[hr,List.flatMap_def]
 have hcur:cur.toList=l.flatMap (fun x=>(Cen.lnA x).toList):=by
  rw[←hrs,←ht,List.take_of_length_le (by rw[Array.length_toList,hs];exact Nat.le_refl _)]
 have hcell:∀(i:Nat) (v:Value),cur[i]? = some v→∃ct,([.fz (.int .i64),.fz (.int .i64),.fz .str,.fz .str,.fz .str,.fz (.int .u64)]:List CT)[i%6]? = some ct∧CV cx.tb W0 T w 0 ct v:=by
  intro i v hv
  rw[←Array.getElem?_toList,hcur] at hv
  obtain⟨x,hx,hu⟩:=lines_get hv
  have hlt:=(List.getElem?_eq_some_iff.1 hx).1
  exact line_cv (hc.2 _ x hx) (by have:=hc.1;omega) hu
 obtain⟨j1,j2⟩:=hw.join (tb:=cx.tb) (Nat.le_trans hB hg) hh (.inl rfl) (show cx.tb.flat 69=some [.fz (.int .i64),.fz (.int .i64),.fz .str,.fz .str,.fz .str,.fz (.int .u64)] from rfl) (by decide) hcell (ix_no rfl cur)
 refine⟨b,hg,j1,j2,.inr ⟨b,0,_,_,cur,(0,0),rfl,Nat.le_refl _,by have:=hc.1;omega,hm,.inr rfl,by decide,by decide,by decide,hh,?_,l,?_,hc⟩⟩
 ·show 0+l.length*6≤_
  omega
 ·rw[List.drop_zero,hcur,List.take_of_length_le (by rw[lines_len];exact Nat.le_refl _)]
def c31':Ctr:=⟨[.one (.cs 0 69 8192),.one (full .i64),.one (.str maxLen),.one (.str maxLen),.one (.str maxLen)],[],[.one (.cs 0 69 8192),.one (full .i64)],[],true,none⟩
theorem append_holds:Holds Tryz.prog cx W0 31 c31':=by
 refine⟨⟨_,Tryz.func31,by kernel_rfl,by kernel_rfl⟩,fun T w args hw hty _=>?_⟩
 have hlen:=yt hty
 obtain⟨v,u1,u2,u3,u4,e⟩:∃v u1 u2 u3 u4,args=#[v,u1,u2,u3,u4]:=by
  obtain⟨l⟩:=args
  rcases l with _|⟨a,_|⟨b,_|⟨c,_|⟨d,_|⟨e,_|⟨f,l⟩⟩⟩⟩⟩⟩<;>first|(simp[c31'] at hlen;done)|exact⟨_,_,_,_,_,rfl⟩
 subst e
 obtain⟨hv,⟨at_,rfl,q1,q2⟩,⟨who,rfl,s1⟩,⟨what,rfl,s2⟩,⟨on_,rfl,s3⟩,-⟩:=hty
 obtain⟨l,hl,hc⟩:=lns_at (show CV cx.tb W0 T w w.heap.size (.cs 0 69 8192) v from hv)
 obtain⟨A,c,rfl,-⟩:=SliceAt.form hl
 refine(Ver.append_ A l.length c l at_ who what on_ w hl hc ⟨q1,q2⟩ s1 s2 s3).mono ?_
 rintro e w' ⟨hb,⟨k,k1,k2,rfl⟩|⟨x,b,rfl,x1,x2,x3,hch,hown⟩⟩
 ·obtain⟨w1,w2⟩:=zu hw hb.out
  have hv':CV cx.tb W0 T w' w.heap.size (.cs 0 69 8192) (.slice A l.length c):=CV.mono (show CV cx.tb W0 T w w.heap.size (.cs 0 69 8192) (.slice A l.length c) from hv) w2 (Nat.le_refl _)
  refine⟨_,[.slice A l.length c,.int .i64 k],T,rfl,rfl,⟨hv',⟨k,rfl,by show(-9223372036854775808:Int)≤k;omega,by show k≤(9223372036854775807:Int);omega⟩,trivial⟩,(fun l hl=>by cases hl),(fun e he=>by cases he),yx hw hb.out,w1⟩
 ·obtain⟨w1,w2⟩:=zu hw hb.out
  obtain⟨b',hb',j1,j2,j3⟩:=lines_join (n:=l.length+1) w1 hw.size (by simp) hown.out hch w.heap.size
  have hh:=yx (PU:=true) hw hb.out
  refine⟨_,[.slice (some ⟨b,0,none⟩) (l.length+1) (l.length+1),.int .i64 0],add T b',rfl,rfl,⟨j3,⟨0,rfl,by decide,by decide⟩,trivial⟩,(fun l hl=>by cases hl),(fun e he=>by cases he),?_,j1⟩
  exact⟨w2.trans j2,(fun g hg=>by rcases hg with hg|rfl;exact .inl hg;exact .inr hb'),hh.size,hh.os,hh.tape,hh.output,hh.keep⟩
end
end Sy
namespace Reg5
open Go.RowKit Reg4
def noCall:Op→Bool
 | .call _=>false
 | .defer _=>false
 | _=>true
def callB(ops:Array Oper)(m:Nat):Bool:=(List.range m).all (fun k=>match ops[k]? with|some o=>noCall o.op|none=>true)
def StepIn(R:Value→World→Prop):Result Next→Prop
 | .ok (.value v) w'=>R v w'
 | .ok .skip w'=>R undef w'
 | _=>False
section
variable{F:Fence}{n:Nat}{P:Program}{ops:Array Oper}{Q:Exit→Act→World→Prop}{m:Nat}{a0:Act}{G:World→Prop}{Φ:Nat→Value→World→Prop}
theorem seqIn:∀(l:List Oper) (k:Nat) (listed:Array Bool) (a:Act) (w:World),(∀j,l[j]? = ops[k+j]?) →
  Region.seqB .any ops l.length k listed=true→wpListIn F n P ops Q l a w→wpAnyIn F n P .any ops Q l.length listed a w
 | [],_,_,_,_,_,hB,h=>⟨by simpa[Region.seqB] using hB,h⟩
 | o::l,k,listed,a,w,hl,hB,h=>by
   have h0:ops[k]? = some o:=by simpa using(hl 0).symm
   simp only[List.length_cons,Region.seqB,Bool.and_eq_true,decide_eq_true_eq] at hB
   refine⟨fun h1=>(by rw[hB.1] at h1;cases h1),fun i hi=>?_⟩
   rw[hB.1] at hi
   have hik:i=k:=by simpa using hi
   subst hik
   have hw:wpOpIn F n P ops Q i (wpListIn F n P ops Q l) a w:=by unfold wpOpIn;simp only[h0];exact h
   exact wpOpIn_mono (fun a' w' h'=>seqIn l (i+1) _ a' w' (fun j=>by have:=hl (j+1);simpa[Nat.add_assoc,Nat.add_comm 1 j] using this) hB.2 h') hw
structure Inv(ops:Array Oper)(m:Nat)(a0:Act)(G:World→Prop)(Φ:Nat→Value→World→Prop)(vals:Nat→Value)(listed:Array Bool)(a:Act)(w:World):Prop where
 size:listed.size=ops.size
 tail:∀i,m≤i→i<ops.size→listed.getD i true=false
 act:a=puts ops vals (fun k=>listed.getD k false) (List.range m) a0
 g:G w
 phi:∀k,k<m→listed.getD k false=true→Φ k (vals k) w
 down:∀(k:Nat) (o:Oper),ops[k]? = some o→listed.getD k false=true→∀e∈o.after,Region.binds .any e=true→listed.getD e.on false=true
theorem main(hH:headB ops m=true)(hnc:callB ops m=true)(hin:∀k d,k<m→dstOf ops k=some d→d<a0.tmps.size)
  (hstep:∀i o,i<m→ops[i]? = some o→∀(a:Act) (w:World),G w→(∀d,Operand.tmp d∈o.op.operands→TmpOk ops m a0 Φ w d (a.tmps.getD d undef)) →
    StepIn (fun v w'=>G w'∧Φ i v w'∧∀k u,k<m→k≠i→reaches ops ops.size k i=false→Φ k u w→Φ k u w') ((execOp a.eval o).run P w))
  (hfin:∀(vals:Nat→Value) (w:World),G w→(∀k,k<m→Φ k (vals k) w)→wpListIn F n P ops Q (ops.toList.drop m) (puts ops vals (fun _=>true) (List.range m) a0) w) :
  ∀(c:Nat) (vals:Nat→Value) (listed:Array Bool) (a:Act) (w:World),Inv ops m a0 G Φ vals listed a w→left m listed=c→wpAnyIn F n P .any ops Q (c+(ops.size-m)) listed a w:=by
 simp only[headB,Bool.and_eq_true,decide_eq_true_eq,List.all_eq_true,List.mem_range,Bool.or_eq_true] at hH
 obtain⟨⟨⟨hmn,hop⟩,htail⟩,hseq⟩:=hH
 have hopx:∀i o,i<m→ops[i]? = some o→o.guard=none∧(∀e∈o.after,Region.binds .any e=true→e.on<i)∧(∀d,Operand.tmp d∈o.op.operands→∀k,k<m→dstOf ops k=some d→waits o k=true)∧(∀k,k<m→k≠i→∀d,dstOf ops i=some d→dstOf ops k≠some d):=by
  intro i o hi ho
  have h:=hop i hi
  unfold opB at h
  rw[ho] at h
  simp only[Bool.and_eq_true,Option.isNone_iff_eq_none,Array.all_eq_true_iff_forall_mem,decide_eq_true_eq,List.all_eq_true,List.mem_range,Bool.or_eq_true,bne_iff_ne,beq_iff_eq] at h
  obtain⟨⟨⟨h1,h2⟩,h3⟩,h4⟩:=h
  refine⟨h1,fun e he hb=>(h2 e he).resolve_left (by rw[hb];decide),fun d hd k hk hkd=>?_,fun k hk hne d hd hkd=>?_⟩
  ·have:=h3 _ hd
   simp only[List.all_eq_true,List.mem_range,Bool.or_eq_true,bne_iff_ne] at this
   rcases this k hk with h|h
   ·exact absurd hkd h
   ·exact h
  ·rcases h4 k hk with(h|h)|h
   ·exact hne h
   ·rw[h] at hd;cases hd
   ·rw[hd,hkd] at h;exact h rfl
 intro c
 induction c with
 | zero=>
   intro vals listed a w inv hc
   have hall:∀k,k<m→listed.getD k false=true:=by
    intro k hk
    unfold left at hc
    have:=List.eq_nil_of_length_eq_zero hc
    have h2:=List.filter_eq_nil_iff.1 this k (List.mem_range.2 hk)
    simpa using h2
   have hl:listed=marks m ops.size:=by
    refine Array.ext (by simp[marks,inv.size];omega) (fun k h1 h2=>?_)
    by_cases hk:k<m
    ·have e1:=hall k hk
     rw[Array.getD_eq_getD_getElem?,Array.getElem?_eq_getElem h1] at e1
     have e2:(marks m ops.size)[k]=true:=by simp[marks,hk]
     rw[e2];simpa using e1
    ·have e1:=inv.tail k (by omega) (by rw[←inv.size];exact h1)
     rw[Array.getD_eq_getD_getElem?,Array.getElem?_eq_getElem h1] at e1
     have e2:(marks m ops.size)[k]=false:=by simp[marks,Array.getElem_append,hk]
     rw[e2];simpa using e1
   have ha:a=puts ops vals (fun _=>true) (List.range m) a0:=by
    rw[inv.act]
    exact puts_congr _ _ (fun k hk=>⟨hall k (List.mem_range.1 hk),rfl⟩)
   subst ha
   have hlen:(ops.toList.drop m).length=ops.size-m:=by simp
   have:=seqIn (F:=F) (n:=n) (Q:=Q) (P:=P) (ops:=ops) (ops.toList.drop m) m listed _ w (fun j=>by simp) (by rw[hlen,hl];exact hseq) (hfin vals w inv.g (fun k hk=>inv.phi k hk (hall k hk)))
   rw[hlen] at this
   rw[Nat.zero_add]
   exact this
 | succ c ih=>
   intro vals listed a w inv hc
   rw[show c+1+(ops.size-m)=(c+(ops.size-m))+1 by omega]
   have hex:∃i,i<m∧listed.getD i false=false:=by
    unfold left at hc
    rcases hl:(List.range m).filter (fun k=>!listed.getD k false) with _|⟨i,l⟩
    ·rw[hl] at hc;simp at hc
    ·have:i∈(List.range m).filter (fun k=>!listed.getD k false):=by rw[hl];simp
     rw[List.mem_filter,List.mem_range] at this
     exact⟨i,this.1,by simpa using this.2⟩
   refine⟨fun hr=>?_,fun i hi=>?_⟩
   ·
    exfalso
    obtain⟨i,⟨hi,hu⟩,hmin⟩:∃i,(i<m∧listed.getD i false=false)∧∀j,j<i→listed.getD j false=true:=by
     obtain⟨i,hi,hu⟩:=hex
     induction i using Nat.strongRecOn with
     | _ i ihs=>
       by_cases hb:∃j,j<i∧listed.getD j false=false
       ·obtain⟨j,hj,hju⟩:=hb
        exact ihs j hj (by omega) hju
       ·exact⟨i,⟨hi,hu⟩,fun j hj=>by
         cases hv:listed.getD j false with
         | true=>rfl
         | false=>exact absurd ⟨j,hj,hv⟩ hb⟩
    have ho:∃o,ops[i]? = some o:=⟨ops[i]'(by omega),Array.getElem?_eq_getElem _⟩
    obtain⟨o,ho⟩:=ho
    have:i∈Region.ready .any ops listed:=mem_ready.2 ⟨by rw[getD_tf _ _ (by rw[inv.size];omega)];exact hu,o,ho,fun e he hb=>hmin _ ((hopx i o hi ho).2.1 e he hb)⟩
    rw[hr] at this
    cases this
   ·obtain⟨hu,o,ho,hed⟩:=mem_ready.1 hi
    have hin':i<ops.size:=(Array.getElem?_eq_some_iff.1 ho).1
    have his:i<listed.size:=by rw[inv.size];exact hin'
    have hu':listed.getD i false=false:=by rw[←getD_tf _ _ his];exact hu
    have him:i<m:=by
     rcases Nat.lt_or_ge i m with h|h
     ·exact h
     ·exfalso
      obtain⟨k,hk,hku⟩:=hex
      have ht:=htail i hin'
      rcases ht with ht|ht
      ·omega
      ·unfold tailB at ht
       simp only[List.all_eq_true,List.mem_range] at ht
       have:=reach_listed inv.down _ i o k ho hed (ht k hk)
       rw[hku] at this
       cases this
    obtain⟨g1,g2,g3,g4⟩:=hopx i o him ho
    have hstep':=hstep i o him ho a w inv.g (fun d hx=>by
     unfold TmpOk
     split
     ·rename_i k hk
      unfold idxOf at hk
      have hkm:k<m:=List.mem_range.1 (List.mem_of_find?_eq_some hk)
      have hkd:dstOf ops k=some d:=by simpa using List.find?_some hk
      have hw:=g3 d hx k hkm hkd
      unfold waits at hw
      rw[Array.any_eq_true'] at hw
      obtain⟨e,he,hb⟩:=hw
      simp only[Bool.and_eq_true,beq_iff_eq] at hb
      have hlk:=hed e he hb.1
      rw[hb.2] at hlk
      have:a.tmps.getD d undef=vals k:=by
       rw[inv.act]
       refine puts_at hkd hlk (List.range m) a0 List.nodup_range (List.mem_range.2 hkm) (hin k d hkm hkd) (fun j hj hne hjd=>?_)
       have hj':j<m:=List.mem_range.1 hj
       have hoj:∃oj,ops[j]? = some oj:=⟨ops[j]'(by omega),Array.getElem?_eq_getElem _⟩
       obtain⟨oj,hoj⟩:=hoj
       exact(hopx j oj hj' hoj).2.2.2 k hkm (fun e=>hne e.symm) d hjd hkd
      rw[this]
      exact inv.phi k hkm hlk
     ·rename_i hk
      unfold idxOf at hk
      have hno:∀k∈List.range m,dstOf ops k≠some d:=fun k hk'=>by
       have:=List.find?_eq_none.1 hk k hk'
       simpa using this
      rw[inv.act]
      exact puts_none _ _ hno)
    have hK:∀(v:Value) (w':World),(G w'∧Φ i v w'∧∀k u,k<m→k≠i→reaches ops ops.size k i=false→Φ k u w→Φ k u w')→wpAnyIn F n P .any ops Q (c+(ops.size-m)) (listed.setIfInBounds i true) (a.put o.dst v) w':=by
     rintro v w' ⟨hG,hΦ,hkeep⟩
     refine ih (fun k=>if k=i then v else vals k) _ _ _ ⟨by simp[inv.size],fun j hj hjn=>?_,?_,hG,fun k hk hlk=>?_,fun k ok hok hlk e he hbe=>?_⟩ ?_
     ·rw[getD_set _ _ _ _ his,if_neg (by omega)]
      exact inv.tail j hj hjn
     ·have hdst:o.dst=dstOf ops i:=by unfold dstOf;rw[ho];rfl
      rw[hdst,inv.act,←puts_ins (List.range m) a0 List.nodup_range (List.mem_range.2 him) hu' (fun k hk hne d h1=>g4 k (List.mem_range.1 hk) hne d h1)]
      refine puts_congr _ _ (fun k hk=>⟨?_,rfl⟩)
      rw[getD_set _ _ _ _ his]
      by_cases e:k=i
      ·simp[e]
      ·simp[e]
     ·by_cases e:k=i
      ·subst e;simpa using hΦ
      ·rw[getD_set _ _ _ _ his,if_neg e] at hlk
       simp only[if_neg e]
       refine hkeep k _ hk e ?_ (inv.phi k hk hlk)
       cases hr:reaches ops ops.size k i with
       | false=>rfl
       | true=>
         have hok:∃ok,ops[k]? = some ok:=⟨ops[k]'(by omega),Array.getElem?_eq_getElem _⟩
         obtain⟨ok,hok⟩:=hok
         have:=reach_listed inv.down _ k ok i hok (fun e he hb=>inv.down k ok hok hlk e he hb) hr
         rw[hu'] at this
         cases this
     ·have hlo:listed.getD e.on false=true:=by
       by_cases ek:k=i
       ·subst ek
        rw[ho] at hok
        injection hok with hok
        subst hok
        exact hed e he hbe
       ·rw[getD_set _ _ _ _ his,if_neg ek] at hlk
        exact inv.down k ok hok hlk e he hbe
      rw[getD_set _ _ _ _ his]
      split
      ·rfl
      ·exact hlo
     ·have:=left_set (m:=m) him his hu'
      omega
    unfold wpOpIn
    rw[ho]
    have hwant:Region.wanted o (yielded ops a.tmps)=true:=by simp[Region.wanted,g1]
    simp only[hwant,if_true]
    have hc:=List.all_eq_true.1 hnc i (List.mem_range.2 him)
    rw[ho] at hc
    refine⟨fun f hf=>?_,?_⟩
    ·exfalso
     unfold Oper.about at hf
     cases hop':o.op<;>simp[hop',noCall] at hc hf
    rw[Oper.semAt_eq _ _ _ (fun c h=>by simp[h,noCall] at hc)]
    generalize (execOp a.eval o).run P w=r at hstep'
    cases r with
    | ok nx w'=>
      cases nx<;>simp only[StepIn] at hstep'<;>simp only[Oper.uponIn]
      ·exact hK _ _ hstep'
      ·exact hK _ _ hstep'
    | halt x w'=>simp only[StepIn] at hstep'
theorem region{id:Nat}{w:World}(m:Nat)(G:World→Prop)(Φ:Nat→Value→World→Prop)(hm:P.follows .mixedOrders=true)(hH:headB ops m=true)(hnc:callB ops m=true)(hin:∀k d,k<m→dstOf ops k=some d→d<a0.tmps.size)(hG:G w.drew)
  (hstep:∀i o,i<m→ops[i]? = some o→∀(a:Act) (w:World),G w→(∀d,Operand.tmp d∈o.op.operands→TmpOk ops m a0 Φ w d (a.tmps.getD d undef)) →
    StepIn (fun v w'=>G w'∧Φ i v w'∧∀k u,k<m→k≠i→reaches ops ops.size k i=false→Φ k u w→Φ k u w') ((execOp a.eval o).run P w))
  (hfin:∀(vals:Nat→Value) (w:World),G w→(∀k,k<m→Φ k (vals k) w)→wpListIn F n P ops Q (ops.toList.drop m) (puts ops vals (fun _=>true) (List.range m) a0) w) :
  (Code.region id ops true).wpIn F n P Q a0 w:=by
 refine wpIn_region_any hm ?_
 have hmn:m≤ops.size:=by
  simp only[headB,Bool.and_eq_true,decide_eq_true_eq] at hH
  exact hH.1.1.1
 have hz:∀k b,k<ops.size→(Array.replicate ops.size false).getD k b=false:=fun k b hk=>by
  rw[Array.getD_eq_getD_getElem?,Array.getElem?_replicate,if_pos hk];rfl
 have hl:left m (Array.replicate ops.size false)=m:=by
  unfold left
  rw[List.filter_eq_self.2 (fun k hk=>by rw[hz k false (by have:=List.mem_range.1 hk;omega)];rfl),List.length_range]
 have:=main (F:=F) (n:=n) (P:=P) (Q:=Q) (a0:=a0) (G:=G) (Φ:=Φ) hH hnc hin hstep hfin m (fun _=>undef) (Array.replicate ops.size false) a0 w.drew ⟨by simp,fun i _ hi=>hz i true hi,?_,hG,fun k hk h=>?_,fun k o ho h=>?_⟩ hl
 ·rw[show m+(ops.size-m)=ops.size by omega] at this
  exact this
 ·have:∀(ks:List Nat) (a:Act),(∀k∈ks,k<ops.size)→puts ops (fun _=>undef) (fun k=>(Array.replicate ops.size false).getD k false) ks a=a:=by
   intro ks
   induction ks with
   | nil=>intro a _;rfl
   | cons k ks ih=>
     intro a h
     unfold puts
     rw[hz k false (h k (by simp))]
     exact ih a (fun j hj=>h j (by simp[hj]))
  exact(this _ _ (fun k hk=>by have:=List.mem_range.1 hk;omega)).symm
 ·rw[hz k false (by omega)] at h;cases h
 ·rw[hz k false (Array.getElem?_eq_some_iff.1 ho).1] at h;cases h
theorem quiet{id:Nat}{w:World}(m:Nat)(tbl:Nat→Value)(hm:P.follows .mixedOrders=true)(hH:headB ops m=true)(hnc:callB ops m=true)(hin:∀k d,k<m→dstOf ops k=some d→d<a0.tmps.size)
  (hstep:∀i o,i<m→ops[i]? = some o→∀(a:Act),(∀d,Operand.tmp d∈o.op.operands→a.tmps.getD d undef=(match idxOf ops m d with|some k=>tbl k|none=>a0.tmps.getD d undef))→(execOp a.eval o).run P w.drew=.ok (.value (tbl i)) w.drew)
  (hfin:wpListIn F n P ops Q (ops.toList.drop m) (puts ops tbl (fun _=>true) (List.range m) a0) w.drew) :
  (Code.region id ops true).wpIn F n P Q a0 w:=by
 refine region m (fun w'=>w'=w.drew) (fun k v _=>v=tbl k) hm hH hnc hin rfl ?_ ?_
 ·rintro i o hi ho a w' rfl hop
  rw[hstep i o hi ho a (fun d hd=>by
   have:=hop d hd
   unfold TmpOk at this
   split at this
   ·rename_i h;rw[h];exact this
   ·rename_i h;rw[h];exact this)]
  exact⟨rfl,rfl,fun _ _ _ _ _ h=>h⟩
 ·rintro vals w' rfl hΦ
  rw[puts_congr (vals':=tbl) (L':=fun _=>true) (List.range m) a0 (fun k hk=>⟨rfl,hΦ k (List.mem_range.1 hk)⟩)]
  exact hfin
end
end Reg5
end Go.Proofs.YtmadfhgiaonnlaaGreatDoor
