import Derived.Deep.WholeRow
import Derived.Test.YtmadfhgiaonnlaaGreatDoorPk35
set_option linter.unusedVariables false
set_option linter.unusedSimpArgs false
namespace Go.Proofs.YtmadfhgiaonnlaaGreatDoor
namespace Sy
open Go.RowKit Go.ChangeShapes Go.WideShapes Go.ChangeAt Go.Joins Go.Deep
inductive RV(tb:Tab)(W0:World):CT→Value→Prop
 | int {k:IntKind} {lo hi n:Int} (h1:lo≤n) (h2:n≤hi):RV tb W0 (.int k lo hi) (.int k n)
 | bool {b:Bool}:RV tb W0 .bool (.bool b)
 | str {lb:Nat} {s:ByteArray} (h:s.size≤lb):RV tb W0 (.str lb) (.string s)
 | nil {m lb:Nat} {e:TypeId}:RV tb W0 (.sl m e lb) (.slice none 0 0)
 | emp {m lb:Nat} {e:TypeId} (a:Addr):RV tb W0 (.sl m e lb) (.slice (some a) 0 0)
 | sl {m lb b off n c:Nat} {e:TypeId} (f:Nat→Nat→Value) (hb:b<W0.heap.size) (hn:n≤c) (hc:c≤maxLen) (hs:0<tb.sz e)
    (hf:∀j k,j<n→k<tb.sz e→W0.cell? ⟨b,off+j*tb.sz e+k,none⟩=some (f j k)) (ht:∀j k ct,j<n→((tb.flat e).getD [])[k]? = some ct→RV tb W0 ct (f j k)) :
    RV tb W0 (.sl m e lb) (.slice (some ⟨b,off,none⟩) n c)
def fldAt(tb:Tab)(fs:List (TypeId×Nat))(l:List CT)(i:Nat):Bool:=fs.any fun p=>match tb.flat p.1 with
 | some lf=>decide (p.2≤i) && decide (i<p.2+lf.length) && decide (lf[i-p.2]? = l[i]?)
 | none=>false
def rdB(cx:Cx):Nat→TypeId→Bool
 | 0,_=>false
 | n+1,t=>match tdOf cx t,cx.tb.flat t with
   | some d,some l=>decide (d.size=l.length) && match d.k,l with
     | .int k,[ct]=>decide (ct=full k)
     | .bool,[ct]=>decide (ct=.bool)
     | .str,[ct]=>decide (ct=.str maxLen)
     | .sl e,[.sl _ e' _]=>decide (e'=e) && rdB cx n e && decide (0<cx.tb.sz e)
     | .st fs,l=>fs.all (fun p=>rdB cx n p.1) && (List.range l.length).all (fldAt cx.tb fs l)
     | _,_=>false
   | _,_=>false
section
variable{H:Type}{enc:TypeId×Value→H}{P:Program}{cx:Cx}{w:World}{base:Nat}{spare:Nat→Bool}{held:Bool}
theorem cellsOf_td{t:TypeId}{d:TD}(h:TdOk P t d):P.cellsOf t=d.size:=by
 obtain⟨-,h2,-⟩:=h
 unfold Program.cellsOf
 cases hi:P.info? t with
 | none=>rw[hi] at h2;cases h2
 | some i=>
   rw[hi] at h2
   simp only[Option.map_some,Option.some.injEq,Prod.mk.injEq] at h2
   simpa using h2.1
theorem rv_of_trod(hcx:CxOk P cx)(hsp:∀b,spare b=true):∀(n:Nat) (t:TypeId),rdB cx n t=true→∀{fuel:Nat} {cs:List Value} {x:DataW H×List MemPlace},DataW.trod enc P w base spare held fuel t cs=some x→∀l,cx.tb.flat t=some l →
  P.cellsOf t=l.length∧cs.length=l.length∧∀(i:Nat) (ct:CT) (u:Value),l[i]? = some ct→cs[i]? = some u→RV cx.tb w ct u:=by
 intro n
 induction n with
 | zero=>intro t h;cases h
 | succ n ih=>
   intro t h fuel cs x hx l hl
   unfold rdB at h
   rw[hl] at h
   split at h
   ·rename_i d l' hd hl'
    cases hl'
    rw[Bool.and_eq_true,decide_eq_true_eq] at h
    obtain⟨hsz,h⟩:=h
    have htd:TdOk P t d:=hcx _ _ hd
    have hce:=cellsOf_td htd
    have hu1:=htd.1
    refine⟨hce.trans hsz,?_⟩
    cases hu:P.underlying t with
    | none=>rw[hu] at hu1;cases hu1
    | some u=>
      rw[hu] at hu1
      have hu1:KD.of u=d.k:=oi hu1
      split at h
      ·rename_i k ct hk
       have h:=of_decide_eq_true h
       subst h
       rw[hk] at hu1
       obtain rfl:u=.int k:=by cases u<;>simp_all [KD.of]
       obtain⟨z,rfl,-,hwf⟩:=DataW.trod_int hu hx
       refine⟨rfl,fun i ct v hi hv=>?_⟩
       match i,hi,hv with
       | 0,hi,hv=>
         cases hi;cases hv
         simp only[Lit.wf,Bool.and_eq_true,decide_eq_true_eq] at hwf
         exact .int hwf.1 hwf.2
      ·rename_i ct hk
       have h:=of_decide_eq_true h
       subst h
       rw[hk] at hu1
       obtain rfl:u=.bool:=by cases u<;>simp_all [KD.of]
       obtain⟨z,rfl,-⟩:=DataW.trod_bool hu hx
       refine⟨rfl,fun i ct v hi hv=>?_⟩
       match i,hi,hv with
       | 0,hi,hv=>cases hi;cases hv;exact .bool
      ·rename_i ct hk
       have h:=of_decide_eq_true h
       subst h
       rw[hk] at hu1
       obtain rfl:u=.string:=by cases u<;>simp_all [KD.of]
       obtain⟨z,rfl,-,hz⟩:=DataW.trod_string hu hx
       refine⟨rfl,fun i ct v hi hv=>?_⟩
       match i,hi,hv with
       | 0,hi,hv=>cases hi;cases hv;exact .str hz
      ·rename_i e m e' lb hk
       simp only[Bool.and_eq_true,decide_eq_true_eq] at h
       obtain⟨⟨rfl,hre⟩,hpos⟩:=h
       rw[hk] at hu1
       obtain rfl:u=.slice e':=by cases u<;>simp_all [KD.of]
       rcases open_slice hu hx with⟨rfl,-⟩|⟨a,len,cap,m',n',D,Pl,rfl,hb,hlc,hm,hmm,-,hi⟩
       ·refine⟨rfl,fun i ct v hi hv=>?_⟩
        match i,hi,hv with
        | 0,hi,hv=>cases hi;cases hv;exact .nil
       ·rw[hsp,if_pos rfl] at hmm
        subst hmm
        refine⟨rfl,fun i ct v hi' hv=>?_⟩
        match i,hi',hv with
        | 0,hi',hv=>
          cases hi';cases hv
          by_cases hc0:m'=0
          ·subst hc0
           obtain rfl:len=0:=by omega
           exact .emp a
          ·cases hfe:cx.tb.flat e' with
           | none=>simp[Tab.sz,hfe] at hpos
           | some le=>
             have hsze:cx.tb.sz e'=le.length:=by simp[Tab.sz,hfe]
             have hel:∀j,j<m'→∃cs':List Value,cs'.length=le.length∧(∀k,k<le.length→w.cell? ((a.add (j*le.length)).add k)=cs'[k]?)∧∀(k:Nat) (ct:CT) (u:Value),le[k]? = some ct→cs'[k]? = some u→RV cx.tb w ct u:=fun j hj=>by
              obtain⟨cs',hc',ht'⟩:=hi j hj
              obtain⟨q1,q2,q3⟩:=ih e' hre ht' le hfe
              rw[q1] at hc'
              obtain⟨-,-,hcc⟩:=World.cells?_some hc'
              exact⟨cs',q2,hcc,q3⟩
             have hle:0<le.length:=by omega
             obtain⟨b,off,sp⟩:=a
             obtain⟨cs0,z1,z2,-⟩:=hel 0 (by omega)
             have hc0':=z2 0 hle
             rw[List.getElem?_eq_getElem (by omega)] at hc0'
             have hsp':sp=none:=by
              have:=World.cell?_spot hc0'
              simpa[Addr.add] using this
             subst hsp'
             have hadd:∀j k:Nat,(((⟨b,off,none⟩:Addr).add (j*le.length)).add k)=⟨b,off+j*le.length+k,none⟩:=fun j k=>by rw[Addr.add_mid,Addr.add_mid]
             have hbl:b<w.heap.size:=by
              rw[hadd] at hc0'
              rcases Nat.lt_or_ge b w.heap.size with h1|h1
              ·exact h1
              ·simp[World.cell?,Array.getElem?_eq_none h1] at hc0'
             obtain⟨F,hF⟩:=Classical.axiomOfChoice (fun j:Nat=>(show ∃cs':List Value,j<m'→cs'.length=le.length∧(∀k,k<le.length→w.cell? (((⟨b,off,none⟩:Addr).add (j*le.length)).add k)=cs'[k]?)∧∀(k:Nat) (ct:CT) (u:Value),le[k]? = some ct→cs'[k]? = some u→RV cx.tb w ct u from by
              by_cases hj:j<m'
              ·obtain⟨cs',h⟩:=hel j hj
               exact⟨cs',fun _=>h⟩
              ·exact⟨[],fun h=>absurd h hj⟩))
             refine .sl (fun j k=>(F j).getD k undef) hbl hlc hm hpos (fun j k hj hk'=>?_) (fun j k ct hj hct=>?_)
             ·rw[hsze] at hk' ⊢
              obtain⟨f1,f2,f3⟩:=hF j (by omega)
              rw[←hadd,f2 k hk',List.getD_eq_getElem?_getD,List.getElem?_eq_getElem (by omega)];rfl
             ·rw[hfe] at hct
              have hct:le[k]? = some ct:=hct
              obtain⟨f1,f2,f3⟩:=hF j (by omega)
              have hkl:=(List.getElem?_eq_some_iff.1 hct).1
              refine f3 k ct _ hct ?_
              rw[List.getD_eq_getElem?_getD,List.getElem?_eq_getElem (show k<(F j).length by omega)];rfl
      ·rename_i l0 fs hk
       rw[Bool.and_eq_true,List.all_eq_true,List.all_eq_true] at h
       obtain⟨h1,h2⟩:=h
       rw[hk] at hu1
       obtain⟨fa,rfl⟩:∃fa,u=.struct fa:=by cases u<;>simp_all [KD.of]
       obtain rfl:(fa.toList.map fun f=>(f.type,f.offset))=fs:=by simpa[KD.of] using hu1
       obtain⟨xs,n',-,-,hcl,hxl,hfld⟩:=DataW.trod_struct hu hx
       refine⟨hcl.trans (hce.trans hsz),fun i ct v hi hv=>?_⟩
       have hil:=(List.getElem?_eq_some_iff.1 hi).1
       have h3:=h2 i (List.mem_range.2 hil)
       unfold fldAt at h3
       rw[List.any_eq_true] at h3
       obtain⟨p,hp,h3⟩:=h3
       obtain⟨f,hf,rfl⟩:=List.mem_map.1 hp
       cases hff:cx.tb.flat f.type with
       | none=>rw[hff] at h3;cases h3
       | some lf=>
         rw[hff] at h3
         simp only[Bool.and_eq_true,decide_eq_true_eq] at h3
         obtain⟨⟨h4,h5⟩,h6⟩:=h3
         obtain⟨jf,hjf⟩:=List.getElem?_of_mem hf
         rw[Array.getElem?_toList] at hjf
         have ht:=hfld jf f hjf
         have hjx:jf<xs.length:=by rw[hxl];exact(Array.getElem?_eq_some_iff.1 hjf).1
         rw[List.getElem?_eq_getElem hjx] at ht
         obtain⟨q1,q2,q3⟩:=ih f.type (h1 _ hp) ht lf hff
         refine q3 (i-f.offset) ct v (by rw[h6];exact hi) ?_
         rw[q1,List.getElem?_take,if_pos (by omega),List.getElem?_drop,show f.offset+(i-f.offset)=i by omega]
         exact hv
      ·cases h
   ·cases h
end
open Go.RowKit Go.Great
section
variable{W0:World}{T:Nat→Prop}{w:World}
abbrev tyO:List CT:=[full .i64,full .i64,.str maxLen,.str maxLen,.str maxLen,.str maxLen,.str maxLen,full .i64,full .i64,full .i64,full .i64,full .i64,full .i64,full .i64,full .i64,full .i64,full .i64,full .i64,.str maxLen,.str maxLen,.str maxLen,.bool,.sl 0 156 1024,full .i64,full .i64,full .i64,full .i64,full .i64,.str maxLen,full .i64,full .i64,full .i64,full .i64,.sl 0 181 64,.sl 0 34 128]
theorem rd_ops:rdB cx 9 22=true:=by kernel_rfl
theorem rd_op:rdB cx 9 36=true:=by kernel_rfl
theorem lRun{P:Program}{ops:Array Oper}{rest:List Oper}{o:Oper}{a:Act}{w w':World}{Q:Exit→Act→World→Prop}(hg:o.guard=none)(v:Value)
  (hrun:(execOp a.eval o).run P w=.ok (.value v) w') (h:wpList P ops Q rest (a.put o.dst v) w'):wpList P ops Q (o::rest) a w:=by
 have hw:Region.wanted o (yielded ops a.tmps)=true:=by simp[Region.wanted,hg]
 unfold wpList
 rw[if_pos hw]
 unfold Oper.wp
 rw[hrun]
 exact .inl h
structure OpC(r:List Value):Prop where
 len:r.length=35
 one:∀u∈r,u.oneCell'=true
 sl:∀k,k=22∨k=33∨k=34→∃A m c,r[k]? = some (.slice A m c)
 st:∀k,k=2∨k=3∨k=18∨k=19∨k=20→∃s,r[k]? = some (.string s)
theorem RV.one{tb:Tab}{W:World}{ct:CT}{v:Value}(h:RV tb W ct v):v.oneCell'=true:=by cases h<;>rfl
structure SmallR(r:List Value):Prop where
 sl:∀k A m c,r[k]? = some (.slice A m c)→(k=22→m≤16)∧(k=34→m≤40)∧(k=33→m≤30)
theorem opC_of{r:List Value}(hl:r.length=35)(h:∀(k:Nat) (ct:CT) (u:Value),tyO[k]? = some ct→r[k]? = some u→RV cx.tb w ct u):OpC r:=by
 refine⟨hl,fun u hu=>?_,fun k hk=>?_,fun k hk=>?_⟩
 ·obtain⟨k,hk⟩:=List.getElem?_of_mem hu
  have hkl:=(List.getElem?_eq_some_iff.1 hk).1
  exact(h k _ u (List.getElem?_eq_getElem (show k<tyO.length by rw[hl] at hkl;exact hkl)) hk).one
 ·obtain⟨u,hu⟩:∃u,r[k]? = some u:=⟨_,List.getElem?_eq_getElem (show k<r.length by omega)⟩
  rw[hu]
  rcases hk with rfl|rfl|rfl
  all_goals
   have:=h _ _ _ rfl hu
   cases this<;>exact⟨_,_,_,rfl⟩
 ·obtain⟨u,hu⟩:∃u,r[k]? = some u:=⟨_,List.getElem?_eq_getElem (show k<r.length by omega)⟩
  rw[hu]
  rcases hk with rfl|rfl|rfl|rfl|rfl
  all_goals
   have:=h _ _ _ rfl hu
   cases this<;>exact⟨_,rfl⟩
def OpsAt(w:World)(A:Option Addr)(n:Nat)(F:Nat→List Value):Prop:=∀j,j<n→∃b off,A=some ⟨b,off,none⟩∧OpC (F j)∧∀W,Below w.heap.size w W→W.rangeAt b (off+j*35) (F j)
def SmPost(w:World)(n:Nat)(F:Nat→List Value)(e:Ending)(w':World):Prop:=∃q:Bool,e=.returned (.bool q)∧Hid (Below w.heap.size w w')∧(q=true→n≤80∧∀j,j<n→SmallR (F j))
set_option maxRecDepth 100000 in
set_option maxHeartbeats 4000000 in
theorem small_walk(A:Option Addr)(n c:Nat)(F:Nat→List Value)(w:World)(hn:n≤9223372036854775807)(hR:OpsAt w A n F) :
  Calls Tryz.prog 5 #[.slice A n c] w (SmPost w n F):=by
 have HR:=Lib.hid hR
 clear hR
 go_enter Tryz.func5,Tryz.ntmps5
 go_wp2_with fail
 go_loopg [7] n (fun gg s7 wr=>∃j:Nat,j+gg=n∧s7=.int .i64 j∧Hid (Below w.heap.size w wr)∧Hid (∀i,i<j→SmallR (F i)))
 case atStart=>exact⟨0,by omega,rfl,Lib.hid (Below.refl _ _),fun i h=>by omega⟩
 case round=>
  obtain⟨j,hj,rfl,HB,HS⟩:=hrel
  by_cases hjn:j<n
  ·obtain⟨b,off,rfl,hoc,hcl⟩:=HR.out j hjn
   have HCL:=Lib.hid (hcl wr HB.out)
   have hlen:=hoc.len
   obtain⟨A22,m22,c22,e22⟩:=hoc.sl 22 (by omega)
   obtain⟨A34,m34,c34,e34⟩:=hoc.sl 34 (by omega)
   obtain⟨A33,m33,c33,e33⟩:=hoc.sl 33 (by omega)
   obtain⟨s2,e2⟩:=hoc.st 2 (by omega)
   obtain⟨s3,e3⟩:=hoc.st 3 (by omega)
   obtain⟨s20,e20⟩:=hoc.st 20 (by omega)
   obtain⟨s19,e19⟩:=hoc.st 19 (by omega)
   obtain⟨s18,e18⟩:=hoc.st 18 (by omega)
   have hone:=hoc.one
   clear hcl hoc
   have HF:Hid (SmallR (F j)∨True):=.inr trivial
   have hltz:(j:Int)<(n:Int):=by omega
   have hj0:(0:Int)≤(j:Int):=by omega
   have e4:IntKind.i64.wrap ((j:Int)+1)=((j+1:Nat):Int):=by simp[IntKind.wrap,IntKind.bits,IntKind.signed];omega
   have HE:Hid ((F j)[22]? = some (.slice A22 m22 c22)∧(F j)[34]? = some (.slice A34 m34 c34)∧(F j)[33]? = some (.slice A33 m33 c33)):=⟨e22,e34,e33⟩
   go_upto_region 3 with(fail)
   refine wp_region_lit ?_
   refine lRun (w':=wr) rfl (.pointer (some ⟨b,off+j*35,none⟩)) (by go_simp) ?_
   refine wpList_load_mid rfl 36 (.tmp 9) rfl b (off+j*35) rfl (F j) _ HCL.out Tryz.underlying36 rfl (by rw[hlen];kernel_rfl) ?_
   refine lRun (w':=wr.alloc (.cells #[.int .i64 0,.int .i64 0,.string ⟨#[]⟩,.string ⟨#[]⟩,.string ⟨#[]⟩,.string ⟨#[]⟩,.string ⟨#[]⟩,.int .i64 0,.int .i64 0,.int .i64 0,.int .i64 0,.int .i64 0,.int .i64 0,.int .i64 0,.int .i64 0,.int .i64 0,.int .i64 0,.int .i64 0,.string ⟨#[]⟩,.string ⟨#[]⟩,.string ⟨#[]⟩,.bool false,.slice none 0 0,.int .i64 0,.int .i64 0,.int .i64 0,.int .i64 0,.int .i64 0,.string ⟨#[]⟩,.int .i64 0,.int .i64 0,.int .i64 0,.int .i64 0,.slice none 0 0,.slice none 0 0] 36)) rfl (.pointer (some ⟨wr.heap.size,0,none⟩)) (by kernel_rfl) ?_
   refine wpList_store_rowTo rfl 36 (.tmp 4) (.tmp 10) rfl rfl wr.heap.size (F j).toArray rfl rfl 36 #[.int .i64 0,.int .i64 0,.string ⟨#[]⟩,.string ⟨#[]⟩,.string ⟨#[]⟩,.string ⟨#[]⟩,.string ⟨#[]⟩,.int .i64 0,.int .i64 0,.int .i64 0,.int .i64 0,.int .i64 0,.int .i64 0,.int .i64 0,.int .i64 0,.int .i64 0,.int .i64 0,.int .i64 0,.string ⟨#[]⟩,.string ⟨#[]⟩,.string ⟨#[]⟩,.bool false,.slice none 0 0,.int .i64 0,.int .i64 0,.int .i64 0,.int .i64 0,.int .i64 0,.string ⟨#[]⟩,.int .i64 0,.int .i64 0,.int .i64 0,.int .i64 0,.slice none 0 0,.slice none 0 0] (heap_alloc_last _ _) (by simp only[List.size_toArray,hlen];kernel_rfl) (by simp only[List.size_toArray,hlen];rfl) (all_oneCell_toArray hone) ?_
   rw[World.setRow_alloc_new]
   have kb:=(YtmadfhgiaonnlaaGreatDoor.Blk.new wr 36 (F j).toArray)
   have k22:(wr.alloc (.cells (F j).toArray 36)).cell? ⟨wr.heap.size,22,none⟩=some (.slice A22 m22 c22):=(kb.cell 22).trans (by rw[List.getElem?_toArray];exact e22)
   have k34:(wr.alloc (.cells (F j).toArray 36)).cell? ⟨wr.heap.size,34,none⟩=some (.slice A34 m34 c34):=(kb.cell 34).trans (by rw[List.getElem?_toArray];exact e34)
   have k33:(wr.alloc (.cells (F j).toArray 36)).cell? ⟨wr.heap.size,33,none⟩=some (.slice A33 m33 c33):=(kb.cell 33).trans (by rw[List.getElem?_toArray];exact e33)
   have k2:(wr.alloc (.cells (F j).toArray 36)).cell? ⟨wr.heap.size,2,none⟩=some (.string s2):=(kb.cell 2).trans (by rw[List.getElem?_toArray];exact e2)
   have k3:(wr.alloc (.cells (F j).toArray 36)).cell? ⟨wr.heap.size,3,none⟩=some (.string s3):=(kb.cell 3).trans (by rw[List.getElem?_toArray];exact e3)
   have k20:(wr.alloc (.cells (F j).toArray 36)).cell? ⟨wr.heap.size,20,none⟩=some (.string s20):=(kb.cell 20).trans (by rw[List.getElem?_toArray];exact e20)
   have k19:(wr.alloc (.cells (F j).toArray 36)).cell? ⟨wr.heap.size,19,none⟩=some (.string s19):=(kb.cell 19).trans (by rw[List.getElem?_toArray];exact e19)
   have k18:(wr.alloc (.cells (F j).toArray 36)).cell? ⟨wr.heap.size,18,none⟩=some (.string s18):=(kb.cell 18).trans (by rw[List.getElem?_toArray];exact e18)
   have HBn:Hid (Below w.heap.size w (wr.alloc (.cells (F j).toArray 36))):=below_alloc HB.out _
   simp[Act.put]
   clear kb e22 e34 e33 e2 e3 e20 e19 e18
   generalize wr.alloc (.cells (F j).toArray 36)=w3 at *
   generalize wr.heap.size=g3 at *
   by_cases y22:16<m22
   ·have y22z:(16:Int)<(m22:Int):=by omega
    have y22d:decide ((16:Int)<(m22:Int))=true:=by rw[decide_eq_true_eq];omega
    have y22e:decide (16<m22)=true:=by rw[decide_eq_true_eq];omega
    go_wp2_with fail
    go_ret
    exact⟨false,rfl,HBn,fun h=>by cases h⟩
   have y22z:¬(16:Int)<(m22:Int):=by omega
   have y22d:decide ((16:Int)<(m22:Int))=false:=by rw[decide_eq_false_iff_not];omega
   have y22e:decide (16<m22)=false:=by rw[decide_eq_false_iff_not];omega
   by_cases y34:40<m34
   ·have y34z:(40:Int)<(m34:Int):=by omega
    have y34d:decide ((40:Int)<(m34:Int))=true:=by rw[decide_eq_true_eq];omega
    have y34e:decide (40<m34)=true:=by rw[decide_eq_true_eq];omega
    go_wp2_with fail
    go_ret
    exact⟨false,rfl,HBn,fun h=>by cases h⟩
   have y34z:¬(40:Int)<(m34:Int):=by omega
   have y34d:decide ((40:Int)<(m34:Int))=false:=by rw[decide_eq_false_iff_not];omega
   have y34e:decide (40<m34)=false:=by rw[decide_eq_false_iff_not];omega
   by_cases y33:30<m33
   ·have y33z:(30:Int)<(m33:Int):=by omega
    have y33d:decide ((30:Int)<(m33:Int))=true:=by rw[decide_eq_true_eq];omega
    have y33e:decide (30<m33)=true:=by rw[decide_eq_true_eq];omega
    go_wp2_with fail
    go_ret
    exact⟨false,rfl,HBn,fun h=>by cases h⟩
   have y33z:¬(30:Int)<(m33:Int):=by omega
   have y33d:decide ((30:Int)<(m33:Int))=false:=by rw[decide_eq_false_iff_not];omega
   have y33e:decide (30<m33)=false:=by rw[decide_eq_false_iff_not];omega
   by_cases y2:60<s2.size
   ·have y2z:(60:Int)<(s2.size:Int):=by omega
    have y2d:decide ((60:Int)<(s2.size:Int))=true:=by rw[decide_eq_true_eq];omega
    have y2e:decide (60<s2.size)=true:=by rw[decide_eq_true_eq];omega
    go_wp2_with fail
    go_ret
    exact⟨false,rfl,HBn,fun h=>by cases h⟩
   have y2z:¬(60:Int)<(s2.size:Int):=by omega
   have y2d:decide ((60:Int)<(s2.size:Int))=false:=by rw[decide_eq_false_iff_not];omega
   have y2e:decide (60<s2.size)=false:=by rw[decide_eq_false_iff_not];omega
   by_cases y3:60<s3.size
   ·have y3z:(60:Int)<(s3.size:Int):=by omega
    have y3d:decide ((60:Int)<(s3.size:Int))=true:=by rw[decide_eq_true_eq];omega
    have y3e:decide (60<s3.size)=true:=by rw[decide_eq_true_eq];omega
    go_wp2_with fail
    go_ret
    exact⟨false,rfl,HBn,fun h=>by cases h⟩
   have y3z:¬(60:Int)<(s3.size:Int):=by omega
   have y3d:decide ((60:Int)<(s3.size:Int))=false:=by rw[decide_eq_false_iff_not];omega
   have y3e:decide (60<s3.size)=false:=by rw[decide_eq_false_iff_not];omega
   by_cases y20:60<s20.size
   ·have y20z:(60:Int)<(s20.size:Int):=by omega
    have y20d:decide ((60:Int)<(s20.size:Int))=true:=by rw[decide_eq_true_eq];omega
    have y20e:decide (60<s20.size)=true:=by rw[decide_eq_true_eq];omega
    go_wp2_with fail
    go_ret
    exact⟨false,rfl,HBn,fun h=>by cases h⟩
   have y20z:¬(60:Int)<(s20.size:Int):=by omega
   have y20d:decide ((60:Int)<(s20.size:Int))=false:=by rw[decide_eq_false_iff_not];omega
   have y20e:decide (60<s20.size)=false:=by rw[decide_eq_false_iff_not];omega
   by_cases y19:60<s19.size
   ·have y19z:(60:Int)<(s19.size:Int):=by omega
    have y19d:decide ((60:Int)<(s19.size:Int))=true:=by rw[decide_eq_true_eq];omega
    have y19e:decide (60<s19.size)=true:=by rw[decide_eq_true_eq];omega
    go_wp2_with fail
    go_ret
    exact⟨false,rfl,HBn,fun h=>by cases h⟩
   have y19z:¬(60:Int)<(s19.size:Int):=by omega
   have y19d:decide ((60:Int)<(s19.size:Int))=false:=by rw[decide_eq_false_iff_not];omega
   have y19e:decide (60<s19.size)=false:=by rw[decide_eq_false_iff_not];omega
   by_cases y18:60<s18.size
   ·have y18z:(60:Int)<(s18.size:Int):=by omega
    have y18d:decide ((60:Int)<(s18.size:Int))=true:=by rw[decide_eq_true_eq];omega
    have y18e:decide (60<s18.size)=true:=by rw[decide_eq_true_eq];omega
    go_wp2_with fail
    go_ret
    exact⟨false,rfl,HBn,fun h=>by cases h⟩
   have y18z:¬(60:Int)<(s18.size:Int):=by omega
   have y18d:decide ((60:Int)<(s18.size:Int))=false:=by rw[decide_eq_false_iff_not];omega
   have y18e:decide (60<s18.size)=false:=by rw[decide_eq_false_iff_not];omega
   go_wp2_with fail
   go_roundg (n-(j+1))
   case measure=>omega
   case rel=>
    refine⟨j+1,by omega,by simp,HBn,fun i hi=>?_⟩
    by_cases hij:i<j
    ·exact HS.out i hij
    ·obtain rfl:i=j:=by omega
     obtain⟨h1,h2,h3⟩:=HE.out
     refine⟨fun k A m c hk=>⟨fun e=>?_,fun e=>?_,fun e=>?_⟩⟩
     ·subst e;rw[h1] at hk;cases hk;omega
     ·subst e;rw[h2] at hk;cases hk;omega
     ·subst e;rw[h3] at hk;cases hk;omega
  ·have hjn':n=j:=by omega
   subst hjn'
   by_cases y:n≤80
   ·have yz:(n:Int)≤80:=by omega
    have yd:decide ((n:Int)≤80)=true:=by rw[decide_eq_true_eq];omega
    have ye:decide (n≤80)=true:=by rw[decide_eq_true_eq];omega
    go_wp2_with fail
    go_ret
    exact⟨true,rfl,HB,fun _=>⟨y,HS.out⟩⟩
   ·have yz:¬(n:Int)≤80:=by omega
    have yd:decide ((n:Int)≤80)=false:=by rw[decide_eq_false_iff_not];omega
    have ye:decide (n≤80)=false:=by rw[decide_eq_false_iff_not];omega
    go_wp2_with fail
    go_ret
    exact⟨false,rfl,HB,fun h=>by cases h⟩
end
set_option maxRecDepth 100000
open Go.RowKit
section
variable{W0:World}{T T' T'':Nat→Prop}{w W W':World}{tb:Tab}
def plainCT:CT→Bool
 | .int _ _ _=>true
 | .bool=>true
 | .str _=>true
 | _=>false
theorem RV.av{ct:CT}{v:Value}(h:RV tb W0 ct v)(hp:plainCT ct=true):AV tb W0 ct v:=by
 cases h with
 | int h1 h2=>exact .int h1 h2
 | bool=>exact .bool
 | str h=>exact .str h
 | nil=>cases hp
 | emp=>cases hp
 | sl=>cases hp
theorem RV.avl{m lb n c:Nat}{e:TypeId}{A:Option Addr}(h:RV tb W0 (.sl m e lb) (.slice A n c))(hn:n≤lb)(hp:((tb.flat e).getD []).all plainCT=true):AV tb W0 (.sl 0 e lb) (.slice A n c):=by
 cases h with
 | nil=>exact .nil
 | emp a=>exact .emp a
 | sl f hb hn' hc hs hf ht=>exact .sl f hb hn' hn hc hs hf (fun j k ct hj hk=>(ht j k ct hj hk).av (List.all_eq_true.1 hp ct (List.mem_of_getElem? hk)))
theorem RV.slf{m lb:Nat}{e:TypeId}{v:Value}(h:RV tb W0 (.sl m e lb) v):∃A n c,v=.slice A n c∧n≤c∧c≤maxLen:=by
 cases h with
 | nil=>exact⟨_,_,_,rfl,Nat.le_refl _,Nat.zero_le _⟩
 | emp a=>exact⟨_,_,_,rfl,Nat.le_refl _,Nat.zero_le _⟩
 | sl f hb hn' hc hs hf ht=>exact⟨_,_,_,rfl,hn',hc⟩
theorem op_av{r:List Value}(h:∀(k:Nat) (ct:CT) (u:Value),tyO[k]? = some ct→r[k]? = some u→RV cx.tb W0 ct u)(hs:SmallR r)(k:Nat)(ct:CT)(u:Value)(hk:tyO[k]? = some ct)(hu:r[k]? = some u):AV cx.tb W0 ct u:=by
 have h1:=h k ct u hk hu
 by_cases hp:plainCT ct=true
 ·exact h1.av hp
 have hkl:k<35:=(List.getElem?_eq_some_iff.1 hk).1
 have hk3:k=22∨k=33∨k=34:=by
  have hq:∀k:Fin 35,plainCT ((tyO[k.1]?).getD .bool)=true∨k.1=22∨k.1=33∨k.1=34:=by decide
  have:=hq ⟨k,hkl⟩
  simp only[hk,Option.getD_some] at this
  exact this.resolve_left hp
 rcases hk3 with rfl|rfl|rfl
 ·cases hk
  obtain⟨A,n,c,rfl,-⟩:=h1.slf
  exact h1.avl (by have:=(hs.sl 22 A n c hu).1 rfl;omega) (by kernel_rfl)
 ·cases hk
  obtain⟨A,n,c,rfl,-⟩:=h1.slf
  exact h1.avl (by have:=(hs.sl 33 A n c hu).2.2 rfl;omega) (by kernel_rfl)
 ·cases hk
  obtain⟨A,n,c,rfl,-⟩:=h1.slf
  exact h1.avl (by have:=(hs.sl 34 A n c hu).2.1 rfl;omega) (by kernel_rfl)
theorem szO:cx.tb.sz 36=35:=by kernel_rfl
theorem flO:cx.tb.flat 36=some tyO:=by kernel_rfl
theorem ops_of_rv{m lb:Nat}{v:Value}(h:RV cx.tb w (.sl m 36 lb) v):∃A n c F,v=.slice A n c∧n≤9223372036854775807∧OpsAt w A n F∧((n≤80∧∀j,j<n→SmallR (F j))→80≤lb→AV cx.tb w (.sl 0 36 lb) (.slice A n c)):=by
 have hml:maxLen=9223372036854775807:=by decide
 cases h with
 | nil=>exact⟨none,0,0,fun _=>[],rfl,by omega,fun j hj=>by omega,fun _ _=>.nil⟩
 | emp a=>exact⟨some a,0,0,fun _=>[],rfl,by omega,fun j hj=>by omega,fun _ _=>.emp a⟩
 | sl f hb hn hc hs hf ht=>
   rename_i b off n c
   have hsz:=szO
   have hfl:=flO
   rw[hsz] at hf
   rw[hfl] at ht
   have hget:∀(j k:Nat) (u:Value),((List.range 35).map (f j))[k]? = some u→k<35∧u=f j k:=fun j k u hu=>by
    have hk:k<35:=by simpa using(List.getElem?_eq_some_iff.1 hu).1
    rw[List.getElem?_map,List.getElem?_range hk] at hu
    exact⟨hk,(oi hu).symm⟩
   have hty:∀j,j<n→∀(k:Nat) (ct:CT) (u:Value),tyO[k]? = some ct→((List.range 35).map (f j))[k]? = some u→RV cx.tb w ct u:=fun j hj k ct u hk hu=>by
    obtain⟨-,rfl⟩:=hget j k u hu
    exact ht j k ct hj hk
   refine⟨some ⟨b,off,none⟩,n,c,fun j=>(List.range 35).map (f j),rfl,by omega,fun j hj=>⟨b,off,rfl,opC_of (by simp) (hty j hj),fun W hB k u hu=>?_⟩,fun hsm hlb=>?_⟩
   ·obtain⟨hk,rfl⟩:=hget j k u hu
    have hc':=hf j k hj hk
    unfold World.cell? at hc' ⊢
    rw[hB.block b hb]
    exact hc'
   ·refine .sl f hb hn (by omega) hc (by rw[hsz];omega) (by rw[hsz];exact hf) (fun j k ct hj hk=>?_)
    rw[hfl] at hk
    have hk:tyO[k]? = some ct:=hk
    have hkl:k<35:=(List.getElem?_eq_some_iff.1 hk).1
    exact op_av (hty j hj) (hsm.2 j hj) k ct (f j k) hk (by rw[List.getElem?_map,List.getElem?_range hkl];rfl)
end
set_option maxRecDepth 100000
open Go.RowKit
section
variable{W0:World}{T:Nat→Prop}{w:World}
theorem rowsF_of{m lb n c base:Nat}{e:TypeId}{f:List CT}{A:Option Addr}(hw:WT cx.tb W0 T w)(hfl:cx.tb.flat e=some f)(h:CV cx.tb W0 T w base (.sl m e lb) (.slice A n c)) :
  ∃F:Nat→List Value,(∀j,j<n→(F j).length=f.length∧∀(k:Nat) (ct:CT) (u:Value),f[k]? = some ct→(F j)[k]? = some u→CV cx.tb W0 T w 0 ct u)∧RowsF w A n f.length F:=by
 obtain⟨F,hF⟩:=Classical.axiomOfChoice (fun j:Nat=>(show ∃r:List Value,j<n→∃b off,A=some ⟨b,off,none⟩∧r.length=f.length∧(∀(k:Nat) (ct:CT) (u:Value),f[k]? = some ct→r[k]? = some u→CV cx.tb W0 T w 0 ct u) ∧
  ∀W,Below w.heap.size w W→∀(o:Nat) (u:Value),r[o]? = some u→W.cell? ⟨b,off+j*f.length+o,none⟩=some u from by
  by_cases hj:j<n
  ·obtain⟨b,off,r,h1,h2,h3,h4⟩:=rows_at hw hfl h hj
   exact⟨r,fun _=>⟨b,off,h1,h2,h3,h4⟩⟩
  ·exact⟨[],fun h=>absurd h hj⟩))
 exact⟨F,fun j hj=>by obtain⟨b,off,h1,h2,h3,h4⟩:=hF j hj;exact⟨h2,h3⟩,fun j hj=>by obtain⟨b,off,h1,h2,h3,h4⟩:=hF j hj;exact⟨b,off,h1,h4⟩⟩
theorem two_of{r:List Value}(hl:r.length=2)(h:∀(k:Nat) (ct:CT) (u:Value),([full .i64,full .i64]:List CT)[k]? = some ct→r[k]? = some u→CV cx.tb W0 T w 0 ct u):∃x y:Int,r=[.int .i64 x,.int .i64 y]:=by
 rcases r with _|⟨a0,_|⟨a1,_|⟨a2,r⟩⟩⟩<;>first|(simp at hl;done)|skip
 obtain⟨x,rfl,-⟩:=h 0 _ _ rfl rfl
 obtain⟨y,rfl,-⟩:=h 1 _ _ rfl rfl
 exact⟨x,y,rfl⟩
theorem rds_of{m lb n c base:Nat}{e:TypeId}{A:Option Addr}(hw:WT cx.tb W0 T w)(hfl:cx.tb.flat e=some [full .i64,full .i64])(h:CV cx.tb W0 T w base (.sl m e lb) (.slice A n c)):∃f,Nbr.Rds w w.heap.size A n f:=by
 obtain⟨F,h1,h2⟩:=rowsF_of hw hfl h
 obtain⟨g,hg⟩:=Classical.axiomOfChoice (fun j:Nat=>(show ∃p:Int×Int,j<n→F j=[.int .i64 p.1,.int .i64 p.2] from by
  by_cases hj:j<n
  ·obtain⟨x,y,e⟩:=two_of (h1 j hj).1 (h1 j hj).2
   exact⟨(x,y),fun _=>e⟩
  ·exact⟨(0,0),fun h=>absurd h hj⟩))
 refine⟨g,fun j hj=>?_⟩
 obtain⟨b,off,e,hc⟩:=h2 j hj
 have c0:=hc w (Below.refl _ _) 0 (.int .i64 (g j).1) (by rw[hg j hj];rfl)
 have c1:=hc w (Below.refl _ _) 1 (.int .i64 (g j).2) (by rw[hg j hj];rfl)
 refine⟨b,off,e,?_,c0,c1⟩
 rcases Nat.lt_or_ge b w.heap.size with h1|h1
 ·exact h1
 ·simp[World.cell?,Array.getElem?_eq_none h1] at c0
theorem tks_of{m lb n c base:Nat}{A:Option Addr}(hw:WT cx.tb W0 T w)(h:CV cx.tb W0 T w base (.sl m 34 lb) (.slice A n c)):∃F,(∀j,j<n→TkC (F j))∧RowsF w A n 6 F:=by
 obtain⟨F,h1,h2⟩:=rowsF_of hw (e:=34) rfl h
 refine⟨F,fun j hj=>?_,h2⟩
 obtain⟨hl,ht⟩:=h1 j hj
 have hl:(F j).length=6:=hl
 rcases hF:F j with _|⟨a0,_|⟨a1,_|⟨a2,_|⟨a3,_|⟨a4,_|⟨a5,_|⟨a6,r⟩⟩⟩⟩⟩⟩⟩<;>rw[hF] at hl ht<;>first|(simp at hl;done)|skip
 obtain⟨s0,rfl,-⟩:=ht 0 _ _ rfl rfl
 obtain⟨s1,rfl,-⟩:=ht 1 _ _ rfl rfl
 obtain⟨s2,rfl,-⟩:=ht 2 _ _ rfl rfl
 obtain⟨n3,rfl,-⟩:=ht 3 _ _ rfl rfl
 obtain⟨n4,rfl,-⟩:=ht 4 _ _ rfl rfl
 obtain⟨n5,rfl,-⟩:=ht 5 _ _ rfl rfl
 exact⟨s0,s1,s2,n3,n4,n5,rfl⟩
theorem ints_of{m lb n c base:Nat}{A:Option Addr}(hw:WT cx.tb W0 T w)(h:CV cx.tb W0 T w base (.sl m 3 lb) (.slice A n c)):∃F,(∀j,j<n→IntC (F j))∧RowsF w A n 1 F:=by
 obtain⟨F,h1,h2⟩:=rowsF_of hw (e:=3) rfl h
 refine⟨F,fun j hj=>?_,h2⟩
 obtain⟨hl,ht⟩:=h1 j hj
 have hl:(F j).length=1:=hl
 rcases hF:F j with _|⟨a0,_|⟨a1,r⟩⟩<;>rw[hF] at hl ht<;>first|(simp at hl;done)|skip
 obtain⟨n3,rfl,-⟩:=ht 0 _ _ rfl rfl
 exact⟨n3,rfl⟩
theorem lns_of{q lb base n c:Nat}{A:Option Addr}(hw:WT cx.tb W0 T w)(h:CV cx.tb W0 T w base (.cs q 69 lb) (.slice A n c)):∃F,(∀j,j<n→LnC (F j))∧RowsF w A n 6 F:=by
 obtain⟨F,h1,h2⟩:=rowsF_of hw (e:=69) rfl h.sl_of
 refine⟨F,fun j hj=>?_,h2⟩
 obtain⟨hl,ht⟩:=h1 j hj
 have hl:(F j).length=6:=hl
 rcases hF:F j with _|⟨a0,_|⟨a1,_|⟨a2,_|⟨a3,_|⟨a4,_|⟨a5,_|⟨a6,r⟩⟩⟩⟩⟩⟩⟩<;>rw[hF] at hl ht<;>first|(simp at hl;done)|skip
 obtain⟨n0,rfl,-⟩:=ht 0 _ _ rfl rfl
 obtain⟨n1,rfl,-⟩:=ht 1 _ _ rfl rfl
 obtain⟨s2,rfl,-⟩:=ht 2 _ _ rfl rfl
 obtain⟨s3,rfl,-⟩:=ht 3 _ _ rfl rfl
 obtain⟨s4,rfl,-⟩:=ht 4 _ _ rfl rfl
 obtain⟨n5,rfl,-⟩:=ht 5 _ _ rfl rfl
 exact⟨n0,n1,s2,s3,s4,n5,rfl⟩
theorem rows2_of{m lb n c base:Nat}{e:TypeId}{f:List CT}{A:Option Addr}{R:List Value→List Value→Prop}(hw:WT cx.tb W0 T w)(hfl:cx.tb.flat e=some f)(h:CV cx.tb W0 T w base (.sl m e lb) (.slice A n c))
  (hR:∀r:List Value,r.length=f.length→(∀(k:Nat) (ct:CT) (u:Value),f[k]? = some ct→r[k]? = some u→CV cx.tb W0 T w 0 ct u)→R r r):Rows2 w A A n f.length R:=fun j hj=>by
 obtain⟨b,off,r,h1,h2,h3,h4⟩:=rows_at hw hfl h hj
 exact⟨b,off,b,off,r,r,h1,h1,hR r h2 h3,h4,h4⟩
theorem mg_self(hw:WT cx.tb W0 T w)(r:List Value)(hl:r.length=25)(h:∀(k:Nat) (ct:CT) (u:Value),tyM[k]? = some ct→r[k]? = some u→CV cx.tb W0 T w 0 ct u):MgE w r r:=by
 rcases r with _|⟨a0,_|⟨a1,_|⟨a2,_|⟨a3,_|⟨a4,_|⟨a5,_|⟨a6,_|⟨a7,_|⟨a8,_|⟨a9,_|⟨a10,_|⟨a11,_|⟨a12,_|⟨a13,_|⟨a14,_|⟨a15,_|⟨a16,_|⟨a17,_|⟨a18,_|⟨a19,_|⟨a20,_|⟨a21,_|⟨a22,_|⟨a23,_|⟨a24,_|⟨a25,r⟩⟩⟩⟩⟩⟩⟩⟩⟩⟩⟩⟩⟩⟩⟩⟩⟩⟩⟩⟩⟩⟩⟩⟩⟩⟩<;>first|(simp at hl;done)|skip
 obtain⟨n0,rfl,-⟩:=h 0 _ _ rfl rfl
 obtain⟨n1,rfl,-⟩:=h 1 _ _ rfl rfl
 obtain⟨n2,rfl,-⟩:=h 2 _ _ rfl rfl
 obtain⟨n3,rfl,-⟩:=h 3 _ _ rfl rfl
 obtain⟨n4,rfl,-⟩:=h 4 _ _ rfl rfl
 obtain⟨n5,rfl,-⟩:=h 5 _ _ rfl rfl
 obtain⟨n6,rfl,-⟩:=h 6 _ _ rfl rfl
 obtain⟨n7,rfl,-⟩:=h 7 _ _ rfl rfl
 obtain⟨s8,rfl,-⟩:=h 8 _ _ rfl rfl
 obtain⟨s9,rfl,-⟩:=h 9 _ _ rfl rfl
 obtain⟨s10,rfl,-⟩:=h 10 _ _ rfl rfl
 obtain⟨b11,rfl⟩:=h 11 _ _ rfl rfl
 have t12:=h 12 _ _ rfl rfl
 obtain⟨A12,m12,c12,rfl,z12⟩:=zy t12
 obtain⟨n13,rfl,-⟩:=h 13 _ _ rfl rfl
 obtain⟨n14,rfl,-⟩:=h 14 _ _ rfl rfl
 obtain⟨n15,rfl,-⟩:=h 15 _ _ rfl rfl
 obtain⟨n16,rfl,-⟩:=h 16 _ _ rfl rfl
 obtain⟨n17,rfl,-⟩:=h 17 _ _ rfl rfl
 obtain⟨s18,rfl,-⟩:=h 18 _ _ rfl rfl
 obtain⟨n19,rfl,-⟩:=h 19 _ _ rfl rfl
 obtain⟨n20,rfl,-⟩:=h 20 _ _ rfl rfl
 obtain⟨n21,rfl,-⟩:=h 21 _ _ rfl rfl
 obtain⟨n22,rfl,-⟩:=h 22 _ _ rfl rfl
 have t23:=h 23 _ _ rfl rfl
 obtain⟨A23,m23,c23,rfl,z23⟩:=zy t23
 have t24:=h 24 _ _ rfl rfl
 obtain⟨A24,m24,c24,rfl,z24⟩:=zy t24
 obtain⟨f1,r1⟩:=rds_of hw (e:=156) rfl t12
 obtain⟨f2,r2⟩:=rds_of hw (e:=181) rfl t23
 obtain⟨f3,t3,r3⟩:=tks_of hw t24
 exact⟨n0,n1,n2,n3,n4,n5,n6,n7,s8,s9,s10,b11,A12,A12,m12,c12,c12,n13,n14,n15,n16,n17,s18,n19,n20,n21,n22,A23,A23,m23,c23,c23,A24,A24,m24,c24,c24,f1,f2,f3,rfl,rfl,by omega,by omega,by omega,r1,r1,r2,r2,t3,r3,r3⟩
theorem mgs_self{m lb n c base:Nat}{A:Option Addr}(hw:WT cx.tb W0 T w)(h:CV cx.tb W0 T w base (.sl m 31 lb) (.slice A n c)):Rows2 w A A n 25 (MgE w):=rows2_of hw (e:=31) rfl h (fun r hl ht=>mg_self hw r hl ht)
theorem kn_self(hw:WT cx.tb W0 T w)(r:List Value)(hl:r.length=13)(h:∀(k:Nat) (ct:CT) (u:Value),([.str maxLen,.bool,full .i64,.sl 1 3 1048576,full .i64,full .i64,full .i64,full .i64,.sl 1 31 1024,.sl 1 31 1024,full .i64,full .i64,.sl 1 31 1024]:List CT)[k]? = some ct→r[k]? = some u→CV cx.tb W0 T w 0 ct u):KnE w r r:=by
 rcases r with _|⟨a0,_|⟨a1,_|⟨a2,_|⟨a3,_|⟨a4,_|⟨a5,_|⟨a6,_|⟨a7,_|⟨a8,_|⟨a9,_|⟨a10,_|⟨a11,_|⟨a12,_|⟨a13,r⟩⟩⟩⟩⟩⟩⟩⟩⟩⟩⟩⟩⟩⟩<;>first|(simp at hl;done)|skip
 obtain⟨s0,rfl,-⟩:=h 0 _ _ rfl rfl
 obtain⟨b1,rfl⟩:=h 1 _ _ rfl rfl
 obtain⟨n2,rfl,-⟩:=h 2 _ _ rfl rfl
 have t3:=h 3 _ _ rfl rfl
 obtain⟨A3,m3,c3,rfl,z3⟩:=zy t3
 obtain⟨n4,rfl,-⟩:=h 4 _ _ rfl rfl
 obtain⟨n5,rfl,-⟩:=h 5 _ _ rfl rfl
 obtain⟨n6,rfl,-⟩:=h 6 _ _ rfl rfl
 obtain⟨n7,rfl,-⟩:=h 7 _ _ rfl rfl
 have t8:=h 8 _ _ rfl rfl
 obtain⟨A8,m8,c8,rfl,z8⟩:=zy t8
 have t9:=h 9 _ _ rfl rfl
 obtain⟨A9,m9,c9,rfl,z9⟩:=zy t9
 obtain⟨n10,rfl,-⟩:=h 10 _ _ rfl rfl
 obtain⟨n11,rfl,-⟩:=h 11 _ _ rfl rfl
 have t12:=h 12 _ _ rfl rfl
 obtain⟨A12,m12,c12,rfl,z12⟩:=zy t12
 obtain⟨f3,t3',r3⟩:=ints_of hw t3
 exact⟨s0,b1,n2,A3,A3,m3,c3,c3,n4,n5,n6,n7,A8,A8,m8,c8,c8,A9,A9,m9,c9,c9,n10,n11,A12,A12,m12,c12,c12,f3,rfl,rfl,by omega,t3',r3,r3,n5,n6,n7,A8,A8,m8,c8,c8,A9,A9,m9,c9,c9,n10,n11,A12,A12,m12,c12,c12,rfl,rfl,by omega,by omega,by omega,mgs_self hw t8,mgs_self hw t9,mgs_self hw t12⟩
theorem ev_self(hw:WT cx.tb W0 T w)(r:List Value)(hl:r.length=10)(h:∀(k:Nat) (ct:CT) (u:Value),([.str maxLen,.str maxLen,full .i64,full .i64,full .i64,full .i64,.str maxLen,.bool,full .i64,.sl 0 156 1024]:List CT)[k]? = some ct→r[k]? = some u→CV cx.tb W0 T w 0 ct u):EvE w r r:=by
 rcases r with _|⟨a0,_|⟨a1,_|⟨a2,_|⟨a3,_|⟨a4,_|⟨a5,_|⟨a6,_|⟨a7,_|⟨a8,_|⟨a9,_|⟨a10,r⟩⟩⟩⟩⟩⟩⟩⟩⟩⟩⟩<;>first|(simp at hl;done)|skip
 obtain⟨s0,rfl,-⟩:=h 0 _ _ rfl rfl
 obtain⟨s1,rfl,-⟩:=h 1 _ _ rfl rfl
 obtain⟨n2,rfl,-⟩:=h 2 _ _ rfl rfl
 obtain⟨n3,rfl,-⟩:=h 3 _ _ rfl rfl
 obtain⟨n4,rfl,-⟩:=h 4 _ _ rfl rfl
 obtain⟨n5,rfl,-⟩:=h 5 _ _ rfl rfl
 obtain⟨s6,rfl,-⟩:=h 6 _ _ rfl rfl
 obtain⟨b7,rfl⟩:=h 7 _ _ rfl rfl
 obtain⟨n8,rfl,-⟩:=h 8 _ _ rfl rfl
 have t9:=h 9 _ _ rfl rfl
 obtain⟨A9,m9,c9,rfl,z9⟩:=zy t9
 obtain⟨f,r⟩:=rds_of hw (e:=156) rfl t9
 exact⟨s0,s1,n2,n3,n4,n5,s6,b7,n8,A9,A9,m9,c9,c9,f,rfl,rfl,by omega,r,r⟩
theorem rc_self(hw:WT cx.tb W0 T w)(r:List Value)(hl:r.length=11)(h:∀(k:Nat) (ct:CT) (u:Value),([.str maxLen,.str maxLen,full .i64,.str maxLen,full .i64,full .i64,.sl 0 156 1024,full .i64,full .i64,.bool,.bool]:List CT)[k]? = some ct→r[k]? = some u→CV cx.tb W0 T w 0 ct u):RcE w r r:=by
 rcases r with _|⟨a0,_|⟨a1,_|⟨a2,_|⟨a3,_|⟨a4,_|⟨a5,_|⟨a6,_|⟨a7,_|⟨a8,_|⟨a9,_|⟨a10,_|⟨a11,r⟩⟩⟩⟩⟩⟩⟩⟩⟩⟩⟩⟩<;>first|(simp at hl;done)|skip
 obtain⟨s0,rfl,-⟩:=h 0 _ _ rfl rfl
 obtain⟨s1,rfl,-⟩:=h 1 _ _ rfl rfl
 obtain⟨n2,rfl,-⟩:=h 2 _ _ rfl rfl
 obtain⟨s3,rfl,-⟩:=h 3 _ _ rfl rfl
 obtain⟨n4,rfl,-⟩:=h 4 _ _ rfl rfl
 obtain⟨n5,rfl,-⟩:=h 5 _ _ rfl rfl
 have t6:=h 6 _ _ rfl rfl
 obtain⟨A6,m6,c6,rfl,z6⟩:=zy t6
 obtain⟨n7,rfl,-⟩:=h 7 _ _ rfl rfl
 obtain⟨n8,rfl,-⟩:=h 8 _ _ rfl rfl
 obtain⟨b9,rfl⟩:=h 9 _ _ rfl rfl
 obtain⟨b10,rfl⟩:=h 10 _ _ rfl rfl
 obtain⟨f,r⟩:=rds_of hw (e:=156) rfl t6
 exact⟨s0,s1,n2,s3,n4,n5,A6,A6,m6,c6,c6,n7,n8,b9,b10,f,rfl,rfl,by omega,r,r⟩
theorem ce_self{base:Nat}(hw:WT cx.tb W0 T w){cs:Array Value}(h:TyVal cx.tb W0 T w base (.agg tyC) (.agg cs)):CeE w cs cs:=by
 obtain⟨n0,A1,m1,c1,A2,m2,c2,A3,m3,c3,A4,m4,c4,n5,A6,m6,c6,A7,m7,c7,A8,m8,c8,A9,m9,c9,A10,m10,c10,n11,n12,rfl⟩:=cen_lit h
 obtain⟨cs',e,-,ha⟩:=h
 cases e
 have t1:CV cx.tb W0 T w base (.sl 1 84 63) (.slice A1 m1 c1):=ha 1 _ _ rfl rfl
 have t2:CV cx.tb W0 T w base (.sl 1 34 128) (.slice A2 m2 c2):=ha 2 _ _ rfl rfl
 have t6:CV cx.tb W0 T w base (.sl 1 95 8192) (.slice A6 m6 c6):=ha 6 _ _ rfl rfl
 have t7:CV cx.tb W0 T w base (.sl 1 98 1024) (.slice A7 m7 c7):=ha 7 _ _ rfl rfl
 have t8:CV cx.tb W0 T w base (.cs 0 69 8192) (.slice A8 m8 c8):=ha 8 _ _ rfl rfl
 obtain⟨_,_,_,e1,z1⟩:=zy t1
 cases e1
 obtain⟨_,_,_,e1,z2⟩:=zy t2
 cases e1
 obtain⟨_,_,_,e1,z6⟩:=zy t6
 cases e1
 obtain⟨_,_,_,e1,z7⟩:=zy t7
 cases e1
 obtain⟨_,_,_,e1,z8⟩:=cs_form t8
 cases e1
 obtain⟨ft,u1,u2⟩:=tks_of hw t2
 obtain⟨fl,u3,u4⟩:=lns_of hw t8
 exact⟨n0,A1,A1,m1,c1,c1,A2,A2,m2,c2,c2,A3,A3,m3,c3,m3,c3,A4,A4,m4,c4,m4,c4,n5,A6,A6,m6,c6,c6,A7,A7,m7,c7,c7,A8,A8,m8,c8,c8,A9,A9,m9,c9,m9,c9,A10,A10,m10,c10,m10,c10,n11,n12,ft,fl,rfl,rfl,⟨by omega,by omega,by omega,by omega,by omega⟩,
  rows2_of hw (e:=84) rfl t1 (fun r hl ht=>kn_self hw r hl ht),u1,u2,u2,rows2_of hw (e:=95) rfl t6 (fun r hl ht=>ev_self hw r hl ht),rows2_of hw (e:=98) rfl t7 (fun r hl ht=>rc_self hw r hl ht),u3,u4,u4⟩
end
end Sy
namespace Ev
set_option maxRecDepth 1000000
open Go.RowKit
def kn(f:FuncId)(args:List XV):Option Value:=if f=29 then(match args with
 | [.v (.one (.con (.string s)))]=>if s.size≤1000000 then some (.bool (IdW.x8 s)) else none
 | _=>none) else none
theorem kn_ok:KnOk Tryz.prog kn:=by
 intro f args v h
 unfold kn at h
 split at h
 ·rename_i hf
  subst hf
  split at h
  ·rename_i s
   split at h
   ·rename_i hs
    cases h
    refine⟨⟨_,Tryz.func29,by kernel_rfl,by kernel_rfl⟩,fun σ w=>?_⟩
    exact IdW.valid_ s w (by have:maxLen=9223372036854775807:=by decide
                             omega)
   ·cases h
  ·cases h
 ·cases h
def isTrue:Option (XV×St)→Bool
 | some (.v (.one (.con (.bool b))),_)=>b
 | _=>false
theorem isTrue_ok{o:Option (XV×St)}(h:isTrue o=true):∃S,o=some (.v (.one (.con (.bool true))),S):=by
 unfold isTrue at h
 split at h
 ·subst h;exact⟨_,rfl⟩
 ·cases h
theorem example51(w:World):Calls Tryz.prog 6 #[] w fun e w'=>e=.returned (.bool true)∧Below w.heap.size w w':=by
 obtain⟨S,h⟩:=isTrue_ok (o:=runX Tryz.prog Sy.cx kn 100 20 6 [] emptyS) (by kernel_rfl)
 exact run_calls kn_ok Sy.cxOk Sy.mixed h w
end Ev
end Go.Proofs.YtmadfhgiaonnlaaGreatDoor
