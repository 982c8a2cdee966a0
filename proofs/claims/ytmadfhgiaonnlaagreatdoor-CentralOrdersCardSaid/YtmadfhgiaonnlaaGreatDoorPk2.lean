import Derived.Laws.OwnMore
import Derived.Deep.Draws
import Derived.Laws.Rows
import Derived.ChangeSame
import Derived.Lib.Hide
import Derived.Carry
import Derived.ProofKit
import Derived.OpenShut
import Derived.Lib.SmallJoins
import Derived.Laws.Cells
import Derived.Deep.Slices
import Derived.Deep.Fields
import Derived.OwnWalk
import Derived.WalkKit
import Derived.Maps.AppendAt
import Derived.StillTail
import Derived.Lib.Mul64
import Derived.Test.YtmadfhgiaonnlaaGreatDoorProg
import Derived.Deep.QuietTactic
import Derived.BigQuiet
import Derived.Outline
import Derived.Laws.Bits64b
import Derived.Laws.Externs
import Derived.Lib.Tables
import Derived.Deep.Cut
import Derived.Deep.LoopGhost
import Derived.Test.YtmadfhgiaonnlaaGreatDoorPk1
set_option linter.unusedVariables false
set_option linter.unusedSimpArgs false
namespace Go.Proofs.YtmadfhgiaonnlaaGreatDoor
open Go.RowKit Go.WideShapes Go.ChangeShapes
def Blk(w:World)(g:Nat)(t:TypeId)(cs:Array Value):Prop:=w.heap[g]? = some (.cells cs t (0,0))
section
variable{w w':World}{g:Nat}{t:TypeId}{cs:Array Value}
theorem Blk.lt(h:Blk w g t cs):g<w.heap.size:=by
 rcases Nat.lt_or_ge g w.heap.size with hlt|hge
 ·exact hlt
 ·unfold Blk at h;rw[Array.getElem?_eq_none hge] at h;cases h
theorem Blk.cell(h:Blk w g t cs)(i:Nat):w.cell? ⟨g,i,none⟩=cs[i]?:=cell_of_row w g i cs t (0,0) h
theorem Blk.frozen(h:Blk w g t cs)(i:Nat):w.frozen? ⟨g,i,none⟩=false:=by
 unfold Blk at h
 simp[World.frozen?,h]
theorem Blk.new(w:World)(t:TypeId)(cs:Array Value):Blk (w.alloc (.cells cs t)) w.heap.size t cs:=heap_alloc_new w _
theorem Blk.alloc(h:Blk w g t cs)(o:Obj):Blk (w.alloc o) g t cs:=(Below.heap_alloc w o g h.lt).trans h
theorem Blk.set_(h:Blk w g t cs)(i:Nat)(u:Value):Blk (w.setCell ⟨g,i,none⟩ u) g t (cs.setIfInBounds i u):=by
 unfold Blk at h ⊢
 simp[World.setCell,Array.getElem?_modify,h]
theorem Blk.below{B:Nat}(h:Blk w g t cs)(hb:Below B w w')(hg:g<B):Blk w' g t cs:=(hb.block g hg).trans h
theorem Blk.call(h:Blk w g t cs)(hb:Below w.heap.size w w'):Blk w' g t cs:=h.below hb h.lt
end
theorem below_drewN'{B:Nat}{a w:World}(h:Below B a w)(n:Nat):Below B a (w.drewN n):=⟨h.os,h.tape,h.output,h.size,h.block⟩
theorem below_new(w:World)(o:Obj):Below w.heap.size w (w.alloc o):=(Below.refl _ _).alloc (Nat.le_refl _) _
theorem below_alloc{a w:World}(h:Below a.heap.size a w)(o:Obj):Below a.heap.size a (w.alloc o):=h.alloc h.size _
theorem below_call{a w w':World}(h:Below a.heap.size a w)(hb:Below w.heap.size w w'):Below a.heap.size a w':=h.trans (hb.mono h.size)
section
variable{H:Type}{enc:TypeId×Value→H}{P:Program}
theorem post_of_below{f:Func}{s:ChangeSpec}{apart fresh handsOn again:Bool}{W W':World}{args:Array Value}{v:Value}{ds gs:List (DataW H)}{before pa pv:List MemPlace}
  (hW:DataW.Whole enc P f.params.toList s.vars apart W args.toList ds gs before)
  (hres:∀(b:Nat) (sp:Nat→Bool) (hd:Bool),DataW.TrodAll enc P W' b sp hd f.resultTypes.toList (v.resultList f.resultTypes.size) (s.fn H (ds++gs)).results [])
  (hargs:∀sp:Nat→Bool,(∀p∈before,sp p.block=true)→DataW.TrodAll enc P W' 0 sp true f.params.toList args.toList (s.fn H (ds++gs)).args pa)
  (hvars:∀sp:Nat→Bool,(∀p∈before,sp p.block=true)→DataW.TrodVars enc P W' sp s.vars (s.fn H (ds++gs)).vars pv)
  (hps:before=pa++pv) (hb:Below W.heap.size W W')
  (hok:∀(j:Nat) (t:TypeId) (r:Value),f.resultTypes[j]? = some t→(v.resultList f.resultTypes.size)[j]? = some r→Value.okWide P W' .any 0 t r) :
  s.post enc P f apart fresh handsOn again W args v W':=by
 have hlt:∀p∈before,p.block<W.heap.size:=fun p hp=>hW.lt p hp
 have hold:∀p∈before,(fun b=>decide (b<W.heap.size)) p.block=true:=fun p hp=>by simpa using hlt p hp
 refine⟨ds,gs,before,[],pa,pv,hW,hres _ _ _,hargs _ hold,hvars _ hold,World.keptBut_mono (fun p hp=>⟨hp,?_⟩) (hb.frame (·∈before)),fun _=>?_⟩
 ·rw[hps,List.mem_append] at hp
  exact Or.inr hp
 ·obtain⟨_,_,_,_,_,hz,hn⟩:=hW
  refine⟨hok,_,_,([]++pa)++pv,⟨[]++pa,pv,trodAll_append (hargs _ (fun _ _=>rfl)) (hres _ _ _),hvars _ (fun _ _=>rfl),rfl,?_,?_⟩,?_⟩
  ·intro b off hp
   have hin:MemPlace.cell b off∈before:=by rw[hps];simpa using hp
   rw[hb.frozen (hlt _ hin)]
   exact hz b off hin
  ·intro ha
   have:=hn ha
   rw[hps] at this
   simpa using this
  ·intro p hp _
   rw[hps]
   simpa using hp
end
open Go.RowKit Go.WideShapes Go.ChangeShapes
section
variable{H:Type}{enc:TypeId×Value→H}{P:Program}
theorem trodAll_stays(hl:laidOutB P=true){W W':World}(hb:Below W.heap.size W W'){sp:Nat→Bool} :
  ∀{ts:List TypeId} {vs:List Value} {ds:List (DataW H)} {p:List MemPlace},(∀t∈ts,P.readableRec t=true∧t<P.types.size)→DataW.TrodAll enc P W 0 (fun _=>true) true ts vs ds p →
   (∀x∈p,x.block<W.heap.size)→(∀x∈p,sp x.block=true)→DataW.TrodAll enc P W' 0 sp true ts vs ds p
 | [],_,_,_,_,h,_,_=>by
   obtain⟨rfl,rfl,rfl⟩:=trodAll_nil h
   exact h
 | t::ts,_,_,_,hr,h,hlt,hsp=>by
   obtain⟨v,vs1,d,ds1,a,b,rfl,rfl,rfl,h1,h2⟩:=trodAll_cons h
   have ht:=hr t (by simp)
   exact⟨a,b,WideElems.Trod_stays hl ht.1 ht.2 h1 (fun x hx=>hb.same (hlt x (by simp[hx]))) (fun x hx=>hsp x (by simp[hx])),
    trodAll_stays hl hb (fun t ht=>hr t (by simp[ht])) h2 (fun x hx=>hlt x (by simp[hx])) (fun x hx=>hsp x (by simp[hx])),rfl⟩
theorem law_post{f:Func}{s:ChangeSpec}{apart fresh handsOn again:Bool}{W W':World}{args:Array Value}{ds gs:List (DataW H)}{before:List MemPlace}{tb:TypeId}
  (hl:laidOutB P=true) (hr:f.params.toList.all (fun t=>P.readableRec t && decide (t<P.types.size))=true) (hv:s.vars=[]) (hfn:s.fn H ds={ results:=[.lit (.bool true)],args:=ds })
  (hrt:f.resultTypes=#[tb]) (htb:P.underlying tb=some .bool)
  (hW:DataW.Whole enc P f.params.toList s.vars apart W args.toList ds gs before) (hb:Below W.heap.size W W') :
  s.post enc P f apart fresh handsOn again W args (.bool true) W':=by
 have hW':=hW
 have hlt:∀p∈before,p.block<W.heap.size:=fun p hp=>hW.lt p hp
 obtain⟨p,q,hA,hV,rfl,hfz,hnd⟩:=hW
 rw[hv] at hV
 obtain⟨rfl,rfl⟩:=trodVars_none hV
 simp only[List.append_nil] at hlt
 have hr':∀t∈f.params.toList,P.readableRec t=true∧t<P.types.size:=by
  intro t ht
  have:=List.all_eq_true.1 hr t ht
  simpa using this
 refine post_of_below (pa:=p) (pv:=[]) hW' (fun _ _ _=>?_) (fun sp hsp=>?_) (fun _ _=>?_) rfl hb ?_
 ·rw[List.append_nil,hfn,hrt]
  exact trodAll_cons_mk (shut_bool htb _) trodAll_mk0
 ·rw[List.append_nil,hfn]
  exact trodAll_stays hl hb hr' hA hlt (fun x hx=>hsp x (by simp[hx]))
 ·rw[hv,List.append_nil,hfn]
  rfl
 ·exact ok_one hrt rfl (okWide_bool_mk htb _)
end
open Go.Joins Go.ChangeShapes Go.WideShapes Go.RowKit Go.Deep
section
variable{H:Type}{enc:TypeId×Value→H}{P:Program}{w:World}{base:Nat}{spare:Nat→Bool}{held:Bool}
end
open Go.RowKit Go.ChangeShapes Go.WideShapes Go.Deep
def Kept(w w':World):Prop:=∀p u,w.cell? p=some u→w'.cell? p=some u
theorem Kept.of{w w':World}(h:Below w.heap.size w w'):Kept w w':=fun p u hp=>(h.cell (World.block_lt_of_cell? w p hp)).trans hp
def SliceAt{α:Type}(R:List Value→α→Prop)(size:Nat)(w:World)(v:Value)(xs:List α):Prop:=
 ∃(A:Option Addr) (c:Nat),v=.slice A xs.length c∧xs.length≤c∧c≤maxLen∧(A=none→c=0) ∧
  ∀j x,xs[j]? = some x→∃(b off:Nat) (r:List Value),A=some ⟨b,off,none⟩∧r.length=size∧R r x∧∀o u,r[o]? = some u→w.cell? ⟨b,off+j*size+o,none⟩=some u
section
variable{α:Type}{R R':List Value→α→Prop}{size:Nat}{w w':World}{v:Value}{xs:List α}
theorem SliceAt.keep(h:SliceAt R size w v xs)(hk:Kept w w')(hR:∀r x,R r x→R' r x):SliceAt R' size w' v xs:=by
 obtain⟨A,c,e,h1,h2,h0,h3⟩:=h
 refine⟨A,c,e,h1,h2,h0,fun j x hx=>?_⟩
 obtain⟨b,off,r,hA,hr,hR0,hc⟩:=h3 j x hx
 exact⟨b,off,r,hA,hr,hR _ _ hR0,fun o u hu=>hk _ _ (hc o u hu)⟩
theorem SliceAt.form(h:SliceAt R size w v xs):∃(A:Option Addr) (c:Nat),v=.slice A xs.length c∧xs.length≤c∧c≤maxLen:=by
 obtain⟨A,c,e,h1,h2,_⟩:=h
 exact⟨A,c,e,h1,h2⟩
theorem SliceAt.at_{A:Option Addr}{n c:Nat}(h:SliceAt R size w (.slice A n c) xs){j:Nat}(hj:j<xs.length) :
  ∃(b off:Nat) (r:List Value),A=some ⟨b,off,none⟩∧r.length=size∧R r xs[j]∧∀o u,r[o]? = some u→w.cell? ⟨b,off+j*size+o,none⟩=some u:=by
 obtain⟨A',c',e,h1,h2,h0,h3⟩:=h
 injection e with eA en ec
 subst eA
 exact h3 j xs[j] (List.getElem?_eq_getElem hj)
theorem SliceAt.len{A:Option Addr}{n c:Nat}(h:SliceAt R size w (.slice A n c) xs):n=xs.length∧n≤c∧c≤maxLen:=by
 obtain⟨A',c',e,h1,h2,_⟩:=h
 injection e with eA en ec
 subst en;subst ec
 exact⟨rfl,h1,h2⟩
theorem SliceAt.nil:SliceAt R size w (.slice none 0 0) ([]:List α):=⟨none,0,rfl,Nat.le_refl _,by unfold maxLen;omega,fun _=>rfl,fun j x h=>by simp at h⟩
end
def RowsOf{α:Type}(R:List Value→α→Prop)(size:Nat)(rs:List (List Value))(xs:List α):Prop:=
 rs.length=xs.length∧∀(j:Nat) (r:List Value) (x:α),rs[j]? = some r→xs[j]? = some x→r.length=size∧R r x
theorem RowsOf.each{α:Type}{R:List Value→α→Prop}{size:Nat}{rs:List (List Value)}{xs:List α}(h:RowsOf R size rs xs):∀r∈rs,r.length=size:=by
 intro r hr
 obtain⟨j,hj,rfl⟩:=List.getElem_of_mem hr
 exact(h.2 j rs[j] (xs[j]'(by rw[←h.1];exact hj)) (List.getElem?_eq_getElem hj) (List.getElem?_eq_getElem _)).1
theorem flat_get{size:Nat}:∀(rs:List (List Value)),(∀r∈rs,r.length=size)→∀j o,o<size→rs.flatten[j*size+o]? = (rs[j]?).bind (fun r=>r[o]?)
 | [],_,j,o,_=>by simp
 | r::rs,h,0,o,ho=>by
   rw[List.flatten_cons,List.getElem?_append_left (by rw[h r (by simp)];omega)]
   simp
 | r::rs,h,j+1,o,ho=>by
   have hr:=h r (by simp)
   rw[List.flatten_cons,List.getElem?_append_right (by rw[hr,Nat.add_mul];omega),hr,show(j+1)*size+o-size=j*size+o by rw[Nat.add_mul];omega,
    flat_get rs (fun x hx=>h x (by simp[hx])) j o ho]
   simp
section
variable{α:Type}{R:List Value→α→Prop}{size:Nat}{w:World}{v:Value}{xs:List α}
theorem SliceAt.rows{A:Option Addr}{n c:Nat}(hs:0<size)(h:SliceAt R size w (.slice A n c) xs) :
  ∃rs,RowsOf R size rs xs∧∀ad,A=some ad→∀j u,rs.flatten[j]? = some u→w.cell? (ad.add j)=some u:=by
 obtain⟨A',c',e,h1,h2,h0,h3⟩:=h
 injection e with eA en ec
 subst eA
 have hz:∀m,m≤xs.length→∃rs:List (List Value),rs.length=m∧∀(j:Nat) (r:List Value) (x:α),rs[j]? = some r→xs[j]? = some x→r.length=size∧R r x∧∃b off,A=some ⟨b,off,none⟩∧∀o u,r[o]? = some u→w.cell? ⟨b,off+j*size+o,none⟩=some u:=by
  intro m
  induction m with
  | zero=>exact fun _=>⟨[],rfl,fun j r x h=>by simp at h⟩
  | succ k ih=>
    intro hk
    obtain⟨rs,hl,hx⟩:=ih (by omega)
    obtain⟨b,off,r,hA,hr,hR,hc⟩:=h3 k xs[k] (List.getElem?_eq_getElem (by omega))
    refine⟨rs++[r],by simp[hl],fun j r' x hj hxj=>?_⟩
    by_cases hjk:j<k
    ·rw[List.getElem?_append_left (by omega)] at hj
     exact hx j r' x hj hxj
    ·rw[List.getElem?_append_right (by omega)] at hj
     have h0':j-rs.length=0:=by
      rcases Nat.eq_zero_or_pos (j-rs.length) with h0|h0
      ·exact h0
      ·rw[List.getElem?_eq_none (by simp;omega)] at hj;cases hj
     rw[h0'] at hj
     have e1:r=r':=by simpa using hj
     have e2:j=k:=by omega
     subst e1;subst e2
     have e3:xs[j]=x:=by rw[List.getElem?_eq_getElem (by omega)] at hxj;simpa using hxj
     subst e3
     exact⟨hr,hR,b,off,hA,hc⟩
 obtain⟨rs,hl,hx⟩:=hz xs.length (Nat.le_refl _)
 have hrow:RowsOf R size rs xs:=⟨hl,fun j r x hr hxj=>⟨(hx j r x hr hxj).1,(hx j r x hr hxj).2.1⟩⟩
 refine⟨rs,hrow,fun ad hA q u hu=>?_⟩
 have hq:q=q/size*size+q%size:=by rw[Nat.mul_comm];exact(Nat.div_add_mod q size).symm
 rw[hq,flat_get rs hrow.each (q/size) (q%size) (Nat.mod_lt _ hs)] at hu
 cases hr:rs[q/size]? with
 | none=>rw[hr] at hu;cases hu
 | some r=>
   rw[hr] at hu
   have hjl:q/size<xs.length:=by rw[←hl];exact(List.getElem?_eq_some_iff.1 hr).1
   obtain⟨_,_,b,off,hA',hc⟩:=hx (q/size) r xs[q/size] hr (List.getElem?_eq_getElem hjl)
   rw[hA] at hA'
   injection hA' with e1
   subst e1
   have:=hc (q%size) u hu
   rw[Nat.add_assoc,←hq] at this
   rw[Addr.add_lit]
   exact this
theorem SliceAt.of_own{base:Nat}{e:TypeId}{n:Nat}{rs:List (List Value)}(hs:0<size)(h:w.ownsRow base e size v n rs.flatten)(hr:RowsOf R size rs xs)(hn:n=xs.length):SliceAt R size w v xs:=by
 subst hn
 rcases h.2 with⟨rfl,h0⟩|⟨g,cap,cur,rfl,hb,hg,hnc,hcm,hcs,ht⟩
 ·have:xs=[]:=List.eq_nil_of_length_eq_zero h0
  subst this
  exact SliceAt.nil
 ·refine⟨some ⟨g,0,none⟩,cap,rfl,hnc,hcm,(fun h=>by cases h),fun j x hx=>?_⟩
  have hj:j<rs.length:=by rw[hr.1];exact(List.getElem?_eq_some_iff.1 hx).1
  obtain⟨hl,hR⟩:=hr.2 j rs[j] x (List.getElem?_eq_getElem hj) hx
  refine⟨g,0,rs[j],rfl,hl,hR,fun o u hu=>?_⟩
  have ho:o<size:=by rw[←hl];exact(List.getElem?_eq_some_iff.1 hu).1
  have:=h.cells (g:=g) rfl (j*size+o) u (by rw[flat_get rs hr.each j o ho,List.getElem?_eq_getElem hj];exact hu)
  rw[Addr.add_lit] at this
  simpa[Nat.add_assoc] using this
end
section
variable{H:Type}{enc:TypeId×Value→H}{P:Program}{w:World}{base:Nat}{spare:Nat→Bool}{held:Bool}
end
open Go.RowKit Go.ChangeShapes Go.WideShapes Go.Deep
theorem rows_nil{α:Type}{R:List Value→α→Prop}{size:Nat}:RowsOf R size [] []:=⟨rfl,fun j r x h=>by simp at h⟩
theorem rows_snoc'{α:Type}{R:List Value→α→Prop}{size:Nat}{r:List Value}{x:α}{rs:List (List Value)}{xs:List α}(hr:RowsOf R size rs xs)(hl:r.length=size)(h:R r x):RowsOf R size (rs++[r]) (xs++[x]):=by
 refine⟨by simp[hr.1],fun j r' x' h1 h2=>?_⟩
 by_cases hj:j<rs.length
 ·rw[List.getElem?_append_left hj] at h1
  rw[List.getElem?_append_left (by rw[←hr.1];exact hj)] at h2
  exact hr.2 j r' x' h1 h2
 ·rw[List.getElem?_append_right (by omega)] at h1
  rw[List.getElem?_append_right (by rw[←hr.1];omega),←hr.1] at h2
  have h0:j-rs.length=0:=by
   rcases Nat.eq_zero_or_pos (j-rs.length) with h0|h0
   ·exact h0
   ·rw[List.getElem?_eq_none (by simp;omega)] at h1;cases h1
  rw[h0] at h1 h2
  have e1:r=r':=by simpa using h1
  have e2:x=x':=by simpa using h2
  subst e1;subst e2
  exact⟨hl,h⟩
theorem rows_append{α:Type}{R:List Value→α→Prop}{size:Nat}{rs qs:List (List Value)}{xs ys:List α}(hr:RowsOf R size rs xs)(hq:RowsOf R size qs ys):RowsOf R size (rs++qs) (xs++ys):=by
 refine⟨by simp[hr.1,hq.1],fun j r' x' h1 h2=>?_⟩
 by_cases hj:j<rs.length
 ·rw[List.getElem?_append_left hj] at h1
  rw[List.getElem?_append_left (by rw[←hr.1];exact hj)] at h2
  exact hr.2 j r' x' h1 h2
 ·rw[List.getElem?_append_right (by omega)] at h1
  rw[List.getElem?_append_right (by rw[←hr.1];omega),←hr.1] at h2
  exact hq.2 _ r' x' h1 h2
def Own{α:Type}(R:List Value→α→Prop)(e:TypeId)(size base:Nat)(w:World)(v:Value)(xs:List α):Prop:=
 ∃rs,w.ownsRow base e size v xs.length rs.flatten∧RowsOf R size rs xs
theorem ownsRow_call{w w':World}{base:Nat}{e:TypeId}{size:Nat}{v:Value}{n:Nat}{xs:List Value}(h:w.ownsRow base e size v n xs)(hb:Below w.heap.size w w'):w'.ownsRow base e size v n xs:=by
 refine⟨h.1,?_⟩
 rcases h.2 with h0|⟨g,cap,cur,r1,r2,r3,r4⟩
 ·exact .inl h0
 ·exact .inr ⟨g,cap,cur,r1,r2,(hb.block g (Array.getElem?_eq_some_iff.1 r3).1).trans r3,r4⟩
theorem ownsRow_base{w:World}{base base':Nat}{e:TypeId}{size:Nat}{v:Value}{n:Nat}{xs:List Value}(h:w.ownsRow base e size v n xs)(hk:base'≤base):w.ownsRow base' e size v n xs:=by
 refine⟨h.1,?_⟩
 rcases h.2 with h0|⟨g,cap,cur,r1,r2,r3,r4⟩
 ·exact .inl h0
 ·exact .inr ⟨g,cap,cur,r1,by omega,r3,r4⟩
section
variable{α:Type}{R:List Value→α→Prop}{e:TypeId}{size base:Nat}{w w':World}{v:Value}{xs:List α}
theorem Own.nil:Own R e size base w (.slice none 0 0) ([]:List α):=⟨[],World.ownsRow_nil _ _ _ _,rows_nil⟩
theorem Own.call(h:Own R e size base w v xs)(hb:Below w.heap.size w w'):Own R e size base w' v xs:=by
 obtain⟨rs,h1,h2⟩:=h
 exact⟨rs,ownsRow_call h1 hb,h2⟩
theorem Own.lower{base':Nat}(h:Own R e size base w v xs)(hk:base'≤base):Own R e size base' w v xs:=by
 obtain⟨rs,h1,h2⟩:=h
 exact⟨rs,ownsRow_base h1 hk,h2⟩
theorem Own.at_(h:Own R e size base w v xs)(hs:0<size):SliceAt R size w v xs:=by
 obtain⟨rs,h1,h2⟩:=h
 exact SliceAt.of_own hs h1 h2 rfl
theorem blk_cells{g:Nat}{t:TypeId}{cs:Array Value}(h:Blk w g t cs):∀j u,cs.toList[j]? = some u→w.cell? ((⟨g,0,none⟩:Addr).add j)=some u:=by
 intro j u hu
 rw[Addr.add_lit,Nat.zero_add,h.cell j]
 simpa using hu
def IsSl(v:Value):Prop:=∃A n c,v=.slice A n c
theorem wpList_grow{P:Program}{ops:Array Oper}{rest:List Oper}{o:Oper}{a:Act}{Q:Exit→Act→World→Prop}(hgd:o.guard=none)(s x:Operand)(t:TypeId)
  (ho:o.op=.call { callee:=.builtin .append,args:=#[s,x],argTypes:=#[t,t] })
  (i:TypeInfo) (z:Value) (bytes:Nat) (ht:P.underlying t=some (.slice e)) (hi:P.info? e=some i) (hz:i.zero=some z)
  (hsize:i.size=size) (hby:i.bytes=bytes) (hzs:z.cells.size=size) (hsz:0<size)
  (hs:a.eval s=v) (hown:Own R e size base w v xs) (g:Nat) (y:α) (r:Array Value) (tt:TypeId) (hx:a.eval x=.slice (some ⟨g,0,none⟩) 1 1)
  (hblk:Blk w g tt r) (hl:r.size=size) (hR:R r.toList y) (h1:∀u∈r.toList,u.oneCell'=true) (hn:xs.length≤16777216) (hb8:bytes≤4096) (hbase:base≤w.heap.size)
  (h:∀v' w',Own R e size base w' v' (xs++[y])→w.grownBy w' v.ownBlock→Below base w w'→IsSl v'→wpList P ops Q rest (a.put o.dst v') w'):wpList P ops Q (o::rest) a w:=by
 obtain⟨rs,k1,k2⟩:=hown
 refine wpList_append_own w hgd s x t ho base e i z size bytes ht hi hz hsize hby hzs hsz v xs.length rs.flatten hs k1 ⟨g,0,none⟩ 1 1 r.toList hx (by simpa using hl) (blk_cells hblk) h1 (by unfold maxLen;omega) ?_ hbase ?_
 ·exact Nat.le_trans (Nat.mul_le_mul (show xs.length+1≤16777217 by omega) hb8) (by decide)
 ·intro v' w' ho hg _
  refine h v' w' ⟨rs++[r.toList],?_,rows_snoc' k2 (by simpa using hl) hR⟩ hg ((Below.refl _ _).grown hg hbase (fun k hk=>(k1.lt k hk).1)) ?_
  ·simpa using ho
  ·rcases ho.2 with⟨h0,_⟩|⟨g',cap,cur,h0,_⟩
   ·exact⟨_,_,_,h0⟩
   ·exact⟨_,_,_,h0⟩
theorem wpList_growAt{P:Program}{ops:Array Oper}{rest:List Oper}{o:Oper}{a:Act}{Q:Exit→Act→World→Prop}(hgd:o.guard=none)(s x:Operand)(t:TypeId)
  (ho:o.op=.call { callee:=.builtin .append,args:=#[s,x],argTypes:=#[t,t] })
  (i:TypeInfo) (z:Value) (bytes:Nat) (ht:P.underlying t=some (.slice e)) (hi:P.info? e=some i) (hz:i.zero=some z)
  (hsize:i.size=size) (hby:i.bytes=bytes) (hzs:z.cells.size=size) (hsz:0<size)
  (hs:a.eval s=v) (hown:Own R e size base w v xs) (g:Nat) (y:α) (r:Array Value) (tt:TypeId) (hx:a.eval x=.slice (some ⟨g,0,none⟩) 1 1)
  (hblk:Blk w g tt r) (hl:r.size=size) (hR:R r.toList y) (h1:∀u∈r.toList,u.oneCell'=true) (hn:xs.length≤16777216) (hb8:bytes≤4096) (hbase:base≤w.heap.size)
  (h:∀v' w',Own R e size base w' v' (xs++[y])→w.grownBy w' v.ownBlock→Below base w w'→IsSl v'→(v'.ownBlock=v.ownBlock∨v'.ownBlock=some w.heap.size)→wpList P ops Q rest (a.put o.dst v') w'):wpList P ops Q (o::rest) a w:=by
 obtain⟨rs,k1,k2⟩:=hown
 refine wpList_append_own_at w hgd s x t ho base e i z size bytes ht hi hz hsize hby hzs hsz v xs.length rs.flatten hs k1 ⟨g,0,none⟩ 1 1 r.toList hx (by simpa using hl) (blk_cells hblk) h1 (by unfold maxLen;omega) ?_ hbase ?_
 ·exact Nat.le_trans (Nat.mul_le_mul (show xs.length+1≤16777217 by omega) hb8) (by decide)
 ·intro v' w' ho hg _ hat
  refine h v' w' ⟨rs++[r.toList],?_,rows_snoc' k2 (by simpa using hl) hR⟩ hg ((Below.refl _ _).grown hg hbase (fun k hk=>(k1.lt k hk).1)) ?_ hat
  ·simpa using ho
  ·rcases ho.2 with⟨h0,_⟩|⟨g',cap,cur,h0,_⟩
   ·exact⟨_,_,_,h0⟩
   ·exact⟨_,_,_,h0⟩
end
open Go.RowKit Go.ChangeShapes Go.WideShapes Go.Deep
section
variable{base:Nat}{e:TypeId}{size g n cap:Nat}
variable{α:Type}{R:List Value→α→Prop}
end
namespace Reg4
open Go.RowKit
def dstOf(ops:Array Oper)(k:Nat):Option Tmp:=(ops[k]?).bind (·.dst)
def idxOf(ops:Array Oper)(m:Nat)(d:Tmp):Option Nat:=(List.range m).find? (fun k=>dstOf ops k == some d)
def waits(o:Oper)(k:Nat):Bool:=o.after.any (fun e=>Region.binds .any e && e.on == k)
def opB(ops:Array Oper)(m i:Nat):Bool:=match ops[i]? with
 | some o=>o.guard.isNone && o.after.all (fun e=>!Region.binds .any e || decide (e.on<i)) &&
    o.op.operands.all (fun x=>match x with|.tmp d=>(List.range m).all (fun k=>dstOf ops k != some d || waits o k)|_=>true) &&
    (List.range m).all (fun k=>k == i || dstOf ops i == none || dstOf ops k != dstOf ops i)
 | none=>false
def reaches(ops:Array Oper):Nat→Nat→Nat→Bool
 | 0,_,_=>false
 | f+1,i,k=>match ops[i]? with
   | some o=>waits o k || o.after.any (fun e=>Region.binds .any e && reaches ops f e.on k)
   | none=>false
def tailB(ops:Array Oper)(m i:Nat):Bool:=(List.range m).all (fun k=>reaches ops ops.size i k)
def marks(m n:Nat):Array Bool:=Array.replicate m true++Array.replicate (n-m) false
def headB(ops:Array Oper)(m:Nat):Bool:=
 decide (m≤ops.size) && (List.range m).all (opB ops m) && (List.range ops.size).all (fun i=>decide (i<m) || tailB ops m i) && Region.seqB .any ops (ops.size-m) m (marks m ops.size)
def puts(ops:Array Oper)(vals:Nat→Value)(L:Nat→Bool):List Nat→Act→Act
 | [],a=>a
 | k::ks,a=>puts ops vals L ks (if L k then a.put (dstOf ops k) (vals k) else a)
theorem puts_put{ops:Array Oper}{vals:Nat→Value}{L:Nat→Bool}{x:Option Tmp}{v:Value}:∀(ks:List Nat) (a:Act),(∀k∈ks,∀d,x=some d→dstOf ops k≠some d)→puts ops vals L ks (a.put x v)=(puts ops vals L ks a).put x v
 | [],_,_=>rfl
 | k::ks,a,h=>by
   unfold puts
   split
   ·rw[Act.put_comm a v (vals k) (h k (by simp))]
    exact puts_put ks _ (fun j hj=>h j (by simp[hj]))
   ·exact puts_put ks _ (fun j hj=>h j (by simp[hj]))
theorem puts_congr{ops:Array Oper}{vals vals':Nat→Value}{L L':Nat→Bool}:∀(ks:List Nat) (a:Act),(∀k∈ks,L k=L' k∧vals k=vals' k)→puts ops vals L ks a=puts ops vals' L' ks a
 | [],_,_=>rfl
 | k::ks,a,h=>by
   unfold puts
   rw[(h k (by simp)).1,(h k (by simp)).2]
   exact puts_congr ks _ (fun j hj=>h j (by simp[hj]))
theorem puts_ins{ops:Array Oper}{vals:Nat→Value}{L:Nat→Bool}{i:Nat}{v:Value}:∀(ks:List Nat) (a:Act),ks.Nodup→i∈ks→L i=false→(∀k∈ks,k≠i→∀d,dstOf ops i=some d→dstOf ops k≠some d) →
  puts ops (fun k=>if k=i then v else vals k) (fun k=>L k || k == i) ks a=(puts ops vals L ks a).put (dstOf ops i) v
 | [],_,_,h,_,_=>by simp at h
 | k::ks,a,hn,hm,hL,hd=>by
   have hn':=List.nodup_cons.1 hn
   unfold puts
   by_cases e:k=i
   ·subst e
    simp only[hL,beq_self_eq_true,Bool.or_true,if_true,Bool.false_eq_true,if_false]
    rw[←puts_put ks a (fun j hj d h1=>hd j (by simp[hj]) (fun e=>hn'.1 (e ▸ hj)) d h1)]
    refine puts_congr ks _ (fun j hj=>?_)
    have hne:j≠k:=fun e=>hn'.1 (e ▸ hj)
    simp[hne]
   ·have hm':i∈ks:=by
     rcases List.mem_cons.1 hm with h|h
     ·exact absurd h.symm e
     ·exact h
    have he:(k == i)=false:=by simpa using e
    simp only[he,Bool.or_false,if_neg e]
    exact puts_ins ks _ hn'.2 hm' hL (fun j hj=>hd j (by simp[hj]))
theorem put_size(a:Act)(x:Option Tmp)(v:Value):(a.put x v).tmps.size=a.tmps.size:=by cases x<;>simp[Act.put]
theorem put_other(a:Act)(x:Option Tmp)(v:Value)(d:Tmp)(h:x≠some d):(a.put x v).tmps.getD d undef=a.tmps.getD d undef:=by
 cases x with
 | none=>rfl
 | some c=>
   have:c≠d:=fun e=>h (by rw[e])
   simp[Act.put,Array.getD_eq_getD_getElem?,this]
theorem put_same(a:Act)(v:Value)(d:Tmp)(h:d<a.tmps.size):(a.put (some d) v).tmps.getD d undef=v:=by
 simp[Act.put,Array.getD_eq_getD_getElem?,h]
theorem puts_none{ops:Array Oper}{vals:Nat→Value}{L:Nat→Bool}{d:Tmp}:∀(ks:List Nat) (a:Act),(∀k∈ks,dstOf ops k≠some d)→(puts ops vals L ks a).tmps.getD d undef=a.tmps.getD d undef
 | [],_,_=>rfl
 | k::ks,a,h=>by
   unfold puts
   rw[puts_none ks _ (fun j hj=>h j (by simp[hj]))]
   split
   ·exact put_other _ _ _ _ (h k (by simp))
   ·rfl
theorem puts_at{ops:Array Oper}{vals:Nat→Value}{L:Nat→Bool}{d:Tmp}{i:Nat}(hi:dstOf ops i=some d)(hL:L i=true):∀(ks:List Nat) (a:Act),ks.Nodup→i∈ks→d<a.tmps.size→(∀k∈ks,k≠i→dstOf ops k≠some d) →
  (puts ops vals L ks a).tmps.getD d undef=vals i
 | [],_,_,h,_,_=>by simp at h
 | k::ks,a,hn,hm,hs,hd=>by
   have hn':=List.nodup_cons.1 hn
   unfold puts
   by_cases e:k=i
   ·subst e
    rw[hL,if_pos rfl,puts_none ks _ (fun j hj=>hd j (by simp[hj]) (fun e=>hn'.1 (e ▸ hj))),hi]
    exact put_same _ _ _ hs
   ·have hm':i∈ks:=by
     rcases List.mem_cons.1 hm with h|h
     ·exact absurd h.symm e
     ·exact h
    refine puts_at hi hL ks _ hn'.2 hm' ?_ (fun j hj=>hd j (by simp[hj]))
    split
    ·rw[put_size];exact hs
    ·exact hs
def StepOk(P:Program)(R:Value→World→Prop):Result Next→Prop
 | .ok (.value v) w'=>R v w'
 | .ok .skip w'=>R undef w'
 | .ok (.enter f args) w'=>Calls P f args w' fun e w''=>∃v,e=.returned v∧R v w''
 | _=>False
def TmpOk(ops:Array Oper)(m:Nat)(a0:Act)(Φ:Nat→Value→World→Prop)(w:World)(d:Tmp)(v:Value):Prop:=match idxOf ops m d with
 | some k=>Φ k v w
 | none=>v=a0.tmps.getD d undef
section
variable{P:Program}{ops:Array Oper}{Q:Exit→Act→World→Prop}{m:Nat}{a0:Act}{G:World→Prop}{Φ:Nat→Value→World→Prop}
def left(m:Nat)(listed:Array Bool):Nat:=((List.range m).filter (fun k=>!listed.getD k false)).length
theorem getD_set(listed:Array Bool)(i k:Nat)(b:Bool)(hi:i<listed.size):(listed.setIfInBounds i true).getD k b=(if k=i then true else listed.getD k b):=by
 rw[Array.getD_eq_getD_getElem?,Array.getD_eq_getD_getElem?,Array.getElem?_setIfInBounds]
 by_cases e:k=i
 ·subst e;simp[hi]
 ·have:i≠k:=fun h=>e h.symm
  simp[e,this]
theorem getD_tf(listed:Array Bool)(i:Nat)(hi:i<listed.size):listed.getD i true=listed.getD i false:=by
 rw[Array.getD_eq_getD_getElem?,Array.getD_eq_getD_getElem?,Array.getElem?_eq_getElem hi];rfl
theorem left_set{listed:Array Bool}{i:Nat}(hi:i<m)(his:i<listed.size)(hu:listed.getD i false=false):left m (listed.setIfInBounds i true)+1=left m listed:=by
 unfold left
 have key:∀(ks:List Nat),ks.Nodup→i∈ks→(ks.filter (fun k=>!(listed.setIfInBounds i true).getD k false)).length+1=(ks.filter (fun k=>!listed.getD k false)).length:=by
  intro ks
  induction ks with
  | nil=>intro _ h;simp at h
  | cons k ks ih=>
    intro hn hm
    have hn':=List.nodup_cons.1 hn
    by_cases e:k=i
    ·subst e
     have h1:(!(listed.setIfInBounds k true).getD k false)=false:=by rw[getD_set _ _ _ _ his,if_pos rfl];rfl
     have h2:(!listed.getD k false)=true:=by rw[hu];rfl
     rw[List.filter_cons_of_neg (by rw[h1];simp),List.filter_cons_of_pos (by rw[h2])]
     rw[List.length_cons]
     congr 2
     refine List.filter_congr (fun j hj=>?_)
     rw[getD_set _ _ _ _ his,if_neg (fun(e:j=k)=>hn'.1 (e ▸ hj))]
    ·have hm':i∈ks:=by
      rcases List.mem_cons.1 hm with h|h
      ·exact absurd h.symm e
      ·exact h
     have ih':=ih hn'.2 hm'
     have hk:(listed.setIfInBounds i true).getD k false=listed.getD k false:=by rw[getD_set _ _ _ _ his,if_neg e]
     rw[List.filter_cons,List.filter_cons,hk]
     split
     ·simp only[List.length_cons];omega
     ·exact ih'
 exact key (List.range m) List.nodup_range (List.mem_range.2 hi)
theorem reach_listed{listed:Array Bool}(down:∀(k:Nat) (o:Oper),ops[k]? = some o→listed.getD k false=true→∀e∈o.after,Region.binds .any e=true→listed.getD e.on false=true) :
  ∀(f i:Nat) (o:Oper) (k:Nat),ops[i]? = some o→(∀e∈o.after,Region.binds .any e=true→listed.getD e.on false=true)→reaches ops f i k=true→listed.getD k false=true
 | 0,_,_,_,_,_,h=>by simp[reaches] at h
 | f+1,i,o,k,ho,hd,h=>by
   unfold reaches at h
   rw[ho] at h
   simp only[Bool.or_eq_true] at h
   rcases h with h|h
   ·unfold waits at h
    rw[Array.any_eq_true'] at h
    obtain⟨e,he,hb⟩:=h
    simp only[Bool.and_eq_true,beq_iff_eq] at hb
    have:=hd e he hb.1
    rw[hb.2] at this
    exact this
   ·rw[Array.any_eq_true'] at h
    obtain⟨e,he,hb⟩:=h
    simp only[Bool.and_eq_true] at hb
    have hl:=hd e he hb.1
    rcases ho':ops[e.on]? with _|o'
    ·have:=hb.2
     cases f with
     | zero=>simp[reaches] at this
     | succ f=>unfold reaches at this;rw[ho'] at this;simp at this
    ·exact reach_listed down f e.on o' k ho' (down e.on o' ho' hl) hb.2
theorem in_of{n:Nat}(h:(List.range m).all (fun k=>match dstOf ops k with|some d=>decide (d<n)|none=>true)=true)(hn:a0.tmps.size=n):∀k d,k<m→dstOf ops k=some d→d<a0.tmps.size:=by
 intro k d hk hd
 have:=List.all_eq_true.1 h k (List.mem_range.2 hk)
 rw[hd] at this
 rw[hn]
 simpa using this
theorem StepOk.mono{R R':Value→World→Prop}:∀{r:Result Next},StepOk P R r→(∀v w,R v w→R' v w)→StepOk P R' r:=by
 intro r h hR
 cases r with
 | ok nx w=>
   cases nx
   all_goals simp only[StepOk] at h ⊢
   all_goals first|exact hR _ _ h|exact Calls.mono h fun e w' ⟨v,he,hv⟩=>⟨v,he,hR _ _ hv⟩
 | halt x w=>simp only[StepOk] at h
end
end Reg4
namespace Reg8
open Go.RowKit Reg4
section
variable{P:Program}{ops:Array Oper}{Q:Exit→Act→World→Prop}{m:Nat}{a0:Act}{G:(Nat→Bool)→World→Prop}{Φ:(Nat→Bool)→Nat→Value→World→Prop}
structure Inv(ops:Array Oper)(m:Nat)(a0:Act)(G:(Nat→Bool)→World→Prop)(Φ:(Nat→Bool)→Nat→Value→World→Prop)(vals:Nat→Value)(listed:Array Bool)(a:Act)(w:World):Prop where
 size:listed.size=ops.size
 tail:∀i,m≤i→i<ops.size→listed.getD i true=false
 act:a=puts ops vals (fun k=>listed.getD k false) (List.range m) a0
 g:G (fun k=>listed.getD k false) w
 phi:∀k,k<m→listed.getD k false=true→Φ (fun k=>listed.getD k false) k (vals k) w
 down:∀(k:Nat) (o:Oper),ops[k]? = some o→listed.getD k false=true→∀e∈o.after,Region.binds .any e=true→listed.getD e.on false=true
theorem main(hH:headB ops m=true)(hin:∀k d,k<m→dstOf ops k=some d→d<a0.tmps.size)
  (hstep:∀i o,i<m→ops[i]? = some o→∀(L:Nat→Bool) (a:Act) (w:World),L i=false→G L w→(∀d,Operand.tmp d∈o.op.operands→TmpOk ops m a0 (Φ L) w d (a.tmps.getD d undef)) →
    StepOk P (fun v w'=>G (fun k=>if k=i then true else L k) w'∧Φ (fun k=>if k=i then true else L k) i v w'∧∀k u,k<m→k≠i→L k=true→reaches ops ops.size k i=false→Φ L k u w→Φ (fun k=>if k=i then true else L k) k u w') ((execOp a.eval o).run P w))
  (hfin:∀(L:Nat→Bool) (vals:Nat→Value) (w:World),(∀k,k<m→L k=true)→G L w→(∀k,k<m→Φ L k (vals k) w)→wpList P ops Q (ops.toList.drop m) (puts ops vals (fun _=>true) (List.range m) a0) w) :
  ∀(c:Nat) (vals:Nat→Value) (listed:Array Bool) (a:Act) (w:World),Inv ops m a0 G Φ vals listed a w→left m listed=c→wpAny P .any ops Q (c+(ops.size-m)) listed a w:=by
 simp only[headB,Bool.and_eq_true,decide_eq_true_eq,List.all_eq_true,List.mem_range,Bool.or_eq_true] at hH
 obtain⟨⟨⟨hmn,hop⟩,htail⟩,hseq⟩:=hH
 have hopx:∀i o,i<m→ops[i]? = some o→o.guard=none∧(∀e∈o.after,Region.binds .any e=true→e.on<i)∧(∀d,Operand.tmp d∈o.op.operands→∀k,k<m→dstOf ops k=some d→waits o k=true)∧(∀k,k<m→k≠i→∀d,dstOf ops i=some d→dstOf ops k≠some d):=by
  intro i o hi ho
  have h:=hop i hi
  unfold opB at h
  rw[ho] at h
  simp only[Bool.and_eq_true,Option.isNone_iff_eq_none,Array.all_eq_true_iff_forall_mem,decide_eq_true_eq,List.all_eq_true,List.mem_range,Bool.or_eq_true,bne_iff_ne,beq_iff_eq] at h
  obtain⟨⟨⟨h1,h2⟩,h3⟩,h4⟩:=h
  refine⟨h1,fun e he hb=>(h2 e he).resolve_left (by rw[hb];decide),fun d hd k hk hkd=>?_,fun k hk hne d hd hkd=>?_⟩
  ·have:=h3 _ hd
   simp only[List.all_eq_true,List.mem_range,Bool.or_eq_true,bne_iff_ne] at this
   rcases this k hk with h|h
   ·exact absurd hkd h
   ·exact h
  ·rcases h4 k hk with(h|h)|h
   ·exact hne h
   ·rw[h] at hd;cases hd
   ·rw[hd,hkd] at h;exact h rfl
 intro c
 induction c with
 | zero=>
   intro vals listed a w inv hc
   have hall:∀k,k<m→listed.getD k false=true:=by
    intro k hk
    unfold left at hc
    have:=List.eq_nil_of_length_eq_zero hc
    have h2:=List.filter_eq_nil_iff.1 this k (List.mem_range.2 hk)
    simpa using h2
   have hl:listed=marks m ops.size:=by
    refine Array.ext (by simp[marks,inv.size];omega) (fun k h1 h2=>?_)
    by_cases hk:k<m
    ·have e1:=hall k hk
     rw[Array.getD_eq_getD_getElem?,Array.getElem?_eq_getElem h1] at e1
     have e2:(marks m ops.size)[k]=true:=by simp[marks,hk]
     rw[e2];simpa using e1
    ·have e1:=inv.tail k (by omega) (by rw[←inv.size];exact h1)
     rw[Array.getD_eq_getD_getElem?,Array.getElem?_eq_getElem h1] at e1
     have e2:(marks m ops.size)[k]=false:=by simp[marks,Array.getElem_append,hk]
     rw[e2];simpa using e1
   have ha:a=puts ops vals (fun _=>true) (List.range m) a0:=by
    rw[inv.act]
    exact puts_congr _ _ (fun k hk=>⟨hall k (List.mem_range.1 hk),rfl⟩)
   subst ha
   have hlen:(ops.toList.drop m).length=ops.size-m:=by simp
   have:=wpAny_of_seq (md:=.any) (Q':=Q) (P:=P) (ops:=ops) (ops.toList.drop m) m listed _ w (fun j=>by simp) (by rw[hlen,hl];exact hseq) (hfin _ vals w hall inv.g (fun k hk=>inv.phi k hk (hall k hk)))
   rw[hlen] at this
   rw[Nat.zero_add]
   exact this
 | succ c ih=>
   intro vals listed a w inv hc
   rw[show c+1+(ops.size-m)=(c+(ops.size-m))+1 by omega]
   have hex:∃i,i<m∧listed.getD i false=false:=by
    unfold left at hc
    rcases hl:(List.range m).filter (fun k=>!listed.getD k false) with _|⟨i,l⟩
    ·rw[hl] at hc;simp at hc
    ·have:i∈(List.range m).filter (fun k=>!listed.getD k false):=by rw[hl];simp
     rw[List.mem_filter,List.mem_range] at this
     exact⟨i,this.1,by simpa using this.2⟩
   refine⟨fun hr=>?_,fun i hi=>?_⟩
   ·
    exfalso
    obtain⟨i,⟨hi,hu⟩,hmin⟩:∃i,(i<m∧listed.getD i false=false)∧∀j,j<i→listed.getD j false=true:=by
     obtain⟨i,hi,hu⟩:=hex
     induction i using Nat.strongRecOn with
     | _ i ihs=>
       by_cases hb:∃j,j<i∧listed.getD j false=false
       ·obtain⟨j,hj,hju⟩:=hb
        exact ihs j hj (by omega) hju
       ·exact⟨i,⟨hi,hu⟩,fun j hj=>by
         cases hv:listed.getD j false with
         | true=>rfl
         | false=>exact absurd ⟨j,hj,hv⟩ hb⟩
    have ho:∃o,ops[i]? = some o:=⟨ops[i]'(by omega),Array.getElem?_eq_getElem _⟩
    obtain⟨o,ho⟩:=ho
    have:i∈Region.ready .any ops listed:=mem_ready.2 ⟨by rw[getD_tf _ _ (by rw[inv.size];omega)];exact hu,o,ho,fun e he hb=>hmin _ ((hopx i o hi ho).2.1 e he hb)⟩
    rw[hr] at this
    cases this
   ·obtain⟨hu,o,ho,hed⟩:=mem_ready.1 hi
    have hin':i<ops.size:=(Array.getElem?_eq_some_iff.1 ho).1
    have his:i<listed.size:=by rw[inv.size];exact hin'
    have hu':listed.getD i false=false:=by rw[←getD_tf _ _ his];exact hu
    have him:i<m:=by
     rcases Nat.lt_or_ge i m with h|h
     ·exact h
     ·exfalso
      obtain⟨k,hk,hku⟩:=hex
      have ht:=htail i hin'
      rcases ht with ht|ht
      ·omega
      ·unfold tailB at ht
       simp only[List.all_eq_true,List.mem_range] at ht
       have:=reach_listed inv.down _ i o k ho hed (ht k hk)
       rw[hku] at this
       cases this
    obtain⟨g1,g2,g3,g4⟩:=hopx i o him ho
    have hstep':=hstep i o him ho _ a w hu' inv.g (fun d hx=>by
     unfold TmpOk
     split
     ·rename_i k hk
      unfold idxOf at hk
      have hkm:k<m:=List.mem_range.1 (List.mem_of_find?_eq_some hk)
      have hkd:dstOf ops k=some d:=by simpa using List.find?_some hk
      have hw:=g3 d hx k hkm hkd
      unfold waits at hw
      rw[Array.any_eq_true'] at hw
      obtain⟨e,he,hb⟩:=hw
      simp only[Bool.and_eq_true,beq_iff_eq] at hb
      have hlk:=hed e he hb.1
      rw[hb.2] at hlk
      have:a.tmps.getD d undef=vals k:=by
       rw[inv.act]
       refine puts_at hkd hlk (List.range m) a0 List.nodup_range (List.mem_range.2 hkm) (hin k d hkm hkd) (fun j hj hne hjd=>?_)
       have hj':j<m:=List.mem_range.1 hj
       have hoj:∃oj,ops[j]? = some oj:=⟨ops[j]'(by omega),Array.getElem?_eq_getElem _⟩
       obtain⟨oj,hoj⟩:=hoj
       exact(hopx j oj hj' hoj).2.2.2 k hkm (fun e=>hne e.symm) d hjd hkd
      rw[this]
      exact inv.phi k hkm hlk
     ·rename_i hk
      unfold idxOf at hk
      have hno:∀k∈List.range m,dstOf ops k≠some d:=fun k hk'=>by
       have:=List.find?_eq_none.1 hk k hk'
       simpa using this
      rw[inv.act]
      exact puts_none _ _ hno)
    have hGe:(fun k=>(listed.setIfInBounds i true).getD k false)=(fun k=>if k=i then true else listed.getD k false):=funext fun k=>getD_set _ _ _ _ his
    have hK:∀(v:Value) (w':World),(G (fun k=>if k=i then true else listed.getD k false) w'∧Φ (fun k=>if k=i then true else listed.getD k false) i v w'∧∀k u,k<m→k≠i→listed.getD k false=true→reaches ops ops.size k i=false→Φ (fun k=>listed.getD k false) k u w→Φ (fun k=>if k=i then true else listed.getD k false) k u w')→wpAny P .any ops Q (c+(ops.size-m)) (listed.setIfInBounds i true) (a.put o.dst v) w':=by
     rintro v w' ⟨hG,hΦ,hkeep⟩
     refine ih (fun k=>if k=i then v else vals k) _ _ _ ⟨by simp[inv.size],fun j hj hjn=>?_,?_,by rw[hGe];exact hG,fun k hk hlk=>?_,fun k ok hok hlk e he hbe=>?_⟩ ?_
     ·rw[getD_set _ _ _ _ his,if_neg (by omega)]
      exact inv.tail j hj hjn
     ·have hdst:o.dst=dstOf ops i:=by unfold dstOf;rw[ho];rfl
      rw[hdst,inv.act,←puts_ins (List.range m) a0 List.nodup_range (List.mem_range.2 him) hu' (fun k hk hne d h1=>g4 k (List.mem_range.1 hk) hne d h1)]
      refine puts_congr _ _ (fun k hk=>⟨?_,rfl⟩)
      rw[getD_set _ _ _ _ his]
      by_cases e:k=i
      ·simp[e]
      ·simp[e]
     ·rw[hGe]
      by_cases e:k=i
      ·subst e;simpa using hΦ
      ·rw[getD_set _ _ _ _ his,if_neg e] at hlk
       simp only[if_neg e]
       refine hkeep k _ hk e hlk ?_ (inv.phi k hk hlk)
       cases hr:reaches ops ops.size k i with
       | false=>rfl
       | true=>
         have hok:∃ok,ops[k]? = some ok:=⟨ops[k]'(by omega),Array.getElem?_eq_getElem _⟩
         obtain⟨ok,hok⟩:=hok
         have:=reach_listed inv.down _ k ok i hok (fun e he hb=>inv.down k ok hok hlk e he hb) hr
         rw[hu'] at this
         cases this
     ·have hlo:listed.getD e.on false=true:=by
       by_cases ek:k=i
       ·subst ek
        rw[ho] at hok
        injection hok with hok
        subst hok
        exact hed e he hbe
       ·rw[getD_set _ _ _ _ his,if_neg ek] at hlk
        exact inv.down k ok hok hlk e he hbe
      rw[getD_set _ _ _ _ his]
      split
      ·rfl
      ·exact hlo
     ·have:=left_set (m:=m) him his hu'
      omega
    unfold wpOp
    rw[ho]
    have hwant:Region.wanted o (yielded ops a.tmps)=true:=by simp[Region.wanted,g1]
    simp only[hwant,if_true]
    left
    unfold Oper.wp
    generalize (execOp a.eval o).run P w=r at hstep'
    cases r with
    | ok nx w'=>
      cases nx<;>simp only[StepOk] at hstep'<;>simp only[Oper.upon]
      ·exact hK _ _ hstep'
      ·exact hK _ _ hstep'
      ·exact hstep'.mono fun e w'' ⟨v,he,hR⟩=>by subst he;exact hK v w'' hR
    | halt x w'=>simp only[StepOk] at hstep'
theorem region{id:Nat}{w:World}(m:Nat)(G:(Nat→Bool)→World→Prop)(Φ:(Nat→Bool)→Nat→Value→World→Prop)(hm:P.follows .mixedOrders=true)(hH:headB ops m=true)(hin:∀k d,k<m→dstOf ops k=some d→d<a0.tmps.size)(hG:G (fun _=>false) w.drew)
  (hstep:∀i o,i<m→ops[i]? = some o→∀(L:Nat→Bool) (a:Act) (w:World),L i=false→G L w→(∀d,Operand.tmp d∈o.op.operands→TmpOk ops m a0 (Φ L) w d (a.tmps.getD d undef)) →
    StepOk P (fun v w'=>G (fun k=>if k=i then true else L k) w'∧Φ (fun k=>if k=i then true else L k) i v w'∧∀k u,k<m→k≠i→L k=true→reaches ops ops.size k i=false→Φ L k u w→Φ (fun k=>if k=i then true else L k) k u w') ((execOp a.eval o).run P w))
  (hfin:∀(L:Nat→Bool) (vals:Nat→Value) (w:World),(∀k,k<m→L k=true)→G L w→(∀k,k<m→Φ L k (vals k) w)→wpList P ops Q (ops.toList.drop m) (puts ops vals (fun _=>true) (List.range m) a0) w) :
  (Code.region id ops true).wp P Q a0 w:=by
 refine wp_region_any hm ?_
 have hmn:m≤ops.size:=by
  simp only[headB,Bool.and_eq_true,decide_eq_true_eq] at hH
  exact hH.1.1.1
 have hz:∀k b,k<ops.size→(Array.replicate ops.size false).getD k b=false:=fun k b hk=>by
  rw[Array.getD_eq_getD_getElem?,Array.getElem?_replicate,if_pos hk];rfl
 have hl:left m (Array.replicate ops.size false)=m:=by
  unfold left
  rw[List.filter_eq_self.2 (fun k hk=>by rw[hz k false (by have:=List.mem_range.1 hk;omega)];rfl),List.length_range]
 have hGz:G (fun _=>false) w.drew→G (fun k=>(Array.replicate ops.size false).getD k false) w.drew:=fun h=>by
  have e:(fun k=>(Array.replicate ops.size false).getD k false)=(fun _=>false):=funext fun k=>by
   rw[Array.getD_eq_getD_getElem?,Array.getElem?_replicate]
   split<;>rfl
  rw[e];exact h
 have:=main (P:=P) (Q:=Q) (a0:=a0) (G:=G) (Φ:=Φ) hH hin hstep hfin m (fun _=>undef) (Array.replicate ops.size false) a0 w.drew ⟨by simp,fun i _ hi=>hz i true hi,?_,hGz hG,fun k hk h=>?_,fun k o ho h=>?_⟩ hl
 ·rw[show m+(ops.size-m)=ops.size by omega] at this
  exact this
 ·have:∀(ks:List Nat) (a:Act),(∀k∈ks,k<ops.size)→puts ops (fun _=>undef) (fun k=>(Array.replicate ops.size false).getD k false) ks a=a:=by
   intro ks
   induction ks with
   | nil=>intro a _;rfl
   | cons k ks ih=>
     intro a h
     unfold puts
     rw[hz k false (h k (by simp))]
     exact ih a (fun j hj=>h j (by simp[hj]))
  exact(this _ _ (fun k hk=>by have:=List.mem_range.1 hk;omega)).symm
 ·rw[hz k false (by omega)] at h;cases h
 ·rw[hz k false (Array.getElem?_eq_some_iff.1 ho).1] at h;cases h
end
end Reg8
namespace Reg4
open Go.RowKit
section
variable{P:Program}{ops:Array Oper}{Q:Exit→Act→World→Prop}{a0:Act}
theorem region{id:Nat}{w:World}(m:Nat)(G:World→Prop)(Φ:Nat→Value→World→Prop)(hm:P.follows .mixedOrders=true)(hH:headB ops m=true)(hin:∀k d,k<m→dstOf ops k=some d→d<a0.tmps.size)(hG:G w.drew)
  (hstep:∀i o,i<m→ops[i]? = some o→∀(a:Act) (w:World),G w→(∀d,Operand.tmp d∈o.op.operands→TmpOk ops m a0 Φ w d (a.tmps.getD d undef)) →
    StepOk P (fun v w'=>G w'∧Φ i v w'∧∀k u,k<m→k≠i→reaches ops ops.size k i=false→Φ k u w→Φ k u w') ((execOp a.eval o).run P w))
  (hfin:∀(vals:Nat→Value) (w:World),G w→(∀k,k<m→Φ k (vals k) w)→wpList P ops Q (ops.toList.drop m) (puts ops vals (fun _=>true) (List.range m) a0) w) :
  (Code.region id ops true).wp P Q a0 w:=
 Reg8.region m (fun _=>G) (fun _=>Φ) hm hH hin hG
  (fun i o hi ho L a w _ hg hop=>(hstep i o hi ho a w hg hop).mono fun v w' h=>⟨h.1,h.2.1,fun k u h1 h2 _ h4 h5=>h.2.2 k u h1 h2 h4 h5⟩)
  (fun L vals w _ hg hp=>hfin vals w hg hp)
end
end Reg4
namespace Reg7
open Go.RowKit Reg4
section
variable{P:Program}{ops:Array Oper}{Q:Exit→Act→World→Prop}{a0:Act}
end
end Reg7
namespace Sip
def w64(x:Int):Int:=IntKind.u64.wrap x
def xor(x y:Int):Int:=bits .xor .u64 x y
def orr(x y:Int):Int:=bits .or .u64 x y
def rotl(x:Int)(k:Nat):Int:=orr (w64 (x*2^k)) (x/2^(64-k))
structure S4 where
 a:Int
 b:Int
 c:Int
 d:Int
def rnd(s:S4):S4:=
 let a1:=w64 (s.a+s.b)
 let b1:=xor (rotl s.b 13) a1
 let a2:=rotl a1 32
 let c1:=w64 (s.c+s.d)
 let d1:=xor (rotl s.d 16) c1
 let a3:=w64 (a2+d1)
 let d2:=xor (rotl d1 21) a3
 let c2:=w64 (c1+b1)
 let b2:=xor (rotl b1 17) c2
 ⟨a3,b2,rotl c2 32,d2⟩
def rnds:Nat→S4→S4
 | 0,s=>s
 | n+1,s=>rnd (rnds n s)
def lit:List Int→Nat→Int→Int
 | [],_,m=>m
 | x::l,i,m=>lit l (i+1) (orr m (w64 (x*2^(8*i))))
theorem lit_snoc(x:Int):∀(l:List Int) (i:Nat) (m:Int),lit (l++[x]) i m=orr (lit l i m) (w64 (x*2^(8*(i+l.length))))
 | [],i,m=>by simp[lit]
 | y::l,i,m=>by
   rw[List.cons_append,lit,lit_snoc x l,lit]
   congr 4
   simp only[List.length_cons]
   omega
def word(s:S4)(m:Int):S4:=
 let t:=rnds 2 { s with d:=xor s.d m }
 { t with a:=xor t.a m }
def last(l:List Int)(n:Nat):Int:=orr (lit l 0 0) (w64 ((n:Int)*2^56))
def blocks(n:Nat)(l:List Int)(s:S4):S4:=
 if h:8≤l.length then blocks n (l.drop 8) (word s (lit (l.take 8) 0 0)) else word s (last l n)
termination_by l.length
decreasing_by simp;omega
theorem blocks_more{n:Nat}{l:List Int}{s:S4}(h:8≤l.length):blocks n l s=blocks n (l.drop 8) (word s (lit (l.take 8) 0 0)):=by rw[blocks,dif_pos h]
theorem blocks_last{n:Nat}{l:List Int}{s:S4}(h:¬8≤l.length):blocks n l s=word s (last l n):=by rw[blocks,dif_neg h]
def start(k l:Int):S4:=⟨xor k 8317987319222330741,xor l 7237128888997146477,xor k 7816392313619706465,xor l 8387220255154660723⟩
def fin(s:S4):Int:=
 let t:=rnds 4 { s with c:=xor s.c 255 }
 xor (xor (xor t.a t.b) t.c) t.d
def sum(key:Int)(b:List Int):Int:=fin (blocks b.length b (start key (xor key 6616326155283851669)))
def wordAt(b:List Int)(at_:Nat):Int:=
 let m:=lit ((b.drop at_).take 8) 0 0
 if b.length<at_+8 then orr m (w64 (((b.length%256:Nat):Int)*2^56)) else m
theorem wrapU(x:Int):IntKind.u64.wrap x=x%18446744073709551616:=by
 simp[IntKind.wrap,IntKind.bits,IntKind.signed]
theorem top(n:Nat):w64 (((n%256:Nat):Int)*2^56)=w64 ((n:Int)*2^56):=by
 unfold w64
 rw[wrapU,wrapU]
 have h:(2:Int)^56=72057594037927936:=by decide
 rw[h]
 omega
def from_(b:List Int)(at_:Nat)(s:S4):S4:=
 if h:at_≤b.length then from_ b (at_+8) (word s (wordAt b at_)) else s
termination_by b.length+1-at_
theorem from_more{b:List Int}{at_:Nat}{s:S4}(h:at_≤b.length):from_ b at_ s=from_ b (at_+8) (word s (wordAt b at_)):=by rw[from_,dif_pos h]
theorem from_done{b:List Int}{at_:Nat}{s:S4}(h:¬at_≤b.length):from_ b at_ s=s:=by rw[from_,dif_neg h]
theorem from_blocks(b:List Int):∀(d at_:Nat) (s:S4),b.length-at_≤d→at_≤b.length→from_ b at_ s=blocks b.length (b.drop at_) s:=by
 intro d
 induction d with
 | zero=>
   intro at_ s hd ha
   have e:at_=b.length:=by omega
   rw[from_more ha,from_done (by omega),blocks_last (by simp;omega)]
   unfold wordAt last
   simp only
   rw[if_pos (by omega),top,List.take_of_length_le (by simp;omega)]
 | succ d ih=>
   intro at_ s hd ha
   rw[from_more ha]
   by_cases h8:at_+8≤b.length
   ·rw[ih _ _ (by omega) h8,blocks_more (l:=b.drop at_) (by simp;omega),List.drop_drop]
    congr 2
    unfold wordAt
    simp only
    rw[if_neg (by omega)]
   ·rw[from_done h8,blocks_last (by simp;omega)]
    unfold wordAt last
    simp only
    rw[if_pos (by omega),top,List.take_of_length_le (by simp;omega)]
theorem sum_from(key:Int)(b:List Int):fin (from_ b 0 (start key (xor key 6616326155283851669)))=sum key b:=by
 rw[from_blocks b b.length 0 _ (by omega) (by omega)];rfl
end Sip
namespace Enc
def zz(n:Int):Nat:=if 0≤n then(2*n).toNat else(-2*n-1).toNat
def encU(u:Nat):List Int:=if h:128≤u then((u%128:Nat)+128:Int)::encU (u/128) else [(u:Int)]
termination_by u
decreasing_by omega
def encI(n:Int):List Int:=encU (zz n)
structure Fld where
 (tag:Int)
 (data:List Int)
def putF(l:List Fld):List Int:=l.flatMap fun f=>encI f.tag++(encI f.data.length++f.data)
theorem zz_lt{n:Int}(h:-9223372036854775808≤n∧n≤9223372036854775807):zz n<18446744073709551616:=by unfold zz;split<;>omega
theorem encU_big{u:Nat}(h:128≤u):encU u=((u%128:Nat)+128:Int)::encU (u/128):=by
 conv=>lhs;unfold encU
 rw[dif_pos h]
theorem encU_small{u:Nat}(h:¬128≤u):encU u=[(u:Int)]:=by
 conv=>lhs;unfold encU
 rw[dif_neg h]
theorem encU_len:∀(d u:Nat),u<128^d→(encU u).length≤d+1
 | 0,u,h=>by rw[encU_small (by omega)];simp
 | d+1,u,h=>by
   by_cases hb:128≤u
   ·rw[encU_big hb,List.length_cons]
    have:=encU_len d (u/128) (by rw[Nat.pow_succ] at h;omega)
    omega
   ·rw[encU_small hb];simp
theorem encI_len{n:Int}(h:-9223372036854775808≤n∧n≤9223372036854775807):(encI n).length≤11:=encU_len 10 _ (Nat.lt_of_lt_of_le (zz_lt h) (by decide))
theorem xor_ones(a:Nat)(h:a<18446744073709551616):a ^^^ 18446744073709551615=18446744073709551615-a:=by
 have e:=congrArg BitVec.toNat (BitVec.xor_allOnes (x:=BitVec.ofNat 64 a))
 rw[BitVec.toNat_xor,BitVec.toNat_not,BitVec.toNat_allOnes,BitVec.toNat_ofNat,Nat.mod_eq_of_lt (by omega)] at e
 simpa using e
end Enc
namespace Enc
end Enc
namespace Mon
end Mon
namespace MonW
open Go.RowKit
abbrev i (n:Int):Value:=.int .i64 n
end MonW
namespace MonW
open Go.RowKit
end MonW
namespace MonW
open Go.RowKit
end MonW
namespace MonW
open Go.RowKit Go.ChangeShapes Go.WideShapes Go.Deep
abbrev I64 (n:Int):Prop:=-9223372036854775808≤n∧n≤9223372036854775807
end MonW
end Go.Proofs.YtmadfhgiaonnlaaGreatDoor
