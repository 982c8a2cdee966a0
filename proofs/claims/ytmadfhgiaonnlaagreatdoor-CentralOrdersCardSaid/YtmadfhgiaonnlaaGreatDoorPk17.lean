import Derived.Test.YtmadfhgiaonnlaaGreatDoorPk16
set_option linter.unusedVariables false
set_option linter.unusedSimpArgs false
namespace Go.Proofs.YtmadfhgiaonnlaaGreatDoor
namespace RegM
open Go.RowKit Reg4
def IsI(v:Value):Prop:=∃n:Int,v=.int .i64 n
def IsB(v:Value):Prop:=∃q:Bool,v=.bool q
theorem IsI.mk(n:Int):IsI (.int .i64 n):=⟨n,rfl⟩
theorem IsB.mk(q:Bool):IsB (.bool q):=⟨q,rfl⟩
section
variable{P:Program}{ops:Array Oper}{Q:Exit→Act→World→Prop}{a0:Act}
theorem region{id:Nat}{w:World}(m:Nat)(Φ:Nat→Value→World→Prop)(hm:P.follows .mixedOrders=true)(hH:headB ops m=true)(hin:∀k d,k<m→dstOf ops k=some d→d<a0.tmps.size)
  (hmono:∀k u W W',Below W.heap.size W W'→Φ k u W→Φ k u W')
  (hstep:∀i o,i<m→ops[i]? = some o→∀(a:Act) (W:World),Below w.heap.size w W→(∀d,Operand.tmp d∈o.op.operands→TmpOk ops m a0 Φ W d (a.tmps.getD d undef))→StepOk P (fun v W'=>Below W.heap.size W W'∧Φ i v W') ((execOp a.eval o).run P W))
  (hfin:∀(vals:Nat→Value) (W:World),Below w.heap.size w W→(∀k,k<m→Φ k (vals k) W)→wpList P ops Q (ops.toList.drop m) (puts ops vals (fun _=>true) (List.range m) a0) W) :
  (Code.region id ops true).wp P Q a0 w:=
 Reg4.region m (fun W=>Below w.heap.size w W) Φ hm hH hin (Below.drew (Below.refl _ _))
  (fun i o hi ho a W hG hop=>(hstep i o hi ho a W hG hop).mono fun v W' h=>⟨below_call hG h.1,h.2,fun k u _ _ _ hk=>hmono k u W W' h.1 hk⟩) hfin
theorem regionG{id:Nat}{w:World}(m:Nat)(Φ:Nat→Value→World→Prop)(hm:P.follows .mixedOrders=true)(hH:Reg9G.headG ops m=true)(hin:∀k d,k<m→dstOf ops k=some d→d<a0.tmps.size)
  (hmono:∀k u W W',Below W.heap.size W W'→Φ k u W→Φ k u W')
  (hstep:∀i o,i<m→ops[i]? = some o→∀(a:Act) (W:World),Below w.heap.size w W→(∀j b,o.guard=some (j,b)→∃v,Reg9G.asB v=some b∧Φ j v W)→(∀d,Operand.tmp d∈o.op.operands→TmpOk ops m a0 Φ W d (a.tmps.getD d undef))→StepOk P (fun v W'=>Below W.heap.size W W'∧Φ i v W') ((execOp a.eval o).run P W))
  (hoff:∀i o,i<m→ops[i]? = some o→∀j b,o.guard=some (j,b)→∀v W,Φ j v W→Reg9G.asB v≠some b→Φ i undef W)
  (hfin:∀(vals:Nat→Value) (W:World),Below w.heap.size w W→(∀k,k<m→Φ k (vals k) W)→wpList P ops Q (ops.toList.drop m) (puts ops vals (fun _=>true) (List.range m) a0) W) :
  (Code.region id ops true).wp P Q a0 w:=by
 refine Reg9G.region m (fun L vals W=>Below w.heap.size w W∧∀k,L k=true→Φ k (vals k) W) hm hH hin ⟨Below.drew (Below.refl _ _),fun _ h=>(by cases h)⟩ ?_ ?_
 ·intro i o hi ho L vals a W hL hS hw hop hg
  obtain⟨hb,hv⟩:=hS
  by_cases hW:Region.wanted o (fun j=>Reg9G.asB (vals j))=true
  ·rw[if_pos hW]
   refine Reg4.StepOk.mono (hstep i o hi ho a W hb (fun j b hgo=>?_) (fun d hd=>?_)) ?_
   ·unfold Region.wanted at hW
    rw[hgo] at hW
    simp only[beq_iff_eq] at hW
    exact⟨vals j,hW,hv j (hg j b hgo).2⟩
   ·have:=hop d hd
    unfold TmpOk
    split
    ·rename_i k hk
     rw[hk] at this
     rw[this.2]
     exact hv k this.1
    ·rename_i hk
     rw[hk] at this
     exact this
   ·rintro v W' ⟨hbc,hx⟩
    refine⟨hb.trans (hbc.mono hb.size),fun k hk=>?_⟩
    by_cases ek:k=i
    ·subst ek
     simp only[if_true]
     exact hx
    ·simp only[if_neg ek] at hk ⊢
     exact hmono k _ _ _ hbc (hv k hk)
  ·rw[if_neg hW]
   refine⟨hb,fun k hk=>?_⟩
   by_cases ek:k=i
   ·subst ek
    simp only[if_true]
    cases hgo:o.guard with
    | none=>unfold Region.wanted at hW;rw[hgo] at hW;simp at hW
    | some p=>
      obtain⟨j,b⟩:=p
      refine hoff k o hi ho j b hgo (vals j) W (hv j (hg j b hgo).2) (fun e=>hW ?_)
      unfold Region.wanted
      rw[hgo]
      simp only[beq_iff_eq]
      exact e
   ·simp only[if_neg ek] at hk ⊢
    exact hv k hk
 ·intro L vals W hall hS
  exact hfin vals W hS.1 (fun k hk=>hS.2 k (hall k hk))
end
end RegM
namespace Sy
open Go.RowKit
section
variable{W0:World}{T T' T'':Nat→Prop}{w W W':World}{b off:Nat}
abbrev EvT:List TypeId:=[95,156]
theorem closed_ev:closedE cx.tb EvT=true:=by kernel_rfl
theorem Hist.comp{pu pu':Bool}(h:Hist T w pu T' W)(k:Hist T' W pu' T'' W'):Hist T w false T'' W':=by
 refine⟨h.ext.trans k.ext,fun g hg=>?_,Nat.le_trans h.size k.size,k.os.trans h.os,k.tape.trans h.tape,k.output.trans h.output,fun g hg hk=>?_⟩
 ·rcases k.new g hg with h1|h1
  ·exact h.new g h1
  ·exact .inr (Nat.le_trans h.size h1)
 ·have hn:¬T g:=hk.resolve_left (by decide)
  have hn':¬T' g:=fun ht=>by
   rcases h.new g ht with h1|h1
   ·exact hn h1
   ·omega
  exact(k.keep g (Nat.lt_of_lt_of_le hg h.size) (.inr hn')).trans (h.keep g hg (.inr hn))
structure Kp(W0:World)(T:Nat→Prop)(w:World)(b:Nat)(T':Nat→Prop)(W:World):Prop where
 wt:WT cx.tb W0 T' W
 hist:Hist T w false T' W
 blk:W.heap[b]? = w.heap[b]?
theorem Kp.refl(hw:WT cx.tb W0 T w):Kp W0 T w b T w:=⟨hw,Hist.refl _ _ _,rfl⟩
theorem Kp.below(h:Kp W0 T w b T' W)(hb:b<w.heap.size)(hB:Below W.heap.size W W'):Kp W0 T w b T' W':=by
 obtain⟨h1,h2⟩:=zu h.wt hB
 exact⟨h1,h.hist.comp (yx (PU:=true) h.wt hB),(hB.block b (Nat.lt_of_lt_of_le hb h.hist.size)).trans h.blk⟩
theorem Kp.call{pu:Bool}(h:Kp W0 T w b T' W)(hb:b<w.heap.size)(hne:¬fil W T' EvT b)(hk:Hist T' W pu T'' W')(hw:WT cx.tb W0 T'' W')(hfr:∀g,g<W.heap.size→¬fil W T' EvT g→W'.heap[g]? = W.heap[g]?):Kp W0 T w b T'' W':=
 ⟨hw,h.hist.comp hk,(hfr b (Nat.lt_of_lt_of_le hb h.hist.size) hne).trans h.blk⟩
theorem xh(hw:WT cx.tb W0 T w){base:Nat}(hp:CV cx.tb W0 T w base (.pt 1 80) (.pointer (some ⟨b,off,none⟩))):T b∧b<w.heap.size∧¬fil w T EvT b:=by
 obtain⟨b',off',e,⟨h0,-⟩|⟨hT,-,te,hrow,hct⟩⟩:=hp
 ·cases h0
 injection e with e;injection e with e;injection e with e1 e2 e3
 subst e1 e2
 refine⟨hT,hw.lt hT,fun hf=>?_⟩
 obtain⟨-,cs,te',fr,h1,h2⟩:=hf
 obtain⟨cs',fr',h3,-⟩:=hrow
 rw[h1] at h3
 injection h3 with h3
 injection h3 with r1 r2 r3
 subst r2
 have h4:=hct 1 (.sl 1 84 63) rfl
 have hmem:∀l:List CT,cx.tb.flat te'=some l→(CT.sl 1 84 63)∈l:=by
  intro l hl
  simp only[Tab.ctAt,hl] at h4
  exact List.mem_of_getElem? (by simpa using h4)
 have h5:te'=95∨te'=156:=by simpa[EvT] using h2
 rcases h5 with rfl|rfl
 ·exact absurd (hmem [.str maxLen,.str maxLen,full .i64,full .i64,full .i64,full .i64,.str maxLen,.bool,full .i64,.sl 0 156 1024] rfl) (by decide)
 ·exact absurd (hmem [full .i64,full .i64] rfl) (by decide)
theorem evA_of{cs:Array Value}(h:TyVal cx.tb W0 T w w.heap.size (.agg [.str maxLen,.str maxLen,full .i64,full .i64,full .i64,full .i64,.str maxLen,.bool,full .i64,.sl 0 156 1024]) (.agg cs)):∃s0 s1 n2 n3 n4 n5 s6 b7 n8 B m c,cs=evA s0 s1 n2 n3 n4 n5 s6 b7 n8 (.slice B m c):=by
 obtain⟨cs',e,hs,ha⟩:=h
 cases e
 obtain⟨l⟩:=cs
 have hs:l.length=10:=hs
 rcases l with _|⟨a0,_|⟨a1,_|⟨a2,_|⟨a3,_|⟨a4,_|⟨a5,_|⟨a6,_|⟨a7,_|⟨a8,_|⟨a9,_|⟨a10,l⟩⟩⟩⟩⟩⟩⟩⟩⟩⟩⟩<;>first|(simp at hs;done)|skip
 obtain⟨s0,rfl,-⟩:=ha 0 _ _ rfl rfl
 obtain⟨s1,rfl,-⟩:=ha 1 _ _ rfl rfl
 obtain⟨n2,rfl,-⟩:=ha 2 _ _ rfl rfl
 obtain⟨n3,rfl,-⟩:=ha 3 _ _ rfl rfl
 obtain⟨n4,rfl,-⟩:=ha 4 _ _ rfl rfl
 obtain⟨n5,rfl,-⟩:=ha 5 _ _ rfl rfl
 obtain⟨s6,rfl,-⟩:=ha 6 _ _ rfl rfl
 obtain⟨b7,rfl⟩:=ha 7 _ _ rfl rfl
 obtain⟨n8,rfl,-⟩:=ha 8 _ _ rfl rfl
 obtain⟨B,m,c,rfl,-⟩:=zy (ha 9 _ _ rfl rfl)
 exact⟨s0,s1,n2,n3,n4,n5,s6,b7,n8,B,m,c,rfl⟩
def R64'(n:Int):Prop:=-9223372036854775808≤n∧n≤9223372036854775807
theorem jw{e:TypeId}{lb base:Nat}{v:Value}(h:CV cx.tb W0 T w base (.sl 1 e lb) v)(base':Nat):CV cx.tb W0 T w base' (.sl 1 e lb) v:=by
 rcases h with h|⟨h0,h⟩|⟨b,off,n,c,h1,h2,h3,h4,h5,h6,h7⟩
 ·exact .inl h
 ·cases h0
 ·exact .inr (.inr ⟨b,off,n,c,h1,h2,h3,h4,h5,fun h=>by omega,h7⟩)
theorem pt1_base{t:TypeId}{base:Nat}{v:Value}(h:CV cx.tb W0 T w base (.pt 1 t) v)(base':Nat):CV cx.tb W0 T w base' (.pt 1 t) v:=by
 obtain⟨b,off,e,⟨h0,-⟩|⟨h1,h2,h3⟩⟩:=h
 ·cases h0
 ·exact⟨b,off,e,.inr ⟨h1,fun h=>by omega,h3⟩⟩
def CR(W0:World)(T:Nat→Prop)(w:World)(b:Nat)(v:Value)(W:World):Prop:=∃T2 l k,Kp W0 T w b T2 W∧v=.tuple #[l,.int .i64 k]∧CV cx.tb W0 T2 W 0 (.sl 1 95 8192) l∧R64' k
def CL(W0:World)(T:Nat→Prop)(w:World)(b:Nat)(v:Value)(W:World):Prop:=∃T2,Kp W0 T w b T2 W∧CV cx.tb W0 T2 W 0 (.sl 1 95 8192) v
def CE(v:Value):Prop:=∃k,v=.int .i64 k∧R64' k
abbrev evT:PT:=.agg [.str maxLen,.str maxLen,full .i64,full .i64,full .i64,full .i64,.str maxLen,.bool,full .i64,.sl 0 156 1024]
theorem ev_base{base:Nat}{v:Value}(h:TyVal cx.tb W0 T w base evT v)(base':Nat):TyVal cx.tb W0 T w base' evT v:=by
 obtain⟨cs,e,h1,h2⟩:=h
 refine⟨cs,e,h1,fun i ct u hi hu=>?_⟩
 have h3:=h2 i ct u hi hu
 match i,hi with
 | 0,hi=>cases hi;exact h3
 | 1,hi=>cases hi;exact h3
 | 2,hi=>cases hi;exact h3
 | 3,hi=>cases hi;exact h3
 | 4,hi=>cases hi;exact h3
 | 5,hi=>cases hi;exact h3
 | 6,hi=>cases hi;exact h3
 | 7,hi=>cases hi;exact h3
 | 8,hi=>cases hi;exact h3
 | 9,hi=>cases hi;exact sl_low h3 (by omega) _
theorem put_call(h134:Holds Tryz.prog cx W0 134 c134)(hk:Kp W0 T w b T' W)(hw:WT cx.tb W0 T w)(hp:CV cx.tb W0 T w 0 (.pt 1 80) (.pointer (some ⟨b,off,none⟩))){l:Value}{cs:Array Value}(hl:CV cx.tb W0 T' W 0 (.sl 1 95 8192) l)
  (hev:TyVal cx.tb W0 T w 0 (.agg [.str maxLen,.str maxLen,full .i64,full .i64,full .i64,full .i64,.str maxLen,.bool,full .i64,.sl 0 156 1024]) (.agg cs)) :
  Calls Tryz.prog 134 #[l,.agg cs] W fun e W'=>∃v,e=.returned v∧CR W0 T w b v W':=by
 have hcn:=xh hk.wt (hp.mono hk.hist.ext (Nat.le_refl _))
 have hbl:=(xh hw hp).2.1
 have hty:TyAll cx.tb W0 T' W W.heap.size c134.ps [l,.agg cs]:=by
  refine⟨jw hl _,?_,trivial⟩
  obtain⟨cs',e,h1,h2⟩:=qf hk.hist.ext hev
  refine⟨cs',e,h1,fun i ct u hi hu=>?_⟩
  have h3:=h2 i ct u hi hu
  match i,hi with
  | 0,hi=>cases hi;exact h3
  | 1,hi=>cases hi;exact h3
  | 2,hi=>cases hi;exact h3
  | 3,hi=>cases hi;exact h3
  | 4,hi=>cases hi;exact h3
  | 5,hi=>cases hi;exact h3
  | 6,hi=>cases hi;exact h3
  | 7,hi=>cases hi;exact h3
  | 8,hi=>cases hi;exact h3
  | 9,hi=>cases hi;exact sl_low h3 (by omega) _
 refine(framed h134 closed_ev (by kernel_rfl) hk.wt (args:=#[l,.agg cs]) hty (fun l hl=>by cases hl)).mono ?_
 rintro e W' ⟨v,vs,T2,rfl,hr,hrt,-,-,hh,hw2,hfr⟩
 have hl2:=yt hrt
 obtain⟨x,y,rfl⟩:∃x y,vs=[x,y]:=by
  rcases vs with _|⟨a,_|⟨b,_|⟨c,l⟩⟩⟩<;>first|(simp[c134] at hl2;done)|exact⟨_,_,rfl⟩
 have hr:v=.tuple #[x,y]:=hr
 subst hr
 obtain⟨hx,⟨k,rfl,k1,k2⟩,-⟩:=hrt
 exact⟨_,rfl,T2,x,k,hk.call hbl hcn.2.2 hh hw2 hfr,rfl,jw (base:=W.heap.size) hx 0,k1,k2⟩
theorem cell_frozen{o:Nat}{v:Value}(hw:WT cx.tb W0 T w)(hT:T b)(hc:w.cell? ⟨b,o,none⟩=some v):w.frozen? ⟨b,o,none⟩=false:=by
 obtain⟨cs,e,fr,l,h1,h2,-⟩:=hw.typed b hT
 have ho:o<cs.size:=by
  simp only[World.cell?,h1] at hc
  exact(Array.getElem?_eq_some_iff.1 hc).1
 simp only[World.frozen?,h1]
 rcases h2 with rfl|h2
 ·simp
 ·have:¬fr.1≤o:=by omega
  simp[this]
theorem set_wt{o:Nat}{v u:Value}{ct:CT}{te:TypeId}(hw:WT cx.tb W0 T w)(hT:T b)(hr:∃n,Row w b te n)(hct:cx.tb.ctAt te o=some ct)(hnf:ct.frozen=false)(hne:fzE te=false)(hu:w.cell? ⟨b,o,none⟩=some u)(hv:CV cx.tb W0 T w 0 ct v) :
  WT cx.tb W0 T (w.setCell ⟨b,o,none⟩ v)∧Ext T w T (w.setCell ⟨b,o,none⟩ v)∧Hist T w false T (w.setCell ⟨b,o,none⟩ v):=by
 obtain⟨cs,e,fr,l,h1,h2,h3,h4,h5⟩:=hw.typed b hT
 obtain⟨n,cs',fr',q1,-⟩:=hr
 rw[h1] at q1
 injection q1 with q1
 injection q1 with r1 r2 r3
 subst r1;subst r2;subst r3
 have hct':l[o%l.length]? = some ct:=by simpa[Tab.ctAt,h3] using hct
 have hse:=setCell_eq_setRow w b o cs e fr v h1
 have hh:(w.setCell ⟨b,o,none⟩ v).heap[b]? = some (.cells (cs.setIfInBounds o v) e fr):=by rw[hse];exact setRow_heap w b cs _ e fr h1
 have ho:∀k,k≠b→(w.setCell ⟨b,o,none⟩ v).heap[k]? = w.heap[k]?:=fun k hk=>by rw[hse];exact setRow_other w b k _ hk
 have hz:(w.setCell ⟨b,o,none⟩ v).heap.size=w.heap.size:=by simp
 have hget:∀(i:Nat) (x:Value),(cs.setIfInBounds o v)[i]? = some x→cs[i]? = some x∨(i=o∧x=v):=by
  intro i x hx
  rw[Array.getElem?_setIfInBounds] at hx
  split at hx
  ·rename_i e1
   split at hx
   ·cases hx;exact .inr ⟨e1.symm,rfl⟩
   ·cases hx
  ·exact .inl hx
 obtain⟨j1,j2⟩:=hw.write hne hT h1 h3 (by simp) hh (by rcases h2 with h2|h2;exact .inl h2;exact .inr (by simpa using h2)) ho hz
  (fun i x hx=>by
    rcases hget i x hx with h|⟨rfl,rfl⟩
    ·exact .inl h
    ·exact .inr ⟨ct,hct',hv⟩)
  (.inr fun i x hx=>by
    rcases hget i x hx with h|⟨rfl,rfl⟩
    ·exact .inl h
    ·exact .inr ⟨ct,hct',hnf⟩)
 exact⟨j1,j2,j2,fun g h=>.inl h,Nat.le_of_eq hz.symm,rfl,rfl,rfl,fun g hg hk=>ho g (fun e=>by subst e;exact(hk.resolve_left (by decide)) hT)⟩
def Cs(W0:World)(T:Nat→Prop)(w:World)(b off:Nat)(A6:Option Addr)(n6 c6:Nat)(W:World):Prop:=∃T3,WT cx.tb W0 T3 W∧Hist T w false T3 W∧W.cell? ⟨b,off+7,none⟩=some (.slice A6 n6 c6)
theorem Cs.store{A6 A7:Option Addr}{n6 c6 n7 c7:Nat}{u:Value}(hk:Kp W0 T w b T' W)(hp:CV cx.tb W0 T w 0 (.pt 1 80) (.pointer (some ⟨b,off,none⟩)))(h6:W.cell? ⟨b,off+7,none⟩=some (.slice A6 n6 c6))(h5:W.cell? ⟨b,off+6,none⟩=some u)(hl:CV cx.tb W0 T' W 0 (.sl 1 95 8192) (.slice A7 n7 c7)) :
  Cs W0 T w b off A6 n6 c6 (W.setCell ⟨b,off+6,none⟩ (.slice A7 n7 c7)):=by
 obtain⟨b',off',e,⟨h0,-⟩|⟨hT,-,te,hrow,hct⟩⟩:=hp.mono hk.hist.ext (Nat.le_refl _)
 ·cases h0
 injection e with e;injection e with e;injection e with e1 e2 e3
 subst e1 e2
 have hne:fzE te=false:=by
  have h4:=hct 1 (.sl 1 84 63) rfl
  by_cases ht:te=69
  ·subst ht
   exfalso
   simp only[Tab.ctAt,show cx.tb.flat 69=some [.fz (.int .i64),.fz (.int .i64),.fz .str,.fz .str,.fz .str,.fz (.int .u64)] from rfl] at h4
   exact absurd (List.mem_of_getElem? (by simpa using h4)) (show(CT.sl 1 84 63) ∉ ([.fz (.int .i64),.fz (.int .i64),.fz .str,.fz .str,.fz .str,.fz (.int .u64)]:List CT) by decide)
  ·simp[fzE,ht]
 obtain⟨j1,j2,j3⟩:=set_wt (o:=off+6) (ct:=.sl 1 95 8192) (v:=.slice A7 n7 c7) hk.wt hT ⟨_,hrow⟩ (hct 6 (.sl 1 95 8192) rfl) (by decide) hne h5 hl
 refine⟨T',j1,hk.hist.comp j3,?_⟩
 obtain⟨cs,fr,q1,-⟩:=hrow
 have hse:=setCell_eq_setRow W b (off+6) cs te fr (.slice A7 n7 c7) q1
 have hh:(W.setCell ⟨b,off+6,none⟩ (.slice A7 n7 c7)).heap[b]? = some (.cells (cs.setIfInBounds (off+6) (.slice A7 n7 c7)) te fr):=by rw[hse];exact setRow_heap W b cs _ te fr q1
 rw[cell_of_row W b _ cs te fr q1] at h6
 rw[cell_of_row _ b _ _ te fr hh,Array.getElem?_setIfInBounds,if_neg (show ¬off+6=off+7 by omega)]
 exact h6
theorem of_call(h136:Holds Tryz.prog cx W0 136 c136)(hk:Kp W0 T w b T' W)(hw:WT cx.tb W0 T w)(hp:CV cx.tb W0 T w 0 (.pt 1 80) (.pointer (some ⟨b,off,none⟩))){l:Value}{s0 s1:ByteArray}(hl:CV cx.tb W0 T' W 0 (.sl 1 95 8192) l)(z0:s0.size≤maxLen)(z1:s1.size≤maxLen) :
  Calls Tryz.prog 136 #[l,.string s0,.string s1] W fun e W'=>∃v,e=.returned v∧CL W0 T w b v W':=by
 have hcn:=xh hk.wt (hp.mono hk.hist.ext (Nat.le_refl _))
 have hbl:=(xh hw hp).2.1
 have hty:TyAll cx.tb W0 T' W W.heap.size c136.ps [l,.string s0,.string s1]:=⟨sl_low (jw hl W.heap.size) (by omega) _,⟨s0,rfl,z0⟩,⟨s1,rfl,z1⟩,trivial⟩
 refine(framed h136 closed_ev (by kernel_rfl) hk.wt (args:=#[l,.string s0,.string s1]) hty (fun l hl=>by cases hl)).mono ?_
 rintro e W' ⟨v,vs,T2,rfl,hr,hrt,-,-,hh,hw2,hfr⟩
 have hr:vs=[v]:=hr
 subst hr
 exact⟨v,rfl,T2,hk.call hbl hcn.2.2 hh hw2 hfr,jw (base:=W.heap.size) hrt.1 0⟩
abbrev rcP:PT:=.agg [.str maxLen,.str maxLen,full .i64,.str maxLen,full .i64,full .i64,.sl 0 156 1024,full .i64,full .i64,.bool,.bool]
theorem rc_base{base:Nat}{v:Value}(h:TyVal cx.tb W0 T w base rcP v)(base':Nat):TyVal cx.tb W0 T w base' rcP v:=by
 obtain⟨cs,e,h1,h2⟩:=h
 refine⟨cs,e,h1,fun i ct u hi hu=>?_⟩
 have h3:=h2 i ct u hi hu
 match i,hi with
 | 0,hi=>cases hi;exact h3
 | 1,hi=>cases hi;exact h3
 | 2,hi=>cases hi;exact h3
 | 3,hi=>cases hi;exact h3
 | 4,hi=>cases hi;exact h3
 | 5,hi=>cases hi;exact h3
 | 6,hi=>cases hi;exact sl_low h3 (by omega) _
 | 7,hi=>cases hi;exact h3
 | 8,hi=>cases hi;exact h3
 | 9,hi=>cases hi;exact h3
 | 10,hi=>cases hi;exact h3
def CM(W0:World)(T:Nat→Prop)(w:World)(b:Nat)(v:Value)(W:World):Prop:=∃T2 cs k,Kp W0 T w b T2 W∧v=.tuple #[.agg cs,.int .i64 k]∧TyVal cx.tb W0 T2 W 0 rcP (.agg cs)∧R64' k
theorem make_call(h135:Holds Tryz.prog cx W0 135 c135)(hk:Kp W0 T w b T' W)(hw:WT cx.tb W0 T w)(hp:CV cx.tb W0 T w 0 (.pt 1 80) (.pointer (some ⟨b,off,none⟩))){l:Value}{m:Int}(hl:CV cx.tb W0 T' W 0 (.sl 1 95 8192) l)(hm:R64' m) :
  Calls Tryz.prog 135 #[l,.int .i64 m] W fun e W'=>∃v,e=.returned v∧CM W0 T w b v W':=by
 have hcn:=xh hk.wt (hp.mono hk.hist.ext (Nat.le_refl _))
 have hbl:=(xh hw hp).2.1
 have hty:TyAll cx.tb W0 T' W W.heap.size c135.ps [l,.int .i64 m]:=⟨sl_low (jw hl W.heap.size) (by omega) _,⟨m,rfl,hm.1,hm.2⟩,trivial⟩
 refine(framed h135 closed_ev (by kernel_rfl) hk.wt (args:=#[l,.int .i64 m]) hty (fun l hl=>by cases hl)).mono ?_
 rintro e W' ⟨v,vs,T2,rfl,hr,hrt,-,-,hh,hw2,hfr⟩
 have hl2:=yt hrt
 obtain⟨x,y,rfl⟩:∃x y,vs=[x,y]:=by
  rcases vs with _|⟨a,_|⟨b,_|⟨c,l⟩⟩⟩<;>first|(simp[c135] at hl2;done)|exact⟨_,_,rfl⟩
 have hr:v=.tuple #[x,y]:=hr
 subst hr
 obtain⟨hx,⟨k,rfl,k1,k2⟩,-⟩:=hrt
 have hx:TyVal cx.tb W0 T2 W' W.heap.size rcP x:=hx
 obtain⟨cs,rfl,-⟩:=id hx
 exact⟨_,rfl,T2,cs,k,hk.call hbl hcn.2.2 hh hw2 hfr,rfl,rc_base hx 0,k1,k2⟩
def CoPost(W0:World)(T:Nat→Prop)(w:World)(e:Ending)(w':World):Prop:=∃k:Int,e=.returned (.int .i64 k)∧-9223372036854775808≤k∧k≤9223372036854775807∧∃T',WT cx.tb W0 T' w'∧Hist T w false T' w'
end
end Sy
namespace Reg9D
open Go.RowKit Reg4
section
variable{P:Program}{ops:Array Oper}{Q:Exit→Act→World→Prop}{m:Nat}{a0:Act}{S:(Nat→Bool)→(Nat→Value)→World→Prop}
structure Inv(ops:Array Oper)(m:Nat)(a0:Act)(S:(Nat→Bool)→(Nat→Value)→World→Prop)(vals:Nat→Value)(listed:Array Bool)(a:Act)(w:World):Prop where
 size:listed.size=ops.size
 tail:∀i,m≤i→i<ops.size→listed.getD i true=false
 act:a=puts ops vals (fun k=>listed.getD k false) (List.range m) a0
 s:S (fun k=>listed.getD k false) vals w
 down:∀(k:Nat) (o:Oper),ops[k]? = some o→listed.getD k false=true→∀e∈o.after,Region.binds .any e=true→listed.getD e.on false=true
theorem main(hH:headB ops m=true)(hin:∀k d,k<m→dstOf ops k=some d→d<a0.tmps.size)
  (hstep:∀i o,i<m→ops[i]? = some o→∀(L:Nat→Bool) (vals:Nat→Value) (a:Act) (w:World),L i=false→S L vals w→(∀e∈o.after,Region.binds .any e=true→L e.on=true)→(∀d,Operand.tmp d∈o.op.operands→match idxOf ops m d with|some k=>L k=true∧a.tmps.getD d undef=vals k|none=>a.tmps.getD d undef=a0.tmps.getD d undef)→(∀k j o',ops[k]? = some o'→L k=true→reaches ops ops.size k j=true→L j=true) →
    StepOk P (fun v w'=>S (fun k=>if k=i then true else L k) (fun k=>if k=i then v else vals k) w') ((execOp a.eval o).run P w))
  (hfin:∀(L:Nat→Bool) (vals:Nat→Value) (w:World),(∀k,k<m→L k=true)→S L vals w→wpList P ops Q (ops.toList.drop m) (puts ops vals (fun _=>true) (List.range m) a0) w) :
  ∀(c:Nat) (vals:Nat→Value) (listed:Array Bool) (a:Act) (w:World),Inv ops m a0 S vals listed a w→left m listed=c→wpAny P .any ops Q (c+(ops.size-m)) listed a w:=by
 simp only[headB,Bool.and_eq_true,decide_eq_true_eq,List.all_eq_true,List.mem_range,Bool.or_eq_true] at hH
 obtain⟨⟨⟨hmn,hop⟩,htail⟩,hseq⟩:=hH
 have hopx:∀i o,i<m→ops[i]? = some o→o.guard=none∧(∀e∈o.after,Region.binds .any e=true→e.on<i)∧(∀d,Operand.tmp d∈o.op.operands→∀k,k<m→dstOf ops k=some d→waits o k=true)∧(∀k,k<m→k≠i→∀d,dstOf ops i=some d→dstOf ops k≠some d):=by
  intro i o hi ho
  have h:=hop i hi
  unfold opB at h
  rw[ho] at h
  simp only[Bool.and_eq_true,Option.isNone_iff_eq_none,Array.all_eq_true_iff_forall_mem,decide_eq_true_eq,List.all_eq_true,List.mem_range,Bool.or_eq_true,bne_iff_ne,beq_iff_eq] at h
  obtain⟨⟨⟨h1,h2⟩,h3⟩,h4⟩:=h
  refine⟨h1,fun e he hb=>(h2 e he).resolve_left (by rw[hb];decide),fun d hd k hk hkd=>?_,fun k hk hne d hd hkd=>?_⟩
  ·have:=h3 _ hd
   simp only[List.all_eq_true,List.mem_range,Bool.or_eq_true,bne_iff_ne] at this
   rcases this k hk with h|h
   ·exact absurd hkd h
   ·exact h
  ·rcases h4 k hk with(h|h)|h
   ·exact hne h
   ·rw[h] at hd;cases hd
   ·rw[hd,hkd] at h;exact h rfl
 intro c
 induction c with
 | zero=>
   intro vals listed a w inv hc
   have hall:∀k,k<m→listed.getD k false=true:=by
    intro k hk
    unfold left at hc
    have:=List.eq_nil_of_length_eq_zero hc
    have h2:=List.filter_eq_nil_iff.1 this k (List.mem_range.2 hk)
    simpa using h2
   have hl:listed=marks m ops.size:=by
    refine Array.ext (by simp[marks,inv.size];omega) (fun k h1 h2=>?_)
    by_cases hk:k<m
    ·have e1:=hall k hk
     rw[Array.getD_eq_getD_getElem?,Array.getElem?_eq_getElem h1] at e1
     have e2:(marks m ops.size)[k]=true:=by simp[marks,hk]
     rw[e2];simpa using e1
    ·have e1:=inv.tail k (by omega) (by rw[←inv.size];exact h1)
     rw[Array.getD_eq_getD_getElem?,Array.getElem?_eq_getElem h1] at e1
     have e2:(marks m ops.size)[k]=false:=by simp[marks,Array.getElem_append,hk]
     rw[e2];simpa using e1
   have ha:a=puts ops vals (fun _=>true) (List.range m) a0:=by
    rw[inv.act]
    exact puts_congr _ _ (fun k hk=>⟨hall k (List.mem_range.1 hk),rfl⟩)
   subst ha
   have hlen:(ops.toList.drop m).length=ops.size-m:=by simp
   have:=wpAny_of_seq (md:=.any) (Q':=Q) (P:=P) (ops:=ops) (ops.toList.drop m) m listed _ w (fun j=>by simp) (by rw[hlen,hl];exact hseq) (hfin _ vals w hall inv.s)
   rw[hlen] at this
   rw[Nat.zero_add]
   exact this
 | succ c ih=>
   intro vals listed a w inv hc
   rw[show c+1+(ops.size-m)=(c+(ops.size-m))+1 by omega]
   have hex:∃i,i<m∧listed.getD i false=false:=by
    unfold left at hc
    rcases hl:(List.range m).filter (fun k=>!listed.getD k false) with _|⟨i,l⟩
    ·rw[hl] at hc;simp at hc
    ·have:i∈(List.range m).filter (fun k=>!listed.getD k false):=by rw[hl];simp
     rw[List.mem_filter,List.mem_range] at this
     exact⟨i,this.1,by simpa using this.2⟩
   refine⟨fun hr=>?_,fun i hi=>?_⟩
   ·
    exfalso
    obtain⟨i,⟨hi,hu⟩,hmin⟩:∃i,(i<m∧listed.getD i false=false)∧∀j,j<i→listed.getD j false=true:=by
     obtain⟨i,hi,hu⟩:=hex
     induction i using Nat.strongRecOn with
     | _ i ihs=>
       by_cases hb:∃j,j<i∧listed.getD j false=false
       ·obtain⟨j,hj,hju⟩:=hb
        exact ihs j hj (by omega) hju
       ·exact⟨i,⟨hi,hu⟩,fun j hj=>by
         cases hv:listed.getD j false with
         | true=>rfl
         | false=>exact absurd ⟨j,hj,hv⟩ hb⟩
    have ho:∃o,ops[i]? = some o:=⟨ops[i]'(by omega),Array.getElem?_eq_getElem _⟩
    obtain⟨o,ho⟩:=ho
    have:i∈Region.ready .any ops listed:=mem_ready.2 ⟨by rw[getD_tf _ _ (by rw[inv.size];omega)];exact hu,o,ho,fun e he hb=>hmin _ ((hopx i o hi ho).2.1 e he hb)⟩
    rw[hr] at this
    cases this
   ·obtain⟨hu,o,ho,hed⟩:=mem_ready.1 hi
    have hin':i<ops.size:=(Array.getElem?_eq_some_iff.1 ho).1
    have his:i<listed.size:=by rw[inv.size];exact hin'
    have hu':listed.getD i false=false:=by rw[←getD_tf _ _ his];exact hu
    have him:i<m:=by
     rcases Nat.lt_or_ge i m with h|h
     ·exact h
     ·exfalso
      obtain⟨k,hk,hku⟩:=hex
      have ht:=htail i hin'
      rcases ht with ht|ht
      ·omega
      ·unfold tailB at ht
       simp only[List.all_eq_true,List.mem_range] at ht
       have:=reach_listed inv.down _ i o k ho hed (ht k hk)
       rw[hku] at this
       cases this
    obtain⟨g1,g2,g3,g4⟩:=hopx i o him ho
    have hstep':=hstep i o him ho _ vals a w hu' inv.s hed (fun d hx=>by
     split
     ·rename_i k hk
      unfold idxOf at hk
      have hkm:k<m:=List.mem_range.1 (List.mem_of_find?_eq_some hk)
      have hkd:dstOf ops k=some d:=by simpa using List.find?_some hk
      have hw:=g3 d hx k hkm hkd
      unfold waits at hw
      rw[Array.any_eq_true'] at hw
      obtain⟨e,he,hb⟩:=hw
      simp only[Bool.and_eq_true,beq_iff_eq] at hb
      have hlk:=hed e he hb.1
      rw[hb.2] at hlk
      have:a.tmps.getD d undef=vals k:=by
       rw[inv.act]
       refine puts_at hkd hlk (List.range m) a0 List.nodup_range (List.mem_range.2 hkm) (hin k d hkm hkd) (fun j hj hne hjd=>?_)
       have hj':j<m:=List.mem_range.1 hj
       have hoj:∃oj,ops[j]? = some oj:=⟨ops[j]'(by omega),Array.getElem?_eq_getElem _⟩
       obtain⟨oj,hoj⟩:=hoj
       exact(hopx j oj hj' hoj).2.2.2 k hkm (fun e=>hne e.symm) d hjd hkd
      exact⟨hlk,this⟩
     ·rename_i hk
      unfold idxOf at hk
      have hno:∀k∈List.range m,dstOf ops k≠some d:=fun k hk'=>by
       have:=List.find?_eq_none.1 hk k hk'
       simpa using this
      rw[inv.act]
      exact puts_none _ _ hno) (fun k j ok hok hk hr=>reach_listed inv.down _ k ok j hok (inv.down k ok hok hk) hr)
    have hGe:(fun k=>(listed.setIfInBounds i true).getD k false)=(fun k=>if k=i then true else listed.getD k false):=funext fun k=>getD_set _ _ _ _ his
    have hK:∀(v:Value) (w':World),S (fun k=>if k=i then true else listed.getD k false) (fun k=>if k=i then v else vals k) w'→wpAny P .any ops Q (c+(ops.size-m)) (listed.setIfInBounds i true) (a.put o.dst v) w':=by
     intro v w' hG
     refine ih (fun k=>if k=i then v else vals k) _ _ _ ⟨by simp[inv.size],fun j hj hjn=>?_,?_,by rw[hGe];exact hG,fun k ok hok hlk e he hbe=>?_⟩ ?_
     ·rw[getD_set _ _ _ _ his,if_neg (by omega)]
      exact inv.tail j hj hjn
     ·have hdst:o.dst=dstOf ops i:=by unfold dstOf;rw[ho];rfl
      rw[hdst,inv.act,←puts_ins (List.range m) a0 List.nodup_range (List.mem_range.2 him) hu' (fun k hk hne d h1=>g4 k (List.mem_range.1 hk) hne d h1)]
      refine puts_congr _ _ (fun k hk=>⟨?_,rfl⟩)
      rw[getD_set _ _ _ _ his]
      by_cases e:k=i
      ·simp[e]
      ·simp[e]
     ·have hlo:listed.getD e.on false=true:=by
       by_cases ek:k=i
       ·subst ek
        rw[ho] at hok
        injection hok with hok
        subst hok
        exact hed e he hbe
       ·rw[getD_set _ _ _ _ his,if_neg ek] at hlk
        exact inv.down k ok hok hlk e he hbe
      rw[getD_set _ _ _ _ his]
      split
      ·rfl
      ·exact hlo
     ·have:=left_set (m:=m) him his hu'
      omega
    unfold wpOp
    rw[ho]
    have hwant:Region.wanted o (yielded ops a.tmps)=true:=by simp[Region.wanted,g1]
    simp only[hwant,if_true]
    left
    unfold Oper.wp
    generalize (execOp a.eval o).run P w=r at hstep'
    cases r with
    | ok nx w'=>
      cases nx<;>simp only[StepOk] at hstep'<;>simp only[Oper.upon]
      ·exact hK _ _ hstep'
      ·exact hK _ _ hstep'
      ·exact hstep'.mono fun e w'' ⟨v,he,hR⟩=>by subst he;exact hK v w'' hR
    | halt x w'=>simp only[StepOk] at hstep'
theorem region{id:Nat}{w:World}(m:Nat)(S:(Nat→Bool)→(Nat→Value)→World→Prop)(hm:P.follows .mixedOrders=true)(hH:headB ops m=true)(hin:∀k d,k<m→dstOf ops k=some d→d<a0.tmps.size)(hG:S (fun _=>false) (fun _=>undef) w.drew)
  (hstep:∀i o,i<m→ops[i]? = some o→∀(L:Nat→Bool) (vals:Nat→Value) (a:Act) (w:World),L i=false→S L vals w→(∀e∈o.after,Region.binds .any e=true→L e.on=true)→(∀d,Operand.tmp d∈o.op.operands→match idxOf ops m d with|some k=>L k=true∧a.tmps.getD d undef=vals k|none=>a.tmps.getD d undef=a0.tmps.getD d undef)→(∀k j o',ops[k]? = some o'→L k=true→reaches ops ops.size k j=true→L j=true) →
    StepOk P (fun v w'=>S (fun k=>if k=i then true else L k) (fun k=>if k=i then v else vals k) w') ((execOp a.eval o).run P w))
  (hfin:∀(L:Nat→Bool) (vals:Nat→Value) (w:World),(∀k,k<m→L k=true)→S L vals w→wpList P ops Q (ops.toList.drop m) (puts ops vals (fun _=>true) (List.range m) a0) w) :
  (Code.region id ops true).wp P Q a0 w:=by
 refine wp_region_any hm ?_
 have hmn:m≤ops.size:=by
  simp only[headB,Bool.and_eq_true,decide_eq_true_eq] at hH
  exact hH.1.1.1
 have hz:∀k b,k<ops.size→(Array.replicate ops.size false).getD k b=false:=fun k b hk=>by
  rw[Array.getD_eq_getD_getElem?,Array.getElem?_replicate,if_pos hk];rfl
 have hl:left m (Array.replicate ops.size false)=m:=by
  unfold left
  rw[List.filter_eq_self.2 (fun k hk=>by rw[hz k false (by have:=List.mem_range.1 hk;omega)];rfl),List.length_range]
 have hGz:S (fun _=>false) (fun _=>undef) w.drew→S (fun k=>(Array.replicate ops.size false).getD k false) (fun _=>undef) w.drew:=fun h=>by
  have e:(fun k=>(Array.replicate ops.size false).getD k false)=(fun _=>false):=funext fun k=>by
   rw[Array.getD_eq_getD_getElem?,Array.getElem?_replicate]
   split<;>rfl
  rw[e];exact h
 have:=main (P:=P) (Q:=Q) (a0:=a0) (S:=S) hH hin hstep hfin m (fun _=>undef) (Array.replicate ops.size false) a0 w.drew ⟨by simp,fun i _ hi=>hz i true hi,?_,hGz hG,fun k o ho h=>?_⟩ hl
 ·rw[show m+(ops.size-m)=ops.size by omega] at this
  exact this
 ·have:∀(ks:List Nat) (a:Act),(∀k∈ks,k<ops.size)→puts ops (fun _=>undef) (fun k=>(Array.replicate ops.size false).getD k false) ks a=a:=by
   intro ks
   induction ks with
   | nil=>intro a _;rfl
   | cons k ks ih=>
     intro a h
     unfold puts
     rw[hz k false (h k (by simp))]
     exact ih a (fun j hj=>h j (by simp[hj]))
  exact(this _ _ (fun k hk=>by have:=List.mem_range.1 hk;omega)).symm
 ·rw[hz k false (Array.getElem?_eq_some_iff.1 ho).1] at h;cases h
end
end Reg9D
namespace RegB
open Go.RowKit Reg4
section
variable{P:Program}{ops:Array Oper}{Q:Exit→Act→World→Prop}{a0:Act}
def But(g:Nat)(W W':World):Prop:=W.heap.size≤W'.heap.size∧∀b,b<W.heap.size→b≠g→W'.heap[b]? = W.heap[b]?
theorem But.row(g:Nat)(W:World)(cs:Array Value):But g W (W.setRow g cs):=⟨by rw[size_setRow];exact Nat.le_refl _,fun b _ h=>setRow_other W g b cs h⟩
theorem But.own{α:Type}{R:List Value→α→Prop}{e:TypeId}{size base g:Nat}{W W':World}{v:Value}{xs:List α}(h:But g W W')(ho:Own R e size base W v xs)(hg:g<base):Own R e size base W' v xs:=by
 obtain⟨rs,⟨h1,h2⟩,h3⟩:=ho
 refine⟨rs,⟨h1,?_⟩,h3⟩
 rcases h2 with h0|⟨g',cap,cur,r1,r2,r3,r4⟩
 ·exact .inl h0
 ·exact .inr ⟨g',cap,cur,r1,r2,(h.2 g' (Array.getElem?_eq_some_iff.1 r3).1 (by omega)).trans r3,r4⟩
end
end RegB
namespace Sy
open Go.RowKit
section
variable{W0:World}{T T' T'' T3 T2:Nat→Prop}{w W W' W3:World}{b off:Nat}{K:Nat→Option Value}{L:Nat→Bool}{vals:Nat→Value}
theorem Kp.trans(h:Kp W0 T w b T' W)(k:Kp W0 T' W b T'' W'):Kp W0 T w b T'' W':=⟨k.wt,h.hist.comp k.hist,k.blk.trans h.blk⟩
theorem stepOk_of{P:Program}{R:Value→World→Prop}{r r':Result Next}(h:r=r')(k:Reg4.StepOk P R r'):Reg4.StepOk P R r:=h ▸ k
structure S8T(W0:World)(K:Nat→Option Value)(T3:Nat→Prop)(W3:World)(b:Nat)(T':Nat→Prop)(L:Nat→Bool)(vals:Nat→Value)(W:World):Prop where
 kp:Kp W0 T3 W3 b T' W
 kn:∀k x,K k=some x→L k=true→vals k=x
 ls:L 9=true→CV cx.tb W0 T' W 0 (.sl 1 95 8192) (vals 9)
 tu:∀k,k=15∨k=16→L k=true→∃cs n,vals k=.tuple #[.agg cs,.int .i64 n]∧TyVal cx.tb W0 T' W 0 rcP (.agg cs)∧R64' n
 rc:L 17=true→∃cs,vals 17=.agg cs∧TyVal cx.tb W0 T' W 0 rcP (.agg cs)
 er:∀k,k=18∨k=21→L k=true→∃n,vals k=.int .i64 n∧R64' n
 bx:L 19=true→∃g cs,vals 19=.pointer (some ⟨g,0,none⟩)∧¬T' g∧W3.heap.size≤g∧YtmadfhgiaonnlaaGreatDoor.Blk W g 98 cs∧cs.size=11∧(L 20=true→TyVal cx.tb W0 T' W 0 rcP (.agg cs))
abbrev upL (L:Nat→Bool) (i:Nat):Nat→Bool:=fun k=>if k=i then true else L k
abbrev upV (vals:Nat→Value) (i:Nat) (v:Value):Nat→Value:=fun k=>if k=i then v else vals k
theorem S8T.put{i:Nat}{v:Value}(h:S8T W0 K T3 W3 b T' L vals W)(hLi:L i=false)(h0:∀x,K i=some x→v=x)(h9:i=9→CV cx.tb W0 T' W 0 (.sl 1 95 8192) v)
  (h1:i=15∨i=16→∃cs n,v=.tuple #[.agg cs,.int .i64 n]∧TyVal cx.tb W0 T' W 0 rcP (.agg cs)∧R64' n) (h17:i=17→∃cs,v=.agg cs∧TyVal cx.tb W0 T' W 0 rcP (.agg cs))
  (he:i=18∨i=21→∃n,v=.int .i64 n∧R64' n) (h19:i=19→L 20=false∧∃g cs,v=.pointer (some ⟨g,0,none⟩)∧¬T' g∧W3.heap.size≤g∧YtmadfhgiaonnlaaGreatDoor.Blk W g 98 cs∧cs.size=11)
  (h20:i=20→∃g cs,vals 19=.pointer (some ⟨g,0,none⟩)∧¬T' g∧W3.heap.size≤g∧YtmadfhgiaonnlaaGreatDoor.Blk W g 98 cs∧cs.size=11∧TyVal cx.tb W0 T' W 0 rcP (.agg cs)) :
  S8T W0 K T3 W3 b T' (upL L i) (upV vals i v) W:=by
 refine⟨h.kp,fun k x hk hl=>?_,fun hl=>?_,fun k hk hl=>?_,fun hl=>?_,fun k hk hl=>?_,fun hl=>?_⟩
 ·by_cases e:k=i
  ·subst e;simp only[upV,if_true];exact h0 x hk
  ·simp only[upL,upV,if_neg e] at hl ⊢;exact h.kn k x hk hl
 ·by_cases e:9=i
  ·simp only[upV,if_pos e];exact h9 e.symm
  ·simp only[upL,upV,if_neg e] at hl ⊢;exact h.ls hl
 ·by_cases e:k=i
  ·subst e;simp only[upV,if_true];exact h1 hk
  ·simp only[upL,upV,if_neg e] at hl ⊢;exact h.tu k hk hl
 ·by_cases e:17=i
  ·simp only[upV,if_pos e];exact h17 e.symm
  ·simp only[upL,upV,if_neg e] at hl ⊢;exact h.rc hl
 ·by_cases e:k=i
  ·subst e;simp only[upV,if_true];exact he hk
  ·simp only[upL,upV,if_neg e] at hl ⊢;exact h.er k hk hl
 ·by_cases e:19=i
  ·obtain⟨n20,g,cs,q1,q2,q3,q4,q5⟩:=h19 e.symm
   simp only[upV,if_pos e]
   refine⟨g,cs,q1,q2,q3,q4,q5,fun h=>?_⟩
   simp only[upL,if_neg (show ¬20=i by omega)] at h
   rw[n20] at h;cases h
  ·by_cases e2:i=20
   ·obtain⟨g,cs,q1,q2,q3,q4,q5,q6⟩:=h20 e2
    simp only[upV,if_neg e]
    exact⟨g,cs,q1,q2,q3,q4,q5,fun _=>q6⟩
   ·simp only[upL,upV,if_neg e,if_neg (Ne.symm e2)] at hl ⊢
    exact h.bx hl
theorem S8T.grow(h:S8T W0 K T3 W3 b T' L vals W)(k:Kp W0 T' W b T2 W'):S8T W0 K T3 W3 b T2 L vals W':=by
 have hx:=k.hist.ext
 refine⟨h.kp.trans k,h.kn,fun hl=>(h.ls hl).mono hx (Nat.le_refl _),fun i hi hl=>?_,fun hl=>?_,h.er,fun hl=>?_⟩
 ·obtain⟨cs,n,q1,q2,q3⟩:=h.tu i hi hl
  exact⟨cs,n,q1,qf hx q2,q3⟩
 ·obtain⟨cs,q1,q2⟩:=h.rc hl
  exact⟨cs,q1,qf hx q2⟩
 ·obtain⟨g,cs,q1,q2,q3,q4,q5,q6⟩:=h.bx hl
  have hg:=q4.lt
  refine⟨g,cs,q1,fun ht=>?_,q3,(k.hist.keep g hg (.inr q2)).trans q4,q5,fun h20=>qf hx (q6 h20)⟩
  rcases k.hist.new g ht with ht|ht
  ·exact q2 ht
  ·omega
theorem kp_box{g:Nat}{cs cs':Array Value}{t:TypeId}(hw:WT cx.tb W0 T' W)(hb:T' b)(hg:¬T' g)(hg0:W0.heap.size≤g)(hk:YtmadfhgiaonnlaaGreatDoor.Blk W g t cs):WT cx.tb W0 T' (W.setRow g cs')∧Ext T' W T' (W.setRow g cs')∧(W.setRow g cs').heap[b]? = W.heap[b]?:=by
 obtain⟨h1,h2⟩:=hw.frame (w':=W.setRow g cs') (by rw[size_setRow];exact Nat.le_refl _) (fun k h=>setRow_other W g k _ (by omega)) (fun k h=>setRow_other W g k _ (fun e=>hg (e ▸ h))) (fun k es c h=>by
  have:k≠g:=fun e=>by subst e;rw[hk] at h;cases h
  rw[setRow_other W g k _ this];exact h)
 exact⟨h1,h2,setRow_other W g b _ (fun e=>hg (e ▸ hb))⟩
theorem S8T.store{g:Nat}{old cs:Array Value}(h:S8T W0 K T3 W3 b T' L vals W)(h19:vals 19=.pointer (some ⟨g,0,none⟩))(hL:L 20=false)(hL19:L 19=true)(hg:¬T' g)(hg3:W3.heap.size≤g)(hk:YtmadfhgiaonnlaaGreatDoor.Blk W g 98 old)(hb:T' b)(hs:cs.size=11)
  (hc:TyVal cx.tb W0 T' W 0 rcP (.agg cs)) (hw0:W0.heap.size≤W3.heap.size) (hK:K 20=none):S8T W0 K T3 W3 b T' (upL L 20) (upV vals 20 undef) (W.setRow g cs):=by
 obtain⟨k1,k2,k3⟩:=kp_box (cs':=cs) h.kp.wt hb hg (by omega) hk
 have h3T:∀x,x<W3.heap.size→x≠g:=fun x hx=>by omega
 have hH:Hist T3 W3 false T' (W.setRow g cs):=⟨h.kp.hist.ext.trans k2,h.kp.hist.new,by rw[size_setRow];exact h.kp.hist.size,h.kp.hist.os,h.kp.hist.tape,h.kp.hist.output,fun x hx hn=>(setRow_other W g x _ (h3T x hx)).trans (h.kp.hist.keep x hx hn)⟩
 have h':S8T W0 K T3 W3 b T' L vals (W.setRow g cs):=by
  refine⟨⟨k1,hH,k3.trans h.kp.blk⟩,h.kn,fun hl=>(h.ls hl).mono k2 (Nat.le_refl _),fun i hi hl=>?_,fun hl=>?_,h.er,fun hl=>?_⟩
  ·obtain⟨cs,n,q1,q2,q3⟩:=h.tu i hi hl
   exact⟨cs,n,q1,qf k2 q2,q3⟩
  ·obtain⟨cs,q1,q2⟩:=h.rc hl
   exact⟨cs,q1,qf k2 q2⟩
  ·exact⟨g,cs,h19,hg,hg3,setRow_heap W g old cs 98 (0,0) hk,hs,fun h20=>by rw[hL] at h20;cases h20⟩
 exact h'.put hL (fun x hx=>by rw[hK] at hx;cases hx) (by omega) (by omega) (by omega) (by omega) (by omega) (fun _=>⟨g,cs,h19,hg,hg3,setRow_heap W g old cs 98 (0,0) hk,hs,qf k2 hc⟩)
theorem S8T.alloc{z:Array Value}(h:S8T W0 K T3 W3 b T' L vals W)(hL:L 19=false)(hL20:L 20=false)(hb:b<W.heap.size)(hz:z.size=11)(hK:K 19=none) :
  S8T W0 K T3 W3 b T' (upL L 19) (upV vals 19 (.pointer (some ⟨W.heap.size,0,none⟩))) (W.alloc (.cells z 98)):=by
 have hk:Kp W0 T' W b T' (W.alloc (.cells z 98)):=(Kp.refl h.kp.wt).below hb (below_new W _)
 exact(h.grow hk).put hL (fun x hx=>by rw[hK] at hx;cases hx) (by omega) (by omega) (by omega) (by omega)
  (fun _=>⟨hL20,_,z,rfl,fun ht=>by have:=h.kp.wt.lt ht;omega,h.kp.hist.size,YtmadfhgiaonnlaaGreatDoor.Blk.new W 98 z,hz⟩) (by omega)
structure C8(W0:World)(T3:Nat→Prop)(W3:World)(b g:Nat)(cs:Array Value)(T':Nat→Prop)(W:World):Prop where
 kp:Kp W0 T3 W3 b T' W
 no:¬T' g
 blk:YtmadfhgiaonnlaaGreatDoor.Blk W g 98 cs
 ty:TyVal cx.tb W0 T' W 0 rcP (.agg cs)
theorem C8.below{g:Nat}{cs:Array Value}(h:C8 W0 T3 W3 b g cs T' W)(hb:b<W.heap.size)(hB:Below W.heap.size W W'):C8 W0 T3 W3 b g cs T' W':=by
 obtain⟨h1,h2⟩:=zu h.kp.wt hB
 exact⟨h.kp.trans ((Kp.refl h.kp.wt).below hb hB),h.no,h.blk.call hB,qf h2 h.ty⟩
theorem S8T.fin(h:S8T W0 K T3 W3 b T' L vals W)(hL:∀k,k<22→L k=true):∃g cs n,vals 19=.pointer (some ⟨g,0,none⟩)∧vals 21=.int .i64 n∧R64' n∧C8 W0 T3 W3 b g cs T' W:=by
 obtain⟨g,cs,q1,q2,q3,q4,q5,q6⟩:=h.bx (hL 19 (by omega))
 obtain⟨n,r1,r2⟩:=h.er 21 (.inr rfl) (hL 21 (by omega))
 exact⟨g,cs,n,q1,r1,r2,h.kp,q2,q4,q6 (hL 20 (by omega))⟩
theorem rc_of{cs:Array Value}{base:Nat}(h:TyVal cx.tb W0 T w base rcP (.agg cs)):cs.size=11∧cs.all (·.oneCell')=true:=by
 obtain⟨cs',e,hs,ha⟩:=h
 cases e
 refine⟨hs,?_⟩
 rw[Array.all_eq_true]
 intro i hi
 have hl:i<[CT.str maxLen,.str maxLen,full .i64,.str maxLen,full .i64,full .i64,.sl 0 156 1024,full .i64,full .i64,.bool,.bool].length:=by rw[←hs];exact hi
 exact(ha i _ cs[i] (List.getElem?_eq_getElem hl) (Array.getElem?_eq_getElem hi)).one
end
open Go.RowKit
section
variable{W0:World}{T:Nat→Prop}{w:World}
def ElAt(W0:World)(T:Nat→Prop)(w:World)(A:Option Addr)(j:Nat)(f:List CT):Prop:=∃(b off:Nat) (r:List Value),A=some ⟨b,off,none⟩∧r.length=f.length∧(∀(k:Nat) (ct:CT) (u:Value),f[k]? = some ct→r[k]? = some u→CV cx.tb W0 T w 0 ct u) ∧
 ∀W,Below w.heap.size w W→∀(o:Nat) (u:Value),r[o]? = some u→W.cell? ⟨b,off+j*f.length+o,none⟩=some u
theorem rows_at{m lb n c base:Nat}{e:TypeId}{f:List CT}{A:Option Addr}(hw:WT cx.tb W0 T w)(hfl:cx.tb.flat e=some f)(h:CV cx.tb W0 T w base (.sl m e lb) (.slice A n c)){j:Nat}(hj:j<n):ElAt W0 T w A j f:=by
 obtain⟨b,off,rfl⟩:∃b off,A=some ⟨b,off,none⟩:=by
  rcases h with h|⟨-,h⟩|⟨b,off,_,_,h,-⟩
  ·injection h with h1 h2 h3;omega
  ·cases h with
   | nil=>omega
   | emp=>omega
   | sl=>exact⟨_,_,rfl⟩
  ·injection h with h1 h2 h3;exact⟨b,off,h1⟩
 have hel:=h.elem (i:=j) hj
 have hsz:cx.tb.sz e=f.length:=by simp[Tab.sz,hfl]
 rw[hsz] at hel
 obtain⟨r,hr,hq⟩:=list_of (Q:=fun k v=>w.cell? ⟨b,off+j*f.length+k,none⟩=some v∧∀ct,f[k]? = some ct→CV cx.tb W0 T w 0 ct v) f.length (fun k hk=>by
  obtain⟨v,h1,h2⟩:=hw.load hel (k:=k) (ct:=f[k]) (by rw[hfl];simp[hk])
  exact⟨v,h1,fun ct hct=>by rw[List.getElem?_eq_getElem hk] at hct;cases hct;exact h2⟩)
 refine⟨b,off,r,rfl,hr,fun k ct u hct hu=>(hq k u hu).2 ct hct,fun W hb o u hu=>cell_keep hb (hq o u hu).1⟩
theorem rec_of{base:Nat}{r:List Value}(hl:r.length=11)(h:∀(k:Nat) (ct:CT) (u:Value),([.str maxLen,.str maxLen,full .i64,.str maxLen,full .i64,full .i64,.sl 0 156 1024,full .i64,full .i64,.bool,.bool]:List CT)[k]? = some ct→r[k]? = some u→CV cx.tb W0 T w base ct u) :
  ∃(s0 s1:ByteArray) (n2:Int) (s3:ByteArray) (n4 n5:Int) (B:Option Addr) (m c:Nat) (n7 n8:Int) (b9 b10:Bool),r=[.string s0,.string s1,.int .i64 n2,.string s3,.int .i64 n4,.int .i64 n5,.slice B m c,.int .i64 n7,.int .i64 n8,.bool b9,.bool b10]:=by
 rcases r with _|⟨a0,_|⟨a1,_|⟨a2,_|⟨a3,_|⟨a4,_|⟨a5,_|⟨a6,_|⟨a7,_|⟨a8,_|⟨a9,_|⟨a10,_|⟨a11,r⟩⟩⟩⟩⟩⟩⟩⟩⟩⟩⟩⟩<;>first|(simp at hl;done)|skip
 obtain⟨s0,rfl,-⟩:=h 0 _ _ rfl rfl
 obtain⟨s1,rfl,-⟩:=h 1 _ _ rfl rfl
 obtain⟨n2,rfl,-⟩:=h 2 _ _ rfl rfl
 obtain⟨s3,rfl,-⟩:=h 3 _ _ rfl rfl
 obtain⟨n4,rfl,-⟩:=h 4 _ _ rfl rfl
 obtain⟨n5,rfl,-⟩:=h 5 _ _ rfl rfl
 obtain⟨B,m,c,rfl,-⟩:=zy (h 6 _ _ rfl rfl)
 obtain⟨n7,rfl,-⟩:=h 7 _ _ rfl rfl
 obtain⟨n8,rfl,-⟩:=h 8 _ _ rfl rfl
 obtain⟨b9,rfl⟩:=h 9 _ _ rfl rfl
 obtain⟨b10,rfl⟩:=h 10 _ _ rfl rfl
 exact⟨s0,s1,n2,s3,n4,n5,B,m,c,n7,n8,b9,b10,rfl⟩
end
end Sy
end Go.Proofs.YtmadfhgiaonnlaaGreatDoor
