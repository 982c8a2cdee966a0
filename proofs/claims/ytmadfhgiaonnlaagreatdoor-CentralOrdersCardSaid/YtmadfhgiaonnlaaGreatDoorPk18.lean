import Derived.Test.YtmadfhgiaonnlaaGreatDoorPk17
set_option linter.unusedVariables false
set_option linter.unusedSimpArgs false
namespace Go.Proofs.YtmadfhgiaonnlaaGreatDoor
namespace Sy
open Go.RowKit
section
variable{W0:World}{T T' T'' T3 T2:Nat→Prop}{w W W' W3:World}{b off:Nat}{K:Nat→Option Value}{L:Nat→Bool}{vals:Nat→Value}
theorem Stp.hist{pu:Bool}{ex:Option Nat}(h:Stp cx.tb W0 T W T' W' W.heap.size pu ex):Hist T W pu T' W':=
 (Hist.refl T W pu).step h id
theorem stepR_one{a:Act}{o:Oper}{S:St}{base:Nat}{Ω:Val→Prop}{ct:CT}{fs:List Lin}{pu:Bool}(h:StepR Tryz.prog cx W0 S base Ω T W a o ⟨mk1 S ct fs,.no,pu⟩)(ρ:Val)(hρ:∀v,Ω (fun n=>if n=S.nv then v else ρ n)) :
  Reg4.StepOk Tryz.prog (fun v W'=>∃T',Stp cx.tb W0 T W T' W' base pu none∧CV cx.tb W0 T' W' base ct v∧∀f∈fs,0≤f.eval (fun n=>if n=S.nv then v else ρ n)) ((execOp a.eval o).run Tryz.prog W):=by
 refine Reg4.StepOk.mono h ?_
 rintro v W' ⟨T',ex,h1,h2⟩
 have hb:Blk (fun n=>if n=S.nv then(flatV v).getD 0 undef else ρ n) S.nv 1 (flatV v):=by
  intro i hi
  obtain rfl:i=0:=by omega
  simp
 obtain⟨h3,h4⟩:=h2 _ (hρ ((flatV v).getD 0 undef)) hb
 have h4:ex=none:=h4
 subst h4
 obtain⟨h5,h6,h7⟩:=h3 hb
 have h5:v=(flatV v).getD 0 undef:=by simpa[mk1,XV.den,TV.den,SV.den] using h5
 have h6:=h6 0 ct rfl
 simp only[Nat.add_zero,if_true] at h6
 have h7:∀f∈fs,0≤f.eval (fun n=>if n=S.nv then(flatV v).getD 0 undef else ρ n):=h7
 rw[←h5] at h6 h7
 exact⟨T',h1,h6,h7⟩
theorem CV.lb{m lb lb' n c base:Nat}{e:TypeId}{A:Option Addr}(h:CV cx.tb W0 T w base (.sl m e lb) (.slice A n c))(hm:1≤m)(hn:n≤lb'):CV cx.tb W0 T w base (.sl m e lb') (.slice A n c):=by
 rcases h with h|⟨h0,h⟩|⟨b,off,n',c',h1,h2,h3,h4⟩
 ·exact .inl h
 ·omega
 ·injection h1 with e1 e2 e3
  subst e2;subst e3
  exact .inr (.inr ⟨b,off,n,c,by rw[e1],h2,hn,h4⟩)
def apS(d1 d2 e lb1 lb2:Nat):St:=⟨2,[(d1,.v (.one (.var 0))),(d2,.v (.one (.var 1)))],[(0,.sl 1 e lb1),(1,.sl 0 e lb2)],[],[]⟩
theorem append_step{a:Act}{o:Oper}{d1 d2 t e lb1 lb2 n c k c':Nat}{A B:Option Addr}(hne:d1≠d2)(ho:o.op=.call { callee:=.builtin .append,args:=#[.tmp d1,.tmp d2],argTypes:=#[t,t] })(hw:WT cx.tb W0 T W)
  (h1:a.tmps.getD d1 undef=.slice A n c) (h2:a.tmps.getD d2 undef=.slice B k c') (hc1:CV cx.tb W0 T W 0 (.sl 1 e lb1) (.slice A n c)) (hc2:CV cx.tb W0 T W 0 (.sl 0 e lb2) (.slice B k c'))
  (hr:appA cx (apS d1 d2 e lb1 lb2) t (.var 0) (.var 1)=some ⟨mk1 (apS d1 d2 e lb1 lb2) (.sl 1 e LM) [(Lin.at 2).sub ((Lin.at 0).add (Lin.at 1)),((Lin.at 0).add (Lin.at 1)).sub (Lin.at 2)],.no,false⟩) :
  Reg4.StepOk Tryz.prog (fun v W'=>∃T' A' c'',v=.slice A' (n+k) c''∧CV cx.tb W0 T' W' 0 (.sl 1 e LM) v∧Hist T W false T' W'∧WT cx.tb W0 T' W') ((execOp a.eval o).run Tryz.prog W):=by
 have hH:Hyp cx W0 (apS d1 d2 e lb1 lb2) W.heap.size (fun ρ=>ρ 0=.slice A n c∧ρ 1=.slice B k c') T W a:=by
  refine⟨⟨fun i=>if i=0 then .slice A n c else .slice B k c',by simp⟩,fun ρ hρ=>⟨hw,hw.size,Nat.le_refl _,?_,by simp[apS],by simp[apS],by simp[apS]⟩,fun ρ hρ=>?_⟩
  ·intro m ct hm
   simp only[apS,List.mem_cons,Prod.mk.injEq,List.not_mem_nil,or_false] at hm
   rcases hm with⟨rfl,rfl⟩|⟨rfl,rfl⟩
   ·rw[hρ.1];exact jw hc1 _
   ·rw[hρ.2];exact sl_low hc2 (by omega) _
  ·intro x y hxy
   unfold apS at hxy
   simp only[look] at hxy
   split at hxy
   ·rename_i e1;subst e1;cases hxy;rw[h1];exact hρ.1.symm
   ·split at hxy
    ·rename_i e1;subst e1;cases hxy;rw[h2];exact hρ.2.symm
    ·cases hxy
 have hs:=appA_ok cxOk ho (ss:=.var 0) (sx:=.var 1) (by simp[St.one,St.op,apS,look]) (by simp[St.one,St.op,apS,look,hne]) hr hH
 refine Reg4.StepOk.mono (stepR_one hs (fun i=>if i=0 then .slice A n c else .slice B k c') (fun v=>by simp[apS])) ?_
 rintro v W' ⟨T',q1,q2,q3⟩
 have q2':=jw q2 0
 obtain⟨A',n',c'',rfl,-⟩:=zy q2'
 have q4:=q3 _ (List.mem_cons_self ..)
 have q5:=q3 _ (List.mem_cons_of_mem _ (List.mem_cons_self ..))
 rw[Lin.qc,Lin.jg] at q4 q5
 have a0:∀ρ:Val,(Lin.at 0).eval ρ=meas (ρ 0):=fun ρ=>by simp[Lin.at,Lin.eval,tsum]
 have a1:∀ρ:Val,(Lin.at 1).eval ρ=meas (ρ 1):=fun ρ=>by simp[Lin.at,Lin.eval,tsum]
 have a2:∀ρ:Val,(Lin.at 2).eval ρ=meas (ρ 2):=fun ρ=>by simp[Lin.at,Lin.eval,tsum]
 rw[a0,a1,a2] at q4 q5
 simp[apS,meas] at q4 q5
 obtain rfl:n'=n+k:=by omega
 exact⟨T',A',c'',rfl,q2',q1.hist,q1.wt⟩
abbrev RcT:List TypeId:=[98,156]
theorem closed_rc:closedE cx.tb RcT=true:=by kernel_rfl
theorem cen_not_rc(hw:WT cx.tb W0 T w){base:Nat}(hp:CV cx.tb W0 T w base (.pt 1 80) (.pointer (some ⟨b,off,none⟩))):¬fil w T RcT b:=by
 obtain⟨b',off',e,⟨h0,-⟩|⟨hT,-,te,hrow,hct⟩⟩:=hp
 ·cases h0
 injection e with e;injection e with e;injection e with e1 e2 e3
 subst e1 e2
 intro hf
 obtain⟨-,cs,te',fr,h1,h2⟩:=hf
 obtain⟨cs',fr',h3,-⟩:=hrow
 rw[h1] at h3
 injection h3 with h3
 injection h3 with r1 r2 r3
 subst r2
 have h4:=hct 1 (.sl 1 84 63) rfl
 have hmem:∀l:List CT,cx.tb.flat te'=some l→(CT.sl 1 84 63)∈l:=by
  intro l hl
  simp only[Tab.ctAt,hl] at h4
  exact List.mem_of_getElem? (by simpa using h4)
 have h5:te'=98∨te'=156:=by simpa[RcT] using h2
 rcases h5 with rfl|rfl
 ·exact absurd (hmem [.str maxLen,.str maxLen,full .i64,.str maxLen,full .i64,full .i64,.sl 0 156 1024,full .i64,full .i64,.bool,.bool] rfl) (by decide)
 ·exact absurd (hmem [full .i64,full .i64] rfl) (by decide)
theorem C8.grow{g:Nat}{cs:Array Value}(h:C8 W0 T3 W3 b g cs T' W)(k:Kp W0 T' W b T2 W'):C8 W0 T3 W3 b g cs T2 W':=by
 have hg:=h.blk.lt
 refine⟨h.kp.trans k,fun ht=>?_,(k.hist.keep g hg (.inr h.no)).trans h.blk,qf k.hist.ext h.ty⟩
 rcases k.hist.new g ht with ht|ht
 ·exact h.no ht
 ·omega
structure S17(W0:World)(K:Nat→Option Value)(T4:Nat→Prop)(W4:World)(b g n:Nat)(cs:Array Value)(T':Nat→Prop)(L:Nat→Bool)(vals:Nat→Value)(W:World):Prop where
 c8:C8 W0 T4 W4 b g cs T' W
 kn:∀k x,K k=some x→L k=true→vals k=x
 bs:L 7=true→∃A c,vals 7=.slice A 1 c∧CV cx.tb W0 T' W 0 (.sl 1 98 64) (.slice A 1 c)
 ap:L 8=true→∃A c,vals 8=.slice A (n+1) c∧CV cx.tb W0 T' W 0 (.sl 1 98 1024) (.slice A (n+1) c)
variable{T4:Nat→Prop}{W4:World}{g n:Nat}{cs:Array Value}
theorem S17.put{i:Nat}{v:Value}(h:S17 W0 K T4 W4 b g n cs T' L vals W)(h0:∀x,K i=some x→v=x)(h7:i=7→∃A c,v=.slice A 1 c∧CV cx.tb W0 T' W 0 (.sl 1 98 64) (.slice A 1 c))
  (h8:i=8→∃A c,v=.slice A (n+1) c∧CV cx.tb W0 T' W 0 (.sl 1 98 1024) (.slice A (n+1) c)):S17 W0 K T4 W4 b g n cs T' (upL L i) (upV vals i v) W:=by
 refine⟨h.c8,fun k x hk hl=>?_,fun hl=>?_,fun hl=>?_⟩
 ·by_cases e:k=i
  ·subst e;simp only[upV,if_true];exact h0 x hk
  ·simp only[upL,upV,if_neg e] at hl ⊢;exact h.kn k x hk hl
 ·by_cases e:7=i
  ·simp only[upV,if_pos e];exact h7 e.symm
  ·simp only[upL,upV,if_neg e] at hl ⊢;exact h.bs hl
 ·by_cases e:8=i
  ·simp only[upV,if_pos e];exact h8 e.symm
  ·simp only[upL,upV,if_neg e] at hl ⊢;exact h.ap hl
theorem S17.grow(h:S17 W0 K T4 W4 b g n cs T' L vals W)(k:Kp W0 T' W b T2 W'):S17 W0 K T4 W4 b g n cs T2 L vals W':=by
 have hx:=k.hist.ext
 refine⟨h.c8.grow k,h.kn,fun hl=>?_,fun hl=>?_⟩
 ·obtain⟨A,c,q1,q2⟩:=h.bs hl
  exact⟨A,c,q1,q2.mono hx (Nat.le_refl _)⟩
 ·obtain⟨A,c,q1,q2⟩:=h.ap hl
  exact⟨A,c,q1,q2.mono hx (Nat.le_refl _)⟩
theorem S17.append{a:Act}{o:Oper}{A Ab:Option Addr}{c cb:Nat}(ho:o.op=.call { callee:=.builtin .append,args:=#[.tmp 95,.tmp 97],argTypes:=#[44,44] })(h:S17 W0 K T4 W4 b g n cs T' L vals W)(hp:CV cx.tb W0 T' W 0 (.pt 1 80) (.pointer (some ⟨b,off,none⟩)))
  (h1:a.tmps.getD 95 undef=.slice A n c) (h2:a.tmps.getD 97 undef=.slice Ab 1 cb) (hc1:CV cx.tb W0 T' W 0 (.sl 1 98 1024) (.slice A n c)) (hc2:CV cx.tb W0 T' W 0 (.sl 1 98 64) (.slice Ab 1 cb)) (hn:n≤1000) (hK:K 8=none) :
  Reg4.StepOk Tryz.prog (fun v W'=>∃T2,S17 W0 K T4 W4 b g n cs T2 (upL L 8) (upV vals 8 v) W') ((execOp a.eval o).run Tryz.prog W):=by
 have hwt:=h.c8.kp.wt
 refine Reg4.StepOk.mono (append_step (T:=fil W T' RcT) (lb1:=1024) (lb2:=64) (e:=98) (by decide) ho (fil_wt hwt closed_rc) h1 h2 (fil_cv (by decide) hc1) (fil_cv (by decide) (sl_low hc2 (by omega) 0)) (by kernel_rfl)) ?_
 rintro v W' ⟨T1,A',c'',rfl,q2,q3,q4⟩
 obtain⟨j1,j2,j3,j4⟩:=fil_join hwt q3 q4
 have hb:=(xh hwt hp).2.1
 have hk:Kp W0 T' W b _ W':=⟨j1,⟨j2.ext,j2.new,j2.size,j2.os,j2.tape,j2.output,j2.keep⟩,j4 b hb (cen_not_rc hwt hp)⟩
 exact⟨_,(h.grow hk).put (fun x hx=>by rw[hK] at hx;cases hx) (by omega) (fun _=>⟨A',c'',rfl,(q2.mono j3 (Nat.le_refl _)).lb (by omega) (by omega)⟩)⟩
def bsS(d:Nat)(f:List CT):St:=⟨f.length,[(d,.v (.agg (vars 0 f.length)))],number 0 f,[],[]⟩
theorem dens_vars(ρ:Val)(l:List Value)(h:∀i v,l[i]? = some v→ρ i=v):dens ρ (vars 0 l.length)=l:=by
 refine List.ext_getElem? (fun i=>?_)
 unfold dens
 rw[List.getElem?_map]
 by_cases hi:i<l.length
 ·rw[vars_get _ _ _ hi,List.getElem?_eq_getElem hi]
  simp only[Option.map_some,SV.den,Nat.zero_add]
  rw[h i _ (List.getElem?_eq_getElem hi)]
 ·rw[List.getElem?_eq_none (by rw[vars_len];omega),List.getElem?_eq_none (by omega)];rfl
theorem bslice_step{a:Act}{o:Oper}{d t e:Nat}{f:List CT}{cs:Array Value}(ho:o.op=.buildSlice t 1 #[(0,.tmp d)])(hw:WT cx.tb W0 T W)(h1:a.tmps.getD d undef=.agg cs)(hc:TyVal cx.tb W0 T W W.heap.size (.agg f) (.agg cs))
  (hr:bsliceA cx (bsS d f) t 1 [(0,.tmp d)]=some ⟨mk1 (bsS d f) (.sl 2 e 1) [(Lin.at f.length).pl (-1),(Lin.k 1).sub (Lin.at f.length)],.no,true⟩) :
  Reg4.StepOk Tryz.prog (fun v W'=>∃T' A' c'',v=.slice A' 1 c''∧CV cx.tb W0 T' W' 0 (.sl 1 e 1) v∧Hist T W true T' W'∧WT cx.tb W0 T' W') ((execOp a.eval o).run Tryz.prog W):=by
 obtain⟨cs',e0,hs,hct⟩:=hc
 cases e0
 have hH:Hyp cx W0 (bsS d f) W.heap.size (fun ρ=>∀i,i<f.length→ρ i=cs.getD i undef) T W a:=by
  refine⟨⟨fun i=>cs.getD i undef,fun _ _=>rfl⟩,fun ρ hρ=>⟨hw,hw.size,Nat.le_refl _,?_,by simp[bsS],by simp[bsS],by simp[bsS]⟩,fun ρ hρ=>?_⟩
  ·intro m ct hm
   obtain⟨i,rfl,hi⟩:=number_mem hm
   have hil:=(List.getElem?_eq_some_iff.1 hi).1
   rw[Nat.zero_add,hρ i hil]
   exact hct i ct _ hi (by rw[Array.getD_eq_getD_getElem?,Array.getElem?_eq_getElem (by omega)];rfl)
  ·intro x y hxy
   unfold bsS at hxy
   simp only[look] at hxy
   split at hxy
   ·rename_i e1;subst e1;cases hxy
    rw[h1]
    simp only[XV.den,TV.den]
    have:=dens_vars ρ cs.toList (fun i v hv=>by
     have hi:i<cs.size:=by simpa using(List.getElem?_eq_some_iff.1 hv).1
     rw[hρ i (by omega),Array.getD_eq_getD_getElem?,←Array.getElem?_toList,hv];rfl)
    rw[Array.length_toList,hs] at this
    rw[this]
   ·cases hxy
 have hs:=bsliceA_ok cxOk ho hr hH
 refine Reg4.StepOk.mono (stepR_one hs (fun i=>cs.getD i undef) (fun v i hi=>by simp[bsS,show i≠f.length by omega])) ?_
 rintro v W' ⟨T',q1,q2,q3⟩
 have q2':=q2.le (b:=.sl 1 e 1) (by simp[CT.le])
 have q2':=jw q2' 0
 obtain⟨A',n',c'',rfl,hn'⟩:=zy q2'
 have q4:=q3 _ (List.mem_cons_self ..)
 rw[Lin.qp] at q4
 have a0:∀ρ:Val,(Lin.at f.length).eval ρ=meas (ρ f.length):=fun ρ=>by simp[Lin.at,Lin.eval,tsum]
 rw[a0] at q4
 simp[bsS,meas] at q4
 obtain rfl:n'=1:=by omega
 exact⟨T',A',c'',rfl,q2',q1.hist,q1.wt⟩
theorem S17.build{a:Act}{o:Oper}(ho:o.op=.buildSlice 44 1 #[(0,.tmp 96)])(h:S17 W0 K T4 W4 b g n cs T' L vals W)(hp:CV cx.tb W0 T' W 0 (.pt 1 80) (.pointer (some ⟨b,off,none⟩)))
  (h1:a.tmps.getD 96 undef=.agg cs) (hK:K 7=none) :
  Reg4.StepOk Tryz.prog (fun v W'=>∃T2,S17 W0 K T4 W4 b g n cs T2 (upL L 7) (upV vals 7 v) W') ((execOp a.eval o).run Tryz.prog W):=by
 have hwt:=h.c8.kp.wt
 refine Reg4.StepOk.mono (bslice_step (e:=98) (f:=[.str maxLen,.str maxLen,full .i64,.str maxLen,full .i64,full .i64,.sl 0 156 1024,full .i64,full .i64,.bool,.bool]) ho hwt h1 (rc_base h.c8.ty _) (by kernel_rfl)) ?_
 rintro v W' ⟨T1,A',c'',rfl,q2,q3,q4⟩
 have hb:=(xh hwt hp).2.1
 have hk:Kp W0 T' W b _ W':=⟨q4,⟨q3.ext,q3.new,q3.size,q3.os,q3.tape,q3.output,fun x hx hn=>q3.keep x hx (.inl rfl)⟩,q3.keep b hb (.inl rfl)⟩
 exact⟨_,(h.grow hk).put (fun x hx=>by rw[hK] at hx;cases hx) (fun _=>⟨A',c'',rfl,q2.lb (by omega) (by omega)⟩) (by omega)⟩
theorem rc_lit{base:Nat}{cs:Array Value}(h:TyVal cx.tb W0 T w base rcP (.agg cs)) :
  ∃(s0 s1:ByteArray) (n2:Int) (s3:ByteArray) (n4 n5:Int) (B:Option Addr) (m c:Nat) (n7 n8:Int) (b9 b10:Bool),cs=#[.string s0,.string s1,.int .i64 n2,.string s3,.int .i64 n4,.int .i64 n5,.slice B m c,.int .i64 n7,.int .i64 n8,.bool b9,.bool b10]:=by
 obtain⟨cs',e,hs,ha⟩:=h
 cases e
 obtain⟨l⟩:=cs
 obtain⟨s0,s1,n2,s3,n4,n5,B,m,c,n7,n8,b9,b10,rfl⟩:=rec_of (r:=l) hs (fun k ct u hk hu=>ha k ct u hk (by simpa using hu))
 exact⟨s0,s1,n2,s3,n4,n5,B,m,c,n7,n8,b9,b10,rfl⟩
theorem rec_store{base:Nat}{A:Option Addr}{n c:Nat}{u:Value}(hw:WT cx.tb W0 T w)(hp:CV cx.tb W0 T w base (.pt 1 80) (.pointer (some ⟨b,off,none⟩)))(h5:w.cell? ⟨b,off+7,none⟩=some u)(hl:CV cx.tb W0 T w 0 (.sl 1 98 1024) (.slice A n c)) :
  WT cx.tb W0 T (w.setCell ⟨b,off+7,none⟩ (.slice A n c))∧Ext T w T (w.setCell ⟨b,off+7,none⟩ (.slice A n c))∧Hist T w false T (w.setCell ⟨b,off+7,none⟩ (.slice A n c)):=by
 obtain⟨b',off',e,⟨h0,-⟩|⟨hT,-,te,hrow,hct⟩⟩:=hp
 ·cases h0
 injection e with e;injection e with e;injection e with e1 e2 e3
 subst e1 e2
 have hne:fzE te=false:=by
  have h4:=hct 1 (.sl 1 84 63) rfl
  by_cases ht:te=69
  ·subst ht
   exfalso
   simp only[Tab.ctAt,show cx.tb.flat 69=some [.fz (.int .i64),.fz (.int .i64),.fz .str,.fz .str,.fz .str,.fz (.int .u64)] from rfl] at h4
   exact absurd (List.mem_of_getElem? (by simpa using h4)) (show(CT.sl 1 84 63) ∉ ([.fz (.int .i64),.fz (.int .i64),.fz .str,.fz .str,.fz .str,.fz (.int .u64)]:List CT) by decide)
  ·simp[fzE,ht]
 exact set_wt (o:=off+7) (ct:=.sl 1 98 1024) (v:=.slice A n c) hw hT ⟨_,hrow⟩ (hct 7 (.sl 1 98 1024) rfl) (by decide) hne h5 hl
end
end Sy
end Go.Proofs.YtmadfhgiaonnlaaGreatDoor
