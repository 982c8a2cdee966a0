import Derived.Test.YtmadfhgiaonnlaaGreatDoorPk34
set_option linter.unusedVariables false
set_option linter.unusedSimpArgs false
namespace Go.Proofs.YtmadfhgiaonnlaaGreatDoor
namespace Sy
set_option maxRecDepth 100000
open Go.RowKit
section
variable{W0:World}{T T' T'':Nat→Prop}{w W W':World}
abbrev tyC:List CT:=[full .i64,.sl 1 84 63,.sl 1 34 128,.sl 0 123 1048576,.sl 0 3 1048576,full .i64,.sl 1 95 8192,.sl 1 98 1024,.cs 0 69 8192,.sl 1 133 1048576,.sl 0 138 1048576,full .i64,full .i64]
abbrev tyM:List CT:=[full .i64,full .i64,full .i64,full .i64,full .i64,full .i64,full .i64,full .i64,.str maxLen,.str maxLen,.str maxLen,.bool,.sl 0 156 1024,full .i64,full .i64,full .i64,full .i64,full .i64,.str maxLen,full .i64,full .i64,full .i64,full .i64,.sl 0 181 64,.sl 0 34 128]
abbrev tyE:List CT:=[full .i64,full .i64,full .i64,.sl 1 31 1024,.sl 1 31 1024,full .i64,full .i64,.sl 1 31 1024]
abbrev ceA (n0:Int) (A1:Option Addr) (m1 c1:Nat) (A2:Option Addr) (m2 c2:Nat) (A3:Option Addr) (m3 c3:Nat) (A4:Option Addr) (m4 c4:Nat) (n5:Int) (A6:Option Addr) (m6 c6:Nat) (A7:Option Addr) (m7 c7:Nat) (A8:Option Addr) (m8 c8:Nat) (A9:Option Addr) (m9 c9:Nat) (A10:Option Addr) (m10 c10:Nat) (n11 n12:Int):Array Value:=
 #[.int .i64 n0,.slice A1 m1 c1,.slice A2 m2 c2,.slice A3 m3 c3,.slice A4 m4 c4,.int .i64 n5,.slice A6 m6 c6,.slice A7 m7 c7,.slice A8 m8 c8,.slice A9 m9 c9,.slice A10 m10 c10,.int .i64 n11,.int .i64 n12]
theorem cs_form{q lb base:Nat}{e:TypeId}{v:Value}(h:CV cx.tb W0 T w base (.cs q e lb) v):∃A n c,v=.slice A n c∧n≤lb:=by
 rcases h with h|⟨b,off,n,c,cs,fr,h,h1,h2,-⟩
 ·exact⟨_,_,_,h,Nat.zero_le _⟩
 ·exact⟨_,n,_,h,h2⟩
theorem cen_lit{base:Nat}{cs:Array Value}(h:TyVal cx.tb W0 T w base (.agg tyC) (.agg cs)) :
  ∃n0 A1 m1 c1 A2 m2 c2 A3 m3 c3 A4 m4 c4 n5 A6 m6 c6 A7 m7 c7 A8 m8 c8 A9 m9 c9 A10 m10 c10 n11 n12,cs=ceA n0 A1 m1 c1 A2 m2 c2 A3 m3 c3 A4 m4 c4 n5 A6 m6 c6 A7 m7 c7 A8 m8 c8 A9 m9 c9 A10 m10 c10 n11 n12:=by
 obtain⟨cs',e,hs,ha⟩:=h
 cases e
 obtain⟨r⟩:=cs
 have hl:r.length=13:=hs
 rcases r with _|⟨a0,_|⟨a1,_|⟨a2,_|⟨a3,_|⟨a4,_|⟨a5,_|⟨a6,_|⟨a7,_|⟨a8,_|⟨a9,_|⟨a10,_|⟨a11,_|⟨a12,_|⟨a13,r⟩⟩⟩⟩⟩⟩⟩⟩⟩⟩⟩⟩⟩⟩<;>first|(simp at hl;done)|skip
 obtain⟨n0,rfl,-⟩:=ha 0 _ _ rfl rfl
 obtain⟨A1,m1,c1,rfl,-⟩:=zy (ha 1 _ _ rfl rfl)
 obtain⟨A2,m2,c2,rfl,-⟩:=zy (ha 2 _ _ rfl rfl)
 obtain⟨A3,m3,c3,rfl,-⟩:=zy (ha 3 _ _ rfl rfl)
 obtain⟨A4,m4,c4,rfl,-⟩:=zy (ha 4 _ _ rfl rfl)
 obtain⟨n5,rfl,-⟩:=ha 5 _ _ rfl rfl
 obtain⟨A6,m6,c6,rfl,-⟩:=zy (ha 6 _ _ rfl rfl)
 obtain⟨A7,m7,c7,rfl,-⟩:=zy (ha 7 _ _ rfl rfl)
 obtain⟨A8,m8,c8,rfl,-⟩:=cs_form (ha 8 _ _ rfl rfl)
 obtain⟨A9,m9,c9,rfl,-⟩:=zy (ha 9 _ _ rfl rfl)
 obtain⟨A10,m10,c10,rfl,-⟩:=zy (ha 10 _ _ rfl rfl)
 obtain⟨n11,rfl,-⟩:=ha 11 _ _ rfl rfl
 obtain⟨n12,rfl,-⟩:=ha 12 _ _ rfl rfl
 exact⟨n0,A1,m1,c1,A2,m2,c2,A3,m3,c3,A4,m4,c4,n5,A6,m6,c6,A7,m7,c7,A8,m8,c8,A9,m9,c9,A10,m10,c10,n11,n12,rfl⟩
def lowM:CT→Bool
 | .sl m _ _=>decide (m≤1)
 | .pt m _=>decide (m≤1)
 | .fn _ _ _=>false
 | _=>true
theorem cv_base{ct:CT}{v:Value}{base:Nat}(h:CV cx.tb W0 T w base ct v)(hl:lowM ct=true)(base':Nat):CV cx.tb W0 T w base' ct v:=by
 cases ct with
 | sl m e lb=>
   have hm:m≤1:=by simpa[lowM] using hl
   rcases h with h|h|⟨b,off,n,c,h1,h2,h3,h4,h5,h6,h7⟩
   ·exact .inl h
   ·exact .inr (.inl h)
   ·exact .inr (.inr ⟨b,off,n,c,h1,h2,h3,h4,h5,fun h=>by omega,h7⟩)
 | pt m t=>
   have hm:m≤1:=by simpa[lowM] using hl
   obtain⟨b,off,e,h|⟨h1,h2,h3⟩⟩:=h
   ·exact⟨b,off,e,.inl h⟩
   ·exact⟨b,off,e,.inr ⟨h1,fun h=>by omega,h3⟩⟩
 | fn fs l m=>cases hl
 | int k lo hi=>exact h
 | bool=>exact h
 | str lb=>exact h
 | idx d=>exact h
 | fz b=>cases b<;>exact h
 | cs q e lb=>exact h
 | mp k v=>exact h
 | any=>exact h
theorem ja{l:List CT}{v:Value}{base:Nat}(h:TyVal cx.tb W0 T w base (.agg l) v)(hl:l.all lowM=true)(base':Nat):TyVal cx.tb W0 T w base' (.agg l) v:=by
 obtain⟨cs,e,h1,h2⟩:=h
 exact⟨cs,e,h1,fun i ct u hi hu=>cv_base (h2 i ct u hi hu) (List.all_eq_true.1 hl ct (List.mem_of_getElem? hi)) base'⟩
end
set_option maxRecDepth 100000
open Go.RowKit
section
variable{W0:World}{T T' T'':Nat→Prop}{w W W':World}
theorem Holds.use{f:FuncId}{C:Ctr}(h:Holds Tryz.prog cx W0 f C)(hw:WT cx.tb W0 T w){args:Array Value}(hty:TyAll cx.tb W0 T w w.heap.size C.ps args.toList)(hpre:C.pre=[]) :
  Calls Tryz.prog f args w fun e w'=>∃v vs T',e=.returned v∧IsRes C.rs v vs∧TyAll cx.tb W0 T' w' w.heap.size C.rs vs∧(∀l∈C.post,0≤l.eval (valOf (cellsAll C.ps args.toList++cellsAll C.rs vs)))∧Hist T w C.pu T' w'∧WT cx.tb W0 T' w':=
 (h.2 T w args hw hty (fun l hl=>by rw[hpre] at hl;cases hl)).mono fun e w' ⟨v,vs,T',h1,h2,h3,h4,_,h6,h7⟩=>⟨v,vs,T',h1,h2,h3,h4,h6,h7⟩
theorem hist_false{pu:Bool}(h:Hist T w pu T' W):Hist T w false T' W:=⟨h.ext,h.new,h.size,h.os,h.tape,h.output,fun b hb hk=>h.keep b hb (hk.imp (fun h=>by cases h) id)⟩
theorem idx_call(h18:Holds Tryz.prog cx W0 18 c18)(hw:WT cx.tb W0 T w){cs:Array Value}{A1:Option Addr}{m1 c1:Nat}(h1:cs[1]? = some (.slice A1 m1 c1))(hc:TyVal cx.tb W0 T w w.heap.size (.agg tyC) (.agg cs)){s:ByteArray}(hs:s.size≤maxLen) :
  Calls Tryz.prog 18 #[.agg cs,.string s] w fun e w'=>∃(k:Int) (T':Nat→Prop),e=.returned (.int .i64 k)∧-1≤k∧k+1≤m1∧Hist T w false T' w'∧WT cx.tb W0 T' w':=by
 have hsz:cs.size=13:=by obtain⟨cs',e,hs,-⟩:=hc;cases e;exact hs
 refine(h18.use hw (args:=#[.agg cs,.string s]) ⟨hc,⟨s,rfl,hs⟩,trivial⟩ rfl).mono ?_
 rintro e w' ⟨v,vs,T',rfl,hr,hrt,hpo,hh,hw2⟩
 have hr:vs=[v]:=hr
 subst hr
 obtain⟨⟨k,rfl,-⟩,-⟩:=hrt
 have p0:=hpo _ (List.mem_cons_self ..)
 have p1:=hpo _ (List.mem_cons_of_mem _ (List.mem_cons_self ..))
 have hl:cs.toList.length=13:=by simpa using hsz
 have v14:valOf (cellsAll c18.ps [Value.agg cs,.string s]++cellsAll c18.rs [Value.int .i64 k]) 14=.int .i64 k:=by
  show((cs.toList++([Value.string s]++[]))++([Value.int .i64 k]++[])).getD 14 undef=_
  rw[List.getD_eq_getElem?_getD,List.getElem?_append_right (by simp[hl]),]
  simp[hl]
 have v1:valOf (cellsAll c18.ps [Value.agg cs,.string s]++cellsAll c18.rs [Value.int .i64 k]) 1=.slice A1 m1 c1:=by
  show((cs.toList++([Value.string s]++[]))++([Value.int .i64 k]++[])).getD 1 undef=_
  rw[List.append_assoc,List.getD_eq_getElem?_getD,List.getElem?_append_left (by omega),Array.getElem?_toList,h1];rfl
 simp only[Lin.eval,tsum,v14,v1,meas] at p0 p1
 exact⟨k,T',rfl,by omega,by omega,hist_false hh,hw2⟩
def c20s:Ctr:=⟨[(P 51)],[],[(Rm 51)],[⟨0,[(-1,1),(1,14)]⟩,⟨0,[(1,1),(-1,14)]⟩,⟨0,[(-1,8),(1,21)]⟩,⟨0,[(1,8),(-1,21)]⟩],false,none⟩
theorem h20s(hT:Tab10 W0):Holds Tryz.prog cx W0 20 c20s:=qx cxOk (qy (h43 hT) (by kernel_rfl) <| qy (h44 hT) (by kernel_rfl) <| qy (h45 hT) (by kernel_rfl) <| qy (h46 hT) (by kernel_rfl) <| qy (h47 hT) (by kernel_rfl) <| qy (h48 hT) (by kernel_rfl) <| qy (h49 hT) (by kernel_rfl) <| qy (h50 hT) (by kernel_rfl) <| qy (h51 hT) (by kernel_rfl) <| qy (h52 hT) (by kernel_rfl) <| qy (h53 hT) (by kernel_rfl) <| qy (h54 hT) (by kernel_rfl) <| qy (h55 hT) (by kernel_rfl) <| qy (h56 hT) (by kernel_rfl) <| qj) mixed (fn:=Tryz.f20) [] (by kernel_rfl) (by kernel_rfl)
theorem cen_call(hT:Tab10 W0)(hw:WT cx.tb W0 T w){cs:Array Value}{A1 A8:Option Addr}{m1 c1 m8 c8:Nat}(h1:cs[1]? = some (.slice A1 m1 c1))(h8:cs[8]? = some (.slice A8 m8 c8))(hc:TyVal cx.tb W0 T w w.heap.size (.agg tyC) (.agg cs)) :
  Calls Tryz.prog 20 #[.agg cs] w fun e w'=>∃(oo:Array Value) (B1 B8:Option Addr) (d1 d8:Nat) (T':Nat→Prop),e=.returned (.agg oo)∧TyVal cx.tb W0 T' w' 0 (.agg tyC) (.agg oo)∧oo[1]? = some (.slice B1 m1 d1)∧oo[8]? = some (.slice B8 m8 d8)∧Hist T w false T' w'∧WT cx.tb W0 T' w':=by
 have hsz:cs.size=13:=by obtain⟨cs',e,hs,-⟩:=hc;cases e;exact hs
 refine((h20s hT).use hw (args:=#[.agg cs]) ⟨hc,trivial⟩ rfl).mono ?_
 rintro e w' ⟨v,vs,T',rfl,hr,hrt,hpo,hh,hw2⟩
 have hr:vs=[v]:=hr
 subst hr
 obtain⟨hv,-⟩:=hrt
 have hv:TyVal cx.tb W0 T' w' w.heap.size (.agg tyC) v:=hv
 obtain⟨oo,rfl,hs2,ha⟩:=id hv
 have hs2:oo.size=13:=hs2
 have hl:cs.toList.length=13:=by simpa using hsz
 have hl2:oo.toList.length=13:=by simpa using hs2
 obtain⟨B1,k1,d1,e1,-⟩:=zy (ha 1 _ _ rfl (Array.getElem?_eq_getElem (show 1<oo.size by omega)))
 obtain⟨B8,k8,d8,e8,-⟩:=cs_form (ha 8 _ _ rfl (Array.getElem?_eq_getElem (show 8<oo.size by omega)))
 have q1:oo[1]? = some (.slice B1 k1 d1):=by rw[Array.getElem?_eq_getElem (show 1<oo.size by omega),e1]
 have q8:oo[8]? = some (.slice B8 k8 d8):=by rw[Array.getElem?_eq_getElem (show 8<oo.size by omega),e8]
 have va:∀i x,cs[i]? = some x→valOf (cellsAll c20s.ps [Value.agg cs]++cellsAll c20s.rs [Value.agg oo]) i=x:=fun i x hi=>by
  show((cs.toList++[])++(oo.toList++[])).getD i undef=_
  have hi':i<cs.size:=(Array.getElem?_eq_some_iff.1 hi).1
  rw[List.append_nil,List.append_nil,List.getD_eq_getElem?_getD,List.getElem?_append_left (by simpa using hi'),Array.getElem?_toList,hi];rfl
 have vb:∀i x,oo[i]? = some x→valOf (cellsAll c20s.ps [Value.agg cs]++cellsAll c20s.rs [Value.agg oo]) (i+13)=x:=fun i x hi=>by
  show((cs.toList++[])++(oo.toList++[])).getD (i+13) undef=_
  rw[List.append_nil,List.append_nil,List.getD_eq_getElem?_getD,List.getElem?_append_right (by omega),hl,Nat.add_sub_cancel,Array.getElem?_toList,hi];rfl
 have p0:=hpo ⟨0,[(-1,1),(1,14)]⟩ (by simp[c20s])
 have p1:=hpo ⟨0,[(1,1),(-1,14)]⟩ (by simp[c20s])
 have p2:=hpo ⟨0,[(-1,8),(1,21)]⟩ (by simp[c20s])
 have p3:=hpo ⟨0,[(1,8),(-1,21)]⟩ (by simp[c20s])
 have g1:=va 1 _ h1
 have g8:=va 8 _ h8
 have g14:=vb 1 _ q1
 have g21:=vb 8 _ q8
 simp only[Nat.reduceAdd] at g14 g21
 simp only[Lin.eval,tsum,g1,g8,g14,g21,meas] at p0 p1 p2 p3
 obtain rfl:k1=m1:=by omega
 obtain rfl:k8=m8:=by omega
 exact⟨oo,B1,B8,d1,d8,T',rfl,ja hv (by kernel_rfl) 0,q1,q8,hist_false hh,hw2⟩
theorem val_call(h29:Holds Tryz.prog cx W0 29 c29)(hw:WT cx.tb W0 T w){s:ByteArray}(hs:s.size≤maxLen) :
  Calls Tryz.prog 29 #[.string s] w fun e w'=>∃(q:Bool) (T':Nat→Prop),e=.returned (.bool q)∧Hist T w false T' w'∧WT cx.tb W0 T' w':=by
 refine(h29.use hw (args:=#[.string s]) ⟨⟨s,rfl,hs⟩,trivial⟩ rfl).mono ?_
 rintro e w' ⟨v,vs,T',rfl,hr,hrt,hpo,hh,hw2⟩
 have hr:vs=[v]:=hr
 subst hr
 obtain⟨⟨q,rfl⟩,-⟩:=hrt
 exact⟨q,T',rfl,hist_false hh,hw2⟩
theorem ito_call(h32:Holds Tryz.prog cx W0 32 c32)(hw:WT cx.tb W0 T w){n:Int}(hn:R64' n) :
  Calls Tryz.prog 32 #[.int .i64 n] w fun e w'=>∃(s:ByteArray) (T':Nat→Prop),e=.returned (.string s)∧s.size≤21∧Hist T w true T' w'∧WT cx.tb W0 T' w':=by
 refine(h32.use hw (args:=#[.int .i64 n]) ⟨⟨n,rfl,hn.1,hn.2⟩,trivial⟩ rfl).mono ?_
 rintro e w' ⟨v,vs,T',rfl,hr,hrt,hpo,hh,hw2⟩
 have hr:vs=[v]:=hr
 subst hr
 obtain⟨⟨s,rfl,h1⟩,-⟩:=hrt
 exact⟨s,T',rfl,h1,hh,hw2⟩
theorem call_call(h30:Holds Tryz.prog cx W0 30 c30)(hw:WT cx.tb W0 T w){es ms:Array Value}(he:TyVal cx.tb W0 T w w.heap.size (.agg tyE) (.agg es))(hm:TyVal cx.tb W0 T w w.heap.size (.agg tyM) (.agg ms)) :
  Calls Tryz.prog 30 #[.agg es,.agg ms] w fun e w'=>∃(cs:Array Value) (n k:Int) (T':Nat→Prop),e=.returned (.tuple #[.agg cs,.int .i64 n,.int .i64 k])∧TyVal cx.tb W0 T' w' 0 (.agg tyE) (.agg cs)∧R64' k∧Hist T w false T' w'∧WT cx.tb W0 T' w':=by
 refine(h30.use hw (args:=#[.agg es,.agg ms]) ⟨he,hm,trivial⟩ rfl).mono ?_
 rintro e w' ⟨v,vs,T',rfl,hr,hrt,hpo,hh,hw2⟩
 have hl2:=yt hrt
 obtain⟨x,y,z,rfl⟩:∃x y z,vs=[x,y,z]:=by
  rcases vs with _|⟨a,_|⟨b,_|⟨c,_|⟨d,l⟩⟩⟩⟩<;>first|(simp[c30] at hl2;done)|exact⟨_,_,_,rfl⟩
 have hr:v=.tuple #[x,y,z]:=hr
 subst hr
 obtain⟨hx,⟨n,rfl,-⟩,⟨k,rfl,k1,k2⟩,-⟩:=hrt
 have hx:TyVal cx.tb W0 T' w' w.heap.size (.agg tyE) x:=hx
 obtain⟨cs,rfl,-⟩:=id hx
 exact⟨cs,n,k,T',rfl,ja hx (by kernel_rfl) 0,⟨k1,k2⟩,hist_false hh,hw2⟩
end
open Go.RowKit
section
variable{W0:World}{T T' T'' T3 T2:Nat→Prop}{w W W' W3:World}{K:Nat→Option Value}{L:Nat→Bool}{vals:Nat→Value}
structure S11T(W0:World)(K:Nat→Option Value)(T3:Nat→Prop)(W3:World)(T':Nat→Prop)(L:Nat→Bool)(vals:Nat→Value)(W:World):Prop where
 wt:WT cx.tb W0 T' W
 hi:Hist T3 W3 false T' W
 kn:∀k x,K k=some x→L k=true→vals k=x
 pre:L 7=false→T'=T3∧Below W3.heap.size W3 W
 tu:∀k,k=7∨k=8→L k=true→∃cs n j,vals k=.tuple #[.agg cs,.int .i64 n,.int .i64 j]∧TyVal cx.tb W0 T' W 0 (.agg tyE) (.agg cs)
 rc:L 9=true→∃cs,vals 9=.agg cs∧TyVal cx.tb W0 T' W 0 (.agg tyE) (.agg cs)
 er:∀k,k=10∨k=11∨k=14∨k=15→L k=true→∃n,vals k=.int .i64 n
 bx:L 12=true→∃g cs,vals 12=.pointer (some ⟨g,0,none⟩)∧¬T' g∧W3.heap.size≤g∧YtmadfhgiaonnlaaGreatDoor.Blk W g 82 cs∧cs.size=8∧(L 13=true→TyVal cx.tb W0 T' W 0 (.agg tyE) (.agg cs))
theorem S11T.put{i:Nat}{v:Value}(h:S11T W0 K T3 W3 T' L vals W)(hLi:L i=false)(h0:∀x,K i=some x→v=x)
  (h1:i=7∨i=8→∃cs n j,v=.tuple #[.agg cs,.int .i64 n,.int .i64 j]∧TyVal cx.tb W0 T' W 0 (.agg tyE) (.agg cs)) (h9:i=9→∃cs,v=.agg cs∧TyVal cx.tb W0 T' W 0 (.agg tyE) (.agg cs))
  (he:i=10∨i=11∨i=14∨i=15→∃n,v=.int .i64 n) (h12:i=12→L 13=false∧∃g cs,v=.pointer (some ⟨g,0,none⟩)∧¬T' g∧W3.heap.size≤g∧YtmadfhgiaonnlaaGreatDoor.Blk W g 82 cs∧cs.size=8)
  (h13:i=13→∃g cs,vals 12=.pointer (some ⟨g,0,none⟩)∧¬T' g∧W3.heap.size≤g∧YtmadfhgiaonnlaaGreatDoor.Blk W g 82 cs∧cs.size=8∧TyVal cx.tb W0 T' W 0 (.agg tyE) (.agg cs)) :
  S11T W0 K T3 W3 T' (upL L i) (upV vals i v) W:=by
 refine⟨h.wt,h.hi,fun k x hk hl=>?_,fun hl=>?_,fun k hk hl=>?_,fun hl=>?_,fun k hk hl=>?_,fun hl=>?_⟩
 ·by_cases e:k=i
  ·subst e;simp only[upV,if_true];exact h0 x hk
  ·simp only[upL,upV,if_neg e] at hl ⊢;exact h.kn k x hk hl
 ·by_cases e:7=i
  ·simp[upL,e] at hl
  ·simp only[upL,if_neg e] at hl;exact h.pre hl
 ·by_cases e:k=i
  ·subst e;simp only[upV,if_true];exact h1 hk
  ·simp only[upL,upV,if_neg e] at hl ⊢;exact h.tu k hk hl
 ·by_cases e:9=i
  ·simp only[upV,if_pos e];exact h9 e.symm
  ·simp only[upL,upV,if_neg e] at hl ⊢;exact h.rc hl
 ·by_cases e:k=i
  ·subst e;simp only[upV,if_true];exact he hk
  ·simp only[upL,upV,if_neg e] at hl ⊢;exact h.er k hk hl
 ·by_cases e:12=i
  ·obtain⟨n20,g,cs,q1,q2,q3,q4,q5⟩:=h12 e.symm
   simp only[upV,if_pos e]
   refine⟨g,cs,q1,q2,q3,q4,q5,fun h=>?_⟩
   simp only[upL,if_neg (show ¬13=i by omega)] at h
   rw[n20] at h;cases h
  ·by_cases e2:i=13
   ·obtain⟨g,cs,q1,q2,q3,q4,q5,q6⟩:=h13 e2
    simp only[upV,if_neg e]
    exact⟨g,cs,q1,q2,q3,q4,q5,fun _=>q6⟩
   ·simp only[upL,upV,if_neg e,if_neg (Ne.symm e2)] at hl ⊢
    exact h.bx hl
theorem S11T.grow(h:S11T W0 K T3 W3 T' L vals W){pu:Bool}(k:Hist T' W pu T2 W')(kw:WT cx.tb W0 T2 W')(hp:L 7=false→T2=T3∧Below W3.heap.size W3 W'):S11T W0 K T3 W3 T2 L vals W':=by
 have hx:=k.ext
 refine⟨kw,h.hi.comp k,h.kn,hp,fun i hi hl=>?_,fun hl=>?_,h.er,fun hl=>?_⟩
 ·obtain⟨cs,n,j,q1,q2⟩:=h.tu i hi hl
  exact⟨cs,n,j,q1,qf hx q2⟩
 ·obtain⟨cs,q1,q2⟩:=h.rc hl
  exact⟨cs,q1,qf hx q2⟩
 ·obtain⟨g,cs,q1,q2,q3,q4,q5,q6⟩:=h.bx hl
  have hg:=q4.lt
  refine⟨g,cs,q1,fun ht=>?_,q3,(k.keep g hg (.inr q2)).trans q4,q5,fun h20=>qf hx (q6 h20)⟩
  rcases k.new g ht with ht|ht
  ·exact q2 ht
  ·omega
theorem S11T.call{v:Value}{cs:Array Value}{n j:Int}(h:S11T W0 K T3 W3 T' L vals W)(hL:L 7=false)(hL8:L 8=false)(k:Hist T' W false T2 W')(kw:WT cx.tb W0 T2 W')(hK:K 7=none)(hv:v=.tuple #[.agg cs,.int .i64 n,.int .i64 j])(hc:TyVal cx.tb W0 T2 W' 0 (.agg tyE) (.agg cs)) :
  S11T W0 K T3 W3 T2 (upL L 7) (upV vals 7 v) W':=by
 have hx:=k.ext
 refine⟨kw,h.hi.comp k,fun i x hk hl=>?_,fun hl=>?_,fun i hi hl=>?_,fun hl=>?_,fun i hi hl=>?_,fun hl=>?_⟩
 ·have e:i≠7:=fun e=>by subst e;rw[hK] at hk;cases hk
  simp only[upL,upV,if_neg e] at hl ⊢;exact h.kn i x hk hl
 ·simp[upL] at hl
 ·rcases hi with rfl|rfl
  ·simp only[upV,if_true];exact⟨cs,n,j,hv,hc⟩
  ·simp[upL,hL8] at hl
 ·simp only[upL,upV,if_neg (show ¬9=7 by omega)] at hl ⊢
  obtain⟨cs,q1,q2⟩:=h.rc hl
  exact⟨cs,q1,qf hx q2⟩
 ·have e:i≠7:=by omega
  simp only[upL,upV,if_neg e] at hl ⊢;exact h.er i hi hl
 ·simp only[upL,upV,if_neg (show ¬12=7 by omega),if_neg (show ¬13=7 by omega)] at hl ⊢
  obtain⟨g,cs,q1,q2,q3,q4,q5,q6⟩:=h.bx hl
  have hg:=q4.lt
  refine⟨g,cs,q1,fun ht=>?_,q3,(k.keep g hg (.inr q2)).trans q4,q5,fun h20=>qf hx (q6 h20)⟩
  rcases k.new g ht with ht|ht
  ·exact q2 ht
  ·omega
theorem S11T.store{g:Nat}{old cs:Array Value}(h:S11T W0 K T3 W3 T' L vals W)(h12:vals 12=.pointer (some ⟨g,0,none⟩))(hL:L 13=false)(hL7:L 7=true)(hg:¬T' g)(hg3:W3.heap.size≤g)(hk:YtmadfhgiaonnlaaGreatDoor.Blk W g 82 old)(hs:cs.size=8)
  (hc:TyVal cx.tb W0 T' W 0 (.agg tyE) (.agg cs)) (hw0:W0.heap.size≤W3.heap.size) (hK:K 13=none):S11T W0 K T3 W3 T' (upL L 13) (upV vals 13 undef) (W.setRow g cs):=by
 have hne:∀b,T' b→b≠g:=fun b hb e=>hg (e ▸ hb)
 obtain⟨k1,k2⟩:=h.wt.frame (w':=W.setRow g cs) (by rw[size_setRow];exact Nat.le_refl _) (fun k h=>setRow_other W g k _ (by omega)) (fun k h=>setRow_other W g k _ (hne k h)) (fun k es c h=>by
  have:k≠g:=fun e=>by subst e;rw[hk] at h;cases h
  rw[setRow_other W g k _ this];exact h)
 have hH:Hist T3 W3 false T' (W.setRow g cs):=⟨h.hi.ext.trans k2,h.hi.new,by rw[size_setRow];exact h.hi.size,h.hi.os,h.hi.tape,h.hi.output,fun x hx hn=>(setRow_other W g x _ (by omega)).trans (h.hi.keep x hx hn)⟩
 have h':S11T W0 K T3 W3 T' L vals (W.setRow g cs):=by
  refine⟨k1,hH,h.kn,fun hl=>absurd hl (by rw[hL7];decide),fun i hi hl=>?_,fun hl=>?_,h.er,fun hl=>?_⟩
  ·obtain⟨cs,n,j,q1,q2⟩:=h.tu i hi hl
   exact⟨cs,n,j,q1,qf k2 q2⟩
  ·obtain⟨cs,q1,q2⟩:=h.rc hl
   exact⟨cs,q1,qf k2 q2⟩
  ·exact⟨g,cs,h12,hg,hg3,setRow_heap W g old cs 82 (0,0) hk,hs,fun h20=>by rw[hL] at h20;cases h20⟩
 exact h'.put hL (fun x hx=>by rw[hK] at hx;cases hx) (by omega) (by omega) (by omega) (by omega) (fun _=>⟨g,cs,h12,hg,hg3,setRow_heap W g old cs 82 (0,0) hk,hs,qf k2 hc⟩)
theorem S11T.alloc{z:Array Value}(h:S11T W0 K T3 W3 T' L vals W)(hL:L 12=false)(hL13:L 13=false)(hz:z.size=8)(hK:K 12=none) :
  S11T W0 K T3 W3 T' (upL L 12) (upV vals 12 (.pointer (some ⟨W.heap.size,0,none⟩))) (W.alloc (.cells z 82)):=by
 have hb:=below_new W (.cells z 82)
 have hg:S11T W0 K T3 W3 T' L vals (W.alloc (.cells z 82)):=h.grow (pu:=true) (yx (PU:=true) h.wt hb) (zu h.wt hb).1 (fun hl=>⟨(h.pre hl).1,below_call (h.pre hl).2 hb⟩)
 exact hg.put hL (fun x hx=>by rw[hK] at hx;cases hx) (by omega) (by omega) (by omega)
  (fun _=>⟨hL13,_,z,rfl,fun ht=>by have:=h.wt.lt ht;omega,h.hi.size,YtmadfhgiaonnlaaGreatDoor.Blk.new W 82 z,hz⟩) (by omega)
theorem S11T.fin(h:S11T W0 K T3 W3 T' L vals W)(hL:∀k,k<16→L k=true):∃g cs n m,vals 12=.pointer (some ⟨g,0,none⟩)∧vals 14=.int .i64 m∧vals 15=.int .i64 n∧WT cx.tb W0 T' W∧Hist T3 W3 false T' W∧¬T' g∧W3.heap.size≤g∧YtmadfhgiaonnlaaGreatDoor.Blk W g 82 cs∧TyVal cx.tb W0 T' W 0 (.agg tyE) (.agg cs):=by
 obtain⟨g,cs,q1,q2,q3,q4,q5,q6⟩:=h.bx (hL 12 (by omega))
 obtain⟨n,r1⟩:=h.er 15 (by omega) (hL 15 (by omega))
 obtain⟨m,r2⟩:=h.er 14 (by omega) (hL 14 (by omega))
 exact⟨g,cs,n,m,q1,r2,r1,h.wt,h.hi,q2,q3,q4,q6 (hL 13 (by omega))⟩
theorem ag_one{l:List CT}{base:Nat}{cs:Array Value}(h:TyVal cx.tb W0 T w base (.agg l) (.agg cs)):cs.size=l.length∧cs.all (·.oneCell')=true:=by
 obtain⟨cs',e,hs,ha⟩:=h
 cases e
 refine⟨hs,?_⟩
 rw[Array.all_eq_true]
 intro i hi
 exact(ha i _ cs[i] (List.getElem?_eq_getElem (by rw[←hs];exact hi)) (Array.getElem?_eq_getElem hi)).one
def OrdPost(W0:World)(T:Nat→Prop)(w:World)(cc:Array Value)(n0:Int)(m8:Nat)(who st:ByteArray)(e:Ending)(w':World):Prop:=∃(dd:Array Value) (k:Int),e=.returned (.tuple #[.agg dd,.int .i64 k])∧w.heap.size≤w'.heap.size∧(w'.os=w.os∧w'.tape=w.tape∧w'.output=w.output)∧(∀b,b<w.heap.size→¬T b→w'.heap[b]? = w.heap[b]?) ∧
 ((k≠0∧dd=cc∧∃T',WT cx.tb W0 T' w'∧Ext T w T' w') ∨
  (k=0∧∃(l:List Cen.Ln) (x:Cen.Ln) (A:Option Addr) (c:Nat) (n0':Int) (A1:Option Addr) (m1 c1:Nat) (A2:Option Addr) (m2 c2:Nat) (A3:Option Addr) (m3 c3:Nat) (A4:Option Addr) (m4 c4:Nat) (n5:Int) (A6:Option Addr) (m6 c6:Nat) (A7:Option Addr) (m7 c7:Nat) (A9:Option Addr) (m9 c9:Nat) (A10:Option Addr) (m10 c10:Nat) (n11 n12:Int),
    dd=ceA n0' A1 m1 c1 A2 m2 c2 A3 m3 c3 A4 m4 c4 n5 A6 m6 c6 A7 m7 c7 A (l.length+1) c A9 m9 c9 A10 m10 c10 n11 n12∧l.length=m8∧Cen.LnsAt w' (.slice A (l.length+1) c) (l++[x])∧Ver.Chain (l++[x])∧x.who=who∧x.on_=st∧x.at_=n0))
end
open Go.RowKit
section
variable{W0:World}{T T' T'' T3 T2:Nat→Prop}{w w6 W W' W3:World}{K:Nat→Option Value}{L:Nat→Bool}{vals:Nat→Value}{n0:Int}{p8:Nat}{who st:ByteArray}
theorem loadRow{P:Program}{o:Oper}{a:Act}{W:World}{ty t:TypeId}{x:Operand}(ho:o.op=.load ty x){g:Nat}(hx:a.eval x=.pointer (some ⟨g,0,none⟩)){cs:Array Value}{fr:Nat×Nat}{d:TypeDesc}(hc:W.heap[g]? = some (.cells cs t fr))(hu:P.underlying ty=some d)(hd:(match d with|.struct _|.array _ _=>true|_=>false)=true)
  (hi:(P.info? ty).map (·.size)=some cs.size) {R:Value→World→Prop} (hR:R (.agg cs) W):Reg4.StepOk P R ((execOp a.eval o).run P W):=by
 refine loadRun (cs:=cs.toList) ho hx (fun j v hj=>?_) hu (by cases d<;>first|rfl|cases hd) (by simpa using hi) (by simpa using hR)
 rw[Nat.zero_add,cell_of_row W g j cs t fr hc,←Array.getElem?_toList]
 exact hj
def CkV(W0:World)(T5:Nat→Prop)(W:World)(v:Value)(W2:World):Prop:=∃(cs:Array Value) (n k:Int) (T2:Nat→Prop),v=.tuple #[.agg cs,.int .i64 n,.int .i64 k]∧TyVal cx.tb W0 T2 W2 0 (.agg tyE) (.agg cs)∧Hist T5 W false T2 W2∧WT cx.tb W0 T2 W2
def ExV(W0:World)(T5:Nat→Prop)(W:World)(u v:Value)(i:Nat):Prop:=∃(cs:Array Value) (n j:Int),u=.tuple #[.agg cs,.int .i64 n,.int .i64 j]∧TyVal cx.tb W0 T5 W 0 (.agg tyE) (.agg cs)∧v=(match i with|0=>.agg cs|1=>.int .i64 n|_=>.int .i64 j)
def AP(w6:World)(n0:Int)(p8:Nat)(who st:ByteArray)(a:Value)(j:Int)(W:World):Prop:=j≠0∨(j=0∧∃(x:Cen.Ln) (bL:Nat) (l:List Cen.Ln),a=.slice (some ⟨bL,0,none⟩) (l.length+1) (l.length+1)∧l.length=p8∧x.who=who∧x.on_=st∧x.at_=n0∧Ver.Chain (l++[x]) ∧
 Ver.OwnL w6.heap.size W (.slice (some ⟨bL,0,none⟩) (l.length+1) (l.length+1)) (l++[x]))
theorem AP.call{a:Value}{j:Int}(h:AP w6 n0 p8 who st a j W)(hb:Below W.heap.size W W'):AP w6 n0 p8 who st a j W':=by
 rcases h with h|⟨h,x,bL,l,h1,h2,h3,h4,h5,h6,h7⟩
 ·exact .inl h
 ·exact .inr ⟨h,x,bL,l,h1,h2,h3,h4,h5,h6,h7.call hb⟩
def Str27(v:Value):Prop:=∃s:ByteArray,v=.string s∧s.size≤27
def ApV(w6:World)(n0:Int)(p8:Nat)(who st:ByteArray)(W:World)(v:Value)(W2:World):Prop:=∃a j,v=.tuple #[a,.int .i64 j]∧Below W.heap.size W W2∧AP w6 n0 p8 who st a j W2
structure S14(w6:World)(n0:Int)(p8:Nat)(who st:ByteArray)(K:Nat→Option Value)(L:Nat→Bool)(vals:Nat→Value)(W:World):Prop where
 bw:Below w6.heap.size w6 W
 kn:∀k x,K k=some x→L k=true→vals k=x
 s7:L 7=true→∃s:ByteArray,vals 7=.string s∧s.size≤21
 s8:L 8=true→∃s:ByteArray,vals 8=.string s∧s.size≤27
 ot:L 10=true→∃a j,vals 10=.tuple #[a,.int .i64 j]∧AP w6 n0 p8 who st a j W∧(L 11=true→vals 11=.tuple #[a,.int .i64 j])∧(L 12=true→vals 12=a)∧(L 13=true→vals 13=.int .i64 j)∧(L 14=true→vals 14=a)∧(L 15=true→vals 15=.int .i64 j)
theorem S14.put{i:Nat}{v:Value}(h:S14 w6 n0 p8 who st K L vals W)(hb:Below W.heap.size W W')(h0:∀x,K i=some x→v=x)(h7:i=7→∃s:ByteArray,v=.string s∧s.size≤21)(h8:i=8→∃s:ByteArray,v=.string s∧s.size≤27)(hi:i≤9) :
  S14 w6 n0 p8 who st K (upL L i) (upV vals i v) W':=by
 refine⟨h.bw.trans (hb.mono h.bw.size),fun k x hk hl=>?_,fun hl=>?_,fun hl=>?_,fun hl=>?_⟩
 ·by_cases e:k=i
  ·subst e;simp only[upV,if_true];exact h0 x hk
  ·simp only[upL,upV,if_neg e] at hl ⊢;exact h.kn k x hk hl
 ·by_cases e:7=i
  ·simp only[upV,if_pos e];exact h7 e.symm
  ·simp only[upL,upV,if_neg e] at hl ⊢;exact h.s7 hl
 ·by_cases e:8=i
  ·simp only[upV,if_pos e];exact h8 e.symm
  ·simp only[upL,upV,if_neg e] at hl ⊢;exact h.s8 hl
 ·have g:∀k,10≤k→¬k=i:=fun k hk=>by omega
  simp only[upL,upV,if_neg (g 10 (by omega)),if_neg (g 11 (by omega)),if_neg (g 12 (by omega)),if_neg (g 13 (by omega)),if_neg (g 14 (by omega)),if_neg (g 15 (by omega))] at hl ⊢
  obtain⟨a,j,q1,q2,q3⟩:=h.ot hl
  exact⟨a,j,q1,q2.call hb,q3⟩
theorem S14.call{a:Value}{j:Int}(h:S14 w6 n0 p8 who st K L vals W)(hb:Below W.heap.size W W')(hK:K 10=none)(hL:L 11=false∧L 12=false∧L 13=false∧L 14=false∧L 15=false)(ha:AP w6 n0 p8 who st a j W') :
  S14 w6 n0 p8 who st K (upL L 10) (upV vals 10 (.tuple #[a,.int .i64 j])) W':=by
 obtain⟨l1,l2,l3,l4,l5⟩:=hL
 refine⟨h.bw.trans (hb.mono h.bw.size),fun k x hk hl=>?_,fun hl=>?_,fun hl=>?_,fun hl=>?_⟩
 ·have e:¬k=10:=fun e=>by subst e;rw[hK] at hk;cases hk
  simp only[upL,upV,if_neg e] at hl ⊢;exact h.kn k x hk hl
 ·simp only[upL,upV,if_neg (show ¬7=10 by omega)] at hl ⊢;exact h.s7 hl
 ·simp only[upL,upV,if_neg (show ¬8=10 by omega)] at hl ⊢;exact h.s8 hl
 ·refine⟨a,j,by simp[upV],ha,?_,?_,?_,?_,?_⟩<;>intro hl<;>simp[upL,l1,l2,l3,l4,l5] at hl
theorem S14.ext{i:Nat}{v:Value}(h:S14 w6 n0 p8 who st K L vals W)(hK:K i=none)(hi:11≤i)(hL:L 10=true)
  (hv:∀a j,vals 10=.tuple #[a,.int .i64 j]→(L 11=true→vals 11=.tuple #[a,.int .i64 j])→(L 12=true→vals 12=a)→(L 13=true→vals 13=.int .i64 j)→(i=11→v=.tuple #[a,.int .i64 j])∧(i=12→v=a)∧(i=13→v=.int .i64 j)∧(i=14→v=a)∧(i=15→v=.int .i64 j)) :
  S14 w6 n0 p8 who st K (upL L i) (upV vals i v) W:=by
 refine⟨h.bw,fun k x hk hl=>?_,fun hl=>?_,fun hl=>?_,fun hl=>?_⟩
 ·have e:¬k=i:=fun e=>by subst e;rw[hK] at hk;cases hk
  simp only[upL,upV,if_neg e] at hl ⊢;exact h.kn k x hk hl
 ·simp only[upL,upV,if_neg (show ¬7=i by omega)] at hl ⊢;exact h.s7 hl
 ·simp only[upL,upV,if_neg (show ¬8=i by omega)] at hl ⊢;exact h.s8 hl
 ·obtain⟨a,j,q1,q2,q3,q4,q5,q6,q7⟩:=h.ot hL
  obtain⟨v1,v2,v3,v4,v5⟩:=hv a j q1 q3 q4 q5
  have g:∀k u,(L k=true→vals k=u)→(i=k→v=u)→(upL L i k=true→upV vals i v k=u):=fun k u h1 h2 h3=>by
   by_cases e:k=i
   ·subst e;simp only[upV,if_true];exact h2 rfl
   ·simp only[upL,upV,if_neg e] at h3 ⊢;exact h1 h3
  refine⟨a,j,?_,q2,g 11 _ q3 v1,g 12 _ q4 v2,g 13 _ q5 v3,g 14 _ q6 v4,g 15 _ q7 v5⟩
  simp only[upV,if_neg (show ¬10=i by omega)]
  exact q1
theorem S14.fin(h:S14 w6 n0 p8 who st K L vals W)(hL:∀k,k<16→L k=true):∃a j,vals 14=a∧vals 15=.int .i64 j∧AP w6 n0 p8 who st a j W:=by
 obtain⟨a,j,q1,q2,q3,q4,q5,q6,q7⟩:=h.ot (hL 10 (by omega))
 exact⟨a,j,q6 (hL 14 (by omega)),q7 (hL 15 (by omega)),q2⟩
theorem ap_call(hw:WT cx.tb W0 T W){A:Option Addr}{c:Nat}{what:ByteArray}(hl:CV cx.tb W0 T W 0 (.cs 0 69 8192) (.slice A p8 c))(hn0:R64' n0)(z1:who.size≤maxLen)(z2:what.size≤maxLen)(z3:st.size≤maxLen)(hb6:w6.heap.size≤W.heap.size) :
  Calls Tryz.prog 31 #[.slice A p8 c,.int .i64 n0,.string who,.string what,.string st] W fun e W'=>∃a j,e=.returned (.tuple #[a,.int .i64 j])∧Hid (Below W.heap.size W W')∧AP w6 n0 p8 who st a j W':=by
 obtain⟨l,hl,hch⟩:=lns_at hl
 obtain⟨e1,-,-⟩:=Cen.LnsAt.len hl
 subst e1
 refine(Ver.append_ A l.length c l n0 who what st W hl hch hn0 z1 z2 z3).mono ?_
 rintro e W' ⟨hb,⟨k,k1,k2,rfl⟩|⟨x,b,rfl,x1,x2,x3,x4,x5⟩⟩
 ·exact⟨_,k,rfl,hb,.inl (by omega)⟩
 ·exact⟨_,0,rfl,hb,.inr ⟨rfl,x,b,l,rfl,rfl,x1,x2,x3,x4,Own.lower x5.out hb6⟩⟩
end
end Sy
end Go.Proofs.YtmadfhgiaonnlaaGreatDoor
