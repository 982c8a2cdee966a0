import Derived.Test.YtmadfhgiaonnlaaGreatDoorPk32
set_option linter.unusedVariables false
set_option linter.unusedSimpArgs false
namespace Go.Proofs.YtmadfhgiaonnlaaGreatDoor
namespace Sy
open Go.RowKit
section
variable{W0:World}{T:Nat→Prop}{w:World}
theorem zl{w W:World}{A:Option Addr}{n:Nat}{f:Nat→Int×Int}(hR:Nbr.Rds w w.heap.size A n f)(hB:Below w.heap.size w W):Nbr.Rds W W.heap.size A n f:=fun j hj=>by
 obtain⟨b,off,e,h1,h2,h3⟩:=hR.below hB j hj
 exact⟨b,off,e,Nat.lt_of_lt_of_le h1 hB.size,h2,h3⟩
def RowsF(w:World)(A:Option Addr)(n k:Nat)(f:Nat→List Value):Prop:=∀j,j<n→∃b off,A=some ⟨b,off,none⟩∧∀W,Below w.heap.size w W→∀(o:Nat) (u:Value),(f j)[o]? = some u→W.cell? ⟨b,off+j*k+o,none⟩=some u
theorem RowsF.grow{w W:World}{A:Option Addr}{n k:Nat}{f:Nat→List Value}(h:RowsF w A n k f)(hB:Below w.heap.size w W):RowsF W A n k f:=fun j hj=>by
 obtain⟨b,off,e,h2⟩:=h j hj
 exact⟨b,off,e,fun W' hb=>h2 W' (below_call hB hb)⟩
def Rows2(w:World)(A B:Option Addr)(n k:Nat)(R:List Value→List Value→Prop):Prop:=∀j,j<n→∃(ba oa bb ob:Nat) (r r':List Value),A=some ⟨ba,oa,none⟩∧B=some ⟨bb,ob,none⟩∧R r r' ∧
 (∀W,Below w.heap.size w W→∀(o:Nat) (u:Value),r[o]? = some u→W.cell? ⟨ba,oa+j*k+o,none⟩=some u)∧∀W,Below w.heap.size w W→∀(o:Nat) (u:Value),r'[o]? = some u→W.cell? ⟨bb,ob+j*k+o,none⟩=some u
theorem Rows2.grow{w W:World}{A B:Option Addr}{n k:Nat}{R R':List Value→List Value→Prop}(h:Rows2 w A B n k R)(hB:Below w.heap.size w W)(hR:∀r r',R r r'→R' r r'):Rows2 W A B n k R':=fun j hj=>by
 obtain⟨ba,oa,bb,ob,r,r',e1,e2,h1,h2,h3⟩:=h j hj
 exact⟨ba,oa,bb,ob,r,r',e1,e2,hR r r' h1,fun W' hb=>h2 W' (below_call hB hb),fun W' hb=>h3 W' (below_call hB hb)⟩
def TkC(r:List Value):Prop:=∃(s0 s1 s2:ByteArray) (n3 n4 n5:Int),r=[.string s0,.string s1,.string s2,.int .i64 n3,.int .i64 n4,.int .i64 n5]
set_option maxRecDepth 100000 in
set_option maxHeartbeats 1000000 in
theorem same65(A B:Option Addr)(n c d:Nat)(f:Nat→Int×Int)(w:World)(hn:n≤1048576)(hR:Nbr.Rds w w.heap.size A n f)(hR':Nbr.Rds w w.heap.size B n f) :
  Calls Tryz.prog 65 #[.slice A n c,.slice B n d] w fun e w'=>e=.returned (.bool true)∧Hid (Below w.heap.size w w'):=by
 have HR:=Lib.hid hR
 have HS:=Lib.hid hR'
 clear hR hR'
 go_enter Tryz.func65,Tryz.ntmps65
 go_wp2_with fail
 go_loopg [5] n (fun gg s5 wr=>∃j:Nat,j+gg=n∧s5=.int .i64 j∧Hid (Below w.heap.size w wr))
 case atStart=>exact⟨0,by omega,rfl,Lib.hid (Below.refl _ _)⟩
 case round=>
  obtain⟨j,hj,rfl,HB⟩:=hrel
  by_cases hjn:j<n
  ·obtain⟨b,off,rfl,hb,h0,h1⟩:=HR.out.below HB.out j hjn
   obtain⟨b',off',rfl,hb',h0',h1'⟩:=HS.out.below HB.out j hjn
   have hltz:(j:Int)<(n:Int):=by omega
   have hj0:(0:Int)≤(j:Int):=by omega
   have e4:IntKind.i64.wrap ((j:Int)+1)=((j+1:Nat):Int):=by simp[IntKind.wrap,IntKind.bits,IntKind.signed];omega
   generalize (f j).1=x at *
   generalize (f j).2=y at *
   go_wp2_with fail
   go_quiet (fail)
   go_wp2_with fail
   go_roundg (n-(j+1))
   case measure=>omega
   case rel=>exact⟨j+1,by omega,by simp,Lib.hid (by have:=HB.out;first|assumption|exact below_drewN' this _|(exact Below.trans HB.out (Below.mono (by assumption) (HB.out.size))))⟩
  ·have hjn':n=j:=by omega
   subst hjn'
   go_wp2_with fail
   go_ret
   exact⟨rfl,HB⟩
set_option maxRecDepth 100000 in
set_option maxHeartbeats 1000000 in
theorem same67(A B:Option Addr)(n c d:Nat)(f:Nat→List Value)(w:World)(hn:n≤1048576)(hf:∀j,j<n→TkC (f j))(hR:RowsF w A n 6 f)(hR':RowsF w B n 6 f) :
  Calls Tryz.prog 67 #[.slice A n c,.slice B n d] w fun e w'=>e=.returned (.bool true)∧Hid (Below w.heap.size w w'):=by
 have HR:=Lib.hid hR
 have HS:=Lib.hid hR'
 clear hR hR'
 go_enter Tryz.func67,Tryz.ntmps67
 go_wp2_with fail
 go_loopg [5] n (fun gg s5 wr=>∃j:Nat,j+gg=n∧s5=.int .i64 j∧Hid (Below w.heap.size w wr))
 case atStart=>exact⟨0,by omega,rfl,Lib.hid (Below.refl _ _)⟩
 case round=>
  obtain⟨j,hj,rfl,HB⟩:=hrel
  by_cases hjn:j<n
  ·obtain⟨b,off,rfl,hcl⟩:=HR.out j hjn
   obtain⟨b',off',rfl,hcl'⟩:=HS.out j hjn
   obtain⟨s0,s1,s2,n3,n4,n5,hfj⟩:=hf j hjn
   have hcw:=hcl wr HB.out
   have hcw':=hcl' wr HB.out
   rw[hfj] at hcw hcw'
   have h0:wr.cell? ⟨b,off+j*6,none⟩=some (.string s0):=by simpa using hcw 0 _ rfl
   have h1:=hcw 1 _ rfl
   have h2:=hcw 2 _ rfl
   have h3:=hcw 3 _ rfl
   have h4:=hcw 4 _ rfl
   have h5:=hcw 5 _ rfl
   have h0':wr.cell? ⟨b',off'+j*6,none⟩=some (.string s0):=by simpa using hcw' 0 _ rfl
   have h1':=hcw' 1 _ rfl
   have h2':=hcw' 2 _ rfl
   have h3':=hcw' 3 _ rfl
   have h4':=hcw' 4 _ rfl
   have h5':=hcw' 5 _ rfl
   clear hcl hcw hcl' hcw' hfj
   have hltz:(j:Int)<(n:Int):=by omega
   have hj0:(0:Int)≤(j:Int):=by omega
   have e4:IntKind.i64.wrap ((j:Int)+1)=((j+1:Nat):Int):=by simp[IntKind.wrap,IntKind.bits,IntKind.signed];omega
   go_wp2_with fail
   go_quiet (fail)
   go_wp2_with fail
   go_roundg (n-(j+1))
   case measure=>omega
   case rel=>exact⟨j+1,by omega,by simp,Lib.hid (by have:=HB.out;first|assumption|exact below_drewN' this _|(exact Below.trans HB.out (Below.mono (by assumption) (HB.out.size))))⟩
  ·have hjn':n=j:=by omega
   subst hjn'
   go_wp2_with fail
   go_ret
   exact⟨rfl,HB⟩
set_option maxRecDepth 100000 in
set_option maxHeartbeats 2000000 in
theorem same27(s0 s1:ByteArray)(n2 n3 n4 n5:Int)(s6:ByteArray)(b7:Bool)(n8:Int)(A B:Option Addr)(n c d:Nat)(f:Nat→Int×Int)(w:World)(hn:n≤1048576)(hR:Nbr.Rds w w.heap.size A n f)(hR':Nbr.Rds w w.heap.size B n f) :
  Calls Tryz.prog 27 #[.agg #[.string s0,.string s1,.int .i64 n2,.int .i64 n3,.int .i64 n4,.int .i64 n5,.string s6,.bool b7,.int .i64 n8,.slice A n c],.agg #[.string s0,.string s1,.int .i64 n2,.int .i64 n3,.int .i64 n4,.int .i64 n5,.string s6,.bool b7,.int .i64 n8,.slice B n d]] w fun e w'=>e=.returned (.bool true)∧Hid (Below w.heap.size w w'):=by
 have hB:=below_alloc (below_new w (.cells #[.string s0,.string s1,.int .i64 n2,.int .i64 n3,.int .i64 n4,.int .i64 n5,.string s6,.bool b7,.int .i64 n8,.slice A n c] 95)) (.cells #[.string s0,.string s1,.int .i64 n2,.int .i64 n3,.int .i64 n4,.int .i64 n5,.string s6,.bool b7,.int .i64 n8,.slice B n d] 95)
 have HB:=Lib.hid hB
 have HC:=Lib.hid (same65 A B n c d f _ hn (zl hR hB) (zl hR' hB))
 clear hB hR hR'
 go_enter Tryz.func27,Tryz.ntmps27
 go_wp2_with fail
 refine HC.out.mono ?_
 rintro e w5 ⟨rfl,hb⟩
 have HB5:=Lib.hid (below_call HB.out hb.out)
 go_wp2_with fail
 go_ret
 exact⟨rfl,HB5⟩
set_option maxRecDepth 100000 in
set_option maxHeartbeats 2000000 in
theorem same28(s0 s1:ByteArray)(n2:Int)(s3:ByteArray)(n4 n5 n7 n8:Int)(b9 b10:Bool)(A B:Option Addr)(n c d:Nat)(f:Nat→Int×Int)(w:World)(hn:n≤1048576)(hR:Nbr.Rds w w.heap.size A n f)(hR':Nbr.Rds w w.heap.size B n f) :
  Calls Tryz.prog 28 #[.agg #[.string s0,.string s1,.int .i64 n2,.string s3,.int .i64 n4,.int .i64 n5,.slice A n c,.int .i64 n7,.int .i64 n8,.bool b9,.bool b10],.agg #[.string s0,.string s1,.int .i64 n2,.string s3,.int .i64 n4,.int .i64 n5,.slice B n d,.int .i64 n7,.int .i64 n8,.bool b9,.bool b10]] w fun e w'=>e=.returned (.bool true)∧Hid (Below w.heap.size w w'):=by
 have HR:=Lib.hid hR
 have HS:=Lib.hid hR'
 clear hR hR'
 have HB1:=Lib.hid (below_alloc (below_new w (.cells #[.string s0,.string s1,.int .i64 n2,.string s3,.int .i64 n4,.int .i64 n5,.slice A n c,.int .i64 n7,.int .i64 n8,.bool b9,.bool b10] 98)) (.cells #[.string s0,.string s1,.int .i64 n2,.string s3,.int .i64 n4,.int .i64 n5,.slice B n d,.int .i64 n7,.int .i64 n8,.bool b9,.bool b10] 98))
 have HK2:=Lib.hid ((YtmadfhgiaonnlaaGreatDoor.Blk.new w 98 #[.string s0,.string s1,.int .i64 n2,.string s3,.int .i64 n4,.int .i64 n5,.slice A n c,.int .i64 n7,.int .i64 n8,.bool b9,.bool b10]).alloc (.cells #[.string s0,.string s1,.int .i64 n2,.string s3,.int .i64 n4,.int .i64 n5,.slice B n d,.int .i64 n7,.int .i64 n8,.bool b9,.bool b10] 98))
 have HK3:=Lib.hid (YtmadfhgiaonnlaaGreatDoor.Blk.new (w.alloc (.cells #[.string s0,.string s1,.int .i64 n2,.string s3,.int .i64 n4,.int .i64 n5,.slice A n c,.int .i64 n7,.int .i64 n8,.bool b9,.bool b10] 98)) 98 #[.string s0,.string s1,.int .i64 n2,.string s3,.int .i64 n4,.int .i64 n5,.slice B n d,.int .i64 n7,.int .i64 n8,.bool b9,.bool b10])
 rw[show(w.alloc (.cells #[.string s0,.string s1,.int .i64 n2,.string s3,.int .i64 n4,.int .i64 n5,.slice A n c,.int .i64 n7,.int .i64 n8,.bool b9,.bool b10] 98)).heap.size=w.heap.size+1 by simp] at HK3
 go_enter Tryz.func28,Tryz.ntmps28
 go_wp2_with fail
 generalize (w.alloc (.cells #[.string s0,.string s1,.int .i64 n2,.string s3,.int .i64 n4,.int .i64 n5,.slice A n c,.int .i64 n7,.int .i64 n8,.bool b9,.bool b10] 98)).alloc (.cells #[.string s0,.string s1,.int .i64 n2,.string s3,.int .i64 n4,.int .i64 n5,.slice B n d,.int .i64 n7,.int .i64 n8,.bool b9,.bool b10] 98)=w1 at *
 go_loopg [77] n (fun gg s77 wr=>∃j:Nat,j+gg=n∧s77=.int .i64 j∧Hid (Below w1.heap.size w1 wr))
 case atStart=>exact⟨0,by omega,rfl,Lib.hid (Below.refl _ _)⟩
 case round=>
  obtain⟨j,hj,rfl,HB⟩:=hrel
  have k2:=(HK2.out.call HB.out).cell 6
  have k3:=(HK3.out.call HB.out).cell 6
  simp at k2 k3
  by_cases hjn:j<n
  ·obtain⟨b,off,rfl,hb,h0,h1⟩:=HR.out.below (below_call HB1.out HB.out) j hjn
   obtain⟨b',off',rfl,hb',h0',h1'⟩:=HS.out.below (below_call HB1.out HB.out) j hjn
   have hltz:(j:Int)<(n:Int):=by omega
   have hj0:(0:Int)≤(j:Int):=by omega
   have e4:IntKind.i64.wrap ((j:Int)+1)=((j+1:Nat):Int):=by simp[IntKind.wrap,IntKind.bits,IntKind.signed];omega
   generalize (f j).1=x at *
   generalize (f j).2=y at *
   go_wp2_with fail
   go_quiet (fail)
   go_wp2_with fail
   go_roundg (n-(j+1))
   case measure=>omega
   case rel=>exact⟨j+1,by omega,by simp,Lib.hid (by have:=HB.out;first|assumption|exact below_drewN' this _|(exact Below.trans HB.out (Below.mono (by assumption) (HB.out.size))))⟩
  ·have hjn':n=j:=by omega
   subst hjn'
   go_wp2_with fail
   go_ret
   exact⟨rfl,below_call HB1.out HB.out⟩
set_option maxRecDepth 100000 in
set_option maxHeartbeats 2000000 in
theorem same66(n0 n1 n2 n3 n4:Int)(s5:ByteArray)(n6 n7 n8 n9:Int)(A B:Option Addr)(n c d:Nat)(f:Nat→Int×Int)(w:World)(hn:n≤1048576)(hR:Nbr.Rds w w.heap.size A n f)(hR':Nbr.Rds w w.heap.size B n f) :
  Calls Tryz.prog 66 #[.agg #[.int .i64 n0,.int .i64 n1,.int .i64 n2,.int .i64 n3,.int .i64 n4,.string s5,.int .i64 n6,.int .i64 n7,.int .i64 n8,.int .i64 n9,.slice A n c],.agg #[.int .i64 n0,.int .i64 n1,.int .i64 n2,.int .i64 n3,.int .i64 n4,.string s5,.int .i64 n6,.int .i64 n7,.int .i64 n8,.int .i64 n9,.slice B n d]] w fun e w'=>e=.returned (.bool true)∧Hid (Below w.heap.size w w'):=by
 have HR:=Lib.hid hR
 have HS:=Lib.hid hR'
 clear hR hR'
 have HB1:=Lib.hid (below_alloc (below_new w (.cells #[.int .i64 n0,.int .i64 n1,.int .i64 n2,.int .i64 n3,.int .i64 n4,.string s5,.int .i64 n6,.int .i64 n7,.int .i64 n8,.int .i64 n9,.slice A n c] 28)) (.cells #[.int .i64 n0,.int .i64 n1,.int .i64 n2,.int .i64 n3,.int .i64 n4,.string s5,.int .i64 n6,.int .i64 n7,.int .i64 n8,.int .i64 n9,.slice B n d] 28))
 have HK2:=Lib.hid ((YtmadfhgiaonnlaaGreatDoor.Blk.new w 28 #[.int .i64 n0,.int .i64 n1,.int .i64 n2,.int .i64 n3,.int .i64 n4,.string s5,.int .i64 n6,.int .i64 n7,.int .i64 n8,.int .i64 n9,.slice A n c]).alloc (.cells #[.int .i64 n0,.int .i64 n1,.int .i64 n2,.int .i64 n3,.int .i64 n4,.string s5,.int .i64 n6,.int .i64 n7,.int .i64 n8,.int .i64 n9,.slice B n d] 28))
 have HK3:=Lib.hid (YtmadfhgiaonnlaaGreatDoor.Blk.new (w.alloc (.cells #[.int .i64 n0,.int .i64 n1,.int .i64 n2,.int .i64 n3,.int .i64 n4,.string s5,.int .i64 n6,.int .i64 n7,.int .i64 n8,.int .i64 n9,.slice A n c] 28)) 28 #[.int .i64 n0,.int .i64 n1,.int .i64 n2,.int .i64 n3,.int .i64 n4,.string s5,.int .i64 n6,.int .i64 n7,.int .i64 n8,.int .i64 n9,.slice B n d])
 rw[show(w.alloc (.cells #[.int .i64 n0,.int .i64 n1,.int .i64 n2,.int .i64 n3,.int .i64 n4,.string s5,.int .i64 n6,.int .i64 n7,.int .i64 n8,.int .i64 n9,.slice A n c] 28)).heap.size=w.heap.size+1 by simp] at HK3
 go_enter Tryz.func66,Tryz.ntmps66
 go_wp2_with fail
 generalize (w.alloc (.cells #[.int .i64 n0,.int .i64 n1,.int .i64 n2,.int .i64 n3,.int .i64 n4,.string s5,.int .i64 n6,.int .i64 n7,.int .i64 n8,.int .i64 n9,.slice A n c] 28)).alloc (.cells #[.int .i64 n0,.int .i64 n1,.int .i64 n2,.int .i64 n3,.int .i64 n4,.string s5,.int .i64 n6,.int .i64 n7,.int .i64 n8,.int .i64 n9,.slice B n d] 28)=w1 at *
 go_loopg [5] n (fun gg s5 wr=>∃j:Nat,j+gg=n∧s5=.int .i64 j∧Hid (Below w1.heap.size w1 wr))
 case atStart=>exact⟨0,by omega,rfl,Lib.hid (Below.refl _ _)⟩
 case round=>
  obtain⟨j,hj,rfl,HB⟩:=hrel
  have k2:=(HK2.out.call HB.out).cell 10
  have k3:=(HK3.out.call HB.out).cell 10
  simp at k2 k3
  by_cases hjn:j<n
  ·obtain⟨b,off,rfl,hb,h0,h1⟩:=HR.out.below (below_call HB1.out HB.out) j hjn
   obtain⟨b',off',rfl,hb',h0',h1'⟩:=HS.out.below (below_call HB1.out HB.out) j hjn
   have hltz:(j:Int)<(n:Int):=by omega
   have hj0:(0:Int)≤(j:Int):=by omega
   have e4:IntKind.i64.wrap ((j:Int)+1)=((j+1:Nat):Int):=by simp[IntKind.wrap,IntKind.bits,IntKind.signed];omega
   generalize (f j).1=x at *
   generalize (f j).2=y at *
   go_wp2_with fail
   go_quiet (fail)
   go_wp2_with fail
   go_roundg (n-(j+1))
   case measure=>omega
   case rel=>exact⟨j+1,by omega,by simp,Lib.hid (by have:=HB.out;first|assumption|exact below_drewN' this _|(exact Below.trans HB.out (Below.mono (by assumption) (HB.out.size))))⟩
  ·have hjn':n=j:=by omega
   subst hjn'
   go_wp2_with fail
   go_ret
   exact⟨rfl,below_call HB1.out HB.out⟩
set_option maxRecDepth 100000 in
set_option maxHeartbeats 2000000 in
theorem same25(n0 n1 n2 n3 n4 n5 n6 n7:Int)(s8 s9 s10:ByteArray)(b11:Bool)(A1 B1:Option Addr)(m1 c1 d1:Nat)(p0 p1 p2 p3 p4:Int)(p5:ByteArray)(p6 p7 p8 p9:Int)(A2 B2:Option Addr)(m2 c2 d2:Nat)(A3 B3:Option Addr)(m3 c3 d3:Nat)(f1 f2:Nat→Int×Int)(f3:Nat→List Value)(w:World)
  (z1:m1≤1048576) (z2:m2≤1048576) (z3:m3≤1048576) (r1:Nbr.Rds w w.heap.size A1 m1 f1) (r1':Nbr.Rds w w.heap.size B1 m1 f1) (r2:Nbr.Rds w w.heap.size A2 m2 f2) (r2':Nbr.Rds w w.heap.size B2 m2 f2) (t3:∀j,j<m3→TkC (f3 j)) (r3:RowsF w A3 m3 6 f3) (r3':RowsF w B3 m3 6 f3) :
  Calls Tryz.prog 25 #[.agg #[.int .i64 n0,.int .i64 n1,.int .i64 n2,.int .i64 n3,.int .i64 n4,.int .i64 n5,.int .i64 n6,.int .i64 n7,.string s8,.string s9,.string s10,.bool b11,.slice A1 m1 c1,.int .i64 p0,.int .i64 p1,.int .i64 p2,.int .i64 p3,.int .i64 p4,.string p5,.int .i64 p6,.int .i64 p7,.int .i64 p8,.int .i64 p9,.slice A2 m2 c2,.slice A3 m3 c3],.agg #[.int .i64 n0,.int .i64 n1,.int .i64 n2,.int .i64 n3,.int .i64 n4,.int .i64 n5,.int .i64 n6,.int .i64 n7,.string s8,.string s9,.string s10,.bool b11,.slice B1 m1 d1,.int .i64 p0,.int .i64 p1,.int .i64 p2,.int .i64 p3,.int .i64 p4,.string p5,.int .i64 p6,.int .i64 p7,.int .i64 p8,.int .i64 p9,.slice B2 m2 d2,.slice B3 m3 d3]] w fun e w'=>e=.returned (.bool true)∧Hid (Below w.heap.size w w'):=by
 have HB1:=Lib.hid (below_alloc (below_new w (.cells #[.int .i64 n0,.int .i64 n1,.int .i64 n2,.int .i64 n3,.int .i64 n4,.int .i64 n5,.int .i64 n6,.int .i64 n7,.string s8,.string s9,.string s10,.bool b11,.slice A1 m1 c1,.int .i64 p0,.int .i64 p1,.int .i64 p2,.int .i64 p3,.int .i64 p4,.string p5,.int .i64 p6,.int .i64 p7,.int .i64 p8,.int .i64 p9,.slice A2 m2 c2,.slice A3 m3 c3] 31)) (.cells #[.int .i64 n0,.int .i64 n1,.int .i64 n2,.int .i64 n3,.int .i64 n4,.int .i64 n5,.int .i64 n6,.int .i64 n7,.string s8,.string s9,.string s10,.bool b11,.slice B1 m1 d1,.int .i64 p0,.int .i64 p1,.int .i64 p2,.int .i64 p3,.int .i64 p4,.string p5,.int .i64 p6,.int .i64 p7,.int .i64 p8,.int .i64 p9,.slice B2 m2 d2,.slice B3 m3 d3] 31))
 have HK2:=Lib.hid ((YtmadfhgiaonnlaaGreatDoor.Blk.new w 31 #[.int .i64 n0,.int .i64 n1,.int .i64 n2,.int .i64 n3,.int .i64 n4,.int .i64 n5,.int .i64 n6,.int .i64 n7,.string s8,.string s9,.string s10,.bool b11,.slice A1 m1 c1,.int .i64 p0,.int .i64 p1,.int .i64 p2,.int .i64 p3,.int .i64 p4,.string p5,.int .i64 p6,.int .i64 p7,.int .i64 p8,.int .i64 p9,.slice A2 m2 c2,.slice A3 m3 c3]).alloc (.cells #[.int .i64 n0,.int .i64 n1,.int .i64 n2,.int .i64 n3,.int .i64 n4,.int .i64 n5,.int .i64 n6,.int .i64 n7,.string s8,.string s9,.string s10,.bool b11,.slice B1 m1 d1,.int .i64 p0,.int .i64 p1,.int .i64 p2,.int .i64 p3,.int .i64 p4,.string p5,.int .i64 p6,.int .i64 p7,.int .i64 p8,.int .i64 p9,.slice B2 m2 d2,.slice B3 m3 d3] 31))
 have HK3:=Lib.hid (YtmadfhgiaonnlaaGreatDoor.Blk.new (w.alloc (.cells #[.int .i64 n0,.int .i64 n1,.int .i64 n2,.int .i64 n3,.int .i64 n4,.int .i64 n5,.int .i64 n6,.int .i64 n7,.string s8,.string s9,.string s10,.bool b11,.slice A1 m1 c1,.int .i64 p0,.int .i64 p1,.int .i64 p2,.int .i64 p3,.int .i64 p4,.string p5,.int .i64 p6,.int .i64 p7,.int .i64 p8,.int .i64 p9,.slice A2 m2 c2,.slice A3 m3 c3] 31)) 31 #[.int .i64 n0,.int .i64 n1,.int .i64 n2,.int .i64 n3,.int .i64 n4,.int .i64 n5,.int .i64 n6,.int .i64 n7,.string s8,.string s9,.string s10,.bool b11,.slice B1 m1 d1,.int .i64 p0,.int .i64 p1,.int .i64 p2,.int .i64 p3,.int .i64 p4,.string p5,.int .i64 p6,.int .i64 p7,.int .i64 p8,.int .i64 p9,.slice B2 m2 d2,.slice B3 m3 d3])
 rw[show(w.alloc (.cells #[.int .i64 n0,.int .i64 n1,.int .i64 n2,.int .i64 n3,.int .i64 n4,.int .i64 n5,.int .i64 n6,.int .i64 n7,.string s8,.string s9,.string s10,.bool b11,.slice A1 m1 c1,.int .i64 p0,.int .i64 p1,.int .i64 p2,.int .i64 p3,.int .i64 p4,.string p5,.int .i64 p6,.int .i64 p7,.int .i64 p8,.int .i64 p9,.slice A2 m2 c2,.slice A3 m3 c3] 31)).heap.size=w.heap.size+1 by simp] at HK3
 have H1:Hid (∀W,Below w.heap.size w W→Calls Tryz.prog 65 #[.slice A1 m1 c1,.slice B1 m1 d1] W fun e w'=>e=.returned (.bool true)∧Hid (Below W.heap.size W w')):=fun W hb=>same65 A1 B1 m1 c1 d1 f1 W z1 (zl r1 hb) (zl r1' hb)
 have H2:Hid (∀W,Below w.heap.size w W→Calls Tryz.prog 66 #[.agg #[.int .i64 p0,.int .i64 p1,.int .i64 p2,.int .i64 p3,.int .i64 p4,.string p5,.int .i64 p6,.int .i64 p7,.int .i64 p8,.int .i64 p9,.slice A2 m2 c2],.agg #[.int .i64 p0,.int .i64 p1,.int .i64 p2,.int .i64 p3,.int .i64 p4,.string p5,.int .i64 p6,.int .i64 p7,.int .i64 p8,.int .i64 p9,.slice B2 m2 d2]] W fun e w'=>e=.returned (.bool true)∧Hid (Below W.heap.size W w')):=fun W hb=>same66 _ _ _ _ _ _ _ _ _ _ A2 B2 m2 c2 d2 f2 W z2 (zl r2 hb) (zl r2' hb)
 have H3:Hid (∀W,Below w.heap.size w W→Calls Tryz.prog 67 #[.slice A3 m3 c3,.slice B3 m3 d3] W fun e w'=>e=.returned (.bool true)∧Hid (Below W.heap.size W w')):=fun W hb=>same67 A3 B3 m3 c3 d3 f3 W z3 t3 (r3.grow hb) (r3'.grow hb)
 clear r1 r2 r3 r1' r2' r3'
 go_enter Tryz.func25,Tryz.ntmps25
 go_wp2_with fail
 refine(H1.out _ HB1.out).mono ?_
 rintro e w5 ⟨rfl,hb⟩
 have HB5:=Lib.hid (below_call HB1.out hb.out)
 have HK25:=Lib.hid (HK2.out.call hb.out)
 have HK35:=Lib.hid (HK3.out.call hb.out)
 have k2:=HK25.out.cell
 have k3:=HK35.out.cell
 clear HB1 HK2 HK3 hb
 go_wp2_with fail
 clear k2 k3
 refine(H2.out _ HB5.out).mono ?_
 rintro e w6 ⟨rfl,hb⟩
 have HB6:=Lib.hid (below_call HB5.out hb.out)
 have k2:=(HK25.out.call hb.out).cell
 have k3:=(HK35.out.call hb.out).cell
 clear HB5 HK25 HK35 hb
 go_wp2_with fail
 clear k2 k3
 refine(H3.out _ HB6.out).mono ?_
 rintro e w7 ⟨rfl,hb⟩
 have HB7:=Lib.hid (below_call HB6.out hb.out)
 go_wp2_with fail
 go_ret
 exact⟨rfl,HB7⟩
def MgE(w:World)(r r':List Value):Prop:=∃(n0 n1 n2 n3 n4 n5 n6 n7:Int) (s8 s9 s10:ByteArray) (b11:Bool) (A1 B1:Option Addr) (m1 c1 d1:Nat) (p0 p1 p2 p3 p4:Int) (p5:ByteArray) (p6 p7 p8 p9:Int) (A2 B2:Option Addr) (m2 c2 d2:Nat) (A3 B3:Option Addr) (m3 c3 d3:Nat) (f1 f2:Nat→Int×Int) (f3:Nat→List Value),r=[.int .i64 n0,.int .i64 n1,.int .i64 n2,.int .i64 n3,.int .i64 n4,.int .i64 n5,.int .i64 n6,.int .i64 n7,.string s8,.string s9,.string s10,.bool b11,.slice A1 m1 c1,.int .i64 p0,.int .i64 p1,.int .i64 p2,.int .i64 p3,.int .i64 p4,.string p5,.int .i64 p6,.int .i64 p7,.int .i64 p8,.int .i64 p9,.slice A2 m2 c2,.slice A3 m3 c3]∧r'=[.int .i64 n0,.int .i64 n1,.int .i64 n2,.int .i64 n3,.int .i64 n4,.int .i64 n5,.int .i64 n6,.int .i64 n7,.string s8,.string s9,.string s10,.bool b11,.slice B1 m1 d1,.int .i64 p0,.int .i64 p1,.int .i64 p2,.int .i64 p3,.int .i64 p4,.string p5,.int .i64 p6,.int .i64 p7,.int .i64 p8,.int .i64 p9,.slice B2 m2 d2,.slice B3 m3 d3]∧m1≤1048576∧m2≤1048576∧m3≤1048576∧Nbr.Rds w w.heap.size A1 m1 f1∧Nbr.Rds w w.heap.size B1 m1 f1∧Nbr.Rds w w.heap.size A2 m2 f2∧Nbr.Rds w w.heap.size B2 m2 f2∧(∀j,j<m3→TkC (f3 j))∧RowsF w A3 m3 6 f3∧RowsF w B3 m3 6 f3
theorem MgE.same{r r':List Value}(h:MgE w r r')(W:World)(hb:Below w.heap.size w W):Calls Tryz.prog 25 #[.agg r.toArray,.agg r'.toArray] W fun e w'=>e=.returned (.bool true)∧Hid (Below W.heap.size W w'):=by
 obtain⟨n0,n1,n2,n3,n4,n5,n6,n7,s8,s9,s10,b11,A1,B1,m1,c1,d1,p0,p1,p2,p3,p4,p5,p6,p7,p8,p9,A2,B2,m2,c2,d2,A3,B3,m3,c3,d3,f1,f2,f3,rfl,rfl,z1,z2,z3,r1,r1',r2,r2',t3,r3,r3'⟩:=h
 exact same25 n0 n1 n2 n3 n4 n5 n6 n7 s8 s9 s10 b11 A1 B1 m1 c1 d1 p0 p1 p2 p3 p4 p5 p6 p7 p8 p9 A2 B2 m2 c2 d2 A3 B3 m3 c3 d3 f1 f2 f3 W z1 z2 z3 (zl r1 hb) (zl r1' hb) (zl r2 hb) (zl r2' hb) t3 (r3.grow hb) (r3'.grow hb)
theorem MgE.grow{r r':List Value}(h:MgE w r r'){W:World}(hb:Below w.heap.size w W):MgE W r r':=by
 obtain⟨n0,n1,n2,n3,n4,n5,n6,n7,s8,s9,s10,b11,A1,B1,m1,c1,d1,p0,p1,p2,p3,p4,p5,p6,p7,p8,p9,A2,B2,m2,c2,d2,A3,B3,m3,c3,d3,f1,f2,f3,rfl,rfl,z1,z2,z3,r1,r1',r2,r2',t3,r3,r3'⟩:=h
 exact⟨n0,n1,n2,n3,n4,n5,n6,n7,s8,s9,s10,b11,A1,B1,m1,c1,d1,p0,p1,p2,p3,p4,p5,p6,p7,p8,p9,A2,B2,m2,c2,d2,A3,B3,m3,c3,d3,f1,f2,f3,rfl,rfl,z1,z2,z3,zl r1 hb,zl r1' hb,zl r2 hb,zl r2' hb,t3,r3.grow hb,r3'.grow hb⟩
end
open Go.RowKit
section
variable{W0:World}{T:Nat→Prop}{w:World}
theorem loadRun{P:Program}{o:Oper}{a:Act}{W:World}{ty:TypeId}{x:Operand}(ho:o.op=.load ty x){b off:Nat}(hx:a.eval x=.pointer (some ⟨b,off,none⟩)){cs:List Value}{d:TypeDesc}(hc:W.rangeAt b off cs)(hu:P.underlying ty=some d)(hd:d.isRow=true)
  (hi:(P.info? ty).map (·.size)=some cs.length) {R:Value→World→Prop} (hR:R (.agg cs.toArray) W):Reg4.StepOk P R ((execOp a.eval o).run P W):=by
 unfold execOp
 simp only[ho,hx,Sem.run_bind,run_loadAt_mid W b off ty cs d hc hu hd hi,Result.andThen_ok]
 exact hR
theorem MgE.len{r r':List Value}(h:MgE w r r'):r.length=25∧r'.length=25:=by
 obtain⟨n0,n1,n2,n3,n4,n5,n6,n7,s8,s9,s10,b11,A1,B1,m1,c1,d1,p0,p1,p2,p3,p4,p5,p6,p7,p8,p9,A2,B2,m2,c2,d2,A3,B3,m3,c3,d3,f1,f2,f3,rfl,rfl,-⟩:=h
 exact⟨rfl,rfl⟩
set_option maxRecDepth 100000 in
set_option maxHeartbeats 2000000 in
theorem same68(A B:Option Addr)(n c d:Nat)(w:World)(hn:n≤1048576)(hR:Rows2 w A B n 25 (MgE w)) :
  Calls Tryz.prog 68 #[.slice A n c,.slice B n d] w fun e w'=>e=.returned (.bool true)∧Hid (Below w.heap.size w w'):=by
 have HR:=Lib.hid hR
 clear hR
 go_enter Tryz.func68,Tryz.ntmps68
 go_wp2_with fail
 go_loopg [13] n (fun gg s13 wr=>∃j:Nat,j+gg=n∧s13=.int .i64 j∧Hid (Below w.heap.size w wr))
 case atStart=>exact⟨0,by omega,rfl,Lib.hid (Below.refl _ _)⟩
 case round=>
  obtain⟨j,hj,rfl,HB⟩:=hrel
  by_cases hjn:j<n
  ·obtain⟨b,off,b',off',r,r',rfl,rfl,hr,hcl,hcl'⟩:=HR.out j hjn
   have HM:=Lib.hid (fun W hb=>hr.same W hb)
   have HL:=Lib.hid hr.len
   have HCL:Hid (∀W,Below w.heap.size w W→W.rangeAt b (off+j*25) r):=fun W hb o u hu=>hcl W hb o u hu
   have HCL':Hid (∀W,Below w.heap.size w W→W.rangeAt b' (off'+j*25) r'):=fun W hb o u hu=>hcl' W hb o u hu
   clear hcl hcl' hr
   have hltz:(j:Int)<(n:Int):=by omega
   have hj0:(0:Int)≤(j:Int):=by omega
   have e4:IntKind.i64.wrap ((j:Int)+1)=((j+1:Nat):Int):=by simp[IntKind.wrap,IntKind.bits,IntKind.signed];omega
   go_wp2_with fail
   refine RegM.region 10 (fun kz v W=>match kz with|0=>v=.slice (some ⟨b,off,none⟩) n c|1=>v=.int .i64 j|2=>v=.pointer (some ⟨b,off+j*25,none⟩)|3=>v=.agg r.toArray|4=>v=.slice (some ⟨b',off',none⟩) n d|5=>v=.int .i64 j|6=>v=.pointer (some ⟨b',off'+j*25,none⟩)|7=>v=.agg r'.toArray|8=>v=.bool true|9=>v=.bool false|_=>True) (by kernel_rfl) (by kernel_rfl) (Reg4.in_of (n:=27) (by kernel_rfl) rfl) (fun _ _ _ _ _ h=>h) ?_ ?_
   ·intro idx o hj ho a' w' hG hop
    have hj':idx=0∨idx=1∨idx=2∨idx=3∨idx=4∨idx=5∨idx=6∨idx=7∨idx=8∨idx=9:=by omega
    clear hj
    rcases hj' with rfl|rfl|rfl|rfl|rfl|rfl|rfl|rfl|rfl|rfl
    ·obtain rfl:=oi ho
     have h0:a'.tmps[0]?.getD undef=_:=gdt (hop 0 (by simp[Op.operands,Call.operands]))
     refine Reg4.StepOk.mono (R:=fun v W=>(v=.slice (some ⟨b,off,none⟩) n c)∧W=w') ?_ (fun v W h=>?_)
     ·go_simp
      all_goals(try exact⟨rfl,rfl⟩)
     ·obtain⟨h,rfl⟩:=h
      exact⟨Below.refl _ _,h⟩
    ·obtain rfl:=oi ho
     have h5:a'.tmps[5]?.getD undef=_:=gdt (hop 5 (by simp[Op.operands,Call.operands]))
     refine Reg4.StepOk.mono (R:=fun v W=>(v=.int .i64 j)∧W=w') ?_ (fun v W h=>?_)
     ·go_simp
      all_goals(try exact⟨rfl,rfl⟩)
     ·obtain⟨h,rfl⟩:=h
      exact⟨Below.refl _ _,h⟩
    ·obtain rfl:=oi ho
     have h16:a'.tmps[16]?.getD undef=.slice (some ⟨b,off,none⟩) n c:=gdt (hop 16 (by simp[Op.operands,Call.operands]))
     have h17:a'.tmps[17]?.getD undef=.int .i64 j:=gdt (hop 17 (by simp[Op.operands,Call.operands]))
     refine Reg4.StepOk.mono (R:=fun v W=>(v=.pointer (some ⟨b,off+j*25,none⟩))∧W=w') ?_ (fun v W h=>?_)
     ·go_simp
      all_goals(try exact⟨rfl,rfl⟩)
     ·obtain⟨h,rfl⟩:=h
      exact⟨Below.refl _ _,h⟩
    ·obtain rfl:=oi ho
     have h18:a'.tmps[18]?.getD undef=.pointer (some ⟨b,off+j*25,none⟩):=gdt (hop 18 (by simp[Op.operands,Call.operands]))
     exact loadRun (x:=.tmp 18) (a:=a') (d:=_) rfl ((Array.getD_eq_getD_getElem? ..).trans h18) (HCL.out _ (below_call HB.out hG)) Tryz.underlying31 rfl (by rw[HL.out.1];kernel_rfl) ⟨Below.refl _ _,rfl⟩
    ·obtain rfl:=oi ho
     have h1:a'.tmps[1]?.getD undef=_:=gdt (hop 1 (by simp[Op.operands,Call.operands]))
     refine Reg4.StepOk.mono (R:=fun v W=>(v=.slice (some ⟨b',off',none⟩) n d)∧W=w') ?_ (fun v W h=>?_)
     ·go_simp
      all_goals(try exact⟨rfl,rfl⟩)
     ·obtain⟨h,rfl⟩:=h
      exact⟨Below.refl _ _,h⟩
    ·obtain rfl:=oi ho
     have h5:a'.tmps[5]?.getD undef=_:=gdt (hop 5 (by simp[Op.operands,Call.operands]))
     refine Reg4.StepOk.mono (R:=fun v W=>(v=.int .i64 j)∧W=w') ?_ (fun v W h=>?_)
     ·go_simp
      all_goals(try exact⟨rfl,rfl⟩)
     ·obtain⟨h,rfl⟩:=h
      exact⟨Below.refl _ _,h⟩
    ·obtain rfl:=oi ho
     have h20:a'.tmps[20]?.getD undef=.slice (some ⟨b',off',none⟩) n d:=gdt (hop 20 (by simp[Op.operands,Call.operands]))
     have h21:a'.tmps[21]?.getD undef=.int .i64 j:=gdt (hop 21 (by simp[Op.operands,Call.operands]))
     refine Reg4.StepOk.mono (R:=fun v W=>(v=.pointer (some ⟨b',off'+j*25,none⟩))∧W=w') ?_ (fun v W h=>?_)
     ·go_simp
      all_goals(try exact⟨rfl,rfl⟩)
     ·obtain⟨h,rfl⟩:=h
      exact⟨Below.refl _ _,h⟩
    ·obtain rfl:=oi ho
     have h22:a'.tmps[22]?.getD undef=.pointer (some ⟨b',off'+j*25,none⟩):=gdt (hop 22 (by simp[Op.operands,Call.operands]))
     exact loadRun (x:=.tmp 22) (a:=a') (d:=_) rfl ((Array.getD_eq_getD_getElem? ..).trans h22) (HCL'.out _ (below_call HB.out hG)) Tryz.underlying31 rfl (by rw[HL.out.2];kernel_rfl) ⟨Below.refl _ _,rfl⟩
    ·obtain rfl:=oi ho
     have h19:a'.tmps[19]?.getD undef=.agg r.toArray:=gdt (hop 19 (by simp[Op.operands,Call.operands]))
     have h23:a'.tmps[23]?.getD undef=.agg r'.toArray:=gdt (hop 23 (by simp[Op.operands,Call.operands]))
     refine Reg4.StepOk.mono (R:=fun v W=>(v=.bool true)∧Hid (Below w'.heap.size w' W)) ?_ (fun v W h=>⟨h.2.out,h.1⟩)
     ·go_simp
      refine(show Calls _ _ _ _ _ from HM.out _ (below_call HB.out hG)).mono ?_
      rintro e w5 ⟨rfl,hb⟩
      exact⟨_,rfl,rfl,hb⟩
    ·obtain rfl:=oi ho
     have h24:a'.tmps[24]?.getD undef=.bool true:=gdt (hop 24 (by simp[Op.operands,Call.operands]))
     refine Reg4.StepOk.mono (R:=fun v W=>(v=.bool false)∧W=w') ?_ (fun v W h=>?_)
     ·go_simp
      all_goals(try exact⟨rfl,rfl⟩)
     ·obtain⟨h,rfl⟩:=h
      exact⟨Below.refl _ _,h⟩
   ·intro vals w' hG hv
    have hv0:vals 0=.slice (some ⟨b,off,none⟩) n c:=hv 0 (by omega)
    have hv1:vals 1=.int .i64 j:=hv 1 (by omega)
    have hv2:vals 2=.pointer (some ⟨b,off+j*25,none⟩):=hv 2 (by omega)
    have hv3:vals 3=.agg r.toArray:=hv 3 (by omega)
    have hv4:vals 4=.slice (some ⟨b',off',none⟩) n d:=hv 4 (by omega)
    have hv5:vals 5=.int .i64 j:=hv 5 (by omega)
    have hv6:vals 6=.pointer (some ⟨b',off'+j*25,none⟩):=hv 6 (by omega)
    have hv7:vals 7=.agg r'.toArray:=hv 7 (by omega)
    have hv8:vals 8=.bool true:=hv 8 (by omega)
    have hv9:vals 9=.bool false:=hv 9 (by omega)
    simp only[Reg4.puts,Reg4.dstOf,List.range,List.range.loop,if_true,List.drop_succ_cons,List.drop_zero,hv0,hv1,hv2,hv3,hv4,hv5,hv6,hv7,hv8,hv9]
    clear hv hv0 hv1 hv2 hv3 hv4 hv5 hv6 hv7 hv8 hv9
    simp[Act.put]
    have HB3:=Lib.hid (below_call HB.out hG)
    go_wp2_with fail
    go_roundg (n-(j+1))
    case measure=>omega
    case rel=>exact⟨j+1,by omega,by simp,HB3⟩
  ·have hjn':n=j:=by omega
   subst hjn'
   go_wp2_with fail
   go_ret
   exact⟨rfl,HB⟩
def EdE(w:World)(r r':List Value):Prop:=∃(n0 n1 n2:Int) (A3 B3:Option Addr) (m3 c3 d3:Nat) (A4 B4:Option Addr) (m4 c4 d4:Nat) (n5 n6:Int) (A7 B7:Option Addr) (m7 c7 d7:Nat),
 r=[.int .i64 n0,.int .i64 n1,.int .i64 n2,.slice A3 m3 c3,.slice A4 m4 c4,.int .i64 n5,.int .i64 n6,.slice A7 m7 c7]∧r'=[.int .i64 n0,.int .i64 n1,.int .i64 n2,.slice B3 m3 d3,.slice B4 m4 d4,.int .i64 n5,.int .i64 n6,.slice B7 m7 d7] ∧
 m3≤1048576∧m4≤1048576∧m7≤1048576∧Rows2 w A3 B3 m3 25 (MgE w)∧Rows2 w A4 B4 m4 25 (MgE w)∧Rows2 w A7 B7 m7 25 (MgE w)
theorem rowsM_grow{W:World}{A B:Option Addr}{n:Nat}(h:Rows2 w A B n 25 (MgE w))(hb:Below w.heap.size w W):Rows2 W A B n 25 (MgE W):=h.grow hb (fun r r' hr=>hr.grow hb)
theorem EdE.grow{r r':List Value}(h:EdE w r r'){W:World}(hb:Below w.heap.size w W):EdE W r r':=by
 obtain⟨n0,n1,n2,A3,B3,m3,c3,d3,A4,B4,m4,c4,d4,n5,n6,A7,B7,m7,c7,d7,rfl,rfl,z3,z4,z7,r3,r4,r7⟩:=h
 exact⟨n0,n1,n2,A3,B3,m3,c3,d3,A4,B4,m4,c4,d4,n5,n6,A7,B7,m7,c7,d7,rfl,rfl,z3,z4,z7,rowsM_grow r3 hb,rowsM_grow r4 hb,rowsM_grow r7 hb⟩
set_option maxRecDepth 100000 in
set_option maxHeartbeats 2000000 in
theorem same26{r r':List Value}(w:World)(h:EdE w r r'):Calls Tryz.prog 26 #[.agg r.toArray,.agg r'.toArray] w fun e w'=>e=.returned (.bool true)∧Hid (Below w.heap.size w w'):=by
 obtain⟨n0,n1,n2,A3,B3,m3,c3,d3,A4,B4,m4,c4,d4,n5,n6,A7,B7,m7,c7,d7,rfl,rfl,z3,z4,z7,r3,r4,r7⟩:=h
 have HB1:=Lib.hid (below_alloc (below_new w (.cells #[.int .i64 n0,.int .i64 n1,.int .i64 n2,.slice A3 m3 c3,.slice A4 m4 c4,.int .i64 n5,.int .i64 n6,.slice A7 m7 c7] 82)) (.cells #[.int .i64 n0,.int .i64 n1,.int .i64 n2,.slice B3 m3 d3,.slice B4 m4 d4,.int .i64 n5,.int .i64 n6,.slice B7 m7 d7] 82))
 have HK2:=Lib.hid ((YtmadfhgiaonnlaaGreatDoor.Blk.new w 82 #[.int .i64 n0,.int .i64 n1,.int .i64 n2,.slice A3 m3 c3,.slice A4 m4 c4,.int .i64 n5,.int .i64 n6,.slice A7 m7 c7]).alloc (.cells #[.int .i64 n0,.int .i64 n1,.int .i64 n2,.slice B3 m3 d3,.slice B4 m4 d4,.int .i64 n5,.int .i64 n6,.slice B7 m7 d7] 82))
 have HK3:=Lib.hid (YtmadfhgiaonnlaaGreatDoor.Blk.new (w.alloc (.cells #[.int .i64 n0,.int .i64 n1,.int .i64 n2,.slice A3 m3 c3,.slice A4 m4 c4,.int .i64 n5,.int .i64 n6,.slice A7 m7 c7] 82)) 82 #[.int .i64 n0,.int .i64 n1,.int .i64 n2,.slice B3 m3 d3,.slice B4 m4 d4,.int .i64 n5,.int .i64 n6,.slice B7 m7 d7])
 rw[show(w.alloc (.cells #[.int .i64 n0,.int .i64 n1,.int .i64 n2,.slice A3 m3 c3,.slice A4 m4 c4,.int .i64 n5,.int .i64 n6,.slice A7 m7 c7] 82)).heap.size=w.heap.size+1 by simp] at HK3
 have H1:Hid (∀W,Below w.heap.size w W→Calls Tryz.prog 68 #[.slice A3 m3 c3,.slice B3 m3 d3] W fun e w'=>e=.returned (.bool true)∧Hid (Below W.heap.size W w')):=fun W hb=>same68 A3 B3 m3 c3 d3 W z3 (rowsM_grow r3 hb)
 have H2:Hid (∀W,Below w.heap.size w W→Calls Tryz.prog 68 #[.slice A4 m4 c4,.slice B4 m4 d4] W fun e w'=>e=.returned (.bool true)∧Hid (Below W.heap.size W w')):=fun W hb=>same68 A4 B4 m4 c4 d4 W z4 (rowsM_grow r4 hb)
 have H3:Hid (∀W,Below w.heap.size w W→Calls Tryz.prog 68 #[.slice A7 m7 c7,.slice B7 m7 d7] W fun e w'=>e=.returned (.bool true)∧Hid (Below W.heap.size W w')):=fun W hb=>same68 A7 B7 m7 c7 d7 W z7 (rowsM_grow r7 hb)
 clear r3 r4 r7
 go_enter Tryz.func26,Tryz.ntmps26
 go_wp2_with fail
 refine(H1.out _ HB1.out).mono ?_
 rintro e w5 ⟨rfl,hb⟩
 have HB5:=Lib.hid (below_call HB1.out hb.out)
 have HK25:=Lib.hid (HK2.out.call hb.out)
 have HK35:=Lib.hid (HK3.out.call hb.out)
 have k2:=HK25.out.cell
 have k3:=HK35.out.cell
 clear HB1 HK2 HK3 hb
 go_wp2_with fail
 clear k2 k3
 refine(H2.out _ HB5.out).mono ?_
 rintro e w6 ⟨rfl,hb⟩
 have HB6:=Lib.hid (below_call HB5.out hb.out)
 have k2:=(HK25.out.call hb.out).cell
 have k3:=(HK35.out.call hb.out).cell
 clear HB5 HK25 HK35 hb
 go_wp2_with fail
 clear k2 k3
 refine(H3.out _ HB6.out).mono ?_
 rintro e w7 ⟨rfl,hb⟩
 have HB7:=Lib.hid (below_call HB6.out hb.out)
 go_wp2_with fail
 go_ret
 exact⟨rfl,HB7⟩
end
end Sy
end Go.Proofs.YtmadfhgiaonnlaaGreatDoor
