import Derived.Test.YtmadfhgiaonnlaaGreatDoorPk33
set_option linter.unusedVariables false
set_option linter.unusedSimpArgs false
namespace Go.Proofs.YtmadfhgiaonnlaaGreatDoor
namespace Sy
open Go.RowKit
section
variable{W0:World}{T:Nat→Prop}{w:World}
def IntC(r:List Value):Prop:=∃n:Int,r=[.int .i64 n]
def KnE(w:World)(r r':List Value):Prop:=∃(s0:ByteArray) (b1:Bool) (n2:Int) (A3 B3:Option Addr) (m3 c3 d3:Nat) (n4 q0 q1 q2:Int) (A8 B8:Option Addr) (m8 c8 d8:Nat) (A9 B9:Option Addr) (m9 c9 d9:Nat) (q5 q6:Int) (A12 B12:Option Addr) (m12 c12 d12:Nat) (f3:Nat→List Value),r=[.string s0,.bool b1,.int .i64 n2,.slice A3 m3 c3,.int .i64 n4,.int .i64 q0,.int .i64 q1,.int .i64 q2,.slice A8 m8 c8,.slice A9 m9 c9,.int .i64 q5,.int .i64 q6,.slice A12 m12 c12]∧r'=[.string s0,.bool b1,.int .i64 n2,.slice B3 m3 d3,.int .i64 n4,.int .i64 q0,.int .i64 q1,.int .i64 q2,.slice B8 m8 d8,.slice B9 m9 d9,.int .i64 q5,.int .i64 q6,.slice B12 m12 d12]∧m3≤1048576∧(∀j,j<m3→IntC (f3 j))∧RowsF w A3 m3 1 f3∧RowsF w B3 m3 1 f3∧EdE w [.int .i64 q0,.int .i64 q1,.int .i64 q2,.slice A8 m8 c8,.slice A9 m9 c9,.int .i64 q5,.int .i64 q6,.slice A12 m12 c12] [.int .i64 q0,.int .i64 q1,.int .i64 q2,.slice B8 m8 d8,.slice B9 m9 d9,.int .i64 q5,.int .i64 q6,.slice B12 m12 d12]
def EvE(w:World)(r r':List Value):Prop:=∃(s0 s1:ByteArray) (n2 n3 n4 n5:Int) (s6:ByteArray) (b7:Bool) (n8:Int) (A9 B9:Option Addr) (m9 c9 d9:Nat) (f:Nat→Int×Int),r=[.string s0,.string s1,.int .i64 n2,.int .i64 n3,.int .i64 n4,.int .i64 n5,.string s6,.bool b7,.int .i64 n8,.slice A9 m9 c9]∧r'=[.string s0,.string s1,.int .i64 n2,.int .i64 n3,.int .i64 n4,.int .i64 n5,.string s6,.bool b7,.int .i64 n8,.slice B9 m9 d9]∧m9≤1048576∧Nbr.Rds w w.heap.size A9 m9 f∧Nbr.Rds w w.heap.size B9 m9 f
theorem EvE.same{r r':List Value}(h:EvE w r r')(W:World)(hb:Below w.heap.size w W):Calls Tryz.prog 27 #[.agg r.toArray,.agg r'.toArray] W fun e w'=>e=.returned (.bool true)∧Hid (Below W.heap.size W w'):=by
 obtain⟨s0,s1,n2,n3,n4,n5,s6,b7,n8,A9,B9,m9,c9,d9,f,rfl,rfl,z,r,r'⟩:=h
 exact same27 s0 s1 n2 n3 n4 n5 s6 b7 n8 A9 B9 m9 c9 d9 f W z (zl r hb) (zl r' hb)
def RcE(w:World)(r r':List Value):Prop:=∃(s0 s1:ByteArray) (n2:Int) (s3:ByteArray) (n4 n5:Int) (A6 B6:Option Addr) (m6 c6 d6:Nat) (n7 n8:Int) (b9 b10:Bool) (f:Nat→Int×Int),r=[.string s0,.string s1,.int .i64 n2,.string s3,.int .i64 n4,.int .i64 n5,.slice A6 m6 c6,.int .i64 n7,.int .i64 n8,.bool b9,.bool b10]∧r'=[.string s0,.string s1,.int .i64 n2,.string s3,.int .i64 n4,.int .i64 n5,.slice B6 m6 d6,.int .i64 n7,.int .i64 n8,.bool b9,.bool b10]∧m6≤1048576∧Nbr.Rds w w.heap.size A6 m6 f∧Nbr.Rds w w.heap.size B6 m6 f
def LnC(r:List Value):Prop:=∃(n0 n1:Int) (s2 s3 s4:ByteArray) (n5:Int),r=[.int .i64 n0,.int .i64 n1,.string s2,.string s3,.string s4,.int .u64 n5]
def CeE(w:World)(r r':Array Value):Prop:=∃(n0:Int) (A1 B1:Option Addr) (m1 c1 d1:Nat) (A2 B2:Option Addr) (m2 c2 d2:Nat) (A3 B3:Option Addr) (m3A c3 m3B d3:Nat) (A4 B4:Option Addr) (m4A c4 m4B d4:Nat) (n5:Int) (A6 B6:Option Addr) (m6 c6 d6:Nat) (A7 B7:Option Addr) (m7 c7 d7:Nat) (A8 B8:Option Addr) (m8 c8 d8:Nat) (A9 B9:Option Addr) (m9A c9 m9B d9:Nat) (A10 B10:Option Addr) (m10A c10 m10B d10:Nat) (n11 n12:Int) (ft fl:Nat→List Value),r=#[.int .i64 n0,.slice A1 m1 c1,.slice A2 m2 c2,.slice A3 m3A c3,.slice A4 m4A c4,.int .i64 n5,.slice A6 m6 c6,.slice A7 m7 c7,.slice A8 m8 c8,.slice A9 m9A c9,.slice A10 m10A c10,.int .i64 n11,.int .i64 n12]∧r'=#[.int .i64 n0,.slice B1 m1 d1,.slice B2 m2 d2,.slice B3 m3B d3,.slice B4 m4B d4,.int .i64 n5,.slice B6 m6 d6,.slice B7 m7 d7,.slice B8 m8 d8,.slice B9 m9B d9,.slice B10 m10B d10,.int .i64 n11,.int .i64 n12]∧(m1≤1048576∧m2≤1048576∧m6≤1048576∧m7≤1048576∧m8≤1048576)∧Rows2 w A1 B1 m1 13 (KnE w)∧(∀j,j<m2→TkC (ft j))∧RowsF w A2 m2 6 ft∧RowsF w B2 m2 6 ft ∧
 Rows2 w A6 B6 m6 10 (EvE w)∧Rows2 w A7 B7 m7 11 (RcE w)∧(∀j,j<m8→LnC (fl j))∧RowsF w A8 m8 6 fl∧RowsF w B8 m8 6 fl
set_option maxRecDepth 100000 in
set_option maxHeartbeats 8000000 in
theorem same11{r r':Array Value}(w:World)(h:CeE w r r'):Calls Tryz.prog 11 #[.agg r,.agg r'] w fun e w'=>e=.returned (.bool true)∧Hid (Below w.heap.size w w'):=by
 obtain⟨n0,A1,B1,m1,c1,d1,A2,B2,m2,c2,d2,A3,B3,m3A,c3,m3B,d3,A4,B4,m4A,c4,m4B,d4,n5,A6,B6,m6,c6,d6,A7,B7,m7,c7,d7,A8,B8,m8,c8,d8,A9,B9,m9A,c9,m9B,d9,A10,B10,m10A,c10,m10B,d10,n11,n12,ft,fl,rfl,rfl,⟨z1,z2,z6,z7,z8⟩,g1,gt,g2,g2',g6,g7,gl,g8,g8'⟩:=h
 have HB1:=Lib.hid (below_alloc (below_new w (.cells #[.int .i64 n0,.slice A1 m1 c1,.slice A2 m2 c2,.slice A3 m3A c3,.slice A4 m4A c4,.int .i64 n5,.slice A6 m6 c6,.slice A7 m7 c7,.slice A8 m8 c8,.slice A9 m9A c9,.slice A10 m10A c10,.int .i64 n11,.int .i64 n12] 51)) (.cells #[.int .i64 n0,.slice B1 m1 d1,.slice B2 m2 d2,.slice B3 m3B d3,.slice B4 m4B d4,.int .i64 n5,.slice B6 m6 d6,.slice B7 m7 d7,.slice B8 m8 d8,.slice B9 m9B d9,.slice B10 m10B d10,.int .i64 n11,.int .i64 n12] 51))
 have HK2:=Lib.hid ((YtmadfhgiaonnlaaGreatDoor.Blk.new w 51 #[.int .i64 n0,.slice A1 m1 c1,.slice A2 m2 c2,.slice A3 m3A c3,.slice A4 m4A c4,.int .i64 n5,.slice A6 m6 c6,.slice A7 m7 c7,.slice A8 m8 c8,.slice A9 m9A c9,.slice A10 m10A c10,.int .i64 n11,.int .i64 n12]).alloc (.cells #[.int .i64 n0,.slice B1 m1 d1,.slice B2 m2 d2,.slice B3 m3B d3,.slice B4 m4B d4,.int .i64 n5,.slice B6 m6 d6,.slice B7 m7 d7,.slice B8 m8 d8,.slice B9 m9B d9,.slice B10 m10B d10,.int .i64 n11,.int .i64 n12] 51))
 have HK3:=Lib.hid (YtmadfhgiaonnlaaGreatDoor.Blk.new (w.alloc (.cells #[.int .i64 n0,.slice A1 m1 c1,.slice A2 m2 c2,.slice A3 m3A c3,.slice A4 m4A c4,.int .i64 n5,.slice A6 m6 c6,.slice A7 m7 c7,.slice A8 m8 c8,.slice A9 m9A c9,.slice A10 m10A c10,.int .i64 n11,.int .i64 n12] 51)) 51 #[.int .i64 n0,.slice B1 m1 d1,.slice B2 m2 d2,.slice B3 m3B d3,.slice B4 m4B d4,.int .i64 n5,.slice B6 m6 d6,.slice B7 m7 d7,.slice B8 m8 d8,.slice B9 m9B d9,.slice B10 m10B d10,.int .i64 n11,.int .i64 n12])
 rw[show(w.alloc (.cells #[.int .i64 n0,.slice A1 m1 c1,.slice A2 m2 c2,.slice A3 m3A c3,.slice A4 m4A c4,.int .i64 n5,.slice A6 m6 c6,.slice A7 m7 c7,.slice A8 m8 c8,.slice A9 m9A c9,.slice A10 m10A c10,.int .i64 n11,.int .i64 n12] 51)).heap.size=w.heap.size+1 by simp] at HK3
 have G1:=Lib.hid g1
 have GT:=Lib.hid gt
 have G2:=Lib.hid g2
 have G2':=Lib.hid g2'
 have G6:=Lib.hid g6
 have G7:=Lib.hid g7
 have GL:=Lib.hid gl
 have G8:=Lib.hid g8
 have G8':=Lib.hid g8'
 clear g1 gt g2 g2' g6 g7 gl g8 g8'
 go_enter Tryz.func11,Tryz.ntmps11
 go_wp2_with fail
 have hs2:w.heap.size+1<((w.alloc (.cells #[.int .i64 n0,.slice A1 m1 c1,.slice A2 m2 c2,.slice A3 m3A c3,.slice A4 m4A c4,.int .i64 n5,.slice A6 m6 c6,.slice A7 m7 c7,.slice A8 m8 c8,.slice A9 m9A c9,.slice A10 m10A c10,.int .i64 n11,.int .i64 n12] 51)).alloc (.cells #[.int .i64 n0,.slice B1 m1 d1,.slice B2 m2 d2,.slice B3 m3B d3,.slice B4 m4B d4,.int .i64 n5,.slice B6 m6 d6,.slice B7 m7 d7,.slice B8 m8 d8,.slice B9 m9B d9,.slice B10 m10B d10,.int .i64 n11,.int .i64 n12] 51)).heap.size:=by simp
 generalize (w.alloc (.cells #[.int .i64 n0,.slice A1 m1 c1,.slice A2 m2 c2,.slice A3 m3A c3,.slice A4 m4A c4,.int .i64 n5,.slice A6 m6 c6,.slice A7 m7 c7,.slice A8 m8 c8,.slice A9 m9A c9,.slice A10 m10A c10,.int .i64 n11,.int .i64 n12] 51)).alloc (.cells #[.int .i64 n0,.slice B1 m1 d1,.slice B2 m2 d2,.slice B3 m3B d3,.slice B4 m4B d4,.int .i64 n5,.slice B6 m6 d6,.slice B7 m7 d7,.slice B8 m8 d8,.slice B9 m9B d9,.slice B10 m10B d10,.int .i64 n11,.int .i64 n12] 51)=w1 at *
 have hs1:w.heap.size<w1.heap.size:=by omega
 go_loopg [85] m1 (fun gg s85 wr=>∃j:Nat,j+gg=m1∧s85=.int .i64 j∧Hid (Below w1.heap.size w1 wr))
 case atStart=>exact⟨0,by omega,rfl,Lib.hid (Below.refl _ _)⟩
 case round=>
  obtain⟨j,hj,rfl,HB⟩:=hrel
  have k2:=(HK2.out.call HB.out).cell
  have k3:=(HK3.out.call HB.out).cell
  by_cases hjn:j<m1
  ·obtain⟨ba,oa,bb,ob,r,r',rfl,rfl,⟨t0,ub1,un2,uA3,uB3,um3,uc3,ud3,un4,uq0,uq1,uq2,uA8,uB8,um8,uc8,ud8,uA9,uB9,um9,uc9,ud9,uq5,uq6,uA12,uB12,um12,uc12,ud12,uf3,rfl,rfl,z3,t3,r3,r3',he⟩,ha,hb⟩:=G1.out j hjn
   have H26:Hid (∀W,Below w.heap.size w W→Calls Tryz.prog 26 #[.agg #[.int .i64 uq0,.int .i64 uq1,.int .i64 uq2,.slice uA8 um8 uc8,.slice uA9 um9 uc9,.int .i64 uq5,.int .i64 uq6,.slice uA12 um12 uc12],.agg #[.int .i64 uq0,.int .i64 uq1,.int .i64 uq2,.slice uB8 um8 ud8,.slice uB9 um9 ud9,.int .i64 uq5,.int .i64 uq6,.slice uB12 um12 ud12]] W fun e w'=>e=.returned (.bool true)∧Hid (Below W.heap.size W w')):=fun W hb=>same26 W (he.grow hb)
   have HI:=Lib.hid r3
   have HI':=Lib.hid r3'
   have HT:=Lib.hid t3
   have ha':=ha wr (below_call HB1.out HB.out)
   have a0:wr.cell? ⟨ba,oa+j*13,none⟩=some (.string t0):=by simpa using ha' 0 _ rfl
   have a1:wr.cell? ⟨ba,oa+j*13+1,none⟩=_:=ha' 1 _ rfl
   have a2:wr.cell? ⟨ba,oa+j*13+2,none⟩=_:=ha' 2 _ rfl
   have a3:wr.cell? ⟨ba,oa+j*13+3,none⟩=_:=ha' 3 _ rfl
   have a4:wr.cell? ⟨ba,oa+j*13+4,none⟩=_:=ha' 4 _ rfl
   have a5:wr.cell? ⟨ba,oa+j*13+5,none⟩=_:=ha' 5 _ rfl
   have a6:wr.cell? ⟨ba,oa+j*13+6,none⟩=_:=ha' 6 _ rfl
   have a7:wr.cell? ⟨ba,oa+j*13+7,none⟩=_:=ha' 7 _ rfl
   have a8:wr.cell? ⟨ba,oa+j*13+8,none⟩=_:=ha' 8 _ rfl
   have a9:wr.cell? ⟨ba,oa+j*13+9,none⟩=_:=ha' 9 _ rfl
   have a10:wr.cell? ⟨ba,oa+j*13+10,none⟩=_:=ha' 10 _ rfl
   have a11:wr.cell? ⟨ba,oa+j*13+11,none⟩=_:=ha' 11 _ rfl
   have a12:wr.cell? ⟨ba,oa+j*13+12,none⟩=_:=ha' 12 _ rfl
   have b0:∀o,(wr.alloc o).cell? ⟨bb,ob+j*13,none⟩=some (.string t0):=fun o=>by simpa using hb (wr.alloc o) (below_alloc (below_call HB1.out HB.out) o) 0 _ rfl
   have b1:∀o,(wr.alloc o).cell? ⟨bb,ob+j*13+1,none⟩=some (.bool ub1):=fun o=>hb (wr.alloc o) (below_alloc (below_call HB1.out HB.out) o) 1 _ rfl
   have b2:∀o,(wr.alloc o).cell? ⟨bb,ob+j*13+2,none⟩=some (.int .i64 un2):=fun o=>hb (wr.alloc o) (below_alloc (below_call HB1.out HB.out) o) 2 _ rfl
   have b3:∀o,(wr.alloc o).cell? ⟨bb,ob+j*13+3,none⟩=some (.slice uB3 um3 ud3):=fun o=>hb (wr.alloc o) (below_alloc (below_call HB1.out HB.out) o) 3 _ rfl
   have b4:∀o,(wr.alloc o).cell? ⟨bb,ob+j*13+4,none⟩=some (.int .i64 un4):=fun o=>hb (wr.alloc o) (below_alloc (below_call HB1.out HB.out) o) 4 _ rfl
   have b5:∀o,(wr.alloc o).cell? ⟨bb,ob+j*13+5,none⟩=some (.int .i64 uq0):=fun o=>hb (wr.alloc o) (below_alloc (below_call HB1.out HB.out) o) 5 _ rfl
   have b6:∀o,(wr.alloc o).cell? ⟨bb,ob+j*13+6,none⟩=some (.int .i64 uq1):=fun o=>hb (wr.alloc o) (below_alloc (below_call HB1.out HB.out) o) 6 _ rfl
   have b7:∀o,(wr.alloc o).cell? ⟨bb,ob+j*13+7,none⟩=some (.int .i64 uq2):=fun o=>hb (wr.alloc o) (below_alloc (below_call HB1.out HB.out) o) 7 _ rfl
   have b8:∀o,(wr.alloc o).cell? ⟨bb,ob+j*13+8,none⟩=some (.slice uB8 um8 ud8):=fun o=>hb (wr.alloc o) (below_alloc (below_call HB1.out HB.out) o) 8 _ rfl
   have b9:∀o,(wr.alloc o).cell? ⟨bb,ob+j*13+9,none⟩=some (.slice uB9 um9 ud9):=fun o=>hb (wr.alloc o) (below_alloc (below_call HB1.out HB.out) o) 9 _ rfl
   have b10:∀o,(wr.alloc o).cell? ⟨bb,ob+j*13+10,none⟩=some (.int .i64 uq5):=fun o=>hb (wr.alloc o) (below_alloc (below_call HB1.out HB.out) o) 10 _ rfl
   have b11:∀o,(wr.alloc o).cell? ⟨bb,ob+j*13+11,none⟩=some (.int .i64 uq6):=fun o=>hb (wr.alloc o) (below_alloc (below_call HB1.out HB.out) o) 11 _ rfl
   have b12:∀o,(wr.alloc o).cell? ⟨bb,ob+j*13+12,none⟩=some (.slice uB12 um12 ud12):=fun o=>hb (wr.alloc o) (below_alloc (below_call HB1.out HB.out) o) 12 _ rfl
   have k3a:=fun(o:Obj)=>((HK3.out.call HB.out).alloc o).cell 1
   simp at k3a
   clear ha' ha hb r3 r3' t3 he
   have hltz:(j:Int)<(m1:Int):=by omega
   have hj0:(0:Int)≤(j:Int):=by omega
   have e4:IntKind.i64.wrap ((j:Int)+1)=((j+1:Nat):Int):=by simp[IntKind.wrap,IntKind.bits,IntKind.signed];omega
   go_wp2_with fail
   refine(H26.out _ (below_alloc (below_alloc (below_call HB1.out HB.out) _) _)).mono ?_
   rintro e w5 ⟨rfl,hbc⟩
   have HB5:Hid (Below w1.heap.size w1 w5):=below_call (below_alloc (below_alloc HB.out _) _) hbc.out
   have HKa:=Lib.hid (((YtmadfhgiaonnlaaGreatDoor.Blk.new wr 84 #[.string t0,.bool ub1,.int .i64 un2,.slice uA3 um3 uc3,.int .i64 un4,.int .i64 uq0,.int .i64 uq1,.int .i64 uq2,.slice uA8 um8 uc8,.slice uA9 um9 uc9,.int .i64 uq5,.int .i64 uq6,.slice uA12 um12 uc12]).alloc (.cells #[.string t0,.bool ub1,.int .i64 un2,.slice uB3 um3 ud3,.int .i64 un4,.int .i64 uq0,.int .i64 uq1,.int .i64 uq2,.slice uB8 um8 ud8,.slice uB9 um9 ud9,.int .i64 uq5,.int .i64 uq6,.slice uB12 um12 ud12] 84)).call hbc.out)
   have HKb:=Lib.hid ((YtmadfhgiaonnlaaGreatDoor.Blk.new (wr.alloc (.cells #[.string t0,.bool ub1,.int .i64 un2,.slice uA3 um3 uc3,.int .i64 un4,.int .i64 uq0,.int .i64 uq1,.int .i64 uq2,.slice uA8 um8 uc8,.slice uA9 um9 uc9,.int .i64 uq5,.int .i64 uq6,.slice uA12 um12 uc12] 84)) 84 #[.string t0,.bool ub1,.int .i64 un2,.slice uB3 um3 ud3,.int .i64 un4,.int .i64 uq0,.int .i64 uq1,.int .i64 uq2,.slice uB8 um8 ud8,.slice uB9 um9 ud9,.int .i64 uq5,.int .i64 uq6,.slice uB12 um12 ud12]).call hbc.out)
   rw[show(wr.alloc (.cells #[.string t0,.bool ub1,.int .i64 un2,.slice uA3 um3 uc3,.int .i64 un4,.int .i64 uq0,.int .i64 uq1,.int .i64 uq2,.slice uA8 um8 uc8,.slice uA9 um9 uc9,.int .i64 uq5,.int .i64 uq6,.slice uA12 um12 uc12] 84)).heap.size=wr.heap.size+1 by simp] at HKb
   have ka:=HKa.out.cell
   have kb:=HKb.out.cell
   clear k2 k3 k3a hbc a0 b0 a1 b1 a2 b2 a3 b3 a4 b4 a5 b5 a6 b6 a7 b7 a8 b8 a9 b9 a10 b10 a11 b11 a12 b12
   go_wp2_with fail
   clear ka kb
   go_loopg [141] um3 (fun gg s141 wi=>∃i:Nat,i+gg=um3∧s141=.int .i64 i∧Hid (Below w5.heap.size w5 wi))
   case atStart=>exact⟨0,by omega,rfl,Lib.hid (Below.refl _ _)⟩
   case round=>
    obtain⟨i,hi,rfl,HBi⟩:=hrel
    have ka:=(HKa.out.call HBi.out).cell 3
    have kb:=(HKb.out.call HBi.out).cell 3
    simp at ka kb
    by_cases hin:i<um3
    ·obtain⟨b4,o4,rfl,hc4⟩:=HI.out i hin
     obtain⟨b5,o5,rfl,hc5⟩:=HI'.out i hin
     obtain⟨nn,hnn⟩:=HT.out i hin
     have x4:=hc4 wr (below_call HB1.out (below_call HB5.out HBi.out)) 0
     have x5:=hc5 wr (below_call HB1.out (below_call HB5.out HBi.out)) 0
     rw[hnn] at x4 x5
     have x4:wr.cell? ⟨b4,o4+i,none⟩=some (.int .i64 nn):=by simpa using x4 _ rfl
     have x5:wr.cell? ⟨b5,o5+i,none⟩=some (.int .i64 nn):=by simpa using x5 _ rfl
     clear hc4 hc5 hnn
     have hltz:(i:Int)<(um3:Int):=by omega
     have hj0:(0:Int)≤(i:Int):=by omega
     have e5:IntKind.i64.wrap ((i:Int)+1)=((i+1:Nat):Int):=by simp[IntKind.wrap,IntKind.bits,IntKind.signed];omega
     go_wp2_with fail
     go_quiet (fail)
     go_wp2_with fail
     go_roundg (um3-(i+1))
     case measure=>omega
     case rel=>exact⟨i+1,by omega,by simp,Lib.hid (by have:=HBi.out;first|assumption|exact below_drewN' this _|(exact Below.trans HBi.out (Below.mono (by assumption) (HBi.out.size))))⟩
    ·have hin':um3=i:=by omega
     subst hin'
     go_wp2_with fail
     go_roundg (m1-(j+1))
     case measure=>omega
     case rel=>exact⟨j+1,by omega,by simp,Lib.hid (below_call HB5.out HBi.out)⟩
  ·have hjn':m1=j:=by omega
   subst hjn'
   go_wp2_with fail
   clear k2 k3
   go_loopg [160] m2 (fun gg s160 wr=>∃j:Nat,j+gg=m2∧s160=.int .i64 j∧Hid (Below w1.heap.size w1 wr))
   case atStart=>exact⟨0,by omega,rfl,HB⟩
   case round=>
    clear HB
    obtain⟨j,hj,rfl,HB⟩:=hrel
    by_cases hjn:j<m2
    ·have k2:=(HK2.out.call HB.out).cell 2
     have k3:=(HK3.out.call HB.out).cell 2
     simp at k2 k3
     obtain⟨b,off,rfl,hcl⟩:=G2.out j hjn
     obtain⟨b',off',rfl,hcl'⟩:=G2'.out j hjn
     obtain⟨s0,s1,s2,n3,n4,n5',hfj⟩:=GT.out j hjn
     have hcw:=hcl wr (below_call HB1.out HB.out)
     have hcw':=hcl' wr (below_call HB1.out HB.out)
     rw[hfj] at hcw hcw'
     have h0:wr.cell? ⟨b,off+j*6,none⟩=some (.string s0):=by simpa using hcw 0 _ rfl
     have h1:wr.cell? ⟨b,off+j*6+1,none⟩=_:=hcw 1 _ rfl
     have h2:wr.cell? ⟨b,off+j*6+2,none⟩=_:=hcw 2 _ rfl
     have h3:wr.cell? ⟨b,off+j*6+3,none⟩=_:=hcw 3 _ rfl
     have h4:wr.cell? ⟨b,off+j*6+4,none⟩=_:=hcw 4 _ rfl
     have h5:wr.cell? ⟨b,off+j*6+5,none⟩=_:=hcw 5 _ rfl
     have i0:wr.cell? ⟨b',off'+j*6,none⟩=some (.string s0):=by simpa using hcw' 0 _ rfl
     have i1:wr.cell? ⟨b',off'+j*6+1,none⟩=_:=hcw' 1 _ rfl
     have i2:wr.cell? ⟨b',off'+j*6+2,none⟩=_:=hcw' 2 _ rfl
     have i3:wr.cell? ⟨b',off'+j*6+3,none⟩=_:=hcw' 3 _ rfl
     have i4:wr.cell? ⟨b',off'+j*6+4,none⟩=_:=hcw' 4 _ rfl
     have i5:wr.cell? ⟨b',off'+j*6+5,none⟩=_:=hcw' 5 _ rfl
     clear hcl hcw hcl' hcw' hfj
     have hltz:(j:Int)<(m2:Int):=by omega
     have hj0:(0:Int)≤(j:Int):=by omega
     have e4:IntKind.i64.wrap ((j:Int)+1)=((j+1:Nat):Int):=by simp[IntKind.wrap,IntKind.bits,IntKind.signed];omega
     go_wp2_with fail
     go_quiet (fail)
     go_wp2_with fail
     go_roundg (m2-(j+1))
     case measure=>omega
     case rel=>exact⟨j+1,by omega,by simp,Lib.hid (by have:=HB.out;first|assumption|exact below_drewN' this _|(exact Below.trans HB.out (Below.mono (by assumption) (HB.out.size))))⟩
    ·have hjn':m2=j:=by omega
     subst hjn'
     have k2:=(HK2.out.call HB.out).cell
     have k3:=(HK3.out.call HB.out).cell
     go_wp2_with fail
     clear k2 k3
     go_loopg [178] m6 (fun gg s178 wr=>∃j:Nat,j+gg=m6∧s178=.int .i64 j∧Hid (Below w1.heap.size w1 wr))
     case atStart=>exact⟨0,by omega,rfl,HB⟩
     case round=>
      clear HB
      obtain⟨j,hj,rfl,HB⟩:=hrel
      by_cases hjn:j<m6
      ·obtain⟨b,off,b',off',r,r',rfl,rfl,hr,hcl,hcl'⟩:=G6.out j hjn
       have HM:=Lib.hid (fun W hb=>hr.same W hb)
       have HL:Hid (r.length=10∧r'.length=10):=by
        obtain⟨s0,s1,n2,n3,n4,n5,s6,b7,n8,A9,B9,m9,c9,d9,f,rfl,rfl,-⟩:=hr
        exact⟨rfl,rfl⟩
       have HCL:Hid (∀W,Below w.heap.size w W→W.rangeAt b (off+j*10) r):=fun W hb o u hu=>hcl W hb o u hu
       have HCL':Hid (∀W,Below w.heap.size w W→W.rangeAt b' (off'+j*10) r'):=fun W hb o u hu=>hcl' W hb o u hu
       clear hcl hcl' hr
       have hltz:(j:Int)<(m6:Int):=by omega
       have hj0:(0:Int)≤(j:Int):=by omega
       have e4:IntKind.i64.wrap ((j:Int)+1)=((j+1:Nat):Int):=by simp[IntKind.wrap,IntKind.bits,IntKind.signed];omega
       go_wp2_with fail
       refine RegM.region 12 (fun kz v W=>match kz with|0=>v=.pointer (some ⟨w.heap.size,6,none⟩)|1=>v=.slice (some ⟨b,off,none⟩) m6 c6|2=>v=.int .i64 j|3=>v=.pointer (some ⟨b,off+j*10,none⟩)|4=>v=.agg r.toArray|5=>v=.pointer (some ⟨w.heap.size+1,6,none⟩)|6=>v=.slice (some ⟨b',off',none⟩) m6 d6|7=>v=.int .i64 j|8=>v=.pointer (some ⟨b',off'+j*10,none⟩)|9=>v=.agg r'.toArray|10=>v=.bool true|11=>v=.bool false|_=>True) (by kernel_rfl) (by kernel_rfl) (Reg4.in_of (n:=246) (by kernel_rfl) rfl) (fun _ _ _ _ _ h=>h) ?_ ?_
       ·intro idx o hj ho a' w' hG hop
        have hj':idx=0∨idx=1∨idx=2∨idx=3∨idx=4∨idx=5∨idx=6∨idx=7∨idx=8∨idx=9∨idx=10∨idx=11:=by omega
        clear hj
        rcases hj' with rfl|rfl|rfl|rfl|rfl|rfl|rfl|rfl|rfl|rfl|rfl|rfl
        ·obtain rfl:=oi ho
         have h2:a'.tmps[2]?.getD undef=_:=gdt (hop 2 (by simp[Op.operands,Call.operands]))
         refine Reg4.StepOk.mono (R:=fun v W=>(v=.pointer (some ⟨w.heap.size,6,none⟩))∧W=w') ?_ (fun v W h=>?_)
         ·go_simp
          all_goals(try exact⟨rfl,rfl⟩)
         ·obtain⟨h,rfl⟩:=h
          exact⟨Below.refl _ _,h⟩
        ·obtain rfl:=oi ho
         have h181:a'.tmps[181]?.getD undef=.pointer (some ⟨w.heap.size,6,none⟩):=gdt (hop 181 (by simp[Op.operands,Call.operands]))
         have k2:=((HK2.out.call HB.out).call hG).cell 6
         simp at k2
         refine Reg4.StepOk.mono (R:=fun v W=>(v=.slice (some ⟨b,off,none⟩) m6 c6)∧W=w') ?_ (fun v W h=>?_)
         ·go_simp
          all_goals(try exact⟨rfl,rfl⟩)
         ·obtain⟨h,rfl⟩:=h
          exact⟨Below.refl _ _,h⟩
        ·obtain rfl:=oi ho
         have h10:a'.tmps[10]?.getD undef=_:=gdt (hop 10 (by simp[Op.operands,Call.operands]))
         refine Reg4.StepOk.mono (R:=fun v W=>(v=.int .i64 j)∧W=w') ?_ (fun v W h=>?_)
         ·go_simp
          all_goals(try exact⟨rfl,rfl⟩)
         ·obtain⟨h,rfl⟩:=h
          exact⟨Below.refl _ _,h⟩
        ·obtain rfl:=oi ho
         have h182:a'.tmps[182]?.getD undef=.slice (some ⟨b,off,none⟩) m6 c6:=gdt (hop 182 (by simp[Op.operands,Call.operands]))
         have h183:a'.tmps[183]?.getD undef=.int .i64 j:=gdt (hop 183 (by simp[Op.operands,Call.operands]))
         refine Reg4.StepOk.mono (R:=fun v W=>(v=.pointer (some ⟨b,off+j*10,none⟩))∧W=w') ?_ (fun v W h=>?_)
         ·go_simp
          all_goals(try exact⟨rfl,rfl⟩)
         ·obtain⟨h,rfl⟩:=h
          exact⟨Below.refl _ _,h⟩
        ·obtain rfl:=oi ho
         have h184:a'.tmps[184]?.getD undef=.pointer (some ⟨b,off+j*10,none⟩):=gdt (hop 184 (by simp[Op.operands,Call.operands]))
         exact loadRun (x:=.tmp 184) (a:=a') (d:=_) rfl ((Array.getD_eq_getD_getElem? ..).trans h184) (HCL.out _ (below_call (below_call HB1.out HB.out) hG)) Tryz.underlying95 rfl (by rw[HL.out.1];kernel_rfl) ⟨Below.refl _ _,rfl⟩
        ·obtain rfl:=oi ho
         have h3:a'.tmps[3]?.getD undef=_:=gdt (hop 3 (by simp[Op.operands,Call.operands]))
         refine Reg4.StepOk.mono (R:=fun v W=>(v=.pointer (some ⟨w.heap.size+1,6,none⟩))∧W=w') ?_ (fun v W h=>?_)
         ·go_simp
          all_goals(try exact⟨rfl,rfl⟩)
         ·obtain⟨h,rfl⟩:=h
          exact⟨Below.refl _ _,h⟩
        ·obtain rfl:=oi ho
         have h186:a'.tmps[186]?.getD undef=.pointer (some ⟨w.heap.size+1,6,none⟩):=gdt (hop 186 (by simp[Op.operands,Call.operands]))
         have k3:=((HK3.out.call HB.out).call hG).cell 6
         simp at k3
         refine Reg4.StepOk.mono (R:=fun v W=>(v=.slice (some ⟨b',off',none⟩) m6 d6)∧W=w') ?_ (fun v W h=>?_)
         ·go_simp
          all_goals(try exact⟨rfl,rfl⟩)
         ·obtain⟨h,rfl⟩:=h
          exact⟨Below.refl _ _,h⟩
        ·obtain rfl:=oi ho
         have h10:a'.tmps[10]?.getD undef=_:=gdt (hop 10 (by simp[Op.operands,Call.operands]))
         refine Reg4.StepOk.mono (R:=fun v W=>(v=.int .i64 j)∧W=w') ?_ (fun v W h=>?_)
         ·go_simp
          all_goals(try exact⟨rfl,rfl⟩)
         ·obtain⟨h,rfl⟩:=h
          exact⟨Below.refl _ _,h⟩
        ·obtain rfl:=oi ho
         have h187:a'.tmps[187]?.getD undef=.slice (some ⟨b',off',none⟩) m6 d6:=gdt (hop 187 (by simp[Op.operands,Call.operands]))
         have h188:a'.tmps[188]?.getD undef=.int .i64 j:=gdt (hop 188 (by simp[Op.operands,Call.operands]))
         refine Reg4.StepOk.mono (R:=fun v W=>(v=.pointer (some ⟨b',off'+j*10,none⟩))∧W=w') ?_ (fun v W h=>?_)
         ·go_simp
          all_goals(try exact⟨rfl,rfl⟩)
         ·obtain⟨h,rfl⟩:=h
          exact⟨Below.refl _ _,h⟩
        ·obtain rfl:=oi ho
         have h189:a'.tmps[189]?.getD undef=.pointer (some ⟨b',off'+j*10,none⟩):=gdt (hop 189 (by simp[Op.operands,Call.operands]))
         exact loadRun (x:=.tmp 189) (a:=a') (d:=_) rfl ((Array.getD_eq_getD_getElem? ..).trans h189) (HCL'.out _ (below_call (below_call HB1.out HB.out) hG)) Tryz.underlying95 rfl (by rw[HL.out.2];kernel_rfl) ⟨Below.refl _ _,rfl⟩
        ·obtain rfl:=oi ho
         have h185:a'.tmps[185]?.getD undef=.agg r.toArray:=gdt (hop 185 (by simp[Op.operands,Call.operands]))
         have h190:a'.tmps[190]?.getD undef=.agg r'.toArray:=gdt (hop 190 (by simp[Op.operands,Call.operands]))
         refine Reg4.StepOk.mono (R:=fun v W=>(v=.bool true)∧Hid (Below w'.heap.size w' W)) ?_ (fun v W h=>⟨h.2.out,h.1⟩)
         ·go_simp
          refine(show Calls _ _ _ _ _ from HM.out _ (below_call (below_call HB1.out HB.out) hG)).mono ?_
          rintro e w5 ⟨rfl,hb⟩
          exact⟨_,rfl,rfl,hb⟩
        ·obtain rfl:=oi ho
         have h191:a'.tmps[191]?.getD undef=.bool true:=gdt (hop 191 (by simp[Op.operands,Call.operands]))
         refine Reg4.StepOk.mono (R:=fun v W=>(v=.bool false)∧W=w') ?_ (fun v W h=>?_)
         ·go_simp
          all_goals(try exact⟨rfl,rfl⟩)
         ·obtain⟨h,rfl⟩:=h
          exact⟨Below.refl _ _,h⟩
       ·intro vals w' hG hv
        have hv0:vals 0=.pointer (some ⟨w.heap.size,6,none⟩):=hv 0 (by omega)
        have hv1:vals 1=.slice (some ⟨b,off,none⟩) m6 c6:=hv 1 (by omega)
        have hv2:vals 2=.int .i64 j:=hv 2 (by omega)
        have hv3:vals 3=.pointer (some ⟨b,off+j*10,none⟩):=hv 3 (by omega)
        have hv4:vals 4=.agg r.toArray:=hv 4 (by omega)
        have hv5:vals 5=.pointer (some ⟨w.heap.size+1,6,none⟩):=hv 5 (by omega)
        have hv6:vals 6=.slice (some ⟨b',off',none⟩) m6 d6:=hv 6 (by omega)
        have hv7:vals 7=.int .i64 j:=hv 7 (by omega)
        have hv8:vals 8=.pointer (some ⟨b',off'+j*10,none⟩):=hv 8 (by omega)
        have hv9:vals 9=.agg r'.toArray:=hv 9 (by omega)
        have hv10:vals 10=.bool true:=hv 10 (by omega)
        have hv11:vals 11=.bool false:=hv 11 (by omega)
        simp only[Reg4.puts,Reg4.dstOf,List.range,List.range.loop,if_true,List.drop_succ_cons,List.drop_zero,hv0,hv1,hv2,hv3,hv4,hv5,hv6,hv7,hv8,hv9,hv10,hv11]
        clear hv hv0 hv1 hv2 hv3 hv4 hv5 hv6 hv7 hv8 hv9 hv10 hv11
        simp[Act.put]
        have HB3:Hid (Below w1.heap.size w1 w'):=below_call HB.out hG
        go_wp2_with fail
        go_roundg (m6-(j+1))
        case measure=>omega
        case rel=>exact⟨j+1,by omega,by simp,HB3⟩
      ·have hjn':m6=j:=by omega
       subst hjn'
       have k2:=(HK2.out.call HB.out).cell
       have k3:=(HK3.out.call HB.out).cell
       go_wp2_with fail
       clear k2 k3
       go_loopg [197] m7 (fun gg s197 wr=>∃j:Nat,j+gg=m7∧s197=.int .i64 j∧Hid (Below w1.heap.size w1 wr))
       case atStart=>exact⟨0,by omega,rfl,HB⟩
       case round=>
        clear HB
        obtain⟨j,hj,rfl,HB⟩:=hrel
        by_cases hjn:j<m7
        ·obtain⟨b,off,b',off',r,r',rfl,rfl,⟨t0,us1,un2,us3,un4,un5,uA6,uB6,um6,uc6,ud6,un7,un8,ub9,ub10,uf,rfl,rfl,z,r,r'⟩,hcl,hcl'⟩:=G7.out j hjn
         have HM:Hid (∀W,Below w.heap.size w W→Calls Tryz.prog 28 #[.agg #[.string t0,.string us1,.int .i64 un2,.string us3,.int .i64 un4,.int .i64 un5,.slice uA6 um6 uc6,.int .i64 un7,.int .i64 un8,.bool ub9,.bool ub10],.agg #[.string t0,.string us1,.int .i64 un2,.string us3,.int .i64 un4,.int .i64 un5,.slice uB6 um6 ud6,.int .i64 un7,.int .i64 un8,.bool ub9,.bool ub10]] W fun e w'=>e=.returned (.bool true)∧Hid (Below W.heap.size W w')):=fun W hb=>same28 t0 us1 un2 us3 un4 un5 un7 un8 ub9 ub10 uA6 uB6 um6 uc6 ud6 uf W z (zl r hb) (zl r' hb)
         have HCL:Hid (∀W,Below w.heap.size w W→W.rangeAt b (off+j*11) [.string t0,.string us1,.int .i64 un2,.string us3,.int .i64 un4,.int .i64 un5,.slice uA6 um6 uc6,.int .i64 un7,.int .i64 un8,.bool ub9,.bool ub10]):=fun W hb o u hu=>hcl W hb o u hu
         have HCL':Hid (∀W,Below w.heap.size w W→W.rangeAt b' (off'+j*11) [.string t0,.string us1,.int .i64 un2,.string us3,.int .i64 un4,.int .i64 un5,.slice uB6 um6 ud6,.int .i64 un7,.int .i64 un8,.bool ub9,.bool ub10]):=fun W hb o u hu=>hcl' W hb o u hu
         clear hcl hcl' r r'
         have hltz:(j:Int)<(m7:Int):=by omega
         have hj0:(0:Int)≤(j:Int):=by omega
         have e4:IntKind.i64.wrap ((j:Int)+1)=((j+1:Nat):Int):=by simp[IntKind.wrap,IntKind.bits,IntKind.signed];omega
         go_wp2_with fail
         refine RegM.regionG 27 (fun kz v W=>match kz with|0=>v=.pointer (some ⟨w.heap.size,7,none⟩)|1=>v=.slice (some ⟨b,off,none⟩) m7 c7|2=>v=.int .i64 j|3=>v=.pointer (some ⟨b,off+j*11,none⟩)|4=>v=.agg #[.string t0,.string us1,.int .i64 un2,.string us3,.int .i64 un4,.int .i64 un5,.slice uA6 um6 uc6,.int .i64 un7,.int .i64 un8,.bool ub9,.bool ub10]|5=>v=.pointer (some ⟨w.heap.size+1,7,none⟩)|6=>v=.slice (some ⟨b',off',none⟩) m7 d7|7=>v=.int .i64 j|8=>v=.pointer (some ⟨b',off'+j*11,none⟩)|9=>v=.agg #[.string t0,.string us1,.int .i64 un2,.string us3,.int .i64 un4,.int .i64 un5,.slice uB6 um6 ud6,.int .i64 un7,.int .i64 un8,.bool ub9,.bool ub10]|10=>v=.bool true|11=>v=.bool false|12=>v=.bool false|13=>v=.pointer (some ⟨w.heap.size,7,none⟩)|14=>v=.slice (some ⟨b,off,none⟩) m7 c7|15=>v=.int .i64 j|16=>v=.pointer (some ⟨b,off+j*11,none⟩)|17=>v=.pointer (some ⟨b,off+j*11+9,none⟩)|18=>v=.bool ub9|19=>v=.pointer (some ⟨w.heap.size+1,7,none⟩)|20=>v=.slice (some ⟨b',off',none⟩) m7 d7|21=>v=.int .i64 j|22=>v=.pointer (some ⟨b',off'+j*11,none⟩)|23=>v=.pointer (some ⟨b',off'+j*11+9,none⟩)|24=>v=.bool ub9|25=>v=.bool false|26=>v=.bool false|_=>True) (by kernel_rfl) (by kernel_rfl) (Reg4.in_of (n:=246) (by kernel_rfl) rfl) (fun _ _ _ _ _ h=>h) ?_ ?_ ?_
         ·intro idx o hj ho a' w' hG hgd hop
          have hj':idx=0∨idx=1∨idx=2∨idx=3∨idx=4∨idx=5∨idx=6∨idx=7∨idx=8∨idx=9∨idx=10∨idx=11∨idx=12∨idx=13∨idx=14∨idx=15∨idx=16∨idx=17∨idx=18∨idx=19∨idx=20∨idx=21∨idx=22∨idx=23∨idx=24∨idx=25∨idx=26:=by omega
          clear hj
          rcases hj' with rfl|rfl|rfl|rfl|rfl|rfl|rfl|rfl|rfl|rfl|rfl|rfl|rfl|rfl|rfl|rfl|rfl|rfl|rfl|rfl|rfl|rfl|rfl|rfl|rfl|rfl|rfl
          ·obtain rfl:=oi ho
           clear hgd
           have h2:a'.tmps[2]?.getD undef=_:=gdt (hop 2 (by simp[Op.operands,Call.operands]))
           refine Reg4.StepOk.mono (R:=fun v W=>(v=.pointer (some ⟨w.heap.size,7,none⟩))∧W=w') ?_ (fun v W h=>?_)
           ·go_simp
            all_goals(try exact⟨rfl,rfl⟩)
           ·obtain⟨h,rfl⟩:=h
            exact⟨Below.refl _ _,h⟩
          ·obtain rfl:=oi ho
           clear hgd
           have h200:a'.tmps[200]?.getD undef=.pointer (some ⟨w.heap.size,7,none⟩):=gdt (hop 200 (by simp[Op.operands,Call.operands]))
           have k2:=((HK2.out.call HB.out).call hG).cell 7
           simp at k2
           refine Reg4.StepOk.mono (R:=fun v W=>(v=.slice (some ⟨b,off,none⟩) m7 c7)∧W=w') ?_ (fun v W h=>?_)
           ·go_simp
            all_goals(try exact⟨rfl,rfl⟩)
           ·obtain⟨h,rfl⟩:=h
            exact⟨Below.refl _ _,h⟩
          ·obtain rfl:=oi ho
           clear hgd
           have h11:a'.tmps[11]?.getD undef=_:=gdt (hop 11 (by simp[Op.operands,Call.operands]))
           refine Reg4.StepOk.mono (R:=fun v W=>(v=.int .i64 j)∧W=w') ?_ (fun v W h=>?_)
           ·go_simp
            all_goals(try exact⟨rfl,rfl⟩)
           ·obtain⟨h,rfl⟩:=h
            exact⟨Below.refl _ _,h⟩
          ·obtain rfl:=oi ho
           clear hgd
           have h201:a'.tmps[201]?.getD undef=.slice (some ⟨b,off,none⟩) m7 c7:=gdt (hop 201 (by simp[Op.operands,Call.operands]))
           have h202:a'.tmps[202]?.getD undef=.int .i64 j:=gdt (hop 202 (by simp[Op.operands,Call.operands]))
           refine Reg4.StepOk.mono (R:=fun v W=>(v=.pointer (some ⟨b,off+j*11,none⟩))∧W=w') ?_ (fun v W h=>?_)
           ·go_simp
            all_goals(try exact⟨rfl,rfl⟩)
           ·obtain⟨h,rfl⟩:=h
            exact⟨Below.refl _ _,h⟩
          ·obtain rfl:=oi ho
           clear hgd
           have h203:a'.tmps[203]?.getD undef=.pointer (some ⟨b,off+j*11,none⟩):=gdt (hop 203 (by simp[Op.operands,Call.operands]))
           exact loadRun (x:=.tmp 203) (a:=a') (d:=_) rfl ((Array.getD_eq_getD_getElem? ..).trans h203) (HCL.out _ (below_call (below_call HB1.out HB.out) hG)) Tryz.underlying98 rfl (by kernel_rfl) ⟨Below.refl _ _,rfl⟩
          ·obtain rfl:=oi ho
           clear hgd
           have h3:a'.tmps[3]?.getD undef=_:=gdt (hop 3 (by simp[Op.operands,Call.operands]))
           refine Reg4.StepOk.mono (R:=fun v W=>(v=.pointer (some ⟨w.heap.size+1,7,none⟩))∧W=w') ?_ (fun v W h=>?_)
           ·go_simp
            all_goals(try exact⟨rfl,rfl⟩)
           ·obtain⟨h,rfl⟩:=h
            exact⟨Below.refl _ _,h⟩
          ·obtain rfl:=oi ho
           clear hgd
           have h205:a'.tmps[205]?.getD undef=.pointer (some ⟨w.heap.size+1,7,none⟩):=gdt (hop 205 (by simp[Op.operands,Call.operands]))
           have k3:=((HK3.out.call HB.out).call hG).cell 7
           simp at k3
           refine Reg4.StepOk.mono (R:=fun v W=>(v=.slice (some ⟨b',off',none⟩) m7 d7)∧W=w') ?_ (fun v W h=>?_)
           ·go_simp
            all_goals(try exact⟨rfl,rfl⟩)
           ·obtain⟨h,rfl⟩:=h
            exact⟨Below.refl _ _,h⟩
          ·obtain rfl:=oi ho
           clear hgd
           have h11:a'.tmps[11]?.getD undef=_:=gdt (hop 11 (by simp[Op.operands,Call.operands]))
           refine Reg4.StepOk.mono (R:=fun v W=>(v=.int .i64 j)∧W=w') ?_ (fun v W h=>?_)
           ·go_simp
            all_goals(try exact⟨rfl,rfl⟩)
           ·obtain⟨h,rfl⟩:=h
            exact⟨Below.refl _ _,h⟩
          ·obtain rfl:=oi ho
           clear hgd
           have h206:a'.tmps[206]?.getD undef=.slice (some ⟨b',off',none⟩) m7 d7:=gdt (hop 206 (by simp[Op.operands,Call.operands]))
           have h207:a'.tmps[207]?.getD undef=.int .i64 j:=gdt (hop 207 (by simp[Op.operands,Call.operands]))
           refine Reg4.StepOk.mono (R:=fun v W=>(v=.pointer (some ⟨b',off'+j*11,none⟩))∧W=w') ?_ (fun v W h=>?_)
           ·go_simp
            all_goals(try exact⟨rfl,rfl⟩)
           ·obtain⟨h,rfl⟩:=h
            exact⟨Below.refl _ _,h⟩
          ·obtain rfl:=oi ho
           clear hgd
           have h208:a'.tmps[208]?.getD undef=.pointer (some ⟨b',off'+j*11,none⟩):=gdt (hop 208 (by simp[Op.operands,Call.operands]))
           exact loadRun (x:=.tmp 208) (a:=a') (d:=_) rfl ((Array.getD_eq_getD_getElem? ..).trans h208) (HCL'.out _ (below_call (below_call HB1.out HB.out) hG)) Tryz.underlying98 rfl (by kernel_rfl) ⟨Below.refl _ _,rfl⟩
          ·obtain rfl:=oi ho
           clear hgd
           have h204:a'.tmps[204]?.getD undef=.agg #[.string t0,.string us1,.int .i64 un2,.string us3,.int .i64 un4,.int .i64 un5,.slice uA6 um6 uc6,.int .i64 un7,.int .i64 un8,.bool ub9,.bool ub10]:=gdt (hop 204 (by simp[Op.operands,Call.operands]))
           have h209:a'.tmps[209]?.getD undef=.agg #[.string t0,.string us1,.int .i64 un2,.string us3,.int .i64 un4,.int .i64 un5,.slice uB6 um6 ud6,.int .i64 un7,.int .i64 un8,.bool ub9,.bool ub10]:=gdt (hop 209 (by simp[Op.operands,Call.operands]))
           refine Reg4.StepOk.mono (R:=fun v W=>(v=.bool true)∧Hid (Below w'.heap.size w' W)) ?_ (fun v W h=>⟨h.2.out,h.1⟩)
           ·go_simp
            refine(show Calls _ _ _ _ _ from HM.out _ (below_call (below_call HB1.out HB.out) hG)).mono ?_
            rintro e w5 ⟨rfl,hb⟩
            exact⟨_,rfl,rfl,hb⟩
          ·obtain rfl:=oi ho
           clear hgd
           have h210:a'.tmps[210]?.getD undef=.bool true:=gdt (hop 210 (by simp[Op.operands,Call.operands]))
           refine Reg4.StepOk.mono (R:=fun v W=>(v=.bool false)∧W=w') ?_ (fun v W h=>?_)
           ·go_simp
            all_goals(try exact⟨rfl,rfl⟩)
           ·obtain⟨h,rfl⟩:=h
            exact⟨Below.refl _ _,h⟩
          ·obtain rfl:=oi ho
           clear hgd
           have h211:a'.tmps[211]?.getD undef=.bool false:=gdt (hop 211 (by simp[Op.operands,Call.operands]))
           refine Reg4.StepOk.mono (R:=fun v W=>(v=.bool false)∧W=w') ?_ (fun v W h=>?_)
           ·go_simp
            all_goals(try exact⟨rfl,rfl⟩)
           ·obtain⟨h,rfl⟩:=h
            exact⟨Below.refl _ _,h⟩
          ·obtain rfl:=oi ho
           clear hgd
           have h2:a'.tmps[2]?.getD undef=_:=gdt (hop 2 (by simp[Op.operands,Call.operands]))
           refine Reg4.StepOk.mono (R:=fun v W=>(v=.pointer (some ⟨w.heap.size,7,none⟩))∧W=w') ?_ (fun v W h=>?_)
           ·go_simp
            all_goals(try exact⟨rfl,rfl⟩)
           ·obtain⟨h,rfl⟩:=h
            exact⟨Below.refl _ _,h⟩
          ·obtain rfl:=oi ho
           clear hgd
           have h213:a'.tmps[213]?.getD undef=.pointer (some ⟨w.heap.size,7,none⟩):=gdt (hop 213 (by simp[Op.operands,Call.operands]))
           have k2:=((HK2.out.call HB.out).call hG).cell 7
           simp at k2
           refine Reg4.StepOk.mono (R:=fun v W=>(v=.slice (some ⟨b,off,none⟩) m7 c7)∧W=w') ?_ (fun v W h=>?_)
           ·go_simp
            all_goals(try exact⟨rfl,rfl⟩)
           ·obtain⟨h,rfl⟩:=h
            exact⟨Below.refl _ _,h⟩
          ·obtain rfl:=oi ho
           clear hgd
           have h11:a'.tmps[11]?.getD undef=_:=gdt (hop 11 (by simp[Op.operands,Call.operands]))
           refine Reg4.StepOk.mono (R:=fun v W=>(v=.int .i64 j)∧W=w') ?_ (fun v W h=>?_)
           ·go_simp
            all_goals(try exact⟨rfl,rfl⟩)
           ·obtain⟨h,rfl⟩:=h
            exact⟨Below.refl _ _,h⟩
          ·obtain rfl:=oi ho
           clear hgd
           have h214:a'.tmps[214]?.getD undef=.slice (some ⟨b,off,none⟩) m7 c7:=gdt (hop 214 (by simp[Op.operands,Call.operands]))
           have h215:a'.tmps[215]?.getD undef=.int .i64 j:=gdt (hop 215 (by simp[Op.operands,Call.operands]))
           refine Reg4.StepOk.mono (R:=fun v W=>(v=.pointer (some ⟨b,off+j*11,none⟩))∧W=w') ?_ (fun v W h=>?_)
           ·go_simp
            all_goals(try exact⟨rfl,rfl⟩)
           ·obtain⟨h,rfl⟩:=h
            exact⟨Below.refl _ _,h⟩
          ·obtain rfl:=oi ho
           clear hgd
           have h216:a'.tmps[216]?.getD undef=.pointer (some ⟨b,off+j*11,none⟩):=gdt (hop 216 (by simp[Op.operands,Call.operands]))
           refine Reg4.StepOk.mono (R:=fun v W=>(v=.pointer (some ⟨b,off+j*11+9,none⟩))∧W=w') ?_ (fun v W h=>?_)
           ·go_simp
            all_goals(try exact⟨rfl,rfl⟩)
           ·obtain⟨h,rfl⟩:=h
            exact⟨Below.refl _ _,h⟩
          ·obtain rfl:=oi ho
           clear hgd
           have h217:a'.tmps[217]?.getD undef=.pointer (some ⟨b,off+j*11+9,none⟩):=gdt (hop 217 (by simp[Op.operands,Call.operands]))
           have c9:=HCL.out _ (below_call (below_call HB1.out HB.out) hG) 9 _ rfl
           refine Reg4.StepOk.mono (R:=fun v W=>(v=.bool ub9)∧W=w') ?_ (fun v W h=>?_)
           ·go_simp
            all_goals(try exact⟨rfl,rfl⟩)
           ·obtain⟨h,rfl⟩:=h
            exact⟨Below.refl _ _,h⟩
          ·obtain rfl:=oi ho
           clear hgd
           have h3:a'.tmps[3]?.getD undef=_:=gdt (hop 3 (by simp[Op.operands,Call.operands]))
           refine Reg4.StepOk.mono (R:=fun v W=>(v=.pointer (some ⟨w.heap.size+1,7,none⟩))∧W=w') ?_ (fun v W h=>?_)
           ·go_simp
            all_goals(try exact⟨rfl,rfl⟩)
           ·obtain⟨h,rfl⟩:=h
            exact⟨Below.refl _ _,h⟩
          ·obtain rfl:=oi ho
           clear hgd
           have h219:a'.tmps[219]?.getD undef=.pointer (some ⟨w.heap.size+1,7,none⟩):=gdt (hop 219 (by simp[Op.operands,Call.operands]))
           have k3:=((HK3.out.call HB.out).call hG).cell 7
           simp at k3
           refine Reg4.StepOk.mono (R:=fun v W=>(v=.slice (some ⟨b',off',none⟩) m7 d7)∧W=w') ?_ (fun v W h=>?_)
           ·go_simp
            all_goals(try exact⟨rfl,rfl⟩)
           ·obtain⟨h,rfl⟩:=h
            exact⟨Below.refl _ _,h⟩
          ·obtain rfl:=oi ho
           clear hgd
           have h11:a'.tmps[11]?.getD undef=_:=gdt (hop 11 (by simp[Op.operands,Call.operands]))
           refine Reg4.StepOk.mono (R:=fun v W=>(v=.int .i64 j)∧W=w') ?_ (fun v W h=>?_)
           ·go_simp
            all_goals(try exact⟨rfl,rfl⟩)
           ·obtain⟨h,rfl⟩:=h
            exact⟨Below.refl _ _,h⟩
          ·obtain rfl:=oi ho
           clear hgd
           have h220:a'.tmps[220]?.getD undef=.slice (some ⟨b',off',none⟩) m7 d7:=gdt (hop 220 (by simp[Op.operands,Call.operands]))
           have h221:a'.tmps[221]?.getD undef=.int .i64 j:=gdt (hop 221 (by simp[Op.operands,Call.operands]))
           refine Reg4.StepOk.mono (R:=fun v W=>(v=.pointer (some ⟨b',off'+j*11,none⟩))∧W=w') ?_ (fun v W h=>?_)
           ·go_simp
            all_goals(try exact⟨rfl,rfl⟩)
           ·obtain⟨h,rfl⟩:=h
            exact⟨Below.refl _ _,h⟩
          ·obtain rfl:=oi ho
           clear hgd
           have h222:a'.tmps[222]?.getD undef=.pointer (some ⟨b',off'+j*11,none⟩):=gdt (hop 222 (by simp[Op.operands,Call.operands]))
           refine Reg4.StepOk.mono (R:=fun v W=>(v=.pointer (some ⟨b',off'+j*11+9,none⟩))∧W=w') ?_ (fun v W h=>?_)
           ·go_simp
            all_goals(try exact⟨rfl,rfl⟩)
           ·obtain⟨h,rfl⟩:=h
            exact⟨Below.refl _ _,h⟩
          ·obtain rfl:=oi ho
           clear hgd
           have h223:a'.tmps[223]?.getD undef=.pointer (some ⟨b',off'+j*11+9,none⟩):=gdt (hop 223 (by simp[Op.operands,Call.operands]))
           have c9:=HCL'.out _ (below_call (below_call HB1.out HB.out) hG) 9 _ rfl
           refine Reg4.StepOk.mono (R:=fun v W=>(v=.bool ub9)∧W=w') ?_ (fun v W h=>?_)
           ·go_simp
            all_goals(try exact⟨rfl,rfl⟩)
           ·obtain⟨h,rfl⟩:=h
            exact⟨Below.refl _ _,h⟩
          ·obtain rfl:=oi ho
           clear hgd
           have h218:a'.tmps[218]?.getD undef=.bool ub9:=gdt (hop 218 (by simp[Op.operands,Call.operands]))
           have h224:a'.tmps[224]?.getD undef=.bool ub9:=gdt (hop 224 (by simp[Op.operands,Call.operands]))
           refine Reg4.StepOk.mono (R:=fun v W=>(v=.bool false)∧W=w') ?_ (fun v W h=>?_)
           ·go_simp
            all_goals(try exact⟨rfl,rfl⟩)
           ·obtain⟨h,rfl⟩:=h
            exact⟨Below.refl _ _,h⟩
          ·obtain rfl:=oi ho
           clear hgd
           have h212:a'.tmps[212]?.getD undef=.bool false:=gdt (hop 212 (by simp[Op.operands,Call.operands]))
           have h225:a'.tmps[225]?.getD undef=.bool false:=gdt (hop 225 (by simp[Op.operands,Call.operands]))
           refine Reg4.StepOk.mono (R:=fun v W=>(v=.bool false)∧W=w') ?_ (fun v W h=>?_)
           ·go_simp
            all_goals(try exact⟨rfl,rfl⟩)
           ·obtain⟨h,rfl⟩:=h
            exact⟨Below.refl _ _,h⟩
         ·intro idx o hj ho j b hg v W hv hne
          have hj':idx=0∨idx=1∨idx=2∨idx=3∨idx=4∨idx=5∨idx=6∨idx=7∨idx=8∨idx=9∨idx=10∨idx=11∨idx=12∨idx=13∨idx=14∨idx=15∨idx=16∨idx=17∨idx=18∨idx=19∨idx=20∨idx=21∨idx=22∨idx=23∨idx=24∨idx=25∨idx=26:=by omega
          clear hj
          rcases hj' with rfl|rfl|rfl|rfl|rfl|rfl|rfl|rfl|rfl|rfl|rfl|rfl|rfl|rfl|rfl|rfl|rfl|rfl|rfl|rfl|rfl|rfl|rfl|rfl|rfl|rfl|rfl
          ·obtain rfl:=oi ho
           cases hg
          ·obtain rfl:=oi ho
           cases hg
          ·obtain rfl:=oi ho
           cases hg
          ·obtain rfl:=oi ho
           cases hg
          ·obtain rfl:=oi ho
           cases hg
          ·obtain rfl:=oi ho
           cases hg
          ·obtain rfl:=oi ho
           cases hg
          ·obtain rfl:=oi ho
           cases hg
          ·obtain rfl:=oi ho
           cases hg
          ·obtain rfl:=oi ho
           cases hg
          ·obtain rfl:=oi ho
           cases hg
          ·obtain rfl:=oi ho
           cases hg
          ·obtain rfl:=oi ho
           cases hg
          ·obtain rfl:=oi ho
           obtain⟨rfl,rfl⟩:=Prod.mk.inj (oi hg)
           have hv:v=.bool false:=hv
           subst hv
           exact absurd rfl hne
          ·obtain rfl:=oi ho
           obtain⟨rfl,rfl⟩:=Prod.mk.inj (oi hg)
           have hv:v=.bool false:=hv
           subst hv
           exact absurd rfl hne
          ·obtain rfl:=oi ho
           obtain⟨rfl,rfl⟩:=Prod.mk.inj (oi hg)
           have hv:v=.bool false:=hv
           subst hv
           exact absurd rfl hne
          ·obtain rfl:=oi ho
           obtain⟨rfl,rfl⟩:=Prod.mk.inj (oi hg)
           have hv:v=.bool false:=hv
           subst hv
           exact absurd rfl hne
          ·obtain rfl:=oi ho
           obtain⟨rfl,rfl⟩:=Prod.mk.inj (oi hg)
           have hv:v=.bool false:=hv
           subst hv
           exact absurd rfl hne
          ·obtain rfl:=oi ho
           obtain⟨rfl,rfl⟩:=Prod.mk.inj (oi hg)
           have hv:v=.bool false:=hv
           subst hv
           exact absurd rfl hne
          ·obtain rfl:=oi ho
           obtain⟨rfl,rfl⟩:=Prod.mk.inj (oi hg)
           have hv:v=.bool false:=hv
           subst hv
           exact absurd rfl hne
          ·obtain rfl:=oi ho
           obtain⟨rfl,rfl⟩:=Prod.mk.inj (oi hg)
           have hv:v=.bool false:=hv
           subst hv
           exact absurd rfl hne
          ·obtain rfl:=oi ho
           obtain⟨rfl,rfl⟩:=Prod.mk.inj (oi hg)
           have hv:v=.bool false:=hv
           subst hv
           exact absurd rfl hne
          ·obtain rfl:=oi ho
           obtain⟨rfl,rfl⟩:=Prod.mk.inj (oi hg)
           have hv:v=.bool false:=hv
           subst hv
           exact absurd rfl hne
          ·obtain rfl:=oi ho
           obtain⟨rfl,rfl⟩:=Prod.mk.inj (oi hg)
           have hv:v=.bool false:=hv
           subst hv
           exact absurd rfl hne
          ·obtain rfl:=oi ho
           obtain⟨rfl,rfl⟩:=Prod.mk.inj (oi hg)
           have hv:v=.bool false:=hv
           subst hv
           exact absurd rfl hne
          ·obtain rfl:=oi ho
           obtain⟨rfl,rfl⟩:=Prod.mk.inj (oi hg)
           have hv:v=.bool false:=hv
           subst hv
           exact absurd rfl hne
          ·obtain rfl:=oi ho
           cases hg
         ·intro vals w' hG hv
          have hv0:vals 0=.pointer (some ⟨w.heap.size,7,none⟩):=hv 0 (by omega)
          have hv1:vals 1=.slice (some ⟨b,off,none⟩) m7 c7:=hv 1 (by omega)
          have hv2:vals 2=.int .i64 j:=hv 2 (by omega)
          have hv3:vals 3=.pointer (some ⟨b,off+j*11,none⟩):=hv 3 (by omega)
          have hv4:vals 4=.agg #[.string t0,.string us1,.int .i64 un2,.string us3,.int .i64 un4,.int .i64 un5,.slice uA6 um6 uc6,.int .i64 un7,.int .i64 un8,.bool ub9,.bool ub10]:=hv 4 (by omega)
          have hv5:vals 5=.pointer (some ⟨w.heap.size+1,7,none⟩):=hv 5 (by omega)
          have hv6:vals 6=.slice (some ⟨b',off',none⟩) m7 d7:=hv 6 (by omega)
          have hv7:vals 7=.int .i64 j:=hv 7 (by omega)
          have hv8:vals 8=.pointer (some ⟨b',off'+j*11,none⟩):=hv 8 (by omega)
          have hv9:vals 9=.agg #[.string t0,.string us1,.int .i64 un2,.string us3,.int .i64 un4,.int .i64 un5,.slice uB6 um6 ud6,.int .i64 un7,.int .i64 un8,.bool ub9,.bool ub10]:=hv 9 (by omega)
          have hv10:vals 10=.bool true:=hv 10 (by omega)
          have hv11:vals 11=.bool false:=hv 11 (by omega)
          have hv12:vals 12=.bool false:=hv 12 (by omega)
          have hv13:vals 13=.pointer (some ⟨w.heap.size,7,none⟩):=hv 13 (by omega)
          have hv14:vals 14=.slice (some ⟨b,off,none⟩) m7 c7:=hv 14 (by omega)
          have hv15:vals 15=.int .i64 j:=hv 15 (by omega)
          have hv16:vals 16=.pointer (some ⟨b,off+j*11,none⟩):=hv 16 (by omega)
          have hv17:vals 17=.pointer (some ⟨b,off+j*11+9,none⟩):=hv 17 (by omega)
          have hv18:vals 18=.bool ub9:=hv 18 (by omega)
          have hv19:vals 19=.pointer (some ⟨w.heap.size+1,7,none⟩):=hv 19 (by omega)
          have hv20:vals 20=.slice (some ⟨b',off',none⟩) m7 d7:=hv 20 (by omega)
          have hv21:vals 21=.int .i64 j:=hv 21 (by omega)
          have hv22:vals 22=.pointer (some ⟨b',off'+j*11,none⟩):=hv 22 (by omega)
          have hv23:vals 23=.pointer (some ⟨b',off'+j*11+9,none⟩):=hv 23 (by omega)
          have hv24:vals 24=.bool ub9:=hv 24 (by omega)
          have hv25:vals 25=.bool false:=hv 25 (by omega)
          have hv26:vals 26=.bool false:=hv 26 (by omega)
          simp only[Reg4.puts,Reg4.dstOf,List.range,List.range.loop,if_true,List.drop_succ_cons,List.drop_zero,hv0,hv1,hv2,hv3,hv4,hv5,hv6,hv7,hv8,hv9,hv10,hv11,hv12,hv13,hv14,hv15,hv16,hv17,hv18,hv19,hv20,hv21,hv22,hv23,hv24,hv25,hv26]
          clear hv hv0 hv1 hv2 hv3 hv4 hv5 hv6 hv7 hv8 hv9 hv10 hv11 hv12 hv13 hv14 hv15 hv16 hv17 hv18 hv19 hv20 hv21 hv22 hv23 hv24 hv25 hv26
          simp[Act.put]
          have HB3:Hid (Below w1.heap.size w1 w'):=below_call HB.out hG
          go_wp2_with fail
          go_roundg (m7-(j+1))
          case measure=>omega
          case rel=>exact⟨j+1,by omega,by simp,HB3⟩
        ·have hjn':m7=j:=by omega
         subst hjn'
         have k2:=(HK2.out.call HB.out).cell
         have k3:=(HK3.out.call HB.out).cell
         go_wp2_with fail
         clear k2 k3
         go_loopg [231] m8 (fun gg s231 wr=>∃j:Nat,j+gg=m8∧s231=.int .i64 j∧Hid (Below w1.heap.size w1 wr))
         case atStart=>exact⟨0,by omega,rfl,HB⟩
         case round=>
          clear HB
          obtain⟨j,hj,rfl,HB⟩:=hrel
          by_cases hjn:j<m8
          ·have k2:=(HK2.out.call HB.out).cell 8
           have k3:=(HK3.out.call HB.out).cell 8
           simp at k2 k3
           obtain⟨b,off,rfl,hcl⟩:=G8.out j hjn
           obtain⟨b',off',rfl,hcl'⟩:=G8'.out j hjn
           obtain⟨l0,l1,l2,l3,l4,l5,hfj⟩:=GL.out j hjn
           have hcw:=hcl wr (below_call HB1.out HB.out)
           have hcw':=hcl' wr (below_call HB1.out HB.out)
           rw[hfj] at hcw hcw'
           have h0:wr.cell? ⟨b,off+j*6,none⟩=some (.int .i64 l0):=by simpa using hcw 0 _ rfl
           have h1:wr.cell? ⟨b,off+j*6+1,none⟩=_:=hcw 1 _ rfl
           have h2:wr.cell? ⟨b,off+j*6+2,none⟩=_:=hcw 2 _ rfl
           have h3:wr.cell? ⟨b,off+j*6+3,none⟩=_:=hcw 3 _ rfl
           have h4:wr.cell? ⟨b,off+j*6+4,none⟩=_:=hcw 4 _ rfl
           have h5:wr.cell? ⟨b,off+j*6+5,none⟩=_:=hcw 5 _ rfl
           have i0:wr.cell? ⟨b',off'+j*6,none⟩=some (.int .i64 l0):=by simpa using hcw' 0 _ rfl
           have i1:wr.cell? ⟨b',off'+j*6+1,none⟩=_:=hcw' 1 _ rfl
           have i2:wr.cell? ⟨b',off'+j*6+2,none⟩=_:=hcw' 2 _ rfl
           have i3:wr.cell? ⟨b',off'+j*6+3,none⟩=_:=hcw' 3 _ rfl
           have i4:wr.cell? ⟨b',off'+j*6+4,none⟩=_:=hcw' 4 _ rfl
           have i5:wr.cell? ⟨b',off'+j*6+5,none⟩=_:=hcw' 5 _ rfl
           clear hcl hcw hcl' hcw' hfj
           have hltz:(j:Int)<(m8:Int):=by omega
           have hj0:(0:Int)≤(j:Int):=by omega
           have e4:IntKind.i64.wrap ((j:Int)+1)=((j+1:Nat):Int):=by simp[IntKind.wrap,IntKind.bits,IntKind.signed];omega
           go_wp2_with fail
           go_quiet (fail)
           go_wp2_with fail
           go_roundg (m8-(j+1))
           case measure=>omega
           case rel=>exact⟨j+1,by omega,by simp,Lib.hid (by have:=HB.out;first|assumption|exact below_drewN' this _|(exact Below.trans HB.out (Below.mono (by assumption) (HB.out.size))))⟩
          ·have hjn':m8=j:=by omega
           subst hjn'
           have k2:=(HK2.out.call HB.out).cell
           have k3:=(HK3.out.call HB.out).cell
           go_wp2_with fail
           go_ret
           exact⟨rfl,below_call HB1.out HB.out⟩
end
end Sy
end Go.Proofs.YtmadfhgiaonnlaaGreatDoor
