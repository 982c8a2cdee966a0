import Derived.Test.YtmadfhgiaonnlaaGreatDoorPk20
set_option linter.unusedVariables false
set_option linter.unusedSimpArgs false
namespace Go.Proofs.YtmadfhgiaonnlaaGreatDoor
namespace Sy
open Go.RowKit
section
variable{W0:World}{T:Nat→Prop}{w:World}
theorem center_cells{b off:Nat}{base:Nat}(hw:WT cx.tb W0 T w)(hp:PV cx.tb W0 T w base 1 80 (.pointer (some ⟨b,off,none⟩))) :
  ∃(b2 off2 m c:Nat) (n:Int),w.cell? ⟨b,off+1,none⟩=some (.slice (some ⟨b2,off2,none⟩) m c)∧w.cell? ⟨b,off+13,none⟩=some (.int .i64 n)∧0≤n∧n<m∧m≤63∧CV cx.tb W0 T w 0 (.sl 1 84 63) (.slice (some ⟨b2,off2,none⟩) m c):=by
 have hfl:cx.tb.flat 80=some [full .i64,.sl 1 84 63,.sl 1 34 128,.sl 0 123 1048576,.sl 0 3 1048576,full .i64,.sl 1 95 8192,.sl 1 98 1024,.cs 0 69 8192,.sl 1 133 1048576,.sl 0 138 1048576,full .i64,full .i64,.idx 12]:=rfl
 have h0:=hp
 obtain⟨b',o',e,hp⟩:=hp
 injection e with e;injection e with e;injection e with e1 e2 e3
 subst e1;subst e2
 rcases hp with⟨h,-⟩|⟨hT,-,te,⟨cs,fr,hr,hsz⟩,hct⟩
 ·omega
 ·have hsz':off+14≤cs.size:=by simpa[Tab.sz,hfl] using hsz
  have hk:∀k ct,([full .i64,.sl 1 84 63,.sl 1 34 128,.sl 0 123 1048576,.sl 0 3 1048576,full .i64,.sl 1 95 8192,.sl 1 98 1024,.cs 0 69 8192,.sl 1 133 1048576,.sl 0 138 1048576,full .i64,full .i64,.idx 12]:List CT)[k]? = some ct→cx.tb.ctAt te (off+k)=some ct:=fun k ct h=>hct k ct (by rw[hfl];exact h)
  obtain⟨cs2,e2,fr2,l,q1,q2,q3,q4,q5⟩:=hw.typed b hT
  rw[hr] at q1
  injection q1 with q1;injection q1 with r1 r2 r3
  subst r1;subst r2;subst r3
  have hl:∀i,cx.tb.ctAt te i=l[i%l.length]?:=fun i=>by simp[Tab.ctAt,q3]
  have k13:=hk 13 _ rfl
  have k1:=hk 1 _ rfl
  rw[hl] at k13 k1
  obtain⟨-,-,n,A,m,c,x1,x2,x3,x4⟩:=hw.ix b hT cs te fr l hr q3 (off+13) 12 (by omega) k13
  rw[show off+13-12=off+1 by omega] at x3
  obtain⟨ct,y1,y2⟩:=q5 (off+1) _ x3
  rw[k1] at y1
  cases y1
  have hcell:∀i,w.cell? ⟨b,i,none⟩=cs[i]?:=fun i=>cell_of_row w b i cs te fr hr
  have hA:∃b2 off2,A=some ⟨b2,off2,none⟩∧m≤63:=by
   rcases y2 with h|⟨h,-⟩|⟨b2,off2,n',c',h,-,hlb,-⟩
   ·injection h with h1 h2 h3;omega
   ·omega
   ·injection h with h1 h2 h3;exact⟨b2,off2,h1,by omega⟩
  obtain⟨b2,off2,rfl,hm⟩:=hA
  exact⟨b2,off2,m,c,n,by rw[hcell];exact x3,by rw[hcell];exact x1,x2,x4,hm,y2⟩
set_option maxRecDepth 100000 in
set_option maxHeartbeats 4000000 in
theorem known_walk{b off b2 off2 m c:Nat}{n:Int}(h1:w.cell? ⟨b,off+1,none⟩=some (.slice (some ⟨b2,off2,none⟩) m c))(h2:w.cell? ⟨b,off+13,none⟩=some (.int .i64 n))(h3:0≤n)(h4:n<m)(h5:m≤63) :
  Calls Tryz.prog 21 #[.pointer (some ⟨b,off,none⟩)] w fun e w'=>e=.returned (.pointer (some ⟨b2,off2+n.toNat*13,none⟩))∧∃k,w'=w.drewN k:=by
 have c1:∀k,(w.drewN k).cell? ⟨b,off+1,none⟩=some (.slice (some ⟨b2,off2,none⟩) m c):=fun k=>h1
 have c2:∀k,(w.drewN k).cell? ⟨b,off+13,none⟩=some (.int .i64 n):=fun k=>h2
 go_enter Tryz.func21,Tryz.ntmps21
 have g1:Tryz.prog.underlying 38=some (.slice 84):=by kernel_rfl
 obtain⟨k,rfl⟩:∃k:Nat,n=k:=⟨n.toNat,by omega⟩
 have h4':k<m:=by omega
 go_wp2
 go_quiet (fail)
 go_wp2
 go_ret
 exact⟨rfl,_,rfl⟩
def c21':Ctr:=⟨[.one (.pt 1 80)],[],[.one (.pt 1 84)],[],true,none⟩
theorem wt_drewN(h:WT cx.tb W0 T w)(k:Nat):WT cx.tb W0 T (w.drewN k)∧Ext T w T (w.drewN k):=
 h.frame (Nat.le_refl _) (fun _ _=>rfl) (fun _ _=>rfl) (fun _ _ _ h=>h)
theorem known_holds:Holds Tryz.prog cx W0 21 c21':=by
 refine⟨⟨_,Tryz.func21,by kernel_rfl,by kernel_rfl⟩,fun T w args hw hty _=>?_⟩
 obtain⟨v,rfl⟩:∃v,args=#[v]:=by
  have:=yt hty
  obtain⟨l⟩:=args
  rcases l with _|⟨v,_|⟨u,l⟩⟩
  ·cases this
  ·exact⟨v,rfl⟩
  ·simp[c21'] at this
 have hp:PV cx.tb W0 T w w.heap.size 1 80 v:=hty.1
 obtain⟨b,off,rfl,-⟩:=id hp
 obtain⟨b2,off2,m,c,n,h1,h2,h3,h4,h5,h6⟩:=center_cells hw hp
 refine(known_walk h1 h2 h3 h4 h5).mono ?_
 rintro e w' ⟨rfl,k,rfl⟩
 obtain⟨d1,d2⟩:=wt_drewN hw k
 have hel:=(h6.elem (i:=n.toNat) (by omega)).mono d2 (Nat.le_refl _)
 have hsz:cx.tb.sz 84=13:=rfl
 rw[hsz] at hel
 refine⟨_,[_],T,rfl,rfl,⟨CV.rebase hel rfl w.heap.size,trivial⟩,(fun l hl=>by cases hl),(fun e he=>by cases he),⟨d2,fun _ h=>.inl h,Nat.le_refl _,rfl,rfl,rfl,fun _ _ _=>rfl⟩,d1⟩
theorem hand21:Holds Tryz.prog cx W0 21 c21:=by
 have e:c21=c21':=by kernel_rfl
 rw[e];exact known_holds
end
set_option maxRecDepth 100000
section
variable{W0:World}
theorem h81(hT:Tab10 W0):Holds Tryz.prog cx W0 81 c81:=qx cxOk (qy (h108 hT) (by kernel_rfl) <| qy (h109 hT) (by kernel_rfl) <| qj) mixed (fn:=Tryz.f81) [] (by kernel_rfl) (by kernel_rfl)
theorem h44(hT:Tab10 W0):Holds Tryz.prog cx W0 44 c44:=qx cxOk (qy (h47 hT) (by kernel_rfl) <| qy (h81 hT) (by kernel_rfl) <| qj) mixed (fn:=Tryz.f44) [] (by kernel_rfl) (by kernel_rfl)
theorem h43(hT:Tab10 W0):Holds Tryz.prog cx W0 43 c43:=qx cxOk (qy (h44 hT) (by kernel_rfl) <| qj) mixed (fn:=Tryz.f43) [⟨[(13,(full .i64))],[],[⟨0,[(1,0),(-1,13)]⟩,⟨0,[(1,13)]⟩,⟨1,[(1,13)]⟩,⟨0,[(1,5),(-1,13)]⟩,⟨0,[(1,8),(-1,13)]⟩,⟨0,[(1,9),(-1,13)]⟩,⟨0,[(1,10),(-1,13)]⟩,⟨0,[(1,11),(-1,13)]⟩,⟨0,[(1,12),(-1,13)]⟩],⟨0,[(1,0),(-1,13)]⟩⟩] (by kernel_rfl) (by kernel_rfl)
theorem h46(hT:Tab10 W0):Holds Tryz.prog cx W0 46 c46:=qx cxOk (qj) mixed (fn:=Tryz.f46) [] (by kernel_rfl) (by kernel_rfl)
theorem h49(hT:Tab10 W0):Holds Tryz.prog cx W0 49 c49:=qx cxOk (qy (h82 hT) (by kernel_rfl) <| qj) mixed (fn:=Tryz.f49) [] (by kernel_rfl) (by kernel_rfl)
theorem h48(hT:Tab10 W0):Holds Tryz.prog cx W0 48 c48:=qx cxOk (qy (h49 hT) (by kernel_rfl) <| qj) mixed (fn:=Tryz.f48) [⟨[(13,(full .i64))],[],[⟨0,[(1,0),(-1,13)]⟩,⟨0,[(1,13)]⟩,⟨1,[(1,13)]⟩,⟨0,[(1,5),(-1,13)]⟩,⟨0,[(1,8),(-1,13)]⟩,⟨0,[(1,9),(-1,13)]⟩,⟨0,[(1,10),(-1,13)]⟩,⟨0,[(1,11),(-1,13)]⟩,⟨0,[(1,12),(-1,13)]⟩],⟨0,[(1,0),(-1,13)]⟩⟩] (by kernel_rfl) (by kernel_rfl)
theorem h51(hT:Tab10 W0):Holds Tryz.prog cx W0 51 c51:=qx cxOk (qy (h82 hT) (by kernel_rfl) <| qj) mixed (fn:=Tryz.f51) [] (by kernel_rfl) (by kernel_rfl)
theorem h50(hT:Tab10 W0):Holds Tryz.prog cx W0 50 c50:=qx cxOk (qy (h51 hT) (by kernel_rfl) <| qj) mixed (fn:=Tryz.f50) [⟨[(13,(full .i64))],[],[⟨0,[(1,0),(-1,13)]⟩,⟨0,[(1,13)]⟩,⟨1,[(1,13)]⟩,⟨0,[(1,5),(-1,13)]⟩,⟨0,[(1,8),(-1,13)]⟩,⟨0,[(1,9),(-1,13)]⟩,⟨0,[(1,10),(-1,13)]⟩,⟨0,[(1,11),(-1,13)]⟩,⟨0,[(1,12),(-1,13)]⟩],⟨0,[(1,0),(-1,13)]⟩⟩] (by kernel_rfl) (by kernel_rfl)
theorem h52(hT:Tab10 W0):Holds Tryz.prog cx W0 52 c52:=qx cxOk (qj) mixed (fn:=Tryz.f52) [] (by kernel_rfl) (by kernel_rfl)
theorem h85(hT:Tab10 W0):Holds Tryz.prog cx W0 85 c85:=qx cxOk (qj) mixed (fn:=Tryz.f85) [] (by kernel_rfl) (by kernel_rfl)
theorem h84(hT:Tab10 W0):Holds Tryz.prog cx W0 84 c84:=qx cxOk (qy (h85 hT) (by kernel_rfl) <| qj) mixed (fn:=Tryz.f84) [] (by kernel_rfl) (by kernel_rfl)
theorem h83(hT:Tab10 W0):Holds Tryz.prog cx W0 83 c83:=qx cxOk (qy (h84 hT) (by kernel_rfl) <| qj) mixed (fn:=Tryz.f83) [⟨[(13,(full .i64))],[],[⟨0,[(1,0),(-1,13)]⟩,⟨0,[(1,13)]⟩,⟨1,[(1,13)]⟩,⟨0,[(1,5),(-1,13)]⟩,⟨0,[(1,8),(-1,13)]⟩,⟨0,[(1,9),(-1,13)]⟩,⟨0,[(1,10),(-1,13)]⟩,⟨0,[(1,11),(-1,13)]⟩,⟨0,[(1,12),(-1,13)]⟩],⟨0,[(1,0),(-1,13)]⟩⟩] (by kernel_rfl) (by kernel_rfl)
theorem h54(hT:Tab10 W0):Holds Tryz.prog cx W0 54 c54:=qx cxOk (qy (h83 hT) (by kernel_rfl) <| qy (h84 hT) (by kernel_rfl) <| qj) mixed (fn:=Tryz.f54) [] (by kernel_rfl) (by kernel_rfl)
theorem h53(hT:Tab10 W0):Holds Tryz.prog cx W0 53 c53:=qx cxOk (qy (h54 hT) (by kernel_rfl) <| qj) mixed (fn:=Tryz.f53) [⟨[(13,(full .i64))],[],[⟨0,[(1,0),(-1,13)]⟩,⟨0,[(1,13)]⟩,⟨1,[(1,13)]⟩,⟨0,[(1,5),(-1,13)]⟩,⟨0,[(1,8),(-1,13)]⟩,⟨0,[(1,9),(-1,13)]⟩,⟨0,[(1,10),(-1,13)]⟩,⟨0,[(1,11),(-1,13)]⟩,⟨0,[(1,12),(-1,13)]⟩],⟨0,[(1,0),(-1,13)]⟩⟩] (by kernel_rfl) (by kernel_rfl)
theorem h57(hT:Tab10 W0):Holds Tryz.prog cx W0 57 c57:=qx cxOk (qj) mixed (fn:=Tryz.f57) [] (by kernel_rfl) (by kernel_rfl)
theorem h56(hT:Tab10 W0):Holds Tryz.prog cx W0 56 c56:=qx cxOk (qy (h57 hT) (by kernel_rfl) <| qj) mixed (fn:=Tryz.f56) [] (by kernel_rfl) (by kernel_rfl)
theorem h55(hT:Tab10 W0):Holds Tryz.prog cx W0 55 c55:=qx cxOk (qy (h56 hT) (by kernel_rfl) <| qj) mixed (fn:=Tryz.f55) [⟨[(13,(full .i64))],[],[⟨0,[(1,0),(-1,13)]⟩,⟨0,[(1,13)]⟩,⟨1,[(1,13)]⟩,⟨0,[(1,5),(-1,13)]⟩,⟨0,[(1,8),(-1,13)]⟩,⟨0,[(1,9),(-1,13)]⟩,⟨0,[(1,10),(-1,13)]⟩,⟨0,[(1,11),(-1,13)]⟩,⟨0,[(1,12),(-1,13)]⟩],⟨0,[(1,0),(-1,13)]⟩⟩] (by kernel_rfl) (by kernel_rfl)
theorem h20(hT:Tab10 W0):Holds Tryz.prog cx W0 20 c20:=qx cxOk (qy (h43 hT) (by kernel_rfl) <| qy (h44 hT) (by kernel_rfl) <| qy (h45 hT) (by kernel_rfl) <| qy (h46 hT) (by kernel_rfl) <| qy (h47 hT) (by kernel_rfl) <| qy (h48 hT) (by kernel_rfl) <| qy (h49 hT) (by kernel_rfl) <| qy (h50 hT) (by kernel_rfl) <| qy (h51 hT) (by kernel_rfl) <| qy (h52 hT) (by kernel_rfl) <| qy (h53 hT) (by kernel_rfl) <| qy (h54 hT) (by kernel_rfl) <| qy (h55 hT) (by kernel_rfl) <| qy (h56 hT) (by kernel_rfl) <| qj) mixed (fn:=Tryz.f20) [] (by kernel_rfl) (by kernel_rfl)
theorem h21(hT:Tab10 W0):Holds Tryz.prog cx W0 21 c21:=hand21
theorem h58(hT:Tab10 W0):Holds Tryz.prog cx W0 58 c58:=qx cxOk (qj) mixed (fn:=Tryz.f58) [] (by kernel_rfl) (by kernel_rfl)
theorem h86(hT:Tab10 W0):Holds Tryz.prog cx W0 86 c86:=qx cxOk (qj) mixed (fn:=Tryz.f86) [] (by kernel_rfl) (by kernel_rfl)
theorem h87(hT:Tab10 W0):Holds Tryz.prog cx W0 87 c87:=qx cxOk (qj) mixed (fn:=Tryz.f87) [] (by kernel_rfl) (by kernel_rfl)
theorem h88(hT:Tab10 W0):Holds Tryz.prog cx W0 88 c88:=qx cxOk (qj) mixed (fn:=Tryz.f88) [] (by kernel_rfl) (by kernel_rfl)
theorem h60(hT:Tab10 W0):Holds Tryz.prog cx W0 60 c60:=qx cxOk (qy (h86 hT) (by kernel_rfl) <| qy (h87 hT) (by kernel_rfl) <| qy (h88 hT) (by kernel_rfl) <| qj) mixed (fn:=Tryz.f60) [⟨[(3,(.sl 2 31 LM)),(11,(full .i64))],[],[⟨0,[(1,0),(-1,11)]⟩,⟨0,[(1,11)]⟩,⟨1,[(1,11)]⟩,⟨0,[(-1,3),(1,11)]⟩,⟨0,[(1,3),(-1,11)]⟩,⟨0,[(1,6),(-1,11)]⟩,⟨0,[(1,7),(-1,11)]⟩,⟨0,[(1,9),(-1,11)]⟩,⟨0,[(1,10),(-1,11)]⟩],⟨0,[(1,0),(-1,11)]⟩⟩] (by kernel_rfl) (by kernel_rfl)
theorem h59(hT:Tab10 W0):Holds Tryz.prog cx W0 59 c59:=qx cxOk (qy (h60 hT) (by kernel_rfl) <| qj) mixed (fn:=Tryz.f59) [] (by kernel_rfl) (by kernel_rfl)
end
set_option maxRecDepth 100000
section
variable{W0:World}
theorem h90(hT:Tab10 W0):Holds Tryz.prog cx W0 90 c90:=qx cxOk (qj) mixed (fn:=Tryz.f90) [] (by kernel_rfl) (by kernel_rfl)
theorem h110(hT:Tab10 W0):Holds Tryz.prog cx W0 110 c110:=qx cxOk (qy (h90 hT) (by kernel_rfl) <| qj) mixed (fn:=Tryz.f110) [⟨[(4,(full .i64)),(8,(full .i64))],[],[⟨0,[(1,0),(-1,8)]⟩,⟨0,[(1,4)]⟩,⟨1,[(1,4)]⟩,⟨0,[(1,8)]⟩,⟨1,[(1,8)]⟩,⟨0,[(-1,4),(1,8)]⟩,⟨0,[(1,0),(-1,4)]⟩,⟨0,[(-1,4),(1,6)]⟩,⟨0,[(-1,4),(1,7)]⟩,⟨0,[(1,6),(-1,8)]⟩,⟨0,[(1,7),(-1,8)]⟩],⟨0,[(1,0),(-1,8)]⟩⟩] (by kernel_rfl) (by kernel_rfl)
theorem h89(hT:Tab10 W0):Holds Tryz.prog cx W0 89 c89:=qx cxOk (qy (h90 hT) (by kernel_rfl) <| qy (h110 hT) (by kernel_rfl) <| qj) mixed (fn:=Tryz.f89) [] (by kernel_rfl) (by kernel_rfl)
theorem h61(hT:Tab10 W0):Holds Tryz.prog cx W0 61 c61:=qx cxOk (qy (h89 hT) (by kernel_rfl) <| qy (h90 hT) (by kernel_rfl) <| qj) mixed (fn:=Tryz.f61) [] (by kernel_rfl) (by kernel_rfl)
theorem h22(hT:Tab10 W0):Holds Tryz.prog cx W0 22 c22:=qx cxOk (qy (h58 hT) (by kernel_rfl) <| qy (h59 hT) (by kernel_rfl) <| qy (h60 hT) (by kernel_rfl) <| qy (h61 hT) (by kernel_rfl) <| qj) mixed (fn:=Tryz.f22) [⟨[(5,(.sl 2 31 LM)),(6,(.sl 2 31 LM)),(7,(.sl 2 31 LM)),(58,(full .i64))],[],[⟨0,[(1,58)]⟩,⟨1,[(1,58)]⟩,⟨0,[(-1,5),(1,58)]⟩,⟨0,[(-1,6),(1,58)]⟩,⟨0,[(-1,7),(1,58)]⟩],⟨0,[(1,56),(-1,58)]⟩⟩] (by kernel_rfl) (by kernel_rfl)
theorem h23(hT:Tab10 W0):Holds Tryz.prog cx W0 23 c23:=qx cxOk (qy (h21 hT) (by kernel_rfl) <| qj) mixed (fn:=Tryz.f23) [] (by kernel_rfl) (by kernel_rfl)
theorem h62(hT:Tab10 W0):Holds Tryz.prog cx W0 62 c62:=qx cxOk (qj) mixed (fn:=Tryz.f62) [] (by kernel_rfl) (by kernel_rfl)
theorem h111(hT:Tab10 W0):Holds Tryz.prog cx W0 111 c111:=qx cxOk (qj) mixed (fn:=Tryz.f111) [] (by kernel_rfl) (by kernel_rfl)
theorem h91(hT:Tab10 W0):Holds Tryz.prog cx W0 91 c91:=qx cxOk (qy (h21 hT) (by kernel_rfl) <| qy (h111 hT) (by kernel_rfl) <| qj) mixed (fn:=Tryz.f91) [] (by kernel_rfl) (by kernel_rfl)
theorem h92(hT:Tab10 W0):Holds Tryz.prog cx W0 92 c92:=qx cxOk (qy (h111 hT) (by kernel_rfl) <| qj) mixed (fn:=Tryz.f92) [] (by kernel_rfl) (by kernel_rfl)
theorem h112(hT:Tab10 W0):Holds Tryz.prog cx W0 112 c112:=qx cxOk (qj) mixed (fn:=Tryz.f112) [] (by kernel_rfl) (by kernel_rfl)
theorem h93(hT:Tab10 W0):Holds Tryz.prog cx W0 93 c93:=qx cxOk (qy (h21 hT) (by kernel_rfl) <| qy (h62 hT) (by kernel_rfl) <| qy (h111 hT) (by kernel_rfl) <| qy (h112 hT) (by kernel_rfl) <| qj) mixed (fn:=Tryz.f93) [] (by kernel_rfl) (by kernel_rfl)
theorem h126(hT:Tab10 W0):Holds Tryz.prog cx W0 126 c126:=qx cxOk (qj) mixed (fn:=Tryz.f126) [] (by kernel_rfl) (by kernel_rfl)
theorem h104(hT:Tab10 W0):Holds Tryz.prog cx W0 104 c104:=qx cxOk (qy (h126 hT) (by kernel_rfl) <| qj) mixed (fn:=Tryz.f104) [⟨[(4,.bool),(13,(full .i64))],[],[⟨0,[(1,0),(-1,13)]⟩,⟨0,[(1,13)]⟩,⟨1,[(1,13)]⟩,⟨0,[(1,1),(-1,13)]⟩,⟨0,[(1,6),(-1,13)]⟩,⟨0,[(1,7),(-1,13)]⟩,⟨0,[(1,8),(-1,13)]⟩,⟨0,[(1,9),(-1,13)]⟩,⟨0,[(1,11),(-1,13)]⟩,⟨0,[(1,12),(-1,13)]⟩],⟨0,[(1,0),(-1,13)]⟩⟩] (by kernel_rfl) (by kernel_rfl)
theorem h76(hT:Tab10 W0):Holds Tryz.prog cx W0 76 c76:=qx cxOk (qy (h104 hT) (by kernel_rfl) <| qj) mixed (fn:=Tryz.f76) [⟨[(4,(full .i64)),(9,(full .i64))],[],[⟨0,[(1,0),(-1,9)]⟩,⟨0,[(1,4)]⟩,⟨1,[(1,4)]⟩,⟨0,[(1,9)]⟩,⟨1,[(1,9)]⟩,⟨0,[(-1,4),(1,9)]⟩,⟨0,[(1,0),(-1,4)]⟩,⟨0,[(1,1),(-1,4)]⟩,⟨0,[(-1,4),(1,7)]⟩,⟨0,[(-1,4),(1,8)]⟩,⟨0,[(1,7),(-1,9)]⟩,⟨0,[(1,8),(-1,9)]⟩],⟨0,[(1,0),(-1,9)]⟩⟩] (by kernel_rfl) (by kernel_rfl)
theorem h166(hT:Tab10 W0):Holds Tryz.prog cx W0 166 c166:=qx cxOk (qy (h76 hT) (by kernel_rfl) <| qj) mixed (fn:=Tryz.f166) [] (by kernel_rfl) (by kernel_rfl)
theorem h167(hT:Tab10 W0):Holds Tryz.prog cx W0 167 c167:=qx cxOk (qj) mixed (fn:=Tryz.f167) [] (by kernel_rfl) (by kernel_rfl)
theorem h147(hT:Tab10 W0):Holds Tryz.prog cx W0 147 c147:=qx cxOk (qy (h166 hT) (by kernel_rfl) <| qy (h167 hT) (by kernel_rfl) <| qj) mixed (fn:=Tryz.f147) [] (by kernel_rfl) (by kernel_rfl)
theorem h169(hT:Tab10 W0):Holds Tryz.prog cx W0 169 c169:=qx cxOk (qy (h104 hT) (by kernel_rfl) <| qj) mixed (fn:=Tryz.f169) [] (by kernel_rfl) (by kernel_rfl)
theorem h182(hT:Tab10 W0):Holds Tryz.prog cx W0 182 c182:=qx cxOk (qy (h169 hT) (by kernel_rfl) <| qj) mixed (fn:=Tryz.f182) [⟨[(4,(full .i64)),(8,(full .i64))],[],[⟨0,[(1,0),(-1,8)]⟩,⟨0,[(1,4)]⟩,⟨1,[(1,4)]⟩,⟨0,[(1,8)]⟩,⟨1,[(1,8)]⟩,⟨0,[(-1,4),(1,8)]⟩,⟨0,[(1,0),(-1,4)]⟩,⟨0,[(-1,4),(1,6)]⟩,⟨0,[(-1,4),(1,7)]⟩,⟨0,[(1,6),(-1,8)]⟩,⟨0,[(1,7),(-1,8)]⟩],⟨0,[(1,0),(-1,8)]⟩⟩] (by kernel_rfl) (by kernel_rfl)
theorem h168(hT:Tab10 W0):Holds Tryz.prog cx W0 168 c168:=qx cxOk (qy (h169 hT) (by kernel_rfl) <| qy (h182 hT) (by kernel_rfl) <| qj) mixed (fn:=Tryz.f168) [] (by kernel_rfl) (by kernel_rfl)
theorem h148(hT:Tab10 W0):Holds Tryz.prog cx W0 148 c148:=qx cxOk (qy (h168 hT) (by kernel_rfl) <| qy (h169 hT) (by kernel_rfl) <| qj) mixed (fn:=Tryz.f148) [] (by kernel_rfl) (by kernel_rfl)
theorem h130(hT:Tab10 W0):Holds Tryz.prog cx W0 130 c130:=qx cxOk (qy (h147 hT) (by kernel_rfl) <| qy (h148 hT) (by kernel_rfl) <| qj) mixed (fn:=Tryz.f130) [] (by kernel_rfl) (by kernel_rfl)
theorem h131(hT:Tab10 W0):Holds Tryz.prog cx W0 131 c131:=qx cxOk (qj) mixed (fn:=Tryz.f131) [] (by kernel_rfl) (by kernel_rfl)
theorem h129(hT:Tab10 W0):Holds Tryz.prog cx W0 129 c129:=qx cxOk (qy (h130 hT) (by kernel_rfl) <| qy (h131 hT) (by kernel_rfl) <| qj) mixed (fn:=Tryz.f129) [⟨[(9,(full .i64))],[],[⟨0,[(1,0),(-1,9)]⟩,⟨0,[(1,9)]⟩,⟨1,[(1,9)]⟩,⟨0,[(1,7),(-1,9)]⟩,⟨0,[(1,8),(-1,9)]⟩],⟨0,[(1,0),(-1,9)]⟩⟩] (by kernel_rfl) (by kernel_rfl)
end
set_option maxRecDepth 100000
section
variable{W0:World}
theorem h113(hT:Tab10 W0):Holds Tryz.prog cx W0 113 c113:=qx cxOk (qy (h129 hT) (by kernel_rfl) <| qy (h130 hT) (by kernel_rfl) <| qy (h131 hT) (by kernel_rfl) <| qj) mixed (fn:=Tryz.f113) [] (by kernel_rfl) (by kernel_rfl)
theorem h114(hT:Tab10 W0):Holds Tryz.prog cx W0 114 c114:=(by rw[show c114=c114' from by kernel_rfl];exact active_holds)
theorem h94(hT:Tab10 W0):Holds Tryz.prog cx W0 94 c94:=qx cxOk (qy (h111 hT) (by kernel_rfl) <| qy (h113 hT) (by kernel_rfl) <| qy (h114 hT) (by kernel_rfl) <| qj) mixed (fn:=Tryz.f94) [] (by kernel_rfl) (by kernel_rfl)
theorem h132(hT:Tab10 W0):Holds Tryz.prog cx W0 132 c132:=qx cxOk (qj) mixed (fn:=Tryz.f132) [] (by kernel_rfl) (by kernel_rfl)
theorem h149(hT:Tab10 W0):Holds Tryz.prog cx W0 149 c149:=qx cxOk (qy (h29 hT) (by kernel_rfl) <| qj) mixed (fn:=Tryz.f149) [] (by kernel_rfl) (by kernel_rfl)
theorem h150(hT:Tab10 W0):Holds Tryz.prog cx W0 150 c150:=qx cxOk (qj) mixed (fn:=Tryz.f150) [⟨[(2,(full .i64)),(16,(full .i64))],[],[⟨0,[(1,14),(-1,16)]⟩,⟨0,[(1,2)]⟩,⟨1,[(1,2)]⟩,⟨0,[(1,16)]⟩,⟨1,[(1,16)]⟩,⟨0,[(-1,2),(1,16)]⟩,⟨0,[(-1,2),(1,6)]⟩,⟨0,[(-1,2),(1,7)]⟩,⟨0,[(-1,2),(1,10)]⟩,⟨0,[(-1,2),(1,11)]⟩,⟨0,[(-1,2),(1,14)]⟩,⟨0,[(-1,2),(1,15)]⟩,⟨0,[(1,6),(-1,16)]⟩,⟨0,[(1,7),(-1,16)]⟩,⟨0,[(1,10),(-1,16)]⟩,⟨0,[(1,11),(-1,16)]⟩,⟨0,[(1,15),(-1,16)]⟩],⟨0,[(1,14),(-1,16)]⟩⟩] (by kernel_rfl) (by kernel_rfl)
theorem h133(hT:Tab10 W0):Holds Tryz.prog cx W0 133 c133:=qx cxOk (qy (h29 hT) (by kernel_rfl) <| qy (h149 hT) (by kernel_rfl) <| qy (h150 hT) (by kernel_rfl) <| qj) mixed (fn:=Tryz.f133) [] (by kernel_rfl) (by kernel_rfl)
theorem h115(hT:Tab10 W0):Holds Tryz.prog cx W0 115 c115:=qx cxOk (qy (h86 hT) (by kernel_rfl) <| qy (h132 hT) (by kernel_rfl) <| qy (h133 hT) (by kernel_rfl) <| qj) mixed (fn:=Tryz.f115) [] (by kernel_rfl) (by kernel_rfl)
theorem h183(hT:Tab10 W0):Holds Tryz.prog cx W0 183 c183:=qx cxOk (qj) mixed (fn:=Tryz.f183) [⟨[(2,(full .i64)),(8,(full .i64))],[],[⟨0,[(1,0),(-1,8)]⟩,⟨0,[(1,2)]⟩,⟨1,[(1,2)]⟩,⟨0,[(1,8)]⟩,⟨1,[(1,8)]⟩,⟨0,[(-1,2),(1,8)]⟩,⟨0,[(1,0),(-1,2)]⟩,⟨0,[(-1,2),(1,6)]⟩,⟨0,[(-1,2),(1,7)]⟩,⟨0,[(1,6),(-1,8)]⟩,⟨0,[(1,7),(-1,8)]⟩],⟨0,[(1,0),(-1,8)]⟩⟩] (by kernel_rfl) (by kernel_rfl)
theorem h184(hT:Tab10 W0):Holds Tryz.prog cx W0 184 c184:=hand184
theorem h172(hT:Tab10 W0):Holds Tryz.prog cx W0 172 c172:=qx cxOk (qy (h183 hT) (by kernel_rfl) <| qy (h184 hT) (by kernel_rfl) <| qj) mixed (fn:=Tryz.f172) [] (by kernel_rfl) (by kernel_rfl)
theorem h151(hT:Tab10 W0):Holds Tryz.prog cx W0 151 c151:=(by rw[show c151=c151' from by kernel_rfl];exact bounds_holds (h172 hT))
theorem h152(hT:Tab10 W0):Holds Tryz.prog cx W0 152 c152:=(by rw[show c152=c152' from by kernel_rfl];exact index_holds)
theorem h153(hT:Tab10 W0):Holds Tryz.prog cx W0 153 c153:=qx cxOk (qj) mixed (fn:=Tryz.f153) [] (by kernel_rfl) (by kernel_rfl)
theorem h173(hT:Tab10 W0):Holds Tryz.prog cx W0 173 c173:=qx cxOk (qj) mixed (fn:=Tryz.f173) [⟨[(4,.bool),(13,(full .i64))],[],[⟨0,[(1,0),(-1,13)]⟩,⟨0,[(1,13)]⟩,⟨1,[(1,13)]⟩,⟨0,[(1,1),(-1,13)]⟩,⟨0,[(1,6),(-1,13)]⟩,⟨0,[(1,7),(-1,13)]⟩,⟨0,[(1,8),(-1,13)]⟩,⟨0,[(1,9),(-1,13)]⟩,⟨0,[(1,11),(-1,13)]⟩,⟨0,[(1,12),(-1,13)]⟩],⟨0,[(1,0),(-1,13)]⟩⟩] (by kernel_rfl) (by kernel_rfl)
theorem h154(hT:Tab10 W0):Holds Tryz.prog cx W0 154 c154:=qx cxOk (qy (h173 hT) (by kernel_rfl) <| qj) mixed (fn:=Tryz.f154) [] (by kernel_rfl) (by kernel_rfl)
theorem h155(hT:Tab10 W0):Holds Tryz.prog cx W0 155 c155:=qx cxOk (qj) mixed (fn:=Tryz.f155) [] (by kernel_rfl) (by kernel_rfl)
theorem h156(hT:Tab10 W0):Holds Tryz.prog cx W0 156 c156:=qx cxOk (qj) mixed (fn:=Tryz.f156) [⟨[(5,full .i64),(14,full .i64)],[],[⟨0,[(1,14)]⟩,⟨0,[(1,1),(-1,14)]⟩,⟨0,[(1,5)]⟩,⟨0,[(-1,5),(1024,14)]⟩],⟨0,[(1,1),(-1,14)]⟩⟩,⟨[(0,(.sl 1 95 LM)),(8,(.sl 1 156 LM)),(28,full .i64)],[],[⟨0,[(1,28)]⟩,⟨0,[(1,1),(-1,28)]⟩,⟨0,[(-1,8),(1024,28)]⟩,⟨0,[(-1,0),(1,28),(1,1000000)]⟩,⟨0,[(1,0),(-1,28),(-1,1000000)]⟩],⟨0,[(1,1),(-1,28)]⟩⟩] (by kernel_rfl) (by kernel_rfl)
theorem h134(hT:Tab10 W0):Holds Tryz.prog cx W0 134 c134:=qx cxOk (qy (h133 hT) (by kernel_rfl) <| qy (h151 hT) (by kernel_rfl) <| qy (h152 hT) (by kernel_rfl) <| qy (h153 hT) (by kernel_rfl) <| qy (h154 hT) (by kernel_rfl) <| qy (h155 hT) (by kernel_rfl) <| qy (h156 hT) (by kernel_rfl) <| qj) mixed (fn:=Tryz.f134) [⟨[(53,full .i64),(11,full .i64)],[],[⟨0,[(1,53)]⟩,⟨0,[(1,52),(-1,53)]⟩,⟨0,[(1,11)]⟩,⟨0,[(1,7),(-1,11),(1,53)]⟩],⟨0,[(1,52),(-1,53)]⟩⟩] (by kernel_rfl) (by kernel_rfl)
theorem h174(hT:Tab10 W0):Holds Tryz.prog cx W0 174 c174:=qx cxOk (qj) mixed (fn:=Tryz.f174) [] (by kernel_rfl) (by kernel_rfl)
theorem h176(hT:Tab10 W0):Holds Tryz.prog cx W0 176 c176:=qx cxOk (qj) mixed (fn:=Tryz.f176) [] (by kernel_rfl) (by kernel_rfl)
theorem h189(hT:Tab10 W0):Holds Tryz.prog cx W0 189 c189:=qx cxOk (qy (h176 hT) (by kernel_rfl) <| qj) mixed (fn:=Tryz.f189) [⟨[(8,full .i64)],[],[⟨0,[(-1,1),(1,8)]⟩],⟨0,[(1,2),(-1,8)]⟩⟩,⟨[(9,full .i64)],[],[⟨0,[(1,8),(-1,9)]⟩,⟨0,[(-1,1),(1,9)]⟩],⟨0,[(-1,1),(1,9)]⟩⟩] (by kernel_rfl) (by kernel_rfl)
theorem h193(hT:Tab10 W0):Holds Tryz.prog cx W0 193 c193:=qx cxOk (qy (h176 hT) (by kernel_rfl) <| qj) mixed (fn:=Tryz.f193) [⟨[(10,full .i64)],[],[⟨0,[(1,10)]⟩],⟨0,[(1,3),(-1,10)]⟩⟩] (by kernel_rfl) (by kernel_rfl)
theorem h192(hT:Tab10 W0):Holds Tryz.prog cx W0 192 c192:=holds_sp cxOk (qy (h176 hT) (by kernel_rfl) <| qy (h193 hT) (by kernel_rfl) <| qj) mixed (fn:=Tryz.f192) [⟨[(10,full .i64),(11,full .i64)],[],[⟨-1,[(1,10)]⟩,⟨-1,[(1,11)]⟩,⟨0,[(-1,1),(1,2),(-1,10)]⟩,⟨0,[(-1,2),(1,3),(-1,11)]⟩],⟨0,[(1,10),(1,11)]⟩⟩] (by kernel_rfl) (by kernel_rfl)
end
end Sy
end Go.Proofs.YtmadfhgiaonnlaaGreatDoor
