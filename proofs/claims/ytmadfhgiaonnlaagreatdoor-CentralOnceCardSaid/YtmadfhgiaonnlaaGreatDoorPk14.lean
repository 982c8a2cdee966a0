import Derived.Test.YtmadfhgiaonnlaaGreatDoorPk12
import Derived.Test.YtmadfhgiaonnlaaGreatDoorPk13
open Array renaming getElem?_toList->ax,length_toList->aw,toList_inj->gq
open Bool renaming or_true->fj
open Classical renaming axiomOfChoice->oe
open Go renaming size_setRow->dr,setRow_other->cw,wpList_store_rowTo->br,wpList_load_row->bp,run_underlying->bg
open Go.Instr renaming fill->iv,build->rn,alloc->aeg
open Go.Lib renaming hid->aa
open Go.Proofs.Tryz renaming prog->ab,underlying31->bz,underlying36->aau,underlying51->ej,underlying55->aav
open Go.Result renaming andThen_ok->aq
open Go.RowKit.Below renaming heap_setCell->iz
open Go.Sem renaming run_bind->ai
open Go.World renaming size_setCell->qz
open List renaming length_map->iu,getElem?_map->dh,getElem?_eq_some_iff->al,getElem?_append_right->bq,size_toArray->ei,map_cons->fg,mem_cons->cu,map_append->ow,map_take->ur,map_drop->ue,length_take->fb,getElem?_take->fc,getElem?_drop->ia,getElem?_append_left->cd,length_append->gk
open Nat renaming le_refl->af,le_trans->cy,lt_of_lt_of_le->bf
open Option renaming map_eq_some_iff->ea
open Option.some renaming injEq->bc
open Bool renaming false->ns,true->nr
open Go renaming Program->ma,TypeId->nz,Value->ny,World->nu,maxLen->mf,undef->mc
open Go.Ending renaming returned->np
open Go.IntKind renaming i64->O
open Go.Value renaming bool->ni,int->U,pointer->nj,slice->ng,string->nh,tuple->nq
open Option renaming none->V,some->I
open Go.Proofs.YtmadfhgiaonnlaaGreatDoor renaming Blk->mg
set_option maxRecDepth 100000
set_option maxHeartbeats 8000000
set_option linter.unusedVariables false
set_option linter.unusedSimpArgs false
namespace Go.Proofs.YtmadfhgiaonnlaaGreatDoor
namespace Sy
variable {ms old rs xs:Array ny}{id:Int}{c g j lb m n:Nat}{f:Nat->ByteArray}{A:Option Addr}{e t:nz}{v:ny}
section
variable {W0:nu}
theorem h7(hT:Tab10 W0):qm ab cx W0 7 c7:=ql cxOk (qo) mixed (fn:=Tryz.f7) [] ki ki
theorem qiu(hT:Tab10 W0):qm ab cx W0 18 c18:=ql cxOk (qo) mixed (fn:=Tryz.f18) [⟨[(4,(qy O)),(10,(qy O))],[],[l9 8 10,o7 4,⟨1,[(1,4)]⟩,o7 10,⟨1,[(1,10)]⟩,o0 4 10,l9 1 4,o0 4 8,o0 4 9,l9 9 10],⟨0,[(1,8),(-1,10)]⟩⟩] ki ki
theorem h78(hT:Tab10 W0):qm ab cx W0 78 c78:=ql cxOk (qo) mixed (fn:=Tryz.f78) [] ki ki
theorem h38(hT:Tab10 W0):qm ab cx W0 38 c38:=ql cxOk (qj (h78 hT) ki <| qo) mixed (fn:=Tryz.f38) [] ki ki
theorem h39(hT:Tab10 W0):qm ab cx W0 39 c39:=ql cxOk (qo) mixed (fn:=Tryz.f39) [⟨[(5,(qy O)),(96,(qy O))],[],[⟨12,[(-1,96)]⟩,o7 96,⟨1,[(1,96)]⟩],⟨12,[(-1,96)]⟩⟩] ki ki
theorem h40(hT:Tab10 W0):qm ab cx W0 40 c40:=ql cxOk (qo) mixed (fn:=Tryz.f40) [] ki ki
theorem qbe(hT:Tab10 W0):qm ab cx W0 29 c29:=hand29
theorem qic(hT:Tab10 W0):qm ab cx W0 41 c41:=ql cxOk (qj (qbe hT) ki <| qo) mixed (fn:=Tryz.f41) [] ki ki
theorem h105(hT:Tab10 W0):qm ab cx W0 105 c105:=ql cxOk (qo) mixed (fn:=Tryz.f105) [] ki ki
theorem h106(hT:Tab10 W0):qm ab cx W0 106 c106:=ql cxOk (qo) mixed (fn:=Tryz.f106) [] ki ki
theorem h127(hT:Tab10 W0):qm ab cx W0 127 c127:=ql cxOk (qo) mixed (fn:=Tryz.f127) [] ki ki
theorem h107(hT:Tab10 W0):qm ab cx W0 107 c107:=ql cxOk (qj (h127 hT) ki <| qo) mixed (fn:=Tryz.f107) [⟨[(2,(qy O)),(17,(qy O))],[],[o7 2,⟨1,[(1,2)]⟩,o7 17,⟨1,[(1,17)]⟩,o0 2 17],⟨0,[(1,15),(-1,17)]⟩⟩] ki ki
theorem h79(hT:Tab10 W0):qm ab cx W0 79 c79:=ql cxOk (qj (qbe hT) ki <| qj (h105 hT) ki <| qj (h106 hT) ki <| qj (h107 hT) ki <| qo) mixed (fn:=Tryz.f79) [] ki ki
theorem q3s(hT:Tab10 W0):qm ab cx W0 75 c75:=ql cxOk (qj (qbe hT) ki <| qo) mixed (fn:=Tryz.f75) [] ki ki
theorem h80(hT:Tab10 W0):qm ab cx W0 80 c80:=ql cxOk (qj (qbe hT) ki <| qj (q3s hT) ki <| qo) mixed (fn:=Tryz.f80) [] ki ki
theorem q4a(hT:Tab10 W0):qm ab cx W0 42 c42:=ql cxOk (qj (h79 hT) ki <| qj (h80 hT) ki <| qo) mixed (fn:=Tryz.f42) [⟨[(4,(qy O)),(14,(qy O))],[],[l9 12 14,o7 4,⟨1,[(1,4)]⟩,o7 14,⟨1,[(1,14)]⟩,o0 4 14,o0 4 12,o0 4 13,l9 13 14],⟨0,[(1,12),(-1,14)]⟩⟩,⟨[(4,(qy O)),(49,(qy O))],[],[o7 4,⟨1,[(1,4)]⟩,o7 49,⟨1,[(1,49)]⟩],⟨0,[(1,47),(-1,49)]⟩⟩] ki ki
theorem qbg(hT:Tab10 W0):qm ab cx W0 19 c19:=ql cxOk (qj (h38 hT) ki <| qj (h39 hT) ki <| qj (h40 hT) ki <| qj (qic hT) ki <| qj (q4a hT) ki <| qo) mixed (fn:=Tryz.f19) [] ki ki
theorem qth(hT:Tab10 W0):qm ab cx W0 47 c47:=ql cxOk (qo) mixed (fn:=Tryz.f47) [] ki ki
theorem h45(hT:Tab10 W0):qm ab cx W0 45 c45:=ql cxOk (qo) mixed (fn:=Tryz.f45) [] ki ki
theorem h45t(hT:Tab10 W0):qm ab cx W0 45 c45t:=ql cxOk (qo) mixed (fn:=Tryz.f45) [] ki ki
theorem h82(hT:Tab10 W0):qm ab cx W0 82 c82:=ql cxOk (qo) mixed (fn:=Tryz.f82) [] ki ki
theorem h146(hT:Tab10 W0):qm ab cx W0 146 c146:=ql cxOk (qo) mixed (fn:=Tryz.f146) [] ki ki
theorem h128(hT:Tab10 W0):qm ab cx W0 128 c128:=ql cxOk (qj (h146 hT) ki <| qo) mixed (fn:=Tryz.f128) [] ki ki
theorem h109(hT:Tab10 W0):qm ab cx W0 109 c109:=ql cxOk (qj (h45 hT) ki <| qj (h82 hT) ki <| qj (h128 hT) ki <| qo) mixed (fn:=Tryz.f109) [] ki ki
theorem h108(hT:Tab10 W0):qm ab cx W0 108 c108:=ql cxOk (qj (h109 hT) ki <| qo) mixed (fn:=Tryz.f108) [⟨[(13,(qy O))],[],[l9 0 13,o7 13,⟨1,[(1,13)]⟩,l9 5 13,l9 8 13,l9 9 13,l9 10 13,l9 11 13,l9 12 13],⟨0,[(1,0),(-1,13)]⟩⟩] ki ki
end
section
variable {W0:nu}
theorem h81(hT:Tab10 W0):qm ab cx W0 81 c81:=ql cxOk (qj (h108 hT) ki <| qj (h109 hT) ki <| qo) mixed (fn:=Tryz.f81) [] ki ki
theorem h44(hT:Tab10 W0):qm ab cx W0 44 c44:=ql cxOk (qj (qth hT) ki <| qj (h81 hT) ki <| qo) mixed (fn:=Tryz.f44) [] ki ki
theorem q3m(hT:Tab10 W0):qm ab cx W0 43 c43:=ql cxOk (qj (h44 hT) ki <| qo) mixed (fn:=Tryz.f43) [⟨[(13,(qy O))],[],[l9 0 13,o7 13,⟨1,[(1,13)]⟩,l9 5 13,l9 8 13,l9 9 13,l9 10 13,l9 11 13,l9 12 13],⟨0,[(1,0),(-1,13)]⟩⟩] ki ki
theorem qr3(hT:Tab10 W0):qm ab cx W0 46 c46:=ql cxOk (qo) mixed (fn:=Tryz.f46) [] ki ki
theorem qtr(hT:Tab10 W0):qm ab cx W0 49 c49:=ql cxOk (qj (h82 hT) ki <| qo) mixed (fn:=Tryz.f49) [] ki ki
theorem q4x(hT:Tab10 W0):qm ab cx W0 48 c48:=ql cxOk (qj (qtr hT) ki <| qo) mixed (fn:=Tryz.f48) [⟨[(13,(qy O))],[],[l9 0 13,o7 13,⟨1,[(1,13)]⟩,l9 5 13,l9 8 13,l9 9 13,l9 10 13,l9 11 13,l9 12 13],⟨0,[(1,0),(-1,13)]⟩⟩] ki ki
theorem h51(hT:Tab10 W0):qm ab cx W0 51 c51:=ql cxOk (qj (h82 hT) ki <| qo) mixed (fn:=Tryz.f51) [] ki ki
theorem h50(hT:Tab10 W0):qm ab cx W0 50 c50:=ql cxOk (qj (h51 hT) ki <| qo) mixed (fn:=Tryz.f50) [⟨[(13,(qy O))],[],[l9 0 13,o7 13,⟨1,[(1,13)]⟩,l9 5 13,l9 8 13,l9 9 13,l9 10 13,l9 11 13,l9 12 13],⟨0,[(1,0),(-1,13)]⟩⟩] ki ki
theorem h52(hT:Tab10 W0):qm ab cx W0 52 c52:=ql cxOk (qo) mixed (fn:=Tryz.f52) [] ki ki
theorem h85(hT:Tab10 W0):qm ab cx W0 85 c85:=ql cxOk (qo) mixed (fn:=Tryz.f85) [] ki ki
theorem h84(hT:Tab10 W0):qm ab cx W0 84 c84:=ql cxOk (qj (h85 hT) ki <| qo) mixed (fn:=Tryz.f84) [] ki ki
theorem h83(hT:Tab10 W0):qm ab cx W0 83 c83:=ql cxOk (qj (h84 hT) ki <| qo) mixed (fn:=Tryz.f83) [⟨[(13,(qy O))],[],[l9 0 13,o7 13,⟨1,[(1,13)]⟩,l9 5 13,l9 8 13,l9 9 13,l9 10 13,l9 11 13,l9 12 13],⟨0,[(1,0),(-1,13)]⟩⟩] ki ki
theorem h54(hT:Tab10 W0):qm ab cx W0 54 c54:=ql cxOk (qj (h83 hT) ki <| qj (h84 hT) ki <| qo) mixed (fn:=Tryz.f54) [] ki ki
theorem h53(hT:Tab10 W0):qm ab cx W0 53 c53:=ql cxOk (qj (h54 hT) ki <| qo) mixed (fn:=Tryz.f53) [⟨[(13,(qy O))],[],[l9 0 13,o7 13,⟨1,[(1,13)]⟩,l9 5 13,l9 8 13,l9 9 13,l9 10 13,l9 11 13,l9 12 13],⟨0,[(1,0),(-1,13)]⟩⟩] ki ki
theorem h57(hT:Tab10 W0):qm ab cx W0 57 c57:=ql cxOk (qo) mixed (fn:=Tryz.f57) [] ki ki
theorem h56(hT:Tab10 W0):qm ab cx W0 56 c56:=ql cxOk (qj (h57 hT) ki <| qo) mixed (fn:=Tryz.f56) [] ki ki
theorem h55(hT:Tab10 W0):qm ab cx W0 55 c55:=ql cxOk (qj (h56 hT) ki <| qo) mixed (fn:=Tryz.f55) [⟨[(13,(qy O))],[],[l9 0 13,o7 13,⟨1,[(1,13)]⟩,l9 5 13,l9 8 13,l9 9 13,l9 10 13,l9 11 13,l9 12 13],⟨0,[(1,0),(-1,13)]⟩⟩] ki ki
theorem qko(hT:Tab10 W0):qm ab cx W0 20 c20:=ql cxOk (qj (q3m hT) ki <| qj (h44 hT) ki <| qj (h45t hT) ki <| qj (qr3 hT) ki <| qj (qth hT) ki <| qj (q4x hT) ki <| qj (qtr hT) ki <| qj (h50 hT) ki <| qj (h51 hT) ki <| qj (h52 hT) ki <| qj (h53 hT) ki <| qj (h54 hT) ki <| qj (h55 hT) ki <| qj (h56 hT) ki <| qo) mixed (fn:=Tryz.f20) [] ki ki
theorem qcd(hT:Tab10 W0):qm ab cx W0 21 c21:=hand21
theorem h58(hT:Tab10 W0):qm ab cx W0 58 c58:=ql cxOk (qo) mixed (fn:=Tryz.f58) [] ki ki
theorem h86(hT:Tab10 W0):qm ab cx W0 86 c86:=ql cxOk (qo) mixed (fn:=Tryz.f86) [] ki ki
theorem h87(hT:Tab10 W0):qm ab cx W0 87 c87:=ql cxOk (qo) mixed (fn:=Tryz.f87) [] ki ki
theorem h88(hT:Tab10 W0):qm ab cx W0 88 c88:=(by rw[show c88=c88' from by kernel_rfl];exact clone_holds)
theorem qml(hT:Tab10 W0):qm ab cx W0 60 c60:=ql cxOk (qj (h86 hT) ki <| qj (h87 hT) ki <| qj (h88 hT) ki <| qo) mixed (fn:=Tryz.f60) [⟨[(3,(.sl 2 31 LM)),(11,(qy O))],[],[l9 0 11,o7 11,⟨1,[(1,11)]⟩,o0 3 11,l9 3 11,l9 0 3,o0 3 6,o0 3 7,o0 3 9,o0 3 10,l9 6 11,l9 7 11,l9 9 11,l9 10 11],⟨0,[(1,0),(-1,11)]⟩⟩] ki ki
theorem q3p(hT:Tab10 W0):qm ab cx W0 59 c59:=ql cxOk (qj (qml hT) ki <| qo) mixed (fn:=Tryz.f59) [] ki ki
end
section
variable {W0:nu}
theorem h90(hT:Tab10 W0):qm ab cx W0 90 c90:=ql cxOk (qo) mixed (fn:=Tryz.f90) [] ki ki
theorem h110(hT:Tab10 W0):qm ab cx W0 110 c110:=ql cxOk (qj (h90 hT) ki <| qo) mixed (fn:=Tryz.f110) [⟨[(4,(qy O)),(8,(qy O))],[],[l9 0 8,o7 4,⟨1,[(1,4)]⟩,o7 8,⟨1,[(1,8)]⟩,o0 4 8,l9 0 4,o0 4 6,o0 4 7,l9 6 8,l9 7 8],⟨0,[(1,0),(-1,8)]⟩⟩] ki ki
theorem h89(hT:Tab10 W0):qm ab cx W0 89 c89:=ql cxOk (qj (h90 hT) ki <| qj (h110 hT) ki <| qo) mixed (fn:=Tryz.f89) [] ki ki
theorem h61(hT:Tab10 W0):qm ab cx W0 61 c61:=ql cxOk (qj (h89 hT) ki <| qj (h90 hT) ki <| qo) mixed (fn:=Tryz.f61) [] ki ki
theorem qmm(hT:Tab10 W0):qm ab cx W0 22 c22:=ql cxOk (qj (h58 hT) ki <| qj (q3p hT) ki <| qj (qml hT) ki <| qj (h61 hT) ki <| qo) mixed (fn:=Tryz.f22) [⟨[(5,(.sl 2 31 LM)),(6,(.sl 2 31 LM)),(7,(.sl 2 31 LM)),(58,(qy O))],[],[o7 58,⟨1,[(1,58)]⟩,o0 5 58,o0 6 58,o0 7 58],⟨0,[(1,56),(-1,58)]⟩⟩] ki ki
theorem qrg(hT:Tab10 W0):qm ab cx W0 23 q4v:=ql cxOk (qj (qcd hT) ki <| qo) mixed (fn:=Tryz.f23) [] ki ki
theorem qd4(hT:Tab10 W0):qm ab cx W0 62 quf:=ql cxOk (qo) mixed (fn:=Tryz.f62) [] ki ki
theorem qlp(hT:Tab10 W0):qm ab cx W0 111 c111:=ql cxOk (qo) mixed (fn:=Tryz.f111) [] ki ki
theorem h91(hT:Tab10 W0):qm ab cx W0 91 quk:=ql cxOk (qj (qcd hT) ki <| qj (qlp hT) ki <| qo) mixed (fn:=Tryz.f91) [] ki ki
theorem h92(hT:Tab10 W0):qm ab cx W0 92 c92:=ql cxOk (qj (qlp hT) ki <| qo) mixed (fn:=Tryz.f92) [] ki ki
theorem h112(hT:Tab10 W0):qm ab cx W0 112 c112:=ql cxOk (qo) mixed (fn:=Tryz.f112) [] ki ki
theorem h93(hT:Tab10 W0):qm ab cx W0 93 c93:=ql cxOk (qj (qcd hT) ki <| qj (qd4 hT) ki <| qj (qlp hT) ki <| qj (h112 hT) ki <| qo) mixed (fn:=Tryz.f93) [] ki ki
theorem h126(hT:Tab10 W0):qm ab cx W0 126 c126:=ql cxOk (qo) mixed (fn:=Tryz.f126) [] ki ki
theorem h104(hT:Tab10 W0):qm ab cx W0 104 c104:=ql cxOk (qj (h126 hT) ki <| qo) mixed (fn:=Tryz.f104) [⟨[(4,.bool),(13,(qy O))],[],[l9 0 13,o7 13,⟨1,[(1,13)]⟩,l9 1 13,l9 6 13,l9 7 13,l9 8 13,l9 9 13,l9 11 13,l9 12 13],⟨0,[(1,0),(-1,13)]⟩⟩] ki ki
theorem qkr(hT:Tab10 W0):qm ab cx W0 76 qto:=ql cxOk (qj (h104 hT) ki <| qo) mixed (fn:=Tryz.f76) [⟨[(4,(qy O)),(9,(qy O))],[],[l9 0 9,o7 4,⟨1,[(1,4)]⟩,o7 9,⟨1,[(1,9)]⟩,o0 4 9,l9 0 4,l9 1 4,o0 4 7,o0 4 8,l9 7 9,l9 8 9],⟨0,[(1,0),(-1,9)]⟩⟩] ki ki
theorem h147(hT:Tab10 W0):qm ab cx W0 147 c147:=(by rw[show c147=qwv from by kernel_rfl];exact q54 (qkr hT))
theorem h169(hT:Tab10 W0):qm ab cx W0 169 c169:=ql cxOk (qj (h104 hT) ki <| qo) mixed (fn:=Tryz.f169) [] ki ki
theorem h182(hT:Tab10 W0):qm ab cx W0 182 c182:=ql cxOk (qj (h169 hT) ki <| qo) mixed (fn:=Tryz.f182) [⟨[(4,(qy O)),(8,(qy O))],[],[l9 0 8,o7 4,⟨1,[(1,4)]⟩,o7 8,⟨1,[(1,8)]⟩,o0 4 8,l9 0 4,o0 4 6,o0 4 7,l9 6 8,l9 7 8],⟨0,[(1,0),(-1,8)]⟩⟩] ki ki
theorem h168(hT:Tab10 W0):qm ab cx W0 168 c168:=ql cxOk (qj (h169 hT) ki <| qj (h182 hT) ki <| qo) mixed (fn:=Tryz.f168) [] ki ki
theorem h148(hT:Tab10 W0):qm ab cx W0 148 c148:=ql cxOk (qj (h168 hT) ki <| qj (h169 hT) ki <| qo) mixed (fn:=Tryz.f148) [] ki ki
theorem h130(hT:Tab10 W0):qm ab cx W0 130 c130:=ql cxOk (qj (h147 hT) ki <| qj (h148 hT) ki <| qo) mixed (fn:=Tryz.f130) [] ki ki
theorem h131(hT:Tab10 W0):qm ab cx W0 131 c131:=ql cxOk (qo) mixed (fn:=Tryz.f131) [] ki ki
theorem h129(hT:Tab10 W0):qm ab cx W0 129 c129:=ql cxOk (qj (h130 hT) ki <| qj (h131 hT) ki <| qo) mixed (fn:=Tryz.f129) [⟨[(9,(qy O))],[],[l9 0 9,o7 9,⟨1,[(1,9)]⟩,l9 7 9,l9 8 9],⟨0,[(1,0),(-1,9)]⟩⟩] ki ki
theorem h113(hT:Tab10 W0):qm ab cx W0 113 c113:=ql cxOk (qj (h129 hT) ki <| qj (h130 hT) ki <| qj (h131 hT) ki <| qo) mixed (fn:=Tryz.f113) [] ki ki
theorem h114(hT:Tab10 W0):qm ab cx W0 114 c114:=(by rw[show c114=q0i from by kernel_rfl];exact qpp)
end
section
variable {W0:nu}
theorem h94(hT:Tab10 W0):qm ab cx W0 94 c94:=ql cxOk (qj (qlp hT) ki <| qj (h113 hT) ki <| qj (h114 hT) ki <| qo) mixed (fn:=Tryz.f94) [] ki ki
theorem h132(hT:Tab10 W0):qm ab cx W0 132 c132:=ql cxOk (qo) mixed (fn:=Tryz.f132) [] ki ki
theorem h149(hT:Tab10 W0):qm ab cx W0 149 c149:=ql cxOk (qj (qbe hT) ki <| qo) mixed (fn:=Tryz.f149) [] ki ki
theorem h150(hT:Tab10 W0):qm ab cx W0 150 c150:=ql cxOk (qo) mixed (fn:=Tryz.f150) [⟨[(2,(qy O)),(16,(qy O))],[],[l9 14 16,o7 2,⟨1,[(1,2)]⟩,o7 16,⟨1,[(1,16)]⟩,o0 2 16,o0 2 6,o0 2 7,o0 2 10,o0 2 11,o0 2 14,o0 2 15,l9 6 16,l9 7 16,l9 10 16,l9 11 16,l9 15 16],⟨0,[(1,14),(-1,16)]⟩⟩] ki ki
theorem h133(hT:Tab10 W0):qm ab cx W0 133 c133:=ql cxOk (qj (qbe hT) ki <| qj (h149 hT) ki <| qj (h150 hT) ki <| qo) mixed (fn:=Tryz.f133) [] ki ki
theorem h115(hT:Tab10 W0):qm ab cx W0 115 c115:=ql cxOk (qj (h86 hT) ki <| qj (h132 hT) ki <| qj (h133 hT) ki <| qo) mixed (fn:=Tryz.f115) [] ki ki
theorem h183(hT:Tab10 W0):qm ab cx W0 183 c183:=ql cxOk (qo) mixed (fn:=Tryz.f183) [⟨[(2,(qy O)),(8,(qy O))],[],[l9 0 8,o7 2,⟨1,[(1,2)]⟩,o7 8,⟨1,[(1,8)]⟩,o0 2 8,l9 0 2,o0 2 6,o0 2 7,l9 6 8,l9 7 8],⟨0,[(1,0),(-1,8)]⟩⟩] ki ki
theorem h184(hT:Tab10 W0):qm ab cx W0 184 c184:=q60
theorem h172(hT:Tab10 W0):qm ab cx W0 172 c172:=ql cxOk (qj (h183 hT) ki <| qj (h184 hT) ki <| qo) mixed (fn:=Tryz.f172) [] ki ki
theorem h151(hT:Tab10 W0):qm ab cx W0 151 c151:=(by rw[show c151=qnj from by kernel_rfl];exact qpr (h172 hT))
theorem h152(hT:Tab10 W0):qm ab cx W0 152 c152:=(by rw[show c152=qw7 from by kernel_rfl];exact qr8)
theorem h153(hT:Tab10 W0):qm ab cx W0 153 c153:=ql cxOk (qo) mixed (fn:=Tryz.f153) [] ki ki
theorem h173(hT:Tab10 W0):qm ab cx W0 173 c173:=ql cxOk (qo) mixed (fn:=Tryz.f173) [⟨[(4,.bool),(13,(qy O))],[],[l9 0 13,o7 13,⟨1,[(1,13)]⟩,l9 1 13,l9 6 13,l9 7 13,l9 8 13,l9 9 13,l9 11 13,l9 12 13],⟨0,[(1,0),(-1,13)]⟩⟩] ki ki
theorem h154(hT:Tab10 W0):qm ab cx W0 154 c154:=ql cxOk (qj (h173 hT) ki <| qo) mixed (fn:=Tryz.f154) [] ki ki
theorem h155(hT:Tab10 W0):qm ab cx W0 155 c155:=ql cxOk (qo) mixed (fn:=Tryz.f155) [] ki ki
theorem h156(hT:Tab10 W0):qm ab cx W0 156 c156:=ql cxOk (qo) mixed (fn:=Tryz.f156) [⟨[(5,qy O),(14,qy O)],[],[o7 14,l9 1 14,o7 5,⟨0,[(-1,5),(1024,14)]⟩],⟨0,[(1,1),(-1,14)]⟩⟩,⟨[(0,(.sl 1 95 LM)),(8,(.sl 1 156 LM)),(28,qy O)],[],[o7 28,l9 1 28,⟨0,[(-1,8),(1024,28)]⟩,⟨0,[(-1,0),(1,28),(1,1000000)]⟩,⟨0,[(1,0),(-1,28),(-1,1000000)]⟩],⟨0,[(1,1),(-1,28)]⟩⟩] ki ki
theorem qgl(hT:Tab10 W0):qm ab cx W0 134 qly:=ql cxOk (qj (h133 hT) ki <| qj (h151 hT) ki <| qj (h152 hT) ki <| qj (h153 hT) ki <| qj (h154 hT) ki <| qj (h155 hT) ki <| qj (h156 hT) ki <| qo) mixed (fn:=Tryz.f134) [⟨[(53,qy O),(11,qy O)],[],[o7 53,l9 52 53,o7 11,⟨0,[(1,7),(-1,11),(1,53)]⟩],⟨0,[(1,52),(-1,53)]⟩⟩] ki ki
theorem h174(hT:Tab10 W0):qm ab cx W0 174 c174:=ql cxOk (qo) mixed (fn:=Tryz.f174) [] ki ki
theorem h189(hT:Tab10 W0):qm ab cx W0 189 c189:=ql cxOk (qj (qxv hT) ki <| qo) mixed (fn:=Tryz.f189) [⟨[(8,qy O)],[],[o0 1 8],⟨0,[(1,2),(-1,8)]⟩⟩,⟨[(9,qy O)],[],[l9 8 9,o0 1 9],⟨0,[(-1,1),(1,9)]⟩⟩] ki ki
theorem h185(hT:Tab10 W0):qm ab cx W0 185 c185:=ql cxOk (qj (qxv hT) ki <| qj (h189 hT) ki <| qj (h190 hT) ki <| qo) mixed (fn:=Tryz.f185) [⟨[(7,qy O),(8,qy O)],[],[o7 7,⟨-20,[(-1,7),(1,8)]⟩,⟨20,[(1,7),(-1,8)]⟩,l9 1 7],⟨0,[(1,1),(-1,7)]⟩⟩,⟨[(6,qy O),(7,qy O),(8,qy O)],[],[⟨-1,[(1,6)]⟩],⟨0,[(1,1),(-1,6)]⟩⟩,⟨[(7,qy O),(8,qy O)],[],[o7 7,⟨0,[(-2,6),(-1,7),(1,8)]⟩,⟨0,[(2,6),(1,7),(-1,8)]⟩,l9 1 7,⟨-1,[(-1,6),(-1,7),(1,8)]⟩],⟨0,[(1,1),(-1,7)]⟩⟩] ki ki
theorem h175(hT:Tab10 W0):qm ab cx W0 175 c175:=ql cxOk (qj (qxv hT) ki <| qj (h185 hT) ki <| qo) mixed (fn:=Tryz.f175) [] ki ki
theorem h157(hT:Tab10 W0):qm ab cx W0 157 c157:=ql cxOk (qj (h133 hT) ki <| qj (h154 hT) ki <| qj (h174 hT) ki <| qj (h175 hT) ki <| qj (qxv hT) ki <| qo) mixed (fn:=Tryz.f157) [⟨[(2,(.sl 2 95 LM)),(3,qy O),(16,qy O)],[],[l9 0 16,o7 16],⟨0,[(1,0),(-1,16)]⟩⟩,⟨[(2,(.sl 2 95 LM)),(3,qy O),(28,qy O)],[],[l9 0 28,o7 28],⟨0,[(1,0),(-1,28)]⟩⟩,⟨[(2,(.sl 2 95 LM)),(3,qy O),(55,qy O),(10,(.sl 2 95 LM))],[],[l9 9 55,o7 55,o0 10 55,⟨0,[(8192,10),(-1,55)]⟩],⟨0,[(1,9),(-1,55)]⟩⟩] ki ki
theorem h158(hT:Tab10 W0):qm ab cx W0 158 c158:=ql cxOk (qo) mixed (fn:=Tryz.f158) [⟨[(3,.bool),(4,.bool),(9,(qy O))],[],[l9 0 9,o7 9,⟨1,[(1,9)]⟩,l9 7 9,l9 8 9],⟨0,[(1,0),(-1,9)]⟩⟩] ki ki
theorem h186(hT:Tab10 W0):qm ab cx W0 186 c186:=(by rw[show c186=c186' from by kernel_rfl];exact q0s)
theorem h177(hT:Tab10 W0):qm ab cx W0 177 c177:=ql cxOk (qj (h186 hT) ki <| qo) mixed (fn:=Tryz.f177) [⟨[(4,(.sl 2 156 LM)),(5,qy O),(7,qy O),(8,qy O),(6,(.sl 2 156 LM))],[],[o7 7,o7 8,l9 0 7,l9 1 8,⟨0,[(-1,6),(1,7),(1,8)]⟩],⟨0,[(1,0),(1,1),(-1,7),(-1,8)]⟩⟩] ki ki
end
section
variable {W0:nu}
theorem h159(hT:Tab10 W0):qm ab cx W0 159 c159:=ql cxOk (qj (h177 hT) ki <| qo) mixed (fn:=Tryz.f159) [⟨[(2,(.sl 2 156 LM)),(3,qy O),(4,(.sl 1 156 1024)),(10,qy O)],[],[o7 10,l9 0 10],⟨0,[(1,0),(-1,10)]⟩⟩] ki ki
theorem h178(hT:Tab10 W0):qm ab cx W0 178 c178:=ql cxOk (qo) mixed (fn:=Tryz.f178) [⟨[(4,(qy O)),(21,(qy O))],[],[l9 0 21,o7 4,⟨1,[(1,4)]⟩,o7 21,⟨1,[(1,21)]⟩,o0 4 21,l9 0 4,l9 1 4,o0 4 7,o0 4 10,o0 4 13,o0 4 14,o0 4 16,o0 4 17,o0 4 19,o0 4 20,l9 13 21,l9 14 21,l9 16 21,l9 17 21],⟨0,[(1,0),(-1,21)]⟩⟩] ki ki
theorem h180(hT:Tab10 W0):qm ab cx W0 180 c180:=ql cxOk (qo) mixed (fn:=Tryz.f180) [] ki ki
theorem h160(hT:Tab10 W0):qm ab cx W0 160 c160:=(by rw[show c160=qwc from by kernel_rfl];exact q1o (h178 hT) (h180 hT))
theorem qgb(hT:Tab10 W0):qm ab cx W0 135 qlq:=ql cxOk (qj (h157 hT) ki <| qj (h158 hT) ki <| qj (h159 hT) ki <| qj (h160 hT) ki <| qo) mixed (fn:=Tryz.f135) [⟨[(5,(qy O)),(10,.bool),(43,(qy O))],[],[o7 5,⟨1,[(1,5)]⟩,o7 43,⟨1,[(1,43)]⟩,o0 5 43,l9 0 5],⟨0,[(1,6),(-1,43)]⟩⟩] ki ki
theorem qgg(hT:Tab10 W0):qm ab cx W0 136 qri:=ql cxOk (qj (h151 hT) ki <| qj (h156 hT) ki <| qo) mixed (fn:=Tryz.f136) [] ki ki
theorem h116(hT:Tab10 W0):qm ab cx W0 116 c116:=(by rw[show c116=qwf from by kernel_rfl];exact qmp (qgl hT) (qgb hT) (qgg hT))
theorem h95(hT:Tab10 W0):qm ab cx W0 95 c95:=qou cxOk (qj (qcd hT) ki <| qj (qd4 hT) ki <| qj (qlp hT) ki <| qj (h113 hT) ki <| qj (h114 hT) ki <| qj (h115 hT) ki <| qj (h116 hT) ki <| qo) mixed (fn:=Tryz.f95) [] ki ki
theorem h117(hT:Tab10 W0):qm ab cx W0 117 c117:=ql cxOk (qo) mixed (fn:=Tryz.f117) [⟨[],[],[],⟨10,[]⟩⟩] ki ki
theorem h98(hT:Tab10 W0):qm ab cx W0 98 c98:=ql cxOk (qj (h117 hT) ki <| qo) mixed (fn:=Tryz.f98) [⟨[(13,qy O),(5,qy O),(4,(.sl 1 5 LM))],[],[o7 13,l9 12 13,⟨0,[(-1,4),(1024,13)]⟩],⟨0,[(1,12),(-1,13)]⟩⟩] ki ki
theorem h99(hT:Tab10 W0):qm ab cx W0 99 c99:=ql cxOk (qj (h117 hT) ki <| qo) mixed (fn:=Tryz.f99) [] ki ki
theorem h161(hT:Tab10 W0):qm ab cx W0 161 c161:=ql cxOk (qo) mixed (fn:=Tryz.f161) [] ki ki
theorem h139(hT:Tab10 W0):qm ab cx W0 139 c139:=ql cxOk (qj (h161 hT) ki <| qo) mixed (fn:=Tryz.f139) [⟨[(5,(qy O))],[],[o7 5,⟨1,[(1,5)]⟩],⟨0,[(1,1),(-1,5)]⟩⟩] ki ki
theorem h137(hT:Tab10 W0):qm ab cx W0 137 c137:=ql cxOk (qj (h139 hT) ki <| qo) mixed (fn:=Tryz.f137) [] ki ki
theorem h138(hT:Tab10 W0):qm ab cx W0 138 c138:=ql cxOk (qo) mixed (fn:=Tryz.f138) [⟨[(3,(qy .u64)),(8,(qy O))],[],[l9 0 8,o7 3,⟨1,[(1,3)]⟩,o7 8,⟨1,[(1,8)]⟩,l9 6 8,l9 7 8],⟨0,[(1,0),(-1,8)]⟩⟩] ki ki
theorem h118(hT:Tab10 W0):qm ab cx W0 118 c118:=ql cxOk (qj (h137 hT) ki <| qj (h138 hT) ki <| qj (h139 hT) ki <| qo) mixed (fn:=Tryz.f118) [⟨[(1,(.sl 0 5 LM))],[],[o0 1 7,o0 1 19,o0 1 20,o0 1 21],⟨0,[(1,1)]⟩⟩] ki ki
theorem h100(hT:Tab10 W0):qm ab cx W0 100 c100:=ql cxOk (qj (h118 hT) ki <| qo) mixed (fn:=Tryz.f100) [] ki ki
theorem h70(hT:Tab10 W0):qm ab cx W0 70 c70:=ql cxOk (qj (h98 hT) ki <| qj (h99 hT) ki <| qj (h100 hT) ki <| qo) mixed (fn:=Tryz.f70) [] ki ki
theorem q3o(hT:Tab10 W0):qm ab cx W0 71 c71:=ql cxOk (qo) mixed (fn:=Tryz.f71) [] ki ki
theorem qif(hT:Tab10 W0):qm ab cx W0 31 c31:=ql cxOk (qj (qbe hT) ki <| qj (h70 hT) ki <| qj (q3o hT) ki <| qo) mixed (fn:=Tryz.f31) [] ki ki
theorem qtp(hT:Tab10 W0):qm ab cx W0 32 c32:=hand32 hT
theorem h96(hT:Tab10 W0):qm ab cx W0 96 c96:=ql cxOk (qj (qcd hT) ki <| qj (qif hT) ki <| qj (qtp hT) ki <| qj (qlp hT) ki <| qo) mixed (fn:=Tryz.f96) [] ki ki
theorem h97(hT:Tab10 W0):qm ab cx W0 97 c97:=ql cxOk (qj (qd4 hT) ki <| qo) mixed (fn:=Tryz.f97) [] ki ki
theorem h63(hT:Tab10 W0):qm ab cx W0 63 c63:=ql cxOk (qj (h91 hT) ki <| qj (h92 hT) ki <| qj (h93 hT) ki <| qj (h94 hT) ki <| qj (h95 hT) ki <| qj (h96 hT) ki <| qj (h97 hT) ki <| qo) mixed (fn:=Tryz.f63) [] ki ki
theorem h64(hT:Tab10 W0):qm ab cx W0 64 c64:=ql cxOk (qj (qbg hT) ki <| qj (h58 hT) ki <| qj (q3p hT) ki <| qj (qml hT) ki <| qj (h61 hT) ki <| qo) mixed (fn:=Tryz.f64) [] ki ki
end
section
variable {W0:nu}
theorem qts(hT:Tab10 W0):qm ab cx W0 24 q3w:=ql cxOk (qj (qcd hT) ki <| qj (qd4 hT) ki <| qj (h63 hT) ki <| qj (h64 hT) ki <| qj (h91 hT) ki <| qj (h92 hT) ki <| qj (h93 hT) ki <| qj (h94 hT) ki <| qj (h95 hT) ki <| qj (h96 hT) ki <| qj (h97 hT) ki <| qo) mixed (fn:=Tryz.f24) [] ki ki
theorem h9(hT:Tab10 W0):qm ab cx W0 9 c9:=ql cxOk (qj (qiu hT) ki <| qj (qbg hT) ki <| qj (qko hT) ki <| qj (qcd hT) ki <| qj (qmm hT) ki <| qj (qrg hT) ki <| qj (qts hT) ki <| qo) mixed (fn:=Tryz.f9) [] ki ki
theorem qih(hT:Tab10 W0):qm ab cx W0 74 c74:=ql cxOk (qo) mixed (fn:=Tryz.f74) [] ki ki
theorem h34(hT:Tab10 W0):qm ab cx W0 34 c34:=ql cxOk (qj (qih hT) ki <| qo) mixed (fn:=Tryz.f34) [] ki ki
theorem qtl(hT:Tab10 W0):qm ab cx W0 14 c14:=ql cxOk (qj (qiu hT) ki <| qj (qko hT) ki <| qj (qbe hT) ki <| qj (h34 hT) ki <| qo) mixed (fn:=Tryz.f14) [] ki ki
theorem qmn(hT:Tab10 W0):qm ab cx W0 30 c30:=ql cxOk (qj (qbg hT) ki <| qj (q3p hT) ki <| qj (qml hT) ki <| qo) mixed (fn:=Tryz.f30) [] ki ki
theorem qd8(hT:Tab10 W0):qm ab cx W0 12 qcc:=ql cxOk (qj (qiu hT) ki <| qj (qko hT) ki <| qj (qbe hT) ki <| qj (qmn hT) ki <| qj (qif hT) ki <| qj (qtp hT) ki <| qo) mixed (fn:=Tryz.f12) [] ki ki
theorem qr2(hT:Tab10 W0):qm ab cx W0 35 c35:=ql cxOk (qo) mixed (fn:=Tryz.f35) [⟨[(4,.bool),(14,(qy O))],[],[⟨2,[(-1,14)]⟩,o7 14,⟨1,[(1,14)]⟩],⟨2,[(-1,14)]⟩⟩,⟨[(4,.bool),(19,(qy O))],[],[l9 6 19,o7 19,⟨1,[(1,19)]⟩,l9 16 19,l9 17 19,l9 18 19],⟨0,[(1,6),(-1,19)]⟩⟩] ki ki
theorem h36(hT:Tab10 W0):qm ab cx W0 36 c36:=ql cxOk (qj (q3p hT) ki <| qj (qml hT) ki <| qo) mixed (fn:=Tryz.f36) [] ki ki
theorem h15(hT:Tab10 W0):qm ab cx W0 15 c15:=ql cxOk (qj (qko hT) ki <| qj (qmn hT) ki <| qj (qr2 hT) ki <| qj (h36 hT) ki <| qo) mixed (fn:=Tryz.f15) [⟨[(7,(.sl 2 58 LM)),(37,(qy O))],[],[l9 35 37,o7 37,⟨1,[(1,37)]⟩,o0 7 37,l9 7 37,o0 7 31,o0 7 32,o0 7 35,o0 7 36,l9 31 37,l9 32 37],⟨0,[(1,35),(-1,37)]⟩⟩] ki ki
theorem qji(hT:Tab10 W0):qm ab cx W0 77 c77:=ql cxOk (qo) mixed (fn:=Tryz.f77) [⟨[(10,(qy O))],[],[l9 3 10,o7 10,⟨1,[(1,10)]⟩,l9 0 10,l9 6 10,l9 7 10,l9 8 10,l9 9 10],⟨0,[(1,3),(-1,10)]⟩⟩] ki ki
theorem h37(hT:Tab10 W0):qm ab cx W0 37 c37:=(by rw[show c37=c37' from by kernel_rfl];exact put_holds (qkr hT) (qji hT))
theorem qr5(hT:Tab10 W0):qm ab cx W0 16 c16:=ql cxOk (qj (qko hT) ki <| qj (h37 hT) ki <| qo) mixed (fn:=Tryz.f16) [] ki ki
theorem qmg(hT:Tab10 W0):qm ab cx W0 17 c17:=ql cxOk (qo) mixed (fn:=Tryz.f17) [⟨[(10,(qy O))],[],[l9 8 10,o7 10,⟨1,[(1,10)]⟩,l9 9 10],⟨0,[(1,8),(-1,10)]⟩⟩] ki ki
theorem h8(hT:Tab10 W0):qm ab cx W0 8 c8:=ql cxOk (qj (h9 hT) ki <| qj (qd8 hT) ki <| qj (qtl hT) ki <| qj (h15 hT) ki <| qj (qr5 hT) ki <| qj (qmg hT) ki <| qo) mixed (fn:=Tryz.f8) [] ki ki
end
open Go.RowKit Go.Great
section
variable {W0:nu}{T T':Nat->Prop}{w W W':nu}
def qp5(w:nu)(g5 g7:Nat)(ms:Array ny)(W:nu):Prop:=∃(T':Nat->Prop) (cc:Array ny),WT cx.tb w T' W/\zg (λ_=>False) w .no T' W/\yh T' W g5 31 ms/\yh T' W g7 51 cc/\zq cx.tb w T' W 0 (.agg qbi) (.agg cc)
theorem qfj(w:nu):WT cx.tb w (λ_=>False) w:=⟨af _,λ_ _=>rfl,λ_ h=>h.elim,λ_ h=>h.elim,λ_ h=>h.elim⟩
theorem hist_none{T':Nat->Prop}{w W:nu}(h:zg (λ_=>False) w .no T' W):Below w.heap.size w W:=⟨h.os,h.tape,h.output,h.size,λb hb=>h.keep b hb (.inr (λh=>h))⟩
theorem qcu{cs:Array ny}(hw:WTc W0 T' W)(hb:yh T' W g t old)(hg:W0.heap.size<=g):WTc W0 T' (W.setRow g cs)/\xq T' W T' (W.setRow g cs):=
 hw.frame (w':=W.setRow g cs) (by rw[dr];exact af _) (λk h=>cw W g k _ kg) (λk h=>cw W g k _ (λe=>hb.nt (e ▸ h))) (λk es c h=>by
  have:k≠g:=λe=>by subst e;have hq:=hb.bk;unfold mg at hq;rw[hq] at h;cases h
  rw[cw W g k _ this];exact h)
theorem q6r{k:Nat}(hw:WTc W0 T' W)(hb:yh T' W g t old)(hg:W0.heap.size<=g):WTc W0 T' (W.setCell ⟨g,k,V⟩ v)/\xq T' W T' (W.setCell ⟨g,k,V⟩ v):=
 hw.frame (w':=W.setCell ⟨g,k,V⟩ v) (by rw[qz];exact af _) (λq h=>iz W ⟨g,k,V⟩ v q (by show q≠g;omega)) (λq h=>iz W ⟨g,k,V⟩ v q (λe=>hb.nt ((show q=g from e) ▸ h))) (λq es c h=>by
  have:q≠g:=λe=>by subst e;have hq:=hb.bk;unfold mg at hq;rw[hq] at h;cases h
  rw[iz W ⟨g,k,V⟩ v q this];exact h)
theorem xn.symm{tb:yg}:∀{d:Nat} {ct:CT} {u v:ny},xn tb W0 T w d ct u v->xn tb W0 T w d ct v u
 | 0,_,_,_,h=>Eq.symm h
 | d+1,ct,u,v,h=>by
   unfold xn at h ⊢;split at h
   .rename_i he;exact Eq.symm h
   .rename_i e he;obtain⟨A,n,c,B,c1,h1,h2,h3⟩:=h;refine⟨B,n,c1,A,c,h2,h1,λj hj=>?_⟩;obtain⟨b,off,b1,off1,e1,e2,q1,q2,h4⟩:=h3 j hj;refine⟨b1,off1,b,off,e2,e1,q2,q1,λk ct hk=>?_⟩;obtain⟨u1,u2,g1,g2,g3⟩:=h4 k ct hk;exact⟨u2,u1,g2,g1,g3.symm⟩
theorem jw.symm{tb:yg}{d:Nat}{l:List CT}{a b:Array ny}(h:jw tb W0 T w d l a b):jw tb W0 T w d l b a:=
 ⟨h.2.1,h.1,λi ct u u' h1 h2 h3=>(h.2.2 i ct u' u h1 h3 h2).symm⟩
theorem q1s{m1 m2 m3 m4 m5 m6 m7:Int}{m8 m9 m10:ByteArray}{m11:Bool}{n1:Nat}{p0 p1 p2 p3 p4:Int}{p5:ByteArray}{p6 p7 p8 p9:Int}{n3:Nat}{f1 f:Nat->Int×Int}{g:Nat->Cen.Tk}(h:Mv.valQ 1 m1 m2 m3 m4 m5 m6 m7 m8 m9 m10 m11 n1 p0 p1 p2 p3 p4 p5 p6 p7 p8 p9 n n3 f1 f g):(1<=m1/\m1<=2147483647)/\(Mv.qjr m2).2=nr:=by
 obtain⟨-,-,h1,h2,h3,-⟩:=h;refine⟨⟨h1,h2⟩,?_⟩;simpa[Mv.qk0] using h3
theorem q5b(hT:Tab10 W0):∀f∈[91,92,93,94,95,96,97],qm ab cx W0 f quk:=by
 intro f hf;have hf:f=91\/f=92\/f=93\/f=94\/f=95\/f=96\/f=97:=by simpa using hf
 rcases hf with rfl|rfl|rfl|rfl|rfl|rfl|rfl
 .exact h91 hT
 .exact h92 hT
 .exact h93 hT
 .exact h94 hT
 .exact h95 hT
 .exact h96 hT
 .exact h97 hT
theorem qm2:FC=qbi:=ki
theorem qm7:FM=tyM:=ki
theorem P36:P 36=.agg (quh.map CT.thaw):=ki
theorem q6i{base:Nat}{l:List CT}{cs:Array ny}(h:TyValc W0 T w base (.agg l) (.agg cs)):TyValc W0 T w base (.agg (l.map CT.thaw)) (.agg cs):=by
 obtain⟨cs',e,hs,ha⟩:=h;cases e;refine⟨cs,rfl,by rw[iu];exact hs,λi ct u hi hu=>?_⟩;rw[dh] at hi;obtain⟨c,h1,rfl⟩:=ea.1 hi;exact(ha i c u h1 hu).thaw
theorem q5g(hT:Tab10 W0)(hw:WTc W0 T W):Calls ab 7 #[U O 100000,U O 5] W λe W'=>∃(cc:Array ny) (k:Int) (T':Nat->Prop),e=np (nq #[.agg cc,U O k])/\TyValc W0 T' W' 0 (.agg qbi) (.agg cc)/\zg T W .no T' W'/\WTc W0 T' W':=by
 refine((h7 hT).2 T W #[U O 100000,U O 5] hw ⟨⟨100000,rfl,kj,kj⟩,⟨5,rfl,kj,kj⟩,trivial⟩ (λl hl=>by cases hl)).mono ?_;rintro e w' ⟨v,vs,T',rfl,hr,hrt,hpo,-,hh,hw2⟩;have hl2:=uk hrt
 obtain⟨x,y,rfl⟩:∃x y,vs=[x,y]:=by
  rcases vs with _|⟨a,_|⟨b,_|⟨c,l⟩⟩⟩<;>first|(simp[c7] at hl2;done)|exact⟨_,_,rfl⟩
 have hr:v=nq #[x,y]:=hr;subst hr;obtain⟨hx,⟨k,rfl,-⟩,-⟩:=hrt;have hx:TyValc W0 T' w' W.heap.size (.agg qbi) x:=hx;obtain⟨cs,rfl,-⟩:=id hx;exact⟨cs,k,T',rfl,qfc hx ki 0,hh.qg7,hw2⟩
theorem qt2(hT:Tab10 W0)(hw:WTc W0 T W){cc os:Array ny}(hc:TyValc W0 T W 0 (.agg qbi) (.agg cc))(ho:TyValc W0 T W 0 (.agg quh) (.agg os)) :
  Calls ab 8 #[.agg cc,.agg os] W λe W'=>∃(cc':Array ny) (v:ny) (k:Int) (T':Nat->Prop),e=np (nq #[.agg cc',v,U O k])/\TyValc W0 T' W' 0 (.agg qbi) (.agg cc')/\zg T W .no T' W'/\WTc W0 T' W':=by
 refine((h8 hT).2 T W #[.agg cc,.agg os] hw ⟨qfc hc ki _,(by rw[P36];exact q6i (qfc ho ki _)),trivial⟩ (λl hl=>by cases hl)).mono ?_;rintro e w' ⟨v,vs,T',rfl,hr,hrt,hpo,-,hh,hw2⟩;have hl2:=uk hrt
 obtain⟨x,y,z,rfl⟩:∃x y z,vs=[x,y,z]:=by
  rcases vs with _|⟨a,_|⟨b,_|⟨c,_|⟨d,l⟩⟩⟩⟩<;>first|(simp[c8] at hl2;done)|exact⟨_,_,_,rfl⟩
 have hr:v=nq #[x,y,z]:=hr;subst hr;obtain⟨hx,hy,⟨k,rfl,-⟩,-⟩:=hrt;have hx:TyValc W0 T' w' W.heap.size (.agg qbi) x:=hx;obtain⟨cs,rfl,-⟩:=id hx;exact⟨cs,y,k,T',rfl,qfc hx ki 0,hh.qg7,hw2⟩
end
open Go.RowKit Go.Great
section
variable {W0:nu}{T T':Nat->Prop}{w W W':nu}
theorem tk_row(h:AV cx.tb w (.sl 0 34 lb) (ng A n c))(hj:j<n):∃(p:Cen.Tk) (b off:Nat),A=I ⟨b,off,V⟩/\b<w.heap.size/\w.rangeAt b (off+j*6) (Cen.tkA p).toList/\p.id.size<=mf/\p.grp.size<=mf/\p.con.size<=mf:=by
 obtain⟨xs,hx⟩:=jr (W0:=w) (T:=λ_=>False) (w:=w) (base:=0) (f:=tyT) (qfj w) ki (h.cv) hj;obtain⟨b,off,e,h1,h2,h3,h4,⟨xs',he,hz,ht⟩⟩:=hx;cases he;have hb:b<w.heap.size:=h1.elim (λh=>h.elim) (λh=>h);obtain⟨r⟩:=xs;have hl:r.length=6:=h3;rcases r with _|⟨a0,_|⟨a1,_|⟨a2,_|⟨a3,_|⟨a4,_|⟨a5,_|⟨a6,r⟩⟩⟩⟩⟩⟩⟩<;>first|(simp at hl;done)|skip
 obtain⟨s0,rfl,q0⟩:=ht 0 _ _ rfl rfl;obtain⟨s1,rfl,q1⟩:=ht 1 _ _ rfl rfl;obtain⟨s2,rfl,q2⟩:=ht 2 _ _ rfl rfl;obtain⟨n3,rfl,-⟩:=ht 3 _ _ rfl rfl;obtain⟨n4,rfl,-⟩:=ht 4 _ _ rfl rfl;obtain⟨n5,rfl,-⟩:=ht 5 _ _ rfl rfl;refine⟨⟨s0,s1,s2,n3,n4,n5⟩,b,off,e,hb,λk u hu=>?_,q0,q1,q2⟩;have hk:k<6:=by have:=(al.1 hu).1;simpa using this
 rw[show off+j*6+k=off+j*tyT.length+k from rfl,h4 k hk];rw[ax] at hu;exact hu
theorem q7c(h:AV cx.tb w (.sl 0 34 lb) (ng A n c)):∃g,Mv.Tks w A n g:=by
 obtain⟨g,hg⟩:=oe (λj:Nat=>(show ∃p:Cen.Tk,j<n->∃(b off:Nat),A=I ⟨b,off,V⟩/\b<w.heap.size/\w.rangeAt b (off+j*6) (Cen.tkA p).toList/\p.id.size<=mf/\p.grp.size<=mf/\p.con.size<=mf from by
  by_cases hj:j<n
  .obtain⟨p,q⟩:=tk_row h hj;exact⟨p,λ_=>q⟩
  .exact⟨⟨⟨#[]⟩,⟨#[]⟩,⟨#[]⟩,0,0,0⟩,λh=>absurd h hj⟩))
 exact⟨g,hg⟩
theorem rd_row(hfl:cx.tb.flat e=I [qy O,qy O])(h:AV cx.tb w (.sl 0 e lb) (ng A n c))(hj:j<n):∃(p:Int×Int) (b off:Nat),A=I ⟨b,off,V⟩/\b<w.heap.size/\w.cell? ⟨b,off+j*2,V⟩=I (U O p.1)/\w.cell? ⟨b,off+j*2+1,V⟩=I (U O p.2):=by
 obtain⟨xs,hx⟩:=jr (W0:=w) (T:=λ_=>False) (w:=w) (base:=0) (qfj w) hfl (h.cv) hj;obtain⟨b,off,e,h1,h2,h3,h4,⟨xs',he,hz,ht⟩⟩:=hx;cases he;have hb:b<w.heap.size:=h1.elim (λh=>h.elim) (λh=>h);obtain⟨r⟩:=xs;have hl:r.length=2:=h3;rcases r with _|⟨a0,_|⟨a1,_|⟨a2,r⟩⟩⟩<;>first|(simp at hl;done)|skip
 obtain⟨x,rfl,-⟩:=ht 0 _ _ rfl rfl;obtain⟨y,rfl,-⟩:=ht 1 _ _ rfl rfl;exact⟨(x,y),b,off,e,hb,h4 0 kj,h4 1 kj⟩
theorem qs3(hfl:cx.tb.flat e=I [qy O,qy O])(h:AV cx.tb w (.sl 0 e lb) (ng A n c)):∃f,Mv.Prs w A n f:=by
 obtain⟨g,hg⟩:=oe (λj:Nat=>(show ∃p:Int×Int,j<n->∃(b off:Nat),A=I ⟨b,off,V⟩/\b<w.heap.size/\w.cell? ⟨b,off+j*2,V⟩=I (U O p.1)/\w.cell? ⟨b,off+j*2+1,V⟩=I (U O p.2) from by
  by_cases hj:j<n
  .obtain⟨p,q⟩:=rd_row hfl h hj;exact⟨p,λ_=>q⟩
  .exact⟨(0,0),λh=>absurd h hj⟩))
 exact⟨g,hg⟩
theorem q56(hs:ms.size=25)(ha:∀(k:Nat) (ct:CT) (u:ny),tyM[k]? = I ct->ms[k]? = I u->AV cx.tb w ct u)(h0:ms[0]? = I (U O 1)) :
  ∃(Q:Prop) (id act:Int),ms[1]? = I (U O id)/\ms[2]? = I (U O act)/\(Q->(1<=id/\id<=2147483647)/\(Mv.qjr act).2=nr) /\
   (∀W:nu,(∀b,b<w.heap.size->W.heap[b]? = w.heap[b]?)->w.heap.size<=W.heap.size->Calls ab 19 #[.agg ms] W λe w'=>Mv.II Q e/\Hid (Below W.heap.size W w')):=by
 obtain⟨r⟩:=ms;have hl:r.length=25:=hs;rcases r with _|⟨r0,_|⟨r1,_|⟨r2,_|⟨r3,_|⟨r4,_|⟨r5,_|⟨r6,_|⟨r7,_|⟨r8,_|⟨r9,_|⟨r10,_|⟨r11,_|⟨r12,_|⟨r13,_|⟨r14,_|⟨r15,_|⟨r16,_|⟨r17,_|⟨r18,_|⟨r19,_|⟨r20,_|⟨r21,_|⟨r22,_|⟨r23,_|⟨r24,_|⟨r25,r⟩⟩⟩⟩⟩⟩⟩⟩⟩⟩⟩⟩⟩⟩⟩⟩⟩⟩⟩⟩⟩⟩⟩⟩⟩⟩<;>first|(simp at hl;done)|skip
 have hb:∀(k:Nat) (ct:CT) (u:ny),tyM[k]? = I ct->(#[r0,r1,r2,r3,r4,r5,r6,r7,r8,r9,r10,r11,r12,r13,r14,r15,r16,r17,r18,r19,r20,r21,r22,r23,r24]:Array ny)[k]? = I u->CV cx.tb w (λ_=>False) w 0 ct u:=λk ct u h1 h2=>(ha k ct u h1 h2).cv
 obtain⟨v0,rfl,-⟩:=hb 0 _ _ rfl rfl;obtain⟨v1,rfl,-⟩:=hb 1 _ _ rfl rfl;obtain⟨v2,rfl,-⟩:=hb 2 _ _ rfl rfl;obtain⟨v3,rfl,-⟩:=hb 3 _ _ rfl rfl;obtain⟨v4,rfl,-⟩:=hb 4 _ _ rfl rfl;obtain⟨v5,rfl,-⟩:=hb 5 _ _ rfl rfl;obtain⟨v6,rfl,-⟩:=hb 6 _ _ rfl rfl;obtain⟨v7,rfl,-⟩:=hb 7 _ _ rfl rfl;obtain⟨v8,rfl,z8⟩:=hb 8 _ _ rfl rfl;obtain⟨v9,rfl,z9⟩:=hb 9 _ _ rfl rfl;obtain⟨v10,rfl,z10⟩:=hb 10 _ _ rfl rfl;obtain⟨v11,rfl⟩:=hb 11 _ _ rfl rfl;have s12:=(hb 12 _ _ rfl rfl);obtain⟨A12,m12,qcc,rfl,z12⟩:=yc s12;obtain⟨v13,rfl,-⟩:=hb 13 _ _ rfl rfl;obtain⟨v14,rfl,-⟩:=hb 14 _ _ rfl rfl;obtain⟨v15,rfl,-⟩:=hb 15 _ _ rfl rfl;obtain⟨v16,rfl,-⟩:=hb 16 _ _ rfl rfl;obtain⟨v17,rfl,-⟩:=hb 17 _ _ rfl rfl;obtain⟨v18,rfl,z18⟩:=hb 18 _ _ rfl rfl;obtain⟨v19,rfl,-⟩:=hb 19 _ _ rfl rfl;obtain⟨v20,rfl,-⟩:=hb 20 _ _ rfl rfl;obtain⟨v21,rfl,-⟩:=hb 21 _ _ rfl rfl;obtain⟨v22,rfl,-⟩:=hb 22 _ _ rfl rfl;have s23:=(hb 23 _ _ rfl rfl);obtain⟨A23,m23,q4v,rfl,z23⟩:=yc s23;have s24:=(hb 24 _ _ rfl rfl);obtain⟨A24,m24,q3w,rfl,z24⟩:=yc s24;obtain rfl:v0=1:=by simpa using h0
 obtain⟨f1,a1⟩:=qs3 (e:=156) ki (ha 12 _ _ rfl rfl);obtain⟨f2,a2⟩:=qs3 (e:=181) ki (ha 23 _ _ rfl rfl);obtain⟨f3,a3⟩:=q7c (ha 24 _ _ rfl rfl);exact⟨_,v1,v2,rfl,rfl,q1s,λW h1 h2=>Mv.val_ 1 v1 v2 v3 v4 v5 v6 v7 v8 v9 v10 v11 A12 m12 qcc v13 v14 v15 v16 v17 v18 v19 v20 v21 v22 A23 m23 q4v A24 m24 q3w f1 f2 f3 w a1 a2 a3 kg kg kg z8 z9 z10 z18 W ⟨h2,h1⟩⟩
end
open Go.RowKit Go.Great
section
variable {W0:nu}{T T':Nat->Prop}{w w' W W':nu}{cs:Array ny}
theorem Done.same{cs:Array ny}{s:ByteArray}{id:Int}{rs:Array ny}{b2 off2 m c kk:Nat}{f:Nat->ByteArray}{now:Int}{A:Option Addr}{n cc:Nat}(h:Done W0 T w cs s id rs b2 off2 m c kk f now A n cc)(x:xq T w T' w')(hs:w.heap.size<=w'.heap.size)(hk:∀b,Bk W0 T b->w'.heap[b]? = w.heap[b]?):Done W0 T' w' cs s id rs b2 off2 m c kk f now A n cc:=by
 have hb:Bk W0 T b2:=by
  obtain⟨xs,⟨b,off,e,h1,-⟩,-⟩:=h.nm kk h.lt;cases e;exact h1
 have hc:∀o,w'.cell? ⟨b2,o,V⟩=w.cell? ⟨b2,o,V⟩:=λo=>World.cell?_of_block (hk b2 hb)
 exact⟨h.k1,h.lt,h.nm.same x hs hk,h.eq,h.ne,h.k0,(hc _).trans h.co,(hc _).trans h.se,h.has.same x hs hk,zx x h.rt⟩
theorem DI.same{cs:Array ny}{s:ByteArray}{id:Int}{rs:Array ny}{f:Nat->ByteArray}(h:DI W0 T w cs s id f rs)(x:xq T w T' w')(hs:w.heap.size<=w'.heap.size)(hk:∀b,Bk W0 T b->w'.heap[b]? = w.heap[b]?):DI W0 T' w' cs s id f rs:=by
 obtain⟨b2,off2,m,c,kk,now,A,n,cc,hd⟩:=h;exact⟨b2,off2,m,c,kk,now,A,n,cc,hd.same x hs hk⟩
theorem qga{cs:Array ny}(hb:yh T W g t old)(hg:W0.heap.size<=g){b:Nat}(hk:Bk W0 T b):(W.setRow g cs).heap[b]? = W.heap[b]?:=by
 refine cw W g b cs (λe=>?_);subst e;rcases hk with h|h
 .exact hb.nt h
 .omega
theorem One.put{cs:Array ny}(h:One W0 T W xs v)(hw:WTc W0 T W)(hb:yh T W g t old)(hg:W0.heap.size<=g):One W0 T (W.setRow g cs) xs v:=
 h.same (qcu hw hb hg).2 (by rw[dr];exact af _) (λb hk=>qga hb hg hk)
theorem DI.put{cs:Array ny}{s:ByteArray}(h:DI W0 T W xs s id f rs)(hw:WTc W0 T W)(hb:yh T W g t old)(hg:W0.heap.size<=g):DI W0 T (W.setRow g cs) xs s id f rs:=
 h.same (qcu hw hb hg).2 (by rw[dr];exact af _) (λb hk=>qga hb hg hk)
theorem ones{v':ny}(hw:WTc W0 T w)(h:One W0 T w rs v)(h':One W0 T w rs v'):∃(b off c b' off' c':Nat) (xs ys:Array ny),v=ng (I ⟨b,off,V⟩) 1 c/\v'=ng (I ⟨b',off',V⟩) 1 c'/\quj w xs.toList ys.toList /\
  (∀W,Below w.heap.size w W->W.rangeAt b off xs.toList)/\(∀W,Below w.heap.size w W->W.rangeAt b' off' ys.toList):=by
 obtain⟨A,c,rfl,-,xs,hx,ex⟩:=h;obtain⟨A',c',rfl,-,ys,hy,ey⟩:=h';have tx:=qei hx;have ty:=qei hy;obtain⟨b,off,rfl,rx⟩:=hx.at_;obtain⟨b',off',rfl,ry⟩:=hy.at_;refine⟨b,off,c,b',off',c',xs,ys,rfl,rfl,mg_eq hw (by rw[<-qm7];exact tx) (by rw[<-qm7];exact ty) (λdp=>by rw[<-qm7];exact(ex dp).symm.trans (ey dp)),λW hb k u hu=>?_,λW hb k u hu=>?_⟩
 .have:=rx W hb k u hu;simpa using this
 .have:=ry W hb k u hu;simpa using this
theorem k1_of(hc:TyValc W0 T w 0 (.agg qbi) (.agg cs))(hw:WTc W0 T w):∃A m c f,cs[1]? = I (ng A m c)/\qkn W0 T w A m f/\m<=63:=by
 obtain⟨v1,k1,t1⟩:=jd hc (k:=1) (ct:=.sl 1 84 63) ki;obtain⟨A,m,c,rfl,h⟩:=yc t1;obtain⟨f,hf⟩:=nms_of hw t1;exact⟨A,m,c,f,k1,hf,h⟩
theorem k1_at(hc:TyValc W0 T w 0 (.agg qbi) (.agg cs))(hk:cs[1]? = I (ng A m c)):m<=63:=by
 obtain⟨v1,k1,t1⟩:=jd hc (k:=1) (ct:=.sl 1 84 63) ki;rw[hk] at k1;cases k1;obtain⟨A',m',c',e,h⟩:=yc t1;cases e;exact h
theorem ms_one{os:List ny}(hs:ms.size=25)(hao:∀(k:Nat) (ct:CT) (u:ny),quh[k]? = I ct->os[k]? = I u->AV cx.tb w ct u)(hos:∀i,i<25->os[10+i]? = ms[i]?)(k:Nat)(ct:CT)(u:ny)(hk:tyM[k]? = I ct)(hu:(ms.setIfInBounds 0 (U O 1))[k]? = I u):AV cx.tb w ct u:=by
 have hkl:k<25:=(al.1 hk).1;rcases k with _|k
 .cases hk;rw[Array.getElem?_setIfInBounds_self_of_lt kg] at hu;cases hu;exact .kint kj kj
 .rw[Array.getElem?_setIfInBounds_ne kg] at hu;have hq:∀i:Fin 25,quh[10+i.1]? = tyM[i.1]?:=kj;exact hao (10+(k+1)) ct u ((hq ⟨k+1,hkl⟩).trans hk) ((hos _ hkl).trans hu)
theorem ms_ty(hs:ms.size=25)(ha:∀(k:Nat) (ct:CT) (u:ny),tyM[k]? = I ct->ms[k]? = I u->AV cx.tb W0 ct u):TyValc W0 T w 0 (.agg FM) (.agg ms):=by
 rw[qm7];exact⟨ms,rfl,hs,λk ct u h1 h2=>(ha k ct u h1 h2).cv⟩
theorem q2n(hT:Tab10 W0)(hw:WTc W0 T w)(hc:TyValc W0 T w 0 (.agg qbi) (.agg cs))(hs:ms.size=25)(ham:∀(k:Nat) (ct:CT) (u:ny),tyM[k]? = I ct->ms[k]? = I u->AV cx.tb W0 ct u)(h0:ms[0]? = I (U O 1))
  {Q:Prop} {act:Int} (h1:ms[1]? = I (U O id)) (h2:ms[2]? = I (U O act)) (hQ:Q->(1<=id/\id<=2147483647)/\(Mv.qjr act).2=nr) (hval:∀W:nu,(∀b,b<W0.heap.size->W.heap[b]? = W0.heap[b]?)->W0.heap.size<=W.heap.size->Calls ab 19 #[.agg ms] W λe w'=>Mv.II Q e/\Hid (Below W.heap.size W w'))
     (hk:cs[1]? = I (ng A m c)) (hn:qkn W0 T w A m f) (s:ByteArray):Calls ab 9 #[.agg cs,nh s,.agg ms] w (RcvP W0 T w cs s id f Q):=
 recv_ (base:=0) (qd4 hT) (q5b hT) hw (by rw[qm2];exact hc) (ms_ty hs ham) h0 h1 h2 hQ hval hk hn (k1_at hc hk) s
theorem q5r{T0:Nat->Prop}(hh:zg T0 w .no T' W)(hw:WTc W0 T' W)(hb:yh T' W g t old)(hg:W0.heap.size<=g)(hgw:w.heap.size<=g):zg T0 w .no T' (W.setRow g cs):=
 ⟨hh.ext.trans (qcu hw hb hg).2,hh.new,by rw[dr];exact hh.size,hh.os,hh.tape,hh.output,λx hx hn=>(cw W g x _ kg).trans (hh.keep x hx hn),λh=>by cases h⟩
end
open Go.RowKit Go.Great
section
variable {W0:nu}{T T':Nat->Prop}{w W W':nu}
theorem qjw{P:ma}{ops:Array Oper}{rest:List Oper}{o:Oper}{a:Act}{w:nu}{Q:Exit->Act->nu->Prop}(hw:Region.wanted o (yielded ops a.tmps)=nr)(ty:nz)(x:Operand)(ho:o.op=.load ty x)
  (g:Nat) (hx:a.eval x=nj (I ⟨g,0,V⟩)) (t:nz) (cs:Array ny) (fr:Nat×Nat) (d:TypeDesc) (hg:w.heap[g]? = I (.cells cs t fr))
  (hu:P.underlying ty=I d) (hd:(match d with|.struct _|.array _ _=>nr|_=>ns)=nr) (hi:(P.info? ty).map (·.size)=I cs.size)
  (h:wpList P ops Q rest (a.put o.dst (.agg cs)) w):wpList P ops Q (o::rest) a w:=
 BigFrame.wpList_want hw λ_ hK=>wp_load_row ty x ho g hx t cs fr d hg hu hd hi (hK _ _ h)
theorem fill1(A:Option Addr)(n c:Nat):iv (λi=>I (i*1,1)) (Array.map (λx=>(Value.slice V 0 0).cells[x%(Value.slice V 0 0).cells.size]!) (Array.range (1*1))) [(0,Value.slice A n c)]=I #[Value.slice A n c]:=ki
theorem qhb{P:ma}{ops:Array Oper}{rest:List Oper}{o:Oper}{a:Act}{w:nu}{Q:Exit->Act->nu->Prop}(hg:o.guard=V)(t e:nz)(x:Operand)(ho:o.op=.buildSlice t 1 #[(0,x)])
  (A:Option Addr) (n c:Nat) (hx:a.eval x=ng A n c) (ie:TypeInfo) (hu:P.underlying t=I (.slice e)) (hie:P.info? e=I ie) (hz:ie.zero=I (ng V 0 0)) (hs:ie.size=1)
  (h:wpList P ops Q rest (a.put o.dst (ng (I ⟨w.heap.size,0,V⟩) 1 1)) (w.alloc (.cells #[ng A n c] e))):wpList P ops Q (o::rest) a w:=
 wpList_buildSlice hg t e 1 _ ho #[ng A n c] ie _ hu hie hz (by rw[hs];decide) (by rw[hs];decide) (by
  have he:((#[(0,x)]:Array (Nat×Operand)).map λ(i,x)=>(i,a.eval x)).toList=[(0,ng A n c)]:=by simp[hx]
  rw[he,hs]
  exact fill1 A n c) h
theorem lit25(h:ms.size=25):∃u0 u1 u2 u3 u4 u5 u6 u7 u8 u9 u10 u11 u12 u13 u14 u15 u16 u17 u18 u19 u20 u21 u22 u23 u24,ms=#[u0,u1,u2,u3,u4,u5,u6,u7,u8,u9,u10,u11,u12,u13,u14,u15,u16,u17,u18,u19,u20,u21,u22,u23,u24]:=by
 obtain⟨r⟩:=ms;have h:r.length=25:=h;rcases r with _|⟨u0,_|⟨u1,_|⟨u2,_|⟨u3,_|⟨u4,_|⟨u5,_|⟨u6,_|⟨u7,_|⟨u8,_|⟨u9,_|⟨u10,_|⟨u11,_|⟨u12,_|⟨u13,_|⟨u14,_|⟨u15,_|⟨u16,_|⟨u17,_|⟨u18,_|⟨u19,_|⟨u20,_|⟨u21,_|⟨u22,_|⟨u23,_|⟨u24,_|⟨u25,l⟩⟩⟩⟩⟩⟩⟩⟩⟩⟩⟩⟩⟩⟩⟩⟩⟩⟩⟩⟩⟩⟩⟩⟩⟩⟩<;>first|(simp at h;done)|exact⟨u0,u1,u2,u3,u4,u5,u6,u7,u8,u9,u10,u11,u12,u13,u14,u15,u16,u17,u18,u19,u20,u21,u22,u23,u24,rfl⟩
theorem q68{r r':Array ny}(h:CeE w r r')(hb:Below w.heap.size w W):CeE W r r':=by
 obtain⟨n0,A1,B1,m1,c1,d1,A2,B2,m2,c2,d2,A3,B3,m3A,c3,m3B,d3,A4,B4,m4A,c4,m4B,d4,n5,A6,B6,m6,c6,d6,A7,B7,m7,c7,d7,A8,B8,m8,c8,d8,A9,B9,m9A,c9,m9B,d9,A10,B10,m10A,c10,m10B,d10,n11,n12,ft,fl,e1,e2,z,g1,gt,g2,g2',g6,g7,gl,g8,g8'⟩:=h;exact⟨n0,A1,B1,m1,c1,d1,A2,B2,m2,c2,d2,A3,B3,m3A,c3,m3B,d3,A4,B4,m4A,c4,m4B,d4,n5,A6,B6,m6,c6,d6,A7,B7,m7,c7,d7,A8,B8,m8,c8,d8,A9,B9,m9A,c9,m9B,d9,A10,B10,m10A,c10,m10B,d10,n11,n12,ft,fl,e1,e2,z,g1.grow hb (λ_ _ h=>h.grow hb),gt,g2.grow hb,g2'.grow hb,g6.grow hb (λ_ _ h=>h.grow hb),g7.grow hb (λ_ _ h=>h.grow hb),gl,g8.grow hb,g8'.grow hb⟩
theorem i58:∃i,ab.info? 58=I i/\i.zero=I (ng V 0 0)/\i.size=1:=by
 have h:(ab.info? 58).map (λi=>(i.zero,i.size))=I (I (ng V 0 0),1):=ki;obtain⟨i,h1,h2⟩:=ea.1 h;simp only[Prod.mk.injEq] at h2;exact⟨i,h1,h2.1,h2.2⟩
theorem szE:(ab.info? 36).map (·.size)=I 35:=ki
theorem szM:(ab.info? 31).map (·.size)=I 25:=ki
theorem law_once(w:nu)(hT:Tab10 w)(hex:∀W:nu,Calls ab 6 #[] W λe w'=>e=np (ni nr)/\Below W.heap.size W w')(v0:ny)(s:ByteArray)(ms:Array ny)(h0:RV cx.tb w (.sl 0 36 128) v0)(hs:s.size<=mf)(hms:ms.size=25)(hmr:∀(k:Nat) (ct:CT) (u:ny),tyM[k]? = I ct->ms[k]? = I u->RV cx.tb w ct u) :
  Calls ab 3 #[v0,nh s,.agg ms] w λe w'=>e=np (ni nr)/\Hid (Below w.heap.size w w'):=by
 obtain⟨A,n,c,F,rfl,hn,hops,hav⟩:=q3x h0;obtain⟨a0,a1,a2,a3,a4,a5,a6,a7,a8,a9,a10,a11,a12,a13,a14,a15,a16,a17,a18,a19,a20,a21,a22,a23,a24,rfl⟩:=lit25 hms;have HT:=aa hT;have HOPS:=aa hops;have HAV:=aa hav;have HEX:=aa hex
 have HOR:Hid (∀(k:Nat) (ct:CT) (u:ny),quh[k]? = I ct->(#[zI,zI,zS,nh s,zS,zS,zS,zI,zI,zI,a0,a1,a2,a3,a4,a5,a6,a7,a8,a9,a10,a11,a12,a13,a14,a15,a16,a17,a18,a19,a20,a21,a22,a23,a24]:Array ny).toList[k]? = I u->RV cx.tb w ct u):=aa (λk ct u hk hu=>by
  have hkl:k<35:=(al.1 hk).1;by_cases h10:10<=k
  .obtain⟨i,rfl⟩:=Nat.exists_eq_add_of_le h10;have hi:i<25:=kg;have hq:∀i:Fin 25,quh[10+i.1]? = tyM[i.1]?:=kj;refine hmr i ct u ((hq ⟨i,hi⟩).symm.trans hk) ?_;rw[<-hu];have:(#[zI,zI,zS,nh s,zS,zS,zS,zI,zI,zI,a0,a1,a2,a3,a4,a5,a6,a7,a8,a9,a10,a11,a12,a13,a14,a15,a16,a17,a18,a19,a20,a21,a22,a23,a24]:Array ny).toList=(#[zI,zI,zS,nh s,zS,zS,zS,zI,zI,zI,a0,a1,a2,a3,a4,a5,a6,a7,a8,a9,a10,a11,a12,a13,a14,a15,a16,a17,a18,a19,a20,a21,a22,a23,a24]:Array ny).toList.take 10++#[a0,a1,a2,a3,a4,a5,a6,a7,a8,a9,a10,a11,a12,a13,a14,a15,a16,a17,a18,a19,a20,a21,a22,a23,a24].toList:=rfl;rw[this,bq kq];simp
  .have hk10:k=0\/k=1\/k=2\/k=3\/k=4\/k=5\/k=6\/k=7\/k=8\/k=9:=kg
   rcases hk10 with rfl|rfl|rfl|rfl|rfl|rfl|rfl|rfl|rfl|rfl<;>(cases hk;cases hu)<;>first|exact .int kj kj|exact .str hs|exact .str kj|exact .fzi kj kj|exact .fzs kj)
 have HOC:=aa (q3j (r:=(#[zI,zI,zS,nh s,zS,zS,zS,zI,zI,zI,a0,a1,a2,a3,a4,a5,a6,a7,a8,a9,a10,a11,a12,a13,a14,a15,a16,a17,a18,a19,a20,a21,a22,a23,a24]:Array ny).toList) rfl HOR.out)
 have HON:Hid ((#[zI,zI,zS,nh s,zS,zS,zS,zI,zI,zI,a0,a1,a2,a3,a4,a5,a6,a7,a8,a9,a10,a11,a12,a13,a14,a15,a16,a17,a18,a19,a20,a21,a22,a23,a24]:Array ny).all (·.oneCell')=nr):=aa (by
  have:=all_oneCell_toArray HOC.out.one
  simpa using this)
 have HB1:=aa (zy w (.cells #[a0,a1,a2,a3,a4,a5,a6,a7,a8,a9,a10,a11,a12,a13,a14,a15,a16,a17,a18,a19,a20,a21,a22,a23,a24] 31));have HK5:=aa (mg.new w 31 #[a0,a1,a2,a3,a4,a5,a6,a7,a8,a9,a10,a11,a12,a13,a14,a15,a16,a17,a18,a19,a20,a21,a22,a23,a24]);have HSM:Hid ((ab.info? 31).map (·.size)=I (#[a0,a1,a2,a3,a4,a5,a6,a7,a8,a9,a10,a11,a12,a13,a14,a15,a16,a17,a18,a19,a20,a21,a22,a23,a24]:Array ny).size):=aa szM;clear hops hav hmr h0 hex hms hT;go_enter Tryz.func3,Tryz.ntmps3;go_upto_region 1 with(fail);generalize w.alloc (.cells #[a0,a1,a2,a3,a4,a5,a6,a7,a8,a9,a10,a11,a12,a13,a14,a15,a16,a17,a18,a19,a20,a21,a22,a23,a24] 31)=w1 at *;go_wp2_with fail
 refine(qh4 A n c F w1 hn (λj hj=>by
  obtain⟨b,off,e,h1,h2⟩:=HOPS.out j hj
  exact⟨b,off,e,h1,λW hb=>h2 W (qg HB1.out hb)⟩)).mono ?_
 rintro e w2 ⟨q,rfl,hb2,hq⟩;have HB2:=aa (qg HB1.out hb2.out);have HK5b:=aa (HK5.out.call hb2.out);have HQ:=aa hq;clear hb2 hq HK5 HB1;cases q with
 | false=>
   go_wp2_with fail;refine(HEX.out _).mono ?_;rintro e w3 ⟨rfl,hb3⟩;have HB3:=aa (qg HB2.out hb3);go_wp2_with fail;go_ret;exact⟨rfl,HB3⟩
 | true=>
 go_wp2_with (first|(refine qjw rfl 31 (.tmp 5) rfl w.heap.size rfl 31 #[a0,a1,a2,a3,a4,a5,a6,a7,a8,a9,a10,a11,a12,a13,a14,a15,a16,a17,a18,a19,a20,a21,a22,a23,a24] (0,0) _ HK5b.out bz rfl HSM.out ?_)|fail);refine(show Calls _ _ _ _ _ from qh4 (I ⟨w2.heap.size,0,V⟩) 1 1 (λ_=>(#[zI,zI,zS,nh s,zS,zS,zS,zI,zI,zI,a0,a1,a2,a3,a4,a5,a6,a7,a8,a9,a10,a11,a12,a13,a14,a15,a16,a17,a18,a19,a20,a21,a22,a23,a24]:Array ny).toList) (w2.alloc (.cells (#[zI,zI,zS,nh s,zS,zS,zS,zI,zI,zI,a0,a1,a2,a3,a4,a5,a6,a7,a8,a9,a10,a11,a12,a13,a14,a15,a16,a17,a18,a19,a20,a21,a22,a23,a24]:Array ny) 36)) kg (λj hj=>?_)).mono ?_
 .obtain rfl:j=0:=kg;refine⟨w2.heap.size,0,rfl,HOC.out,λW hb k u hu=>?_⟩;have:=((mg.new w2 36 (#[zI,zI,zS,nh s,zS,zS,zS,zI,zI,zI,a0,a1,a2,a3,a4,a5,a6,a7,a8,a9,a10,a11,a12,a13,a14,a15,a16,a17,a18,a19,a20,a21,a22,a23,a24]:Array ny)).call hb).cell k;rw[ax] at hu;rw[hu] at this;simpa using this
 rintro e w3 ⟨q2,rfl,hb3,hq2⟩;have HB3:=aa (qg (qp HB2.out _) hb3.out);have HK5c:=aa ((HK5b.out.alloc (.cells (#[zI,zI,zS,nh s,zS,zS,zS,zI,zI,zI,a0,a1,a2,a3,a4,a5,a6,a7,a8,a9,a10,a11,a12,a13,a14,a15,a16,a17,a18,a19,a20,a21,a22,a23,a24]:Array ny) 36)).call hb3.out);have HQ2:=aa hq2;clear hb3 hq2 HK5b HB2;cases q2 with
 | false=>
   go_wp2_with fail;refine(HEX.out _).mono ?_;rintro e w4 ⟨rfl,hb4⟩;have HB4:=aa (qg HB3.out hb4);go_wp2_with fail;go_ret;exact⟨rfl,HB4⟩
 | true=>
 have HAL:=aa (HAV.out (HQ.out (by first|trivial|rfl)) kg);have HAO:=aa (λ(k:Nat) (ct:CT) (u:ny) (hk:quh[k]? = I ct) (hu:(#[zI,zI,zS,nh s,zS,zS,zS,zI,zI,zI,a0,a1,a2,a3,a4,a5,a6,a7,a8,a9,a10,a11,a12,a13,a14,a15,a16,a17,a18,a19,a20,a21,a22,a23,a24]:Array ny).toList[k]? = I u)=>op_av HOR.out ((HQ2.out (by first|trivial|rfl)).2 0 kg) k ct u hk hu);clear HQ HQ2 HAV HOR HOPS;go_wp2_with fail;refine(q5g HT.out (zh (qfj w) HB3.out).1).mono ?_;rintro e w4 ⟨cc,kx,T4,rfl,hcT,hh4,hw4⟩;have HC4:=aa hcT;have HW4:=aa hw4;have HH4:=aa ((zk (PU:=.pure) (qfj w) HB3.out).qg7.trans hh4);have HX5:Hid (yh T4 w4 w.heap.size 31 #[a0,a1,a2,a3,a4,a5,a6,a7,a8,a9,a10,a11,a12,a13,a14,a15,a16,a17,a18,a19,a20,a21,a22,a23,a24]):=aa ((⟨λh=>h,HK5c.out⟩:yh (λ_=>False) w3 w.heap.size 31 #[a0,a1,a2,a3,a4,a5,a6,a7,a8,a9,a10,a11,a12,a13,a14,a15,a16,a17,a18,a19,a20,a21,a22,a23,a24]).call hh4);obtain⟨n0,A1,m1,c1,A2,m2,c2,A3,m3,c3,A4,m4,c4,n5,A6,m6,c6,A7,m7,c7,A8,m8,c8,A9,m9,c9,A10,m10,c10,n11,n12,rfl⟩:=qsi hcT;clear hcT hh4 hw4 HK5c HB3;unfold ceA at HC4 ⊢;go_upto_region 4 with(fail)
 have HLS:Hid (qp5 w w.heap.size w4.heap.size #[a0,a1,a2,a3,a4,a5,a6,a7,a8,a9,a10,a11,a12,a13,a14,a15,a16,a17,a18,a19,a20,a21,a22,a23,a24] (w4.alloc (.cells #[U O n0,ng A1 m1 c1,ng A2 m2 c2,ng A3 m3 c3,ng A4 m4 c4,U O n5,ng A6 m6 c6,ng A7 m7 c7,ng A8 m8 c8,ng A9 m9 c9,ng A10 m10 c10,U O n11,U O n12] 51))):=by
  have hb:=zy w4 (.cells #[U O n0,ng A1 m1 c1,ng A2 m2 c2,ng A3 m3 c3,ng A4 m4 c4,U O n5,ng A6 m6 c6,ng A7 m7 c7,ng A8 m8 c8,ng A9 m9 c9,ng A10 m10 c10,U O n11,U O n12] 51);have hh:=zk (PU:=.pure) HW4.out hb;exact aa ⟨T4,_,(zh HW4.out hb).1,HH4.out.trans hh.qg7,HX5.out.call hh,⟨λh=>by have:=HW4.out.lt h;omega,mg.new w4 51 _⟩,zx hh.ext HC4.out⟩
 have hg7:w.heap.size<=w4.heap.size:=HH4.out.size;have HG7:Hid (w.heap.size<w4.heap.size):=aa HX5.out.bk.lt;clear HC4 HW4 HH4 HX5;generalize w4.alloc (.cells #[U O n0,ng A1 m1 c1,ng A2 m2 c2,ng A3 m3 c3,ng A4 m4 c4,U O n5,ng A6 m6 c6,ng A7 m7 c7,ng A8 m8 c8,ng A9 m9 c9,ng A10 m10 c10,U O n11,U O n12] 51)=w5 at *;generalize w4.heap.size=g7 at *;go_wp2_with fail;go_loopg [32] n (λgg s32 wr=>∃j:Nat,j+gg=n/\s32=U O j/\Hid (qp5 w w.heap.size g7 #[a0,a1,a2,a3,a4,a5,a6,a7,a8,a9,a10,a11,a12,a13,a14,a15,a16,a17,a18,a19,a20,a21,a22,a23,a24] wr))
 case atStart=>exact⟨0,kg,rfl,HLS⟩
 case round=>
  clear HLS;obtain⟨j,hj,rfl,HL⟩:=hrel;obtain⟨T',cc,hw,hh,hb5,hb7,hc⟩:=HL.out;by_cases hjn:j<n
  .obtain⟨b,off,r,rfl,hrl,hrt,hcl⟩:=qtb hw flO (show CV cx.tb w T' wr 0 (.sl 0 36 128) (ng A n c) from .inr (.inl ⟨rfl,HAL.out⟩)) hjn;have hltz:(j:Int)<(n:Int):=kg;have hj0:(0:Int)<=(j:Int):=kg;have e4:IntKind.i64.wrap ((j:Int)+1)=((j+1:Nat):Int):=by simp[IntKind.wrap,IntKind.bits,IntKind.signed];omega
   have hrl:r.length=35:=hrl;have hoT:zq cx.tb w T' wr 0 (.agg quh) (.agg r.toArray):=⟨_,rfl,by simpa using hrl,λi ct u hi hu=>hrt i ct u hi (by simpa using hu)⟩;have hro:=xx hoT;have hcs:cc.size=13:=zf hc;have hcone:=xx hc;have HW:=aa hw;have HH:=aa hh;have HB5:=aa hb5;have HB7:=aa hb7;have HC:=aa hc;have HO:=aa hoT;have HRG:=aa (show wr.rangeAt b (off+j*35) r from λo u hu=>hcl wr (Below.refl _ _) o u hu);have HRO:=aa hro;have HCS:=aa (show(ab.info? 51).map (·.size)=I cc.size by rw[hcs];kernel_rfl);clear hw hh hb5 hb7 hc hoT hcl hrt hro hcone HL;go_upto_region 6 with(fail);refine wp_region_lit ?_;refine lRun (w':=wr) rfl (nj (I ⟨b,off+j*35,V⟩)) (by go_simp) ?_;refine wpList_load_mid rfl 36 (.tmp 34) rfl b (off+j*35) rfl r _ HRG.out aau rfl (by rw[hrl];exact szE) ?_;refine lRun (w':=wr.alloc (.cells zD 36)) rfl (nj (I ⟨wr.heap.size,0,V⟩)) ki ?_;refine br rfl 36 (.tmp 10) (.tmp 35) rfl rfl wr.heap.size r.toArray rfl rfl 36 zD (heap_alloc_last _ _) (by simp only[ei,hrl];exact szE) (by simp only[ei,hrl];rfl) HRO.out ?_;rw[World.setRow_alloc_new];simp[Act.put];have hbn:=zy wr (.cells r.toArray 36);have hhn:=zk (PU:=.pure) HW.out hbn;have quc:=aa (mg.new wr 36 r.toArray);replace HW:=aa (zh HW.out hbn).1;replace HH:=aa (HH.out.trans hhn.qg7);replace HB5:=aa (HB5.out.call hhn);replace HB7:=aa (HB7.out.call hhn);replace HC:=aa (zx hhn.ext HC.out);replace HO:=aa (zx hhn.ext HO.out);clear hbn hhn;generalize wr.alloc (.cells r.toArray 36)=w7 at *;generalize wr.heap.size=g10 at *;have hrsz:(ab.info? 36).map (·.size)=I r.toArray.size:=by simp only[ei,hrl];exact szE
   go_wp2_with (first|(refine bp rfl 51 (.tmp 7) rfl g7 rfl 51 cc (0,0) _ HB7.out.bk ej rfl HCS.out ?_)|(refine bp rfl 36 (.tmp 10) rfl g10 rfl 36 r.toArray (0,0) _ quc.out aau rfl hrsz ?_));refine(qt2 HT.out HW.out HC.out HO.out).mono ?_;rintro e w9 ⟨cc',v,k,T9,rfl,hc9,hh9,hw9⟩;have hcs9:cc'.size=13:=zf hc9;have hon9:=xx hc9;have hb79:=HB7.out.call hh9;have hb59:=HB5.out.call hh9
   have HL9:Hid (qp5 w w.heap.size g7 #[a0,a1,a2,a3,a4,a5,a6,a7,a8,a9,a10,a11,a12,a13,a14,a15,a16,a17,a18,a19,a20,a21,a22,a23,a24] (w9.setRow g7 cc')):=by
    obtain⟨k1,k2⟩:=qcu (cs:=cc') hw9 hb79 hg7;have qgd:=HH.out.trans hh9;exact aa ⟨T9,cc',k1,⟨qgd.ext.trans k2,qgd.new,by rw[dr];exact qgd.size,qgd.os,qgd.tape,qgd.output,λx hx hn=>(cw w9 g7 x _ kg).trans (qgd.keep x hx hn),λh=>by cases h⟩,hb59.row _ (by have:=HG7.out;omega),⟨hb79.nt,setRow_heap w9 g7 cc cc' 51 (0,0) hb79.bk⟩,zx k2 hc9⟩
   have HB79:=aa hb79.bk;clear hc9 hh9 hw9 hb79 hb59;go_wp2_with (refine br rfl 51 (.tmp 7) (.tmp 40) rfl rfl g7 cc' rfl rfl 51 cc HB79.out (by rw[hcs9];kernel_rfl) (by rw[hcs,hcs9]) hon9 ?_);go_roundg (n-(j+1))
   case measure=>omega
   case rel=>exact⟨j+1,kg,kq,HL9⟩
  .have xm:n=j:=kg;subst xm;have hcs:cc.size=13:=zf hc;have HCS:=aa (show(ab.info? 51).map (·.size)=I cc.size by rw[hcs];kernel_rfl);have HCZ:=aa hcs;have k5:=hb5.bk.cell 0;have k5f:=hb5.bk.frozen 0;have hg5:w.heap.size<wr.heap.size:=hb5.bk.lt;obtain⟨q1,q2⟩:=q6r (v:=U O 1) (k:=0) hw hb5 (af _);have HW:=aa q1;have HH:Hid (zg (λ_=>False) w .no T' (wr.setCell ⟨w.heap.size,0,V⟩ (U O 1))):=aa ⟨hh.ext.trans q2,hh.new,by rw[qz];exact hh.size,hh.os,hh.tape,hh.output,λx hx hn=>(iz wr ⟨w.heap.size,0,V⟩ (U O 1) x (by show x≠w.heap.size;omega)).trans (hh.keep x hx hn),λh=>by cases h⟩;have HB5:Hid (yh T' (wr.setCell ⟨w.heap.size,0,V⟩ (U O 1)) w.heap.size 31 (#[a0,a1,a2,a3,a4,a5,a6,a7,a8,a9,a10,a11,a12,a13,a14,a15,a16,a17,a18,a19,a20,a21,a22,a23,a24].setIfInBounds 0 (U O 1))):=aa ⟨hb5.nt,hb5.bk.set_ 0 _⟩;have HB7:=aa (hb7.set (k:=0) (r:=U O 1) (p:=w.heap.size) (by have:=HG7.out;omega));have HC:=aa (zx q2 hc);clear hw hh hb5 hb7 hc HL q1 q2 hcs;go_upto_region 10 with(fail);generalize wr.setCell ⟨w.heap.size,0,V⟩ (U O 1)=w6 at *;have HSM1:Hid ((ab.info? 31).map (·.size)=I (#[a0,a1,a2,a3,a4,a5,a6,a7,a8,a9,a10,a11,a12,a13,a14,a15,a16,a17,a18,a19,a20,a21,a22,a23,a24].setIfInBounds 0 (Value.int O 1)).size):=aa szM;go_wp2_with (first|(refine bp rfl 51 (.tmp 7) rfl g7 rfl 51 cc (0,0) _ HB7.out.bk ej rfl HCS.out ?_)|(refine bp rfl 31 (.tmp 5) rfl w.heap.size rfl 31 (#[a0,a1,a2,a3,a4,a5,a6,a7,a8,a9,a10,a11,a12,a13,a14,a15,a16,a17,a18,a19,a20,a21,a22,a23,a24].setIfInBounds 0 (Value.int O 1)) (0,0) _ HB5.out.bk bz rfl HSM1.out ?_))
   have HAM:=aa (ms_one (w:=w) (ms:=#[a0,a1,a2,a3,a4,a5,a6,a7,a8,a9,a10,a11,a12,a13,a14,a15,a16,a17,a18,a19,a20,a21,a22,a23,a24]) rfl HAO.out (λi hi=>by
    have:((#[zI,zI,zS,nh s,zS,zS,zS,zI,zI,zI,a0,a1,a2,a3,a4,a5,a6,a7,a8,a9,a10,a11,a12,a13,a14,a15,a16,a17,a18,a19,a20,a21,a22,a23,a24]:Array ny):Array ny).toList=((#[zI,zI,zS,nh s,zS,zS,zS,zI,zI,zI,a0,a1,a2,a3,a4,a5,a6,a7,a8,a9,a10,a11,a12,a13,a14,a15,a16,a17,a18,a19,a20,a21,a22,a23,a24]:Array ny):Array ny).toList.take 10++(#[a0,a1,a2,a3,a4,a5,a6,a7,a8,a9,a10,a11,a12,a13,a14,a15,a16,a17,a18,a19,a20,a21,a22,a23,a24]:Array ny).toList:=rfl;show((#[zI,zI,zS,nh s,zS,zS,zS,zI,zI,zI,a0,a1,a2,a3,a4,a5,a6,a7,a8,a9,a10,a11,a12,a13,a14,a15,a16,a17,a18,a19,a20,a21,a22,a23,a24]:Array ny):Array ny).toList[10+i]? = _;rw[this,bq kq]
    simp))
   obtain⟨Q,id,act,h1,h2,hQ,hval⟩:=q56 (w:=w) (ms:=#[a0,a1,a2,a3,a4,a5,a6,a7,a8,a9,a10,a11,a12,a13,a14,a15,a16,a17,a18,a19,a20,a21,a22,a23,a24].setIfInBounds 0 (U O 1)) rfl HAM.out rfl;have HR:=aa (And.intro h1 (And.intro h2 (And.intro hQ hval)));clear h1 h2 hQ hval HAO;obtain⟨A1,m1,c1,f,hk1,hnm,-⟩:=k1_of HC.out HW.out;refine(q2n (ms:=#[a0,a1,a2,a3,a4,a5,a6,a7,a8,a9,a10,a11,a12,a13,a14,a15,a16,a17,a18,a19,a20,a21,a22,a23,a24].setIfInBounds 0 (U O 1)) HT.out HW.out HC.out rfl HAM.out rfl HR.out.1 HR.out.2.1 HR.out.2.2.1 HR.out.2.2.2 hk1 hnm s).mono ?_;rintro e w7 ⟨T1,ds,v,rfl,hw7,hc7,hh7,hans,-⟩;rw[qm2] at hc7;have hds:ds.size=13:=zf hc7;have hon7:=xx hc7;have hb7:=HB7.out.call hh7;have hb5:=HB5.out.call hh7;have qim:w.heap.size<=g7:=by have:=HG7.out;omega
   obtain⟨k1,k2⟩:=qcu (cs:=ds) hw7 hb7 qim;have HW8:=aa k1;have HH8:=aa (q5r (cs:=ds) (HH.out.trans hh7) hw7 hb7 qim qim);have HC8:=aa (zx k2 hc7);have HB78:Hid (yh T1 (w7.setRow g7 ds) g7 51 ds):=aa ⟨hb7.nt,setRow_heap w7 g7 cc ds 51 (0,0) hb7.bk⟩;have HB58:Hid (yh T1 (w7.setRow g7 ds) w.heap.size 31 (#[a0,a1,a2,a3,a4,a5,a6,a7,a8,a9,a10,a11,a12,a13,a14,a15,a16,a17,a18,a19,a20,a21,a22,a23,a24].setIfInBounds 0 (U O 1))):=aa (hb5.row _ (by have:=HG7.out;omega));have HANS:Hid (v=ng V 0 0\/(Q/\∃rs f',One w T1 (w7.setRow g7 ds) rs v/\DI w T1 (w7.setRow g7 ds) ds s id f' rs)):=aa (hans.imp (λh=>h) (λ⟨q,rs,f',ho,hd⟩=>⟨q,rs,f',ho.put hw7 hb7 qim,hd.put hw7 hb7 qim⟩));have HB77:=aa hb7.bk;have HSD:=aa (show(ab.info? 51).map (·.size)=I ds.size by rw[hds];kernel_rfl);clear hw7 hc7 hh7 hans hb7 hb5 k1 k2 hk1 hnm HW HH HB5 HB7 HC qim;rcases HANS.out with rfl|⟨hq,rs,f',ho,hd⟩
   .go_wp2_with (refine br rfl 51 (.tmp 7) (.tmp 50) rfl rfl g7 ds rfl rfl 51 cc HB77.out (by rw[hds];kernel_rfl) (by rw[HCZ.out,hds]) hon7 ?_);refine(HEX.out _).mono ?_;rintro e w9 ⟨rfl,hb9⟩;have HB9:=aa (qg (hist_none HH8.out) hb9);go_wp2_with fail;go_ret;exact⟨rfl,HB9⟩
   .obtain⟨B,c,hv,-⟩:=show One w T1 (w7.setRow g7 ds) rs v from ho
    subst hv;have HO:=aa ho;have HD:=aa hd;clear HANS ho hd;go_wp2_with (first|(refine br rfl 51 (.tmp 7) (.tmp 50) rfl rfl g7 ds rfl rfl 51 cc HB77.out (by rw[hds];kernel_rfl) (by rw[HCZ.out,hds]) hon7 ?_)|(refine bp rfl 51 (.tmp 7) rfl g7 rfl 51 ds (0,0) _ HB78.out.bk ej rfl HSD.out ?_)|(refine bp rfl 31 (.tmp 5) rfl w.heap.size rfl 31 (#[a0,a1,a2,a3,a4,a5,a6,a7,a8,a9,a10,a11,a12,a13,a14,a15,a16,a17,a18,a19,a20,a21,a22,a23,a24].setIfInBounds 0 (Value.int O 1)) (0,0) _ HB58.out.bk bz rfl HSM1.out ?_));obtain⟨b2,off2,m2,c2,kk,now,A2,n2,cc2,hdd⟩:=show DI w T1 (w7.setRow g7 ds) ds s id f' rs from HD.out
    refine(q2n (ms:=#[a0,a1,a2,a3,a4,a5,a6,a7,a8,a9,a10,a11,a12,a13,a14,a15,a16,a17,a18,a19,a20,a21,a22,a23,a24].setIfInBounds 0 (U O 1)) HT.out HW8.out HC8.out rfl HAM.out rfl HR.out.1 HR.out.2.1 HR.out.2.2.1 HR.out.2.2.2 hdd.k1 hdd.nm s).mono ?_;rintro e w9 ⟨T2,es,v2,rfl,hw9,hc9,-,-,hsec⟩;obtain⟨hp9,ho9,he9⟩:=hsec rs hq HD.out;rw[qm2] at hc9;have HCE:=aa (ce_eq hw9 (zx hp9.ext HC8.out) hc9 (λdp=>by rw[<-qm2];exact he9 dp));obtain⟨b,off,c',b',off',d',xs,ys,e1,e2,hmg,r1,r2⟩:=ones hw9 (HO.out.hist HW8.out hp9) ho9;cases e1;subst e2;have HMG:=aa hmg;have HR1:=aa r1;have HR2:=aa r2;have HB9:=aa (hist_none (HH8.out.trans hp9.qg7));have HB79:=aa (HB78.out.call hp9).bk;have hes:es.size=13:=zf hc9;have HSE:=aa (show(ab.info? 51).map (·.size)=I es.size by rw[hes];kernel_rfl);obtain⟨i1,hi1,hz1,hs1⟩:=i58;obtain⟨n0,A1,m1,c1,A2,m2,c2,A3,m3,c3,A4,m4,c4,n5,A6,m6,c6,A7,m7,c7,A8,m8,c8,A9,m9,c9,A10,m10,c10,n11,n12,he⟩:=qsi hc9;clear hmg r1 r2 hsec ho9 he9 hw9 hc9 hp9 HO HD hdd HAM HR HB58 HB78 HB77 HW8 HC8;subst he;unfold ceA at HCE HSE ⊢;go_wp2_with (first|(refine qhb rfl 55 58 _ rfl (I ⟨b,off,V⟩) 1 c rfl i1 aav hi1 hz1 hs1 ?_)|(refine qhb rfl 55 58 _ rfl (I ⟨b',off',V⟩) 1 d' rfl i1 aav hi1 hz1 hs1 ?_)|fail);have quc:=aa (qp (qp (zy w9 (.cells #[U O n0,ng A1 m1 c1,ng A2 m2 c2,ng A3 m3 c3,ng A4 m4 c4,U O n5,ng A6 m6 c6,ng A7 m7 c7,ng A8 m8 c8,ng A9 m9 c9,ng A10 m10 c10,U O n11,U O n12] 51)) (.cells #[ng (I ⟨b,off,V⟩) 1 c] 58)) (.cells #[ng (I ⟨b',off',V⟩) 1 d'] 58));have HE12:=aa (((mg.new w9 51 #[U O n0,ng A1 m1 c1,ng A2 m2 c2,ng A3 m3 c3,ng A4 m4 c4,U O n5,ng A6 m6 c6,ng A7 m7 c7,ng A8 m8 c8,ng A9 m9 c9,ng A10 m10 c10,U O n11,U O n12]).alloc (.cells #[ng (I ⟨b,off,V⟩) 1 c] 58)).alloc (.cells #[ng (I ⟨b',off',V⟩) 1 d'] 58))
    have HE64:Hid (mg (((w9.alloc (.cells #[U O n0,ng A1 m1 c1,ng A2 m2 c2,ng A3 m3 c3,ng A4 m4 c4,U O n5,ng A6 m6 c6,ng A7 m7 c7,ng A8 m8 c8,ng A9 m9 c9,ng A10 m10 c10,U O n11,U O n12] 51)).alloc (.cells #[ng (I ⟨b,off,V⟩) 1 c] 58)).alloc (.cells #[ng (I ⟨b',off',V⟩) 1 d'] 58)) (w9.heap.size+1) 58 #[ng (I ⟨b,off,V⟩) 1 c]):=aa (by
     have:=(mg.new (w9.alloc (.cells #[U O n0,ng A1 m1 c1,ng A2 m2 c2,ng A3 m3 c3,ng A4 m4 c4,U O n5,ng A6 m6 c6,ng A7 m7 c7,ng A8 m8 c8,ng A9 m9 c9,ng A10 m10 c10,U O n11,U O n12] 51)) 58 #[ng (I ⟨b,off,V⟩) 1 c]).alloc (.cells #[ng (I ⟨b',off',V⟩) 1 d'] 58)
     rwa [show(w9.alloc (.cells #[U O n0,ng A1 m1 c1,ng A2 m2 c2,ng A3 m3 c3,ng A4 m4 c4,U O n5,ng A6 m6 c6,ng A7 m7 c7,ng A8 m8 c8,ng A9 m9 c9,ng A10 m10 c10,U O n11,U O n12] 51)).heap.size=w9.heap.size+1 by simp] at this)
    have HE66:Hid (mg (((w9.alloc (.cells #[U O n0,ng A1 m1 c1,ng A2 m2 c2,ng A3 m3 c3,ng A4 m4 c4,U O n5,ng A6 m6 c6,ng A7 m7 c7,ng A8 m8 c8,ng A9 m9 c9,ng A10 m10 c10,U O n11,U O n12] 51)).alloc (.cells #[ng (I ⟨b,off,V⟩) 1 c] 58)).alloc (.cells #[ng (I ⟨b',off',V⟩) 1 d'] 58)) (w9.heap.size+1+1) 58 #[ng (I ⟨b',off',V⟩) 1 d']):=aa (by
     have:=mg.new ((w9.alloc (.cells #[U O n0,ng A1 m1 c1,ng A2 m2 c2,ng A3 m3 c3,ng A4 m4 c4,U O n5,ng A6 m6 c6,ng A7 m7 c7,ng A8 m8 c8,ng A9 m9 c9,ng A10 m10 c10,U O n11,U O n12] 51)).alloc (.cells #[ng (I ⟨b,off,V⟩) 1 c] 58)) 58 #[ng (I ⟨b',off',V⟩) 1 d']
     rwa [show((w9.alloc (.cells #[U O n0,ng A1 m1 c1,ng A2 m2 c2,ng A3 m3 c3,ng A4 m4 c4,U O n5,ng A6 m6 c6,ng A7 m7 c7,ng A8 m8 c8,ng A9 m9 c9,ng A10 m10 c10,U O n11,U O n12] 51)).alloc (.cells #[ng (I ⟨b,off,V⟩) 1 c] 58)).heap.size=w9.heap.size+1+1 by simp] at this)
    generalize ((w9.alloc (.cells #[U O n0,ng A1 m1 c1,ng A2 m2 c2,ng A3 m3 c3,ng A4 m4 c4,U O n5,ng A6 m6 c6,ng A7 m7 c7,ng A8 m8 c8,ng A9 m9 c9,ng A10 m10 c10,U O n11,U O n12] 51)).alloc (.cells #[ng (I ⟨b,off,V⟩) 1 c] 58)).alloc (.cells #[ng (I ⟨b',off',V⟩) 1 d'] 58)=wA at *;refine(same10 wA (λW hb=>(HE64.out.call hb).cell 0) (λW hb=>(HE66.out.call hb).cell 0) (HMG.out.grow quc.out) (λW hb=>HR1.out W (qg quc.out hb)) (λW hb=>HR2.out W (qg quc.out hb))).mono ?_;rintro e w10 ⟨rfl,hb10⟩;have qlk:=aa (qg quc.out hb10.out);have HD12:=aa (HE12.out.call hb10.out);have HD7:=aa (HB79.out.call qlk.out);clear hb10 HE12 HE64 HE66 quc;go_wp2_with (first|(refine qjw rfl 51 (.tmp 7) rfl g7 rfl 51 ds (0,0) _ HD7.out ej rfl HSD.out ?_)|(refine qjw rfl 51 (.tmp 12) rfl w9.heap.size rfl 51 #[U O n0,ng A1 m1 c1,ng A2 m2 c2,ng A3 m3 c3,ng A4 m4 c4,U O n5,ng A6 m6 c6,ng A7 m7 c7,ng A8 m8 c8,ng A9 m9 c9,ng A10 m10 c10,U O n11,U O n12] (0,0) _ HD12.out ej rfl HSE.out ?_)|fail);refine(same11 w10 (q68 HCE.out qlk.out)).mono ?_;rintro e w11 ⟨rfl,hb11⟩;have qlb:=aa (qg qlk.out hb11.out);clear hb11;go_wp2_with fail;refine(HEX.out _).mono ?_;rintro e w12 ⟨rfl,hb12⟩;have HB13:=aa (qg HB9.out (qg qlb.out hb12));go_wp2_with fail;go_ret;exact⟨rfl,HB13⟩
end
end Sy
namespace Ev
open Go.RowKit
open Sy (Cx TD qzu yj KD kd yx)
variable {a:Act}{b:Nat}{σ:Nat->Nat}{o:Op}{x:Operand}{v:ny}{w w':nu}
def lk{α:Type}:List (Nat×α)->Nat->Option α
 | [],_=>V
 | (m,x)::r,n=>if m=n then I x else lk r n
inductive SV where
 | con (v:ny)
 | ptr (g off:Nat)
 | sl (g off n:Nat) (k:Option Nat) (c:Nat)
 | fn (f:Fn) (a b:List SV)
mutual
def SV.den(σ:Nat->Nat):SV->ny
 | .con v=>v
 | .ptr g o=>.pointer (I ⟨σ g,o,V⟩)
 | .sl g o n V c=>.slice (I ⟨σ g,o,V⟩) n c
 | .sl g o n (I k) c=>.slice (I ⟨σ g,o,V⟩) n (σ k-c)
 | .fn f a b=>.func f (qw σ a).toArray (qw σ b).toArray
def qw(σ:Nat->Nat):List SV->List ny
 | []=>[]
 | s::r=>s.den σ::qw σ r
end
theorem qzb(σ:Nat->Nat):∀l,qw σ l=l.map (SV.den σ)
 | []=>rfl
 | s::r=>by rw[qw,qzb σ r];rfl
inductive TV where
 | one (s:SV)
 | agg (l:List SV)
def TV.den(σ:Nat->Nat):TV->ny
 | .one s=>s.den σ
 | .agg l=>.agg (qw σ l).toArray
inductive XV where
 | v (t:TV)
 | tup (l:List TV)
def XV.den(σ:Nat->Nat):XV->ny
 | .v t=>t.den σ
 | .tup l=>.tuple (l.map (TV.den σ)).toArray
structure Blk where
 t:nz
 cs:List SV
 cap:Option (Nat×Nat)
structure St where
 nx:Nat
 H:List (Nat×Option Blk)
 ac:Nat
 wr:Nat
def St.get(S:St)(g:Nat):Option Blk:=match lk S.H g with
 | some b=>b
 | none=>V
abbrev jy:=List (Nat×XV)
def yw(n:Nat)(σ J:Nat->Nat):Prop:=∀g,g<n->J g=σ g
theorem yw.refl(n:Nat)(σ:Nat->Nat):yw n σ σ:=λ_ _=>rfl
theorem yw.trans{n m:Nat}{σ J υ:Nat->Nat}(h:yw n σ J)(k:yw m J υ)(hm:n<=m):yw n σ υ:=λg hg=>(k g kg).trans (h g hg)
def qyj(σ:Nat->Nat)(B:Blk)(b:Nat)(w:nu):Prop:=∃cs,w.heap[b]? = I (.cells cs B.t (0,0))/\B.cs.length<=cs.size /\
 (match B.cap with|none=>cs.size=B.cs.length|some (k,sz)=>cs.size=σ k*sz/\σ k<=mf)/\∀(i:Nat) (s:SV),B.cs[i]? = I s->cs[i]? = I (s.den σ)
theorem qyj.lt{B:Blk}(h:qyj σ B b w):b<w.heap.size:=by
 obtain⟨cs,h,-⟩:=h;rcases Nat.lt_or_ge b w.heap.size with h1|h1
 .exact h1
 .rw[Array.getElem?_eq_none h1] at h;cases h
theorem qyj.keep{B:Blk}(h:qyj σ B b w)(hk:w'.heap[b]? = w.heap[b]?):qyj σ B b w':=by
 obtain⟨cs,h1,h2⟩:=h;exact⟨cs,by rw[hk];exact h1,h2⟩
structure qfq(M:Nat->Prop)(σ:Nat->Nat)(S:St)(w:World):Prop where
 blk:∀g B,M g->S.get g=I B->qyj σ B (σ g) w
 inj:∀g g' B B',M g->M g'->S.get g=I B->S.get g'=I B'->σ g=σ g'->g=g'
def qqz(σ:Nat->Nat)(env:jy)(a:Act):Prop:=∀t x,lk env t=I x->a.tmps.getD t mc=x.den σ
structure qqv(S S':St):Prop where
 nx:S.nx<=S'.nx
 lt:(∀g B,S.get g=I B->g<S.nx)->∀g B,S'.get g=I B->g<S'.nx
 old:∀g B,g<S.nx->S'.get g=I B->∃B0,S.get g=I B0
 hold:∀g,g<S.nx->S'.wr.testBit g=ns->S'.get g=S.get g
 ac:∀g,S.ac.testBit g=nr->S'.ac.testBit g=nr
 wr:∀g,S.wr.testBit g=nr->S'.wr.testBit g=nr
 made:(∀g B,S.get g=I B->g<S.nx)->∀g B,S.nx<=g->S'.get g=I B->S'.wr.testBit g=nr
structure Fr(σ σ1:Nat->Nat)(S S':St)(w w':World):Prop where
 size:w.heap.size<=w'.heap.size
 os:w'.os=w.os
 tape:w'.tape=w.tape
 output:w'.output=w.output
 keep:∀b,b<w.heap.size->(∀g B,g<S.nx->S'.wr.testBit g=nr->S.get g=I B->σ g≠b)->w'.heap[b]? = w.heap[b]?
 new:∀g B,S.nx<=g->S'.get g=I B->w.heap.size<=σ1 g\/∃g0 B0,g0<S.nx/\S.get g0=I B0/\S'.wr.testBit g0=nr/\σ1 g=σ g0
def qxb(M:Nat->Prop)(σ:Nat->Nat)(S:St)(w:nu)(x:XV)(S':St)(v:ny)(w':nu):Prop:=
 ∃σ1,yw S.nx σ σ1/\(∀g,S'.nx<=g->σ1 g=σ g)/\(∀J,yw S'.nx σ1 J->qfq M J S' w'/\v=x.den J)/\Fr σ σ1 S S' w w'
structure qqu(M:Nat->Prop)(σ:Nat->Nat)(S:St)(w:World):Prop where
 sat:∀J,yw S.nx σ J->qfq M J S w
 lt:∀g B,S.get g=I B->g<S.nx
 new:∀g,S.nx<=g->M g
theorem qqv.refl(S:St):qqv S S:=⟨af _,λh=>h,λ_ B _ h=>⟨B,h⟩,λ_ _ _=>rfl,λ_ h=>h,λ_ h=>h,λhl g B hg hB=>absurd (hl g B hB) kg⟩
theorem qqv.trans{S S1 S2:St}(h:qqv S S1)(k:qqv S1 S2):qqv S S2:=by
 refine⟨cy h.nx k.nx,λhl=>k.lt (h.lt hl),λg B hg hB=>?_,λg hg hw=>?_,λg hg=>k.ac g (h.ac g hg),λg hg=>k.wr g (h.wr g hg),λhl g B hg hB=>?_⟩
 .obtain⟨B0,h0⟩:=k.old g B (bf hg h.nx) hB;exact h.old g B0 hg h0
 .rw[k.hold g (bf hg h.nx) hw];refine h.hold g hg ?_;cases hq:S1.wr.testBit g with
  | false=>rfl
  | true=>rw[k.wr g hq] at hw;cases hw
 .by_cases hg1:g<S1.nx
  .obtain⟨B0,h0⟩:=k.old g B hg1 hB;exact k.wr g (h.made hl g B0 hg h0)
  .exact k.made (h.lt hl) g B kg hB
theorem Fr.refl(σ:Nat->Nat)(S S':St)(w:nu)(h:∀g B,S'.get g=I B->g<S.nx):Fr σ σ S S' w w:=
 ⟨af _,rfl,rfl,rfl,λ_ _ _=>rfl,λg B hg hB=>absurd (h g B hB) kg⟩
theorem Fr.trans{σ σ1 σ2:Nat->Nat}{S S1 S2:St}{w w1 w2:nu}(h:Fr σ σ1 S S1 w w1)(k:Fr σ1 σ2 S1 S2 w1 w2)(g1:qqv S S1)(g2:qqv S1 S2)(a1:yw S.nx σ σ1)(a2:yw S1.nx σ1 σ2):Fr σ σ2 S S2 w w2:=by
 refine⟨cy h.size k.size,k.os.trans h.os,k.tape.trans h.tape,k.output.trans h.output,λb hb hn=>?_,λg B hg hB=>?_⟩
 .rw[k.keep b (bf hb h.size) (λg B hg hw hB=>?_),h.keep b hb (λg B hg hw hB=>hn g B hg (g2.wr g hw) hB)];by_cases hgs:g<S.nx
  .obtain⟨B0,h0⟩:=g1.old g B hgs hB;rw[a1 g hgs];exact hn g B0 hgs hw h0
  .rcases h.new g B kg hB with h1|⟨g0,B0,q1,q2,q3,q4⟩
   .omega
   .rw[q4];exact hn g0 B0 q1 (g2.wr g0 q3) q2
 .by_cases hg1:g<S1.nx
  .obtain⟨B0,h0⟩:=g2.old g B hg1 hB;rw[a2 g hg1];rcases h.new g B0 hg h0 with h1|⟨g0,B0,q1,q2,q3,q4⟩
   .exact .inl h1
   .exact .inr ⟨g0,B0,q1,q2,g2.wr g0 q3,q4⟩
  .rcases k.new g B kg hB with h1|⟨g0,B0,q1,q2,q3,q4⟩
   .exact .inl (cy h.size h1)
   .by_cases hg0:g0<S.nx
    .obtain⟨B1,h1⟩:=g1.old g0 B0 hg0 q2;exact .inr ⟨g0,B1,hg0,h1,q3,by rw[q4,a1 g0 hg0]⟩
    .rw[q4];rcases h.new g0 B0 kg q2 with h1|⟨g3,B3,r1,r2,r3,r4⟩
     .exact .inl h1
     .exact .inr ⟨g3,B3,r1,r2,g2.wr g3 r3,r4⟩
theorem qqu.next{M:Nat->Prop}{σ1:Nat->Nat}{S S':St}(h:qqu M σ S w)(hg:qqv S S')(hs:∀J,yw S'.nx σ1 J->qfq M J S' w'):qqu M σ1 S' w':=
 ⟨hs,hg.lt h.lt,λg hg'=>h.new g (cy hg.nx hg')⟩
def qkp(env:jy):Operand->Option XV
 | .tmp t=>lk env t
 | .const (.agg cs)=>I (.v (.agg (cs.toList.map .con)))
 | .const (.tuple _)=>V
 | .const v=>I (.v (.one (.con v)))
 | .global _=>V
 | .func f=>I (.v (.one (.con (.func (.func f) #[] #[]))))
theorem qdx(σ:Nat->Nat)(l:List ny):qw σ (l.map .con)=l:=by
 rw[qzb,List.map_map];exact List.map_id l
def qu3(σ:Nat->Nat)(env:jy)(o:Op)(a:Act):Prop:=∀t,Operand.tmp t∈o.operands->∀x,lk env t=I x->a.tmps.getD t mc=x.den σ
theorem qzr{env:jy}{v:XV}(h:qu3 σ env o a)(hm:x∈o.operands)(hx:qkp env x=I v):a.eval x=v.den σ:=by
 cases x with
 | tmp t=>exact h t hm v hx
 | global g=>cases hx
 | func f=>cases hx;rfl
 | const c=>
   cases c<;>simp only[qkp,bc,reduceCtorEq] at hx<;>subst hx<;>try rfl
   rename_i cs;show Value.agg cs=Value.agg (qw σ (cs.toList.map .con)).toArray;rw[qdx]
def one(env:jy)(x:Operand):Option SV:=match qkp env x with
 | some (.v (.one s))=>I s
 | _=>V
theorem xu{env:jy}{s:SV}(h:qu3 σ env o a)(hm:x∈o.operands)(hx:one env x=I s):a.eval x=s.den σ:=by
 unfold one at hx;split at hx
 .rename_i h1;cases hx;exact qzr h hm h1
 .cases hx
def qjj(env:jy)(x:Operand):Option ny:=match one env x with
 | some (.con v)=>I v
 | _=>V
theorem qz9{env:jy}(h:qu3 σ env o a)(hm:x∈o.operands)(hx:qjj env x=I v):a.eval x=v:=by
 unfold qjj at hx;split at hx
 .rename_i h1;cases hx;exact xu h hm h1
 .cases hx
def cons:List SV->Option (List ny)
 | []=>I []
 | .con v::r=>match cons r with
   | some l=>I (v::l)
   | none=>V
 | _::_=>V
theorem qo8(σ:Nat->Nat):∀{l:List SV} {vs:List ny},cons l=I vs->qw σ l=vs
 | [],vs,h=>by cases h;rfl
 | .con v::r,vs,h=>by
   unfold cons at h;split at h
   .rename_i l hl;cases h;rw[qw,qo8 σ hl];rfl
   .cases h
 | .ptr _ _::_,vs,h=>by cases h
 | .sl _ _ _ _ _::_,vs,h=>by cases h
 | .fn _ _ _::_,vs,h=>by cases h
def conX:XV->Option ny
 | .v (.one (.con v))=>I v
 | .v (.agg l)=>match cons l with
   | some vs=>I (.agg vs.toArray)
   | none=>V
 | _=>V
theorem q51(σ:Nat->Nat){x:XV}(h:conX x=I v):x.den σ=v:=by
 unfold conX at h;split at h
 .cases h;rfl
 .split at h
  .rename_i l vs hv;cases h;show Value.agg _=_;rw[qo8 σ hv]
  .cases h
 .cases h
def qmo:ny->XV
 | .agg cs=>.v (.agg (cs.toList.map .con))
 | v=>.v (.one (.con v))
theorem qk4(σ:Nat->Nat)(v:ny):(qmo v).den σ=v:=by
 cases v<;>try rfl
 show Value.agg (qw σ _).toArray=_;rw[qdx]
def qkm{α:Type}(P:ma):Sem α->Option α
 | .pure a=>I a
 | .program k=>qkm P (k P)
 | .mark _ k=>qkm P k
 | _=>V
theorem qy5{α:Type}{P:ma}:∀{s:Sem α} {r:α},qkm P s=I r->∀w,s.run P w=.ok r w
 | .pure a,r,h,w=>by cases h;rfl
 | .program k,r,h,w=>by
   unfold qkm at h;exact qy5 (s:=k P) h w
 | .mark m k,r,h,w=>by
   unfold qkm at h;exact qy5 (s:=k) h w
 | .load _ _ _,r,h,w=>by cases h
 | .store _ _ _ _,r,h,w=>by cases h
 | .new _ _,r,h,w=>by cases h
 | .shape _ _,r,h,w=>by cases h
 | .freeze _ _ _,r,h,w=>by cases h
 | .frozen _ _,r,h,w=>by cases h
 | .getObj _ _,r,h,w=>by cases h
 | .setObj _ _ _,r,h,w=>by cases h
 | .choose _ _,r,h,w=>by cases h
 | .sys _ _,r,h,w=>by cases h
 | .halt _,r,h,w=>by cases h
def qjl:SV->Bool
 | .con v=>v.oneCell'
 | _=>nr
theorem qy9{s:SV}(h:qjl s=nr)(σ:Nat->Nat):(s.den σ).oneCell'=nr:=by
 cases s with
 | con v=>exact h
 | ptr g o=>rfl
 | sl g o n k c=>cases k<;>rfl
 | fn f a b=>rfl
theorem qmd(h:v.oneCell'=nr):v.cells.toList=[v]:=by cases v<;>first|rfl|cases h
end Ev
namespace Ev
open Go.RowKit
open Sy (Cx TD qzu yj KD kd yx xe vk qx2 jg qya qvx qu4 qxe qyd)
variable {t:nz}{x:XV}
def cX(env:jy)(x:Operand):Option ny:=match qkp env x with
 | some v=>conX v
 | none=>V
section
variable {P:ma}{cx:Cx}{σ:Nat->Nat}{env:jy}{a:Act}{w:nu}{o:Op}
theorem qju{x:Operand}{v:ny}(h:qu3 σ env o a)(hm:x∈o.operands)(hx:cX env x=I v):a.eval x=v:=by
 unfold cX at hx;split at hx
 .rename_i y hy;rw[qzr h hm hy];exact q51 σ hx
 .cases hx
def TV.cells:TV->List SV
 | .one s=>[s]
 | .agg l=>l
def qec(env:jy):List (Nat×Operand)->Option (List (Nat×TV))
 | []=>I []
 | (i,x)::r=>match qkp env x,qec env r with
   | some (.v (.one s)),I l=>if qjl s then I ((i,.one s)::l) else V
   | some (.v (.agg c)),I l=>I ((i,.agg c)::l)
   | _,_=>V
theorem qbz:∀(ps:List (Nat×Operand)) (l:List (Nat×TV)),(∀p∈ps,∀y,qkp env p.2=I y->a.eval p.2=y.den σ)->qec env ps=I l ->
  (ps.map λp=>(p.1,a.eval p.2))=(l.map λp=>(p.1,p.2.den σ))/\∀p∈l,(p.2.den σ).cells.toList=qw σ p.2.cells
 | [],l,he,hp=>by cases hp;exact⟨rfl,kq⟩
 | (i,x)::r,l,he,hp=>by
   simp only[qec] at hp;split at hp
   .rename_i s l' hx hl';split at hp
    .rename_i ho;cases hp;obtain⟨g1,g2⟩:=qbz r l' (λp hpm=>he p (by simp[hpm])) hl';refine⟨by simp only[fg,g1,he (i,x) kq _ hx];rfl,λp hpm=>?_⟩;rcases cu.1 hpm with rfl|hpm
     .exact qmd (qy9 ho σ)
     .exact g2 p hpm
    .cases hp
   .rename_i c l' hx hl';cases hp;obtain⟨g1,g2⟩:=qbz r l' (λp hpm=>he p (by simp[hpm])) hl';refine⟨by simp only[fg,g1,he (i,x) kq _ hx];rfl,λp hpm=>?_⟩;rcases cu.1 hpm with rfl|hpm
    .rfl
    .exact g2 p hpm
   .cases hp
def quu(l:List SV)(off:Nat)(vs:List SV):List SV:=l.take off++vs++l.drop (off+vs.length)
theorem xw(σ:Nat->Nat)(l:List SV):(qw σ l).length=l.length:=by rw[qzb,iu]
theorem qp9(σ:Nat->Nat)(l m:List SV):qw σ (l++m)=qw σ l++qw σ m:=by simp only[qzb,ow]
theorem q5s(σ:Nat->Nat)(l:List SV)(off:Nat)(vs:List SV):qw σ (quu l off vs)=(qw σ l).take off++qw σ vs++(qw σ l).drop (off+vs.length):=by
 simp only[quu,qzb,ow,ur,ue]
theorem qyl(σ:Nat->Nat)(l:List SV)(i:Nat):(qw σ l)[i]? = (l[i]?).map (SV.den σ):=by rw[qzb,dh]
def qa9(place:Nat->Option (Nat×Nat)):List SV->List (Nat×TV)->Option (List SV)
 | cells,[]=>I cells
 | cells,(i,tv)::r=>match place i with
   | none=>V
   | some (off,size)=>if tv.cells.length=size/\off+size<=cells.length then qa9 place (quu cells off tv.cells) r else V
theorem qg5{place:Nat->Option (Nat×Nat)}(σ:Nat->Nat):∀(parts:List (Nat×TV)) (cells:List SV) (cs:Array ny) (l:List SV),(∀p∈parts,(p.2.den σ).cells.toList=qw σ p.2.cells)->qa9 place cells parts=I l->cs.toList=qw σ cells ->
  ∃r,iv place cs (parts.map λp=>(p.1,p.2.den σ))=I r/\r.toList=qw σ l
 | [],cells,cs,l,ho,h,hc=>by cases h;exact⟨cs,rfl,hc⟩
 | (i,tv)::r,cells,cs,l,ho,h,hc=>by
   unfold qa9 at h;split at h
   .cases h
   .rename_i off size hp;split at h
    .rename_i hcc;have htc:=ho (i,tv) kq;have hsz:(tv.den σ).cells.size=size:=by rw[<-aw,htc,<-hcc.1];simp[qzb]
     have hcs:cs.size=cells.length:=by rw[<-aw,hc];simp[qzb]
     obtain⟨q,hq1,hq2⟩:=qg5 σ r (quu cells off tv.cells) ((tv.den σ).cells.zipIdx.foldl (λcs (c,j)=>cs.setIfInBounds (off+j) c) cs) l (λp hp=>ho p (by simp[hp])) h (by
      rw[<-Array.foldl_toList,Array.toList_zipIdx,htc];have:=Sy.foldl_set (qw σ tv.cells) cs off 0 (by rw[xw];omega);simp only[Nat.add_zero] at this;refine this.trans ?_
      rw[hc,q5s,xw])
     refine⟨q,?_,hq2⟩;simp only[fg,iv,hp];rw[if_neg]
     .exact hq1
     .simp only[hsz,bne_self_eq_false,ne_eq,not_true_eq_false,decide_false,Bool.false_or,decide_eq_true_eq];omega
    .cases h
def qpb(cx:Cx)(env:jy)(t:nz)(parts:List (Nat×Operand)):Option XV:=match yx cx t,qec env parts with
 | some d,I ps=>match d.k with
   | .st fs=>match qvx cx fs with
     | some pl=>(qa9 (pl[·]?) (d.zero.map .con) ps).map λl=>.v (.agg l)
     | none=>V
   | .ar _ e=>match yx cx e with
     | some de=>(qa9 (λi=>I (i*de.size,de.size)) (d.zero.map .con) ps).map λl=>.v (.agg l)
     | none=>V
   | _=>V
 | _,_=>V
theorem q1i(hcx:yj P cx){parts:Array (Nat×Operand)}(h:qpb cx env t parts.toList=I x)(he:∀p∈parts.toList,∀y,qkp env p.2=I y->a.eval p.2=y.den σ) :
  (rn t (parts.map λ(i,x)=>(i,a.eval x))).run P w=.ok (x.den σ) w:=by
 unfold qpb at h;split at h
 .rename_i d ps hd hps;have htd:=hcx t d hd;obtain⟨u',g1,g2⟩:=qya htd;obtain⟨i,hi1,hi2,hi3,z,hz1,hz2⟩:=jg htd;have hzero:(zeroValue t).run P w=.ok z w:=by simp[zeroValue,typeInfo,hi1,hz1]
  obtain⟨p1,p2⟩:=qbz (a:=a) (σ:=σ) _ _ he hps;have hconv:(parts.map λ(i,x)=>(i,a.eval x)).toList=(ps.map λp=>(p.1,p.2.den σ)):=by rw[<-p1,Array.toList_map]
  have hz:z.cells.toList=qw σ (d.zero.map .con):=by rw[hz2,qdx]
  have hfin:∀(place:Nat->Option (Nat×Nat)),(qa9 place (d.zero.map .con) ps).map (λl=>XV.v (.agg l))=I x->∃q,iv place z.cells (parts.map λ(i,x)=>(i,a.eval x)).toList=I q/\Value.agg q=x.den σ:=by
   intro place ho;cases hq:qa9 place (d.zero.map .con) ps with
   | none=>rw[hq] at ho;cases ho
   | some l=>
     rw[hq] at ho;have ho:=oi ho;subst ho;obtain⟨q,hq1,hq2⟩:=qg5 σ ps _ z.cells l p2 hq hz;refine⟨q,by rw[hconv];exact hq1,?_⟩;show Value.agg q=Value.agg _;congr 1;exact gq.1 hq2
  split at h
  .rename_i fs hk;rw[hk] at g2;obtain⟨fl,rfl⟩:∃fl,u'=.struct fl:=by cases u'<;>simp_all [KD.of]
   simp only[KD.of,KD.st.injEq] at g2;split at h
   .rename_i pl hpl;obtain⟨q,hq1,hq2⟩:=hfin _ h
    have hm:(fl.mapM (λf=>do pure (f.offset,<-sizeOf f.type):Field->Sem (Nat×Nat))).run P w=.ok pl.toArray w:=by
     rw[Array.mapM_eq_mapM_toList,Sem.run_map,qu4 hcx fl.toList pl (by rw[g2];exact hpl)];rfl
    unfold rn;rw[ai,hzero];simp only[aq];rw[ai,bg g1 w];simp only[aq];rw[ai,hm];simp only[aq];have:(λx:Nat=>pl.toArray[x]?)=(λx:Nat=>pl[x]?):=by funext x;simp
    rw[this,hq1,<-hq2];rfl
   .cases h
  .rename_i n e hk;rw[hk] at g2;obtain⟨n',e',rfl⟩:∃n' e',u'=.array n' e':=by cases u'<;>simp_all [KD.of]
   simp only[KD.of,KD.ar.injEq] at g2;obtain⟨rfl,rfl⟩:=g2;split at h
   .rename_i de hde;obtain⟨q,hq1,hq2⟩:=hfin _ h;unfold rn;rw[ai,hzero];simp only[aq];rw[ai,bg g1 w];simp only[aq];rw[ai,vk (hcx _ de hde) w];simp only[aq];rw[hq1,<-hq2];rfl
   .cases h
  .cases h
 .cases h
def qnu(cx:Cx)(t:nz)(l:List SV)(off:Nat):Option XV:=match yx cx t with
 | some d=>if d.k.agg then(if off+d.size<=l.length then I (.v (.agg ((l.drop off).take d.size))) else V) else match l[off]? with
   | some s=>I (.v (.one s))
   | none=>V
 | none=>V
theorem qoq(hcx:yj P cx){l:List SV}{off:Nat}(h:qnu cx t l off=I x):(part t (qw σ l).toArray off).run P w=.ok (x.den σ) w:=by
 unfold qnu at h;split at h
 .rename_i d hd;have htd:=hcx t d hd;have hag:=qx2 htd w;have hsz:=vk htd w;split at h
  .rename_i hagg;split at h
   .rename_i hle;cases h;rw[hagg] at hag
    have:(.agg ((qw σ l).toArray.extract off (off+d.size)):ny)=XV.den σ (.v (.agg ((l.drop off).take d.size))):=by
     show Value.agg _=Value.agg _;congr 1;apply gq.1;rw[Array.toList_extract];simp[qzb,List.extract_eq_take_drop,ue,ur]
    rw[<-this];simp[part,ai,hag,hsz]
   .cases h
  .rename_i hagg;have q0q:d.k.agg=ns:=by simpa using hagg
   rw[q0q] at hag;split at h
   .rename_i s hs';cases h
    have hcs:(qw σ l).toArray[off]? = I (s.den σ):=by
     rw[<-ax,qyl,hs'];rfl
    simp[part,ai,hag,hcs,XV.den,TV.den]
   .cases h
 .cases h
def qb8(env:jy):Option Operand->Option (Option Nat)
 | none=>I V
 | some x=>match qjj env x with
   | some (.int _ n)=>if 0<=n then I (I n.toNat) else V
   | _=>V
theorem q2j{z:Option Operand}{s:Option Nat}(h:qb8 env z=I s)(he:∀x,z=I x->∀v,qjj env x=I v->a.eval x=v):(z=V/\s=V)\/∃k n,z.map a.eval=I (.int k ((n:Nat):Int))/\s=I n:=by
 unfold qb8 at h;split at h
 .cases h;exact .inl ⟨rfl,rfl⟩
 .rename_i x;split at h
  .rename_i k n hx;split at h
   .rename_i h0;cases h;refine .inr ⟨k,n.toNat,?_,rfl⟩;simp only[Option.map_some,he x rfl _ hx];rw[Int.toNat_of_nonneg h0]
   .cases h
  .cases h
def cutX(cx:Cx)(t:nz)(g off n:Nat)(k:Option Nat)(c:Nat)(lo hi mx:Option Nat):Option SV:=match kd cx t with
 | .sl e=>match yx cx e with
   | some d=>
     let l:=lo.getD 0
     let h:=hi.getD n
     match mx with
     | none=>if l<=h/\h<=n then(match k with
        | none=>if n<=c then I (if c=l then .sl g off (h-l) V (c-l) else .sl g (off+l*d.size) (h-l) V (c-l)) else V
        | some _=>V) else V
     | some m=>if l<=h/\h<=m/\m<=n/\hi.isSome=nr then(match k with
        | none=>if n<=c then I (if m=l then .sl g off (h-l) V (m-l) else .sl g (off+l*d.size) (h-l) V (m-l)) else V
        | some _=>V) else V
   | none=>V
 | _=>V
end
end Ev
namespace Ev
open Go.RowKit
open Sy (Cx TD qzu yj KD kd yx xe vk qx2 jg qya qdn qdv qe1 jh xk ve)
variable {B B0:Blk}{l vs:List SV}{g off:Nat}{J:Nat->Nat}{s:SV}{t:nz}{u v:ny}{x y:XV}
def St.touch(S:St)(g:Nat):St:={ S with ac:=S.ac ||| 2^g }
def St.set(S:St)(g:Nat)(B:Blk):St:={ S with H:=(g,I B)::S.H,ac:=S.ac ||| 2^g,wr:=S.wr ||| 2^g }
def qj9:Option Nat->Nat
 | none=>0
 | some g=>2^g
def qy2(S:St)(B:Blk)(qzo:Option Nat):St:=
 { nx:=S.nx+2,H:=(S.nx,I B)::(match qzo with|none=>S.H|some g=>(g,V)::S.H),ac:=S.ac ||| 2^S.nx ||| qj9 qzo,wr:=S.wr ||| 2^S.nx ||| qj9 qzo }
theorem qq9(g:Nat):(2^g).testBit g=nr:=by simp[Nat.testBit_two_pow]
theorem jm{m n:Nat}:(m ||| n).testBit g=(m.testBit g || n.testBit g):=Nat.testBit_or ..
theorem qk6(S:St)(g:Nat)(B:Blk)(h:Nat):(S.set g B).get h=if g=h then I B else S.get h:=by
 by_cases e:g=h
 .simp[St.get,St.set,lk,e]
 .simp[St.get,St.set,lk,e]
theorem qj3(S:St)(B:Blk)(qzo:Option Nat)(h:Nat):(qy2 S B qzo).get h=if S.nx=h then I B else if qzo=I h then V else S.get h:=by
 by_cases e:S.nx=h
 .simp[St.get,qy2,lk,e]
 .cases qzo with
  | none=>simp[St.get,qy2,lk,e]
  | some g=>
    by_cases e2:g=h
    .simp[St.get,qy2,lk,e,e2]
    .simp[St.get,qy2,lk,e,e2]
theorem qvo(S:St)(g:Nat):qqv S (S.touch g):=⟨af _,λh=>h,λ_ B _ h=>⟨B,h⟩,λ_ _ _=>rfl,λh hh=>by show(S.ac ||| 2^g).testBit h=nr;rw[jm,hh];rfl,λ_ h=>h,λhl g' B hg hB=>absurd (hl g' B hB) kg⟩
theorem qle{S:St}(h0:S.get g=I B0):qqv S (S.set g B):=by
 refine⟨af _,λh h' B' hB=>?_,λh B' hh hB=>?_,λh hh hw=>?_,λh hh=>by show(S.ac ||| 2^g).testBit h=nr;rw[jm,hh];rfl,λh hh=>by show(S.wr ||| 2^g).testBit h=nr;rw[jm,hh];rfl,λhl h B' hh hB=>?_⟩
 .rw[qk6] at hB;split at hB
  .rename_i e;subst e;exact h _ _ h0
  .exact h _ _ hB
 .rw[qk6] at hB;split at hB
  .rename_i e;subst e;exact⟨_,h0⟩
  .exact⟨_,hB⟩
 .rw[qk6,if_neg];intro e;subst e;have:(S.wr ||| 2^g).testBit g=ns:=hw;rw[jm,qq9,fj] at this;cases this
 .rw[qk6] at hB;split at hB
  .rename_i e;subst e;exact absurd (hl _ _ h0) kg
  .exact absurd (hl _ _ hB) kg
theorem qy3(S:St)(B:Blk)(qzo:Option Nat):qqv S (qy2 S B qzo):=by
 refine⟨by simp[qy2],λh h' B' hB=>?_,λh B' hh hB=>?_,λh hh hw=>?_,λh hh=>by show(S.ac ||| 2^S.nx ||| qj9 qzo).testBit h=nr;rw[jm,jm,hh];rfl,λh hh=>by show(S.wr ||| 2^S.nx ||| qj9 qzo).testBit h=nr;rw[jm,jm,hh];rfl,λhl h B' hh hB=>?_⟩
 .rw[qj3] at hB;show h'<S.nx+2;split at hB
  .omega
  .split at hB
   .cases hB
   .have:=h _ _ hB;omega
 .rw[qj3,if_neg kg] at hB;split at hB
  .cases hB
  .exact⟨_,hB⟩
 .rw[qj3,if_neg kg,if_neg];intro e;subst e;have:(S.wr ||| 2^S.nx ||| qj9 (I h)).testBit h=ns:=hw;rw[jm,qj9,qq9,fj] at this;cases this
 .rw[qj3] at hB;split at hB
  .rename_i e;subst e;show(S.wr ||| 2^S.nx ||| qj9 qzo).testBit S.nx=nr;rw[jm,jm,qq9,fj];rfl
  .split at hB
   .cases hB
   .exact absurd (hl _ _ hB) kg
section
variable {P:ma}{cx:Cx}{M:Nat->Prop}{σ:Nat->Nat}{S S':St}{env:jy}{a:Act}{w w':nu}{o:Op}
theorem qfq.congr(h:qfq M J S w)(hg:∀g,S'.get g=S.get g):qfq M J S' w:=
 ⟨λg B hm hB=>h.blk g B hm (by rw[<-hg];exact hB),λg g' B B' h1 h2 h3 h4=>h.inj g g' B B' h1 h2 (by rw[<-hg];exact h3) (by rw[<-hg];exact h4)⟩
theorem qdr(h:qqu M σ S w)(hn:S'.nx=S.nx)(hg:∀g,S'.get g=S.get g)(hv:∀J,yw S.nx σ J->v=x.den J):qxb M σ S w x S' v w:=
 ⟨σ,yw.refl _ _,λ_ _=>rfl,λJ hτ=>by rw[hn] at hτ;exact⟨(h.sat J hτ).congr hg,hv J hτ⟩,Fr.refl σ S S' w (λg B hB=>h.lt g B (by rw[<-hg];exact hB))⟩
theorem qtz(h:qqu M σ S w)(hm:M g)(h0:S.get g=I B0)(hs:w'.heap.size=w.heap.size)(ho:w'.os=w.os)(ht:w'.tape=w.tape)(hout:w'.output=w.output)(hk:∀b,b≠σ g->w'.heap[b]? = w.heap[b]?)
  (hB:∀J,yw S.nx σ J->qyj J B (σ g) w')   (hv:∀J,yw S.nx σ J->v=x.den J):qxb M σ S w x (S.set g B) v w':=by
 have hgn:=h.lt g B0 h0;refine⟨σ,yw.refl _ _,λ_ _=>rfl,λJ hτ=>?_,?_⟩
 .have hs0:=h.sat J hτ;refine⟨⟨λg' B' hm' hB'=>?_,λg1 g2 B1 B2 m1 m2 b1 b2 e=>?_⟩,hv J hτ⟩
  .rw[qk6] at hB';split at hB'
   .rename_i e;subst e;cases hB';rw[hτ g hgn];exact hB J hτ
   .rename_i e;refine(hs0.blk g' B' hm' hB').keep (hk _ (λe'=>e ?_));exact hs0.inj g g' B0 B' hm hm' h0 hB' (by rw[hτ g hgn,e'])
  .have k:∀g' B',(S.set g B).get g'=I B'->∃B'',S.get g'=I B'':=λg' B' hb=>by
    rw[qk6] at hb;split at hb
    .rename_i e;subst e;exact⟨_,h0⟩
    .exact⟨_,hb⟩
   obtain⟨B3,b3⟩:=k g1 B1 b1;obtain⟨B4,b4⟩:=k g2 B2 b2;exact hs0.inj g1 g2 B3 B4 m1 m2 b3 b4 e
 .refine⟨kg,ho,ht,hout,λb hb hn=>hk b (λe=>?_),λg' B' hg' hB'=>?_⟩
  .refine hn g B0 hgn ?_ h0 e.symm;show(S.wr ||| 2^g).testBit g=nr;rw[jm,qq9,fj]
  .rw[qk6] at hB';split at hB'
   .omega
   .have:=h.lt _ _ hB';omega
def qkb(σ:Nat->Nat)(n b c:Nat):Nat->Nat:=λg=>if g=n then b else if g=n+1 then c else σ g
theorem qcf(σ:Nat->Nat)(n b c:Nat):yw n σ (qkb σ n b c):=λg hg=>by simp[qkb,show g≠n by omega,show g≠n+1 by omega]
theorem qfm(h:qqu M σ S w){qzo:Option Nat}(c:Nat)(hs:w'.heap.size=w.heap.size+1)(ho:w'.os=w.os)(ht:w'.tape=w.tape)(hout:w'.output=w.output)(hk:∀b,b<w.heap.size->w'.heap[b]? = w.heap[b]?)
  (hB:∀J,yw S.nx σ J->J (S.nx+1)=c->qyj J B w.heap.size w')   (hv:∀J,yw S.nx σ J->J S.nx=w.heap.size->J (S.nx+1)=c->v=x.den J):qxb M σ S w x (qy2 S B qzo) v w':=by
 refine⟨qkb σ S.nx w.heap.size c,qcf _ _ _ _,λg hg=>?_,λJ hτ=>?_,?_⟩
 .have:S.nx+2<=g:=hg;simp[qkb,show g≠S.nx by omega,show g≠S.nx+1 by omega]
 .have hτ':∀g,g<S.nx+2->J g=qkb σ S.nx w.heap.size c g:=hτ;have h1:J S.nx=w.heap.size:=by rw[hτ' _ kg];simp[qkb]
  have h2:J (S.nx+1)=c:=by rw[hτ' _ kg];simp[qkb]
  have h3:yw S.nx σ J:=λg hg=>by rw[hτ' g kg];exact qcf _ _ _ _ g hg
  have hs0:=h.sat J h3
  have key:∀g' B',(qy2 S B qzo).get g'=I B'->(g'=S.nx/\B'=B)\/(S.get g'=I B'/\g'<S.nx):=λg' B' hb=>by
   rw[qj3] at hb;split at hb
   .rename_i e;cases hb;exact .inl ⟨e.symm,rfl⟩
   .split at hb
    .cases hb
    .exact .inr ⟨hb,h.lt _ _ hb⟩
  refine⟨⟨λg' B' hm' hB'=>?_,λg1 g2 B1 B2 m1 m2 b1 b2 e=>?_⟩,hv J h3 h1 h2⟩
  .rcases key g' B' hB' with⟨rfl,rfl⟩|⟨hb,hlt⟩
   .rw[h1];exact hB J h3 h2
   .have:=hs0.blk g' B' hm' hb;exact this.keep (hk _ this.lt)
  .rcases key g1 B1 b1 with⟨rfl,rfl⟩|⟨k1,l1⟩<;>rcases key g2 B2 b2 with⟨rfl,rfl⟩|⟨k2,l2⟩
   .rfl
   .have:=(hs0.blk g2 B2 m2 k2).lt;rw[h1] at e;omega
   .have:=(hs0.blk g1 B1 m1 k1).lt;rw[h1] at e;omega
   .exact hs0.inj g1 g2 B1 B2 m1 m2 k1 k2 e
 .refine⟨kg,ho,ht,hout,λb hb _=>hk b hb,λg' B' hg' hB'=>?_⟩;rw[qj3] at hB';split at hB'
  .rename_i e;subst e;exact .inl (by simp[qkb])
  .split at hB'
   .cases hB'
   .have:=h.lt _ _ hB';omega
theorem q5c(h:qqu M σ S w)(c:Nat)(hm:M g)(h0:S.get g=I B0)(hs:w'.heap.size=w.heap.size)(ho:w'.os=w.os)(ht:w'.tape=w.tape)(hout:w'.output=w.output)(hk:∀b,b≠σ g->w'.heap[b]? = w.heap[b]?)
  (hB:∀J,yw S.nx σ J->J (S.nx+1)=c->qyj J B (σ g) w')   (hv:∀J,yw S.nx σ J->J S.nx=σ g->J (S.nx+1)=c->v=x.den J):qxb M σ S w x (qy2 S B (I g)) v w':=by
 have hgn:=h.lt g B0 h0;refine⟨qkb σ S.nx (σ g) c,qcf _ _ _ _,λg hg=>?_,λJ hτ=>?_,?_⟩
 .have:S.nx+2<=g:=hg;simp[qkb,show g≠S.nx by omega,show g≠S.nx+1 by omega]
 .have hτ':∀g',g'<S.nx+2->J g'=qkb σ S.nx (σ g) c g':=hτ;have h1:J S.nx=σ g:=by rw[hτ' _ kg];simp[qkb]
  have h2:J (S.nx+1)=c:=by rw[hτ' _ kg];simp[qkb]
  have h3:yw S.nx σ J:=λg hg=>by rw[hτ' g kg];exact qcf _ _ _ _ g hg
  have hs0:=h.sat J h3
  have key:∀g' B',(qy2 S B (I g)).get g'=I B'->(g'=S.nx/\B'=B)\/(S.get g'=I B'/\g'<S.nx/\g'≠g):=λg' B' hb=>by
   rw[qj3] at hb;split at hb
   .rename_i e;cases hb;exact .inl ⟨e.symm,rfl⟩
   .split at hb
    .cases hb
    .rename_i e;exact .inr ⟨hb,h.lt _ _ hb,λe'=>e (by rw[e'])⟩
  refine⟨⟨λg' B' hm' hB'=>?_,λg1 g2 B1 B2 m1 m2 b1 b2 e=>?_⟩,hv J h3 h1 h2⟩
  .rcases key g' B' hB' with⟨rfl,rfl⟩|⟨hb,hlt,hne⟩
   .rw[h1];exact hB J h3 h2
   .refine(hs0.blk g' B' hm' hb).keep (hk _ (λe'=>hne ?_));exact(hs0.inj g g' B0 B' hm hm' h0 hb (by rw[h3 g hgn,e'])).symm
  .rcases key g1 B1 b1 with⟨rfl,rfl⟩|⟨k1,l1,n1⟩<;>rcases key g2 B2 b2 with⟨rfl,rfl⟩|⟨k2,l2,n2⟩
   .rfl
   .exact absurd (hs0.inj g g2 B0 B2 hm m2 h0 k2 (by rw[h3 g hgn,<-h1,e])).symm n2
   .exact absurd (hs0.inj g g1 B0 B1 hm m1 h0 k1 (by rw[h3 g hgn,<-h1,<-e])).symm n1
   .exact hs0.inj g1 g2 B1 B2 m1 m2 k1 k2 e
 .have hw:(qy2 S B (I g)).wr.testBit g=nr:=by
   show(S.wr ||| 2^S.nx ||| qj9 (I g)).testBit g=nr;rw[jm,qj9,qq9,fj]
  refine⟨kg,ho,ht,hout,λb hb hn=>hk b (λe=>hn g B0 hgn hw h0 e.symm),λg' B' hg' hB'=>?_⟩;rw[qj3] at hB';split at hB'
  .rename_i e;subst e;exact .inr ⟨g,B0,hgn,h0,hw,by simp[qkb]⟩
  .split at hB'
   .cases hB'
   .have:=h.lt _ _ hB';omega
def qc7(cx:Cx)(S:St)(t:nz)(s:SV):Option (XV×St):=match s,yx cx t with
 | .ptr g off,I d=>match S.get g with
   | some B=>if d.k.agg then(if off+d.size<=B.cs.length then I (.v (.agg ((B.cs.drop off).take d.size)),S.touch g) else V) else match B.cs[off]? with
     | some s=>I (.v (.one s),S.touch g)
     | none=>V
   | none=>V
 | _,_=>V
theorem qn1(h:qc7 cx S t s=I (x,S')):∃g B,S.get g=I B/\S'=S.touch g:=by
 unfold qc7 at h;split at h
 .split at h
  .rename_i B hB;split at h
   .split at h
    .cases h;exact⟨_,B,hB,rfl⟩
    .cases h
   .split at h
    .cases h;exact⟨_,B,hB,rfl⟩
    .cases h
  .cases h
 .cases h
theorem qpj(hcx:yj P cx)(h:qc7 cx S t s=I (x,S'))(hm:∀g,S'.ac.testBit g=nr->M g)(hs:qfq M J S w):(Instr.loadAt t (s.den J)).run P w=.ok (x.den J) w:=by
 unfold qc7 at h;split at h
 .rename_i g off d hd;split at h
  .rename_i B hB;have hmg:S'=S.touch g->M g:=λe=>hm g (by rw[e];show(S.ac ||| 2^g).testBit g=nr;rw[jm,qq9,fj])
   have hcell:M g->∀(i:Nat) (s:SV),B.cs[i]? = I s->w.cell? ⟨J g,i,V⟩=I (s.den J):=λhmg i s hi=>by
    obtain⟨cs,h1,-,-,h4⟩:=hs.blk g B hmg hB;rw[cell_of_row w (J g) i cs B.t (0,0) h1];exact h4 i s hi
   split at h
   .rename_i hagg;split at h
    .rename_i hle;cases h;have hl:(qw J ((B.cs.drop off).take d.size)).length=d.size:=by rw[xw,fb,List.length_drop];omega
     refine qdn (hcx t d hd) hagg hl (λi v hi=>?_);rw[qyl,fc] at hi;split at hi
     .rw[ia] at hi;cases hq:B.cs[off+i]? with
      | none=>rw[hq] at hi;cases hi
      | some s'=>
        rw[hq] at hi;cases hi;exact hcell (hmg rfl) (off+i) s' hq
     .cases hi
    .cases h
   .rename_i hagg;split at h
    .rename_i s' hs';cases h;exact qdv (hcx t d hd) (by simpa using hagg) (hcell (hmg rfl) off s' hs')
    .cases h
  .cases h
 .cases h
def qh6:XV->Option (List SV)
 | .v (.one s)=>if qjl s then I [s] else V
 | .v (.agg l)=>if l.all qjl then I l else V
 | _=>V
theorem qep(h:qh6 x=I l)(J:Nat->Nat):(x.den J).cells.toList=qw J l/\∀v∈qw J l,v.oneCell'=nr:=by
 unfold qh6 at h;split at h
 .rename_i s;split at h
  .rename_i ho;cases h;have:=qy9 ho J;exact⟨qmd this,by simpa[qw] using this⟩
  .cases h
 .rename_i l';split at h
  .rename_i ho;cases h;refine⟨rfl,λv hv=>?_⟩;rw[qzb,List.mem_map] at hv;obtain⟨s,hs1,rfl⟩:=hv;exact qy9 (List.all_eq_true.1 ho s hs1) J
  .cases h
 .cases h
theorem qoh(h:off+vs.length<=l.length):(quu l off vs).length=l.length:=by
 simp[quu];omega
theorem q5v(h:off+vs.length<=l.length)(i:Nat):(quu l off vs)[i]? = if off<=i/\i<off+vs.length then vs[i-off]? else l[i]?:=by
 unfold quu;have ht:(l.take off).length=off:=by rw[fb];omega
 by_cases h1:i<off
 .rw[if_neg kg,List.append_assoc,cd kg,fc,if_pos h1]
 .by_cases h2:i<off+vs.length
  .rw[if_pos ⟨kg,h2⟩,cd (by rw[gk,ht];omega),bq kg,ht]
  .rw[if_neg kg,bq (by rw[gk,ht];omega),gk,ht,ia];congr 1;omega
theorem qmy{b:Nat}(h:qyj J B b w)(hle:off+l.length<=B.cs.length):qyj J { B with cs:=quu B.cs off l } b (w.setCells b off (qw J l)):=by
 obtain⟨cs,h1,h2,h3,h4⟩:=h;obtain⟨cs',b1,b2,b3⟩:=jh b B.t (0,0) (qw J l) off w cs h1;refine⟨cs',b1,by rw[b2];simp only[qoh hle];exact h2,?_,λi s hi=>?_⟩
 .simp only[qoh hle,b2];exact h3
 .simp only[q5v hle] at hi;rw[b3 i,xw];split at hi
  .rename_i hc;rw[if_pos ⟨hc.1,hc.2,kg⟩,qyl,hi];rfl
  .rename_i hc;rw[if_neg (λhh=>hc ⟨hh.1,hh.2.1⟩)];exact h4 i s hi
def qeo(cx:Cx)(S:St)(t:nz)(s:SV)(y:XV):Option St:=match s,yx cx t,qh6 y with
 | .ptr g off,I d,I l=>match S.get g with
   | some B=>if l.length=d.size/\off+l.length<=B.cs.length then I (S.set g { B with cs:=quu B.cs off l }) else V
   | none=>V
 | _,_,_=>V
theorem q1u(hcx:yj P cx)(H:qqu M σ S w)(h:qeo cx S t s y=I S')(hm:∀g,S'.ac.testBit g=nr->M g)(hu:∀J,yw S.nx σ J->u=s.den J)(hv:∀J,yw S.nx σ J->v=y.den J) :
  ∃w',(Instr.storeAt t u v).run P w=.ok () w'/\qxb M σ S w (.v (.one (.con mc))) S' mc w':=by
 unfold qeo at h;split at h
 .rename_i g off d l hd hl;split at h
  .rename_i B hB;split at h
   .rename_i hc;cases h;have hmg:M g:=hm g (by show(S.ac ||| 2^g).testBit g=nr;rw[jm,qq9,fj]);have hs0:=H.sat σ (yw.refl _ _);have hbk:=hs0.blk g B hmg hB;obtain⟨cs,h1,h2,h3,h4⟩:=id hbk;obtain⟨c1,c2⟩:=qep hl σ;rw[<-hv σ (yw.refl _ _)] at c1;have hrun:=qe1 (P:=P) (hcx t d hd) c1 (by rw[xw];exact hc.1) h1 (.inl rfl) (off:=off) (by rw[xw];omega) c2
    have hsame:∀J,yw S.nx σ J->qw J l=qw σ l:=λJ hτ=>by
     have:=(qep hl J).1;rw[<-hv J hτ,c1] at this;exact this.symm
    obtain⟨r1,r2,r3,r4⟩:=ve (σ g) (qw σ l) off w;refine⟨_,by rw[hu σ (yw.refl _ _)];exact hrun,qtz H hmg hB r1 r2 r3 r4 (λb hb=>xk (σ g) (qw σ l) off w b hb) (λJ hτ=>?_) (λ_ _=>rfl)⟩;have:=(H.sat J hτ).blk g B hmg hB;rw[hτ g (H.lt g B hB)] at this;rw[<-hsame J hτ];exact qmy this hc.2
   .cases h
  .cases h
 .cases h
theorem qa7(H:qqu M σ S w){cs:Array ny}(hc:∀J,yw S.nx σ J->cs.toList=qw J l)(hv:∀J,yw S.nx σ J->J S.nx=w.heap.size->v=x.den J) :
  qxb M σ S w x (qy2 S ⟨t,l,V⟩ V) v (w.alloc (.cells cs t)):=by
 refine qfm (w':=w.alloc (.cells cs t)) H 0 kq rfl rfl rfl (λb hb=>Sy.qu9 w _ b kg) (λJ hτ _=>?_) (λJ h1 h2 _=>hv J h1 h2);have hs:cs.size=l.length:=by rw[<-aw,hc J hτ,xw]
 refine⟨cs,heap_alloc_new w _,Nat.le_of_eq hs.symm,hs,λi s hi=>?_⟩;rw[<-ax,hc J hτ,qyl,hi];rfl
def qrf(S:St)(t:nz)(y:XV):Option (XV×St):=match qh6 y with
 | some l=>I (.v (.one (.ptr S.nx 0)),qy2 S ⟨t,l,V⟩ V)
 | none=>V
theorem q7k(H:qqu M σ S w)(h:qrf S t y=I (x,S'))(hu:∀J,yw S.nx σ J->u=y.den J):∃v w',(Instr.box t u).run P w=.ok v w'/\qxb M σ S w x S' v w':=by
 unfold qrf at h;split at h
 .rename_i l hl;cases h;exact⟨nj (I ⟨w.heap.size,0,V⟩),w.alloc (.cells u.cells t),rfl,qa7 H (λJ hτ=>by rw[hu J hτ];exact(qep hl J).1) (λJ _ h2=>by simp[XV.den,TV.den,SV.den,h2])⟩
 .cases h
def qe7(cx:Cx)(S:St)(t:nz):Option (XV×St):=match yx cx t with
 | some d=>I (.v (.one (.ptr S.nx 0)),qy2 S ⟨t,d.zero.map .con,V⟩ V)
 | none=>V
theorem q0o(hcx:yj P cx)(H:qqu M σ S w)(h:qe7 cx S t=I (x,S')):∃v w',(aeg t nr (nq #[])).run P w=.ok v w'/\qxb M σ S w x S' v w':=by
 unfold qe7 at h;split at h
 .rename_i d hd;cases h;obtain⟨i,hi1,hi2,hi3,z,hz1,hz2⟩:=jg (hcx t d hd);exact⟨nj (I ⟨w.heap.size,0,V⟩),w.alloc (.cells z.cells t),by simp[aeg,zeroValue,typeInfo,hi1,hz1,ai,newVar,newRow],qa7 H (λJ hτ=>by rw[hz2,qdx]) (λJ _ h2=>by simp[XV.den,TV.den,SV.den,h2])⟩
 .cases h
end
end Ev
end Go.Proofs.YtmadfhgiaonnlaaGreatDoor
