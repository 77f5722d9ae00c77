/-
  THE IDEAL PROGRAM OF THIS SEAT: printed by a program of the prover's own out of the given form.
-/
import Derived.Test.YtbhblbkehmlcfaaGreatW3
import Derived.Test.YtbhblbkehmlcfaaGreatChecked
namespace Go.Ideal
open Go Go.Proofs
set_option maxRecDepth 100000
noncomputable def codeOf (P:Program) (loc:List Nat) (mk:List (Nat×List Bool)) (pure:Bool) (np:Nat) (f:Func):ICode:=match compFun P loc mk pure np f with|some F=>F.code|none=>.skip
def F_Q3:Nat:=3
def F_Q7:Nat:=7
def F_Q8:Nat:=8
def F_Q9:Nat:=9
def F_Q10:Nat:=10
def F_Q11:Nat:=11
def F_Q14:Nat:=14
def F_Q15:Nat:=15
def F_Q16:Nat:=16
def F_Q17:Nat:=17
def F_Q18:Nat:=18
def F_Q19:Nat:=19
def F_Q20:Nat:=20
def F_Q22:Nat:=22
def F_Q23:Nat:=23
def F_Q24:Nat:=24
def F_Q25:Nat:=25
def F_Q26:Nat:=26
def F_Q27:Nat:=27
def F_Q28:Nat:=28
def F_Q29:Nat:=29
def F_Q30:Nat:=30
def F_Q32:Nat:=32
def F_Q33:Nat:=33
def F_Q34:Nat:=34
def F_Q35:Nat:=35
def F_Q36:Nat:=36
def F_Q37:Nat:=37
def F_Q39:Nat:=39
def F_Q40:Nat:=40
def F_Q41:Nat:=41
def F_Q42:Nat:=42
def F_Q43:Nat:=43
def F_Q44:Nat:=44
def F_Q45:Nat:=45
def F_Q46:Nat:=46
def F_Q47:Nat:=47
def F_Q48:Nat:=48
def F_Q50:Nat:=50
def F_Q51:Nat:=51
def F_Q52:Nat:=52
def F_Q53:Nat:=53
def F_Q54:Nat:=54
def F_Q55:Nat:=55
def F_Q56:Nat:=56
def F_Q57:Nat:=57
def F_Q58:Nat:=58
def F_Q59:Nat:=59
def F_Q60:Nat:=60
def F_Q61:Nat:=61
def F_Q62:Nat:=62
def F_Q63:Nat:=63
def F_Q64:Nat:=64
def F_Q65:Nat:=65
def F_Q66:Nat:=66
def F_Q67:Nat:=67
def F_Q68:Nat:=68
def F_Q70:Nat:=70
def F_Q71:Nat:=71
def F_Q73:Nat:=73
def F_Q76:Nat:=76
def F_Q78:Nat:=78
def F_Q79:Nat:=79
def F_Q80:Nat:=80
def F_Q81:Nat:=81
def F_Q86:Nat:=86
def F_Q87:Nat:=87
def F_Q88:Nat:=88
def F_Q89:Nat:=89
def F_Q90:Nat:=90
def F_Q91:Nat:=91
def F_Q92:Nat:=92
def F_Q93:Nat:=93
def F_Q94:Nat:=94
def F_Q96:Nat:=96
def F_Q97:Nat:=97
def F_Q98:Nat:=98
def F_Q99:Nat:=99
def F_Q109:Nat:=109
def F_Q110:Nat:=110
def F_Q111:Nat:=111
def F_Q121:Nat:=121
def F_Q122:Nat:=122
def F_Q125:Nat:=125
def F_Q127:Nat:=127
def F_Q128:Nat:=128
def F_Q129:Nat:=129
def F_Q130:Nat:=130
def F_Q132:Nat:=132
def F_Q133:Nat:=133
def F_Q134:Nat:=134
def F_Q135:Nat:=135
def F_Q141:Nat:=141
def F_Q152:Nat:=152
def F_Q153:Nat:=153
def F_Q154:Nat:=154
def F_Q155:Nat:=155
def F_Q156:Nat:=156
def F_Q161:Nat:=161
def F_Q162:Nat:=162
def F_Q163:Nat:=163
def F_Q164:Nat:=164
def F_Q165:Nat:=165
def F_Q166:Nat:=166
def F_Q167:Nat:=167
def F_Q168:Nat:=168
def F_Q169:Nat:=169
def F_Q170:Nat:=170
def F_Q171:Nat:=171
def F_Q172:Nat:=172
def F_Q173:Nat:=173
def F_Q183:Nat:=183
def F_Q188:Nat:=188
def F_Q189:Nat:=189
def F_Q190:Nat:=190
def F_Q195:Nat:=195
def F_Q196:Nat:=196
def F_Q38:Nat:=38
def F_Q157:Nat:=157
noncomputable def i_Q3:IFun:=⟨4,171,[.tmp 8],codeOf Tryz.prog [19,17,16,13,12,10] [(0,mb 171 [1,2,3,9,10,11]),(1000000,mb 171 [1,2,3,9,10])] true 4 Tryz.f3,true⟩
theorem ok_Q3:FunOK Tryz.prog F_Q3 i_Q3:=⟨Tryz.f3,[19,17,16,13,12,10],[(0,mb 171 [1,2,3,9,10,11]),(1000000,mb 171 [1,2,3,9,10])],Tryz.func3,by kernel_rfl⟩
def c_Q7:ICode:=(.seq (.reg [] [o_ 4 (.mov (k_ 0))]) (.seq (.reg [] [o_ 6 (mv 0),o_ 7 (mv 1),o_ 8 (bi .rem 6 7),o_ 5 (mv 8)]) (.seq (.seq (.reg [] [o_ 9 (mv 5),o_ 10 (bj .lss 9 0)]) (.cond (t_ 10) (.reg [] [o_ 11 (mv 5),o_ 12 (mv 1),o_ 13 (bi .add 11 12),o_ 5 (mv 13)]) .skip)) (.seq (.reg [] [o_ 14 (mv 5),o_ 4 (mv 14)]) .ret))))
def i_Q7:IFun:=⟨2,15,[.tmp 4],c_Q7,true⟩
theorem ok_Q7:FunOK Tryz.prog F_Q7 i_Q7:=⟨Tryz.f7,[],[],Tryz.func7,by kernel_rfl⟩
noncomputable def i_Q8:IFun:=⟨1,34,[.cell 2 (some 5)],codeOf Tryz.prog [3,2,1] [(0,mb 34 [1,2,3,4]),(1000000,mb 34 [2,3])] false 1 Tryz.f8,false⟩
theorem ok_Q8:FunOK Tryz.prog F_Q8 i_Q8:=⟨Tryz.f8,[3,2,1],[(0,mb 34 [1,2,3,4]),(1000000,mb 34 [2,3])],Tryz.func8,by kernel_rfl⟩
noncomputable def i_Q9:IFun:=⟨3,138,[.cell 6 (some 8), .tmp 7],codeOf Tryz.prog [14,11,6,5,4,3] [(1,mb 138 [3,6,8,9,44,45]),(1000001,mb 138 [6,8,9]),(3,mb 138 [6,8,9,11,66,67,68]),(1000003,mb 138 [6,8,9,11])] true 3 Tryz.f9,true⟩
theorem ok_Q9:FunOK Tryz.prog F_Q9 i_Q9:=⟨Tryz.f9,[14,11,6,5,4,3],[(1,mb 138 [3,6,8,9,44,45]),(1000001,mb 138 [6,8,9]),(3,mb 138 [6,8,9,11,66,67,68]),(1000003,mb 138 [6,8,9,11])],Tryz.func9,by kernel_rfl⟩
noncomputable def i_Q10:IFun:=⟨2,79,[.tmp 4],codeOf Tryz.prog [8,6,3,2] [(0,mb 79 [2,3,47,48,49]),(1000000,mb 79 [2,3]),(2,mb 79 [3,63,64,65]),(1000002,mb 79 [])] true 2 Tryz.f10,true⟩
theorem ok_Q10:FunOK Tryz.prog F_Q10 i_Q10:=⟨Tryz.f10,[8,6,3,2],[(0,mb 79 [2,3,47,48,49]),(1000000,mb 79 [2,3]),(2,mb 79 [3,63,64,65]),(1000002,mb 79 [])],Tryz.func10,by kernel_rfl⟩
noncomputable def i_Q11:IFun:=⟨0,44,[.tmp 0],codeOf Tryz.prog [3] [] true 0 Tryz.f11,true⟩
theorem ok_Q11:FunOK Tryz.prog F_Q11 i_Q11:=⟨Tryz.f11,[3],[],Tryz.func11,by kernel_rfl⟩
noncomputable def i_Q14:IFun:=⟨1,5,[.tmp 2],codeOf Tryz.prog [] [] true 1 Tryz.f14,true⟩
theorem ok_Q14:FunOK Tryz.prog F_Q14 i_Q14:=⟨Tryz.f14,[],[],Tryz.func14,by kernel_rfl⟩
noncomputable def i_Q15:IFun:=⟨1,34,[.tmp 2],codeOf Tryz.prog [1] [] true 1 Tryz.f15,true⟩
theorem ok_Q15:FunOK Tryz.prog F_Q15 i_Q15:=⟨Tryz.f15,[1],[],Tryz.func15,by kernel_rfl⟩
noncomputable def i_Q16:IFun:=⟨3,127,[.tmp 6],codeOf Tryz.prog [13,10,5,4,3] [(0,mb 127 [3,7,26,27]),(1000000,mb 127 [3,7]),(4,mb 127 [3,7,9,55,56,94,95,96]),(1000004,mb 127 [3,7,55,56]),(2,mb 127 [3,7,55,56]),(1000002,mb 127 [7])] false 3 Tryz.f16,false⟩
theorem ok_Q16:FunOK Tryz.prog F_Q16 i_Q16:=⟨Tryz.f16,[13,10,5,4,3],[(0,mb 127 [3,7,26,27]),(1000000,mb 127 [3,7]),(4,mb 127 [3,7,9,55,56,94,95,96]),(1000004,mb 127 [3,7,55,56]),(2,mb 127 [3,7,55,56]),(1000002,mb 127 [7])],Tryz.func16,by kernel_rfl⟩
noncomputable def i_Q17:IFun:=⟨3,178,[.tmp 6],codeOf Tryz.prog [16,15,8,7,4] [(2,mb 178 [0,2,9,151,152,153]),(1000002,mb 178 [0,2,9])] false 3 Tryz.f17,false⟩
theorem ok_Q17:FunOK Tryz.prog F_Q17 i_Q17:=⟨Tryz.f17,[16,15,8,7,4],[(2,mb 178 [0,2,9,151,152,153]),(1000002,mb 178 [0,2,9])],Tryz.func17,by kernel_rfl⟩
noncomputable def i_Q18:IFun:=⟨2,92,[.cell 4 (some 5)],codeOf Tryz.prog [4] [(0,mb 92 [0,1,4,5,17]),(1000000,mb 92 [0,1,4,5])] false 2 Tryz.f18,false⟩
theorem ok_Q18:FunOK Tryz.prog F_Q18 i_Q18:=⟨Tryz.f18,[4],[(0,mb 92 [0,1,4,5,17]),(1000000,mb 92 [0,1,4,5])],Tryz.func18,by kernel_rfl⟩
noncomputable def i_Q19:IFun:=⟨3,31,[.tmp 6, .tmp 7],codeOf Tryz.prog [5] [] false 3 Tryz.f19,false⟩
theorem ok_Q19:FunOK Tryz.prog F_Q19 i_Q19:=⟨Tryz.f19,[5],[],Tryz.func19,by kernel_rfl⟩
noncomputable def i_Q20:IFun:=⟨4,74,[.tmp 8, .tmp 9],codeOf Tryz.prog [] [] false 4 Tryz.f20,false⟩
theorem ok_Q20:FunOK Tryz.prog F_Q20 i_Q20:=⟨Tryz.f20,[],[],Tryz.func20,by kernel_rfl⟩
noncomputable def i_Q22:IFun:=⟨2,26,[.tmp 4],codeOf Tryz.prog [] [(0,mb 26 [0,1,5]),(1000000,mb 26 [])] true 2 Tryz.f22,true⟩
theorem ok_Q22:FunOK Tryz.prog F_Q22 i_Q22:=⟨Tryz.f22,[],[(0,mb 26 [0,1,5]),(1000000,mb 26 [])],Tryz.func22,by kernel_rfl⟩
noncomputable def i_Q23:IFun:=⟨1,19,[.tmp 2],codeOf Tryz.prog [5,1] [(0,mb 19 [3,7,8,9]),(1000000,mb 19 [3])] true 1 Tryz.f23,true⟩
theorem ok_Q23:FunOK Tryz.prog F_Q23 i_Q23:=⟨Tryz.f23,[5,1],[(0,mb 19 [3,7,8,9]),(1000000,mb 19 [3])],Tryz.func23,by kernel_rfl⟩
noncomputable def i_Q24:IFun:=⟨1,20,[.tmp 2],codeOf Tryz.prog [5,1] [(0,mb 20 [3,7,8,9]),(1000000,mb 20 [3])] true 1 Tryz.f24,true⟩
theorem ok_Q24:FunOK Tryz.prog F_Q24 i_Q24:=⟨Tryz.f24,[5,1],[(0,mb 20 [3,7,8,9]),(1000000,mb 20 [3])],Tryz.func24,by kernel_rfl⟩
noncomputable def i_Q25:IFun:=⟨1,14,[.tmp 2],codeOf Tryz.prog [] [(0,mb 14 [5,6,7]),(1000000,mb 14 [])] true 1 Tryz.f25,true⟩
theorem ok_Q25:FunOK Tryz.prog F_Q25 i_Q25:=⟨Tryz.f25,[],[(0,mb 14 [5,6,7]),(1000000,mb 14 [])],Tryz.func25,by kernel_rfl⟩
noncomputable def i_Q26:IFun:=⟨1,26,[.tmp 2],codeOf Tryz.prog [4,1] [(0,mb 26 [1,6,7,8]),(1000000,mb 26 [])] true 1 Tryz.f26,true⟩
theorem ok_Q26:FunOK Tryz.prog F_Q26 i_Q26:=⟨Tryz.f26,[4,1],[(0,mb 26 [1,6,7,8]),(1000000,mb 26 [])],Tryz.func26,by kernel_rfl⟩
noncomputable def i_Q27:IFun:=⟨1,49,[.tmp 2],codeOf Tryz.prog [] [(0,mb 49 [3,4]),(1000000,mb 49 [3])] true 1 Tryz.f27,true⟩
theorem ok_Q27:FunOK Tryz.prog F_Q27 i_Q27:=⟨Tryz.f27,[],[(0,mb 49 [3,4]),(1000000,mb 49 [3])],Tryz.func27,by kernel_rfl⟩
noncomputable def i_Q28:IFun:=⟨2,19,[.tmp 4],codeOf Tryz.prog [2] [] true 2 Tryz.f28,true⟩
theorem ok_Q28:FunOK Tryz.prog F_Q28 i_Q28:=⟨Tryz.f28,[2],[],Tryz.func28,by kernel_rfl⟩
def l_Q29_0:ICode:=(.seq (.reg [] [o_ 56 (bi .lss 55 54)]) (.seq (.cond (t_ 56) .skip (.exit 0)) (.seq (.block 1 [] (.seq (.reg [7] [o_ 57 (ix 2 53 55),o_ 58 (lw 2 57),o_ 7 (.alloc (some 7) [(.int .i64 0),(.int .i64 0)]),n_ (s3 2 7 58)]) (.reg [] [o_ 59 (mv 5),o_ 60 (fa 0 7),o_ 61 (ld 60),o_ 62 (fa 1 7),o_ 63 (ld 62),o_ 64 (cl F_Q57 [(t_ 59),(t_ 61),(t_ 63)])]))) (.reg [] [o_ 65 (bj .add 55 1),o_ 55 (mv 65)]))))
@[reducible] def m_Q29_0:List Bool:=mb 143 [2,5,53,54,55]
@[reducible] def b_Q29_0:List Bool:=mb 143 [2,5]
def l_Q29_1:ICode:=(.seq (.reg [] [o_ 70 (bi .lss 69 68)]) (.seq (.cond (t_ 70) .skip (.exit 2)) (.seq (.block 3 [] (.seq (.reg [] [o_ 71 (ix 1 67 69),o_ 72 (ld 71),o_ 9 (mv 72)]) (.seq (.seq (.reg [] [o_ 74 (mv 5),o_ 75 (nc 74),o_ 76 (fa 14 75),o_ 77 (ld 76),o_ 78 (mv 9),o_ 79 (.lookup true (.p (.int .i64 0)) ⟨false,[.int]⟩ (t_ 77) (t_ 78)),o_ 73 (mv 79),o_ 80 (et 73 0),o_ 81 (et 73 1),o_ 10 (mv 80),o_ 11 (mv 81)]) (.seq (.reg [] [o_ 82 (mv 11)]) (.cond (t_ 82) (.exit 3) .skip))) (.seq (.reg [] [o_ 83 (mv 5),o_ 84 (mv 9),o_ 85 (cl F_Q59 [(t_ 83),(t_ 84)]),o_ 12 (mv 85)]) (.seq (.reg [] [o_ 86 (mv 12),o_ 87 (bj .geq 86 0)]) (.cond (t_ 87) (.seq (.reg [] [o_ 88 (mv 5),o_ 89 (mv 9),o_ 90 (mv 12),o_ 91 (cl F_Q57 [(t_ 88),(t_ 89),(t_ 90)])]) (.reg [] [o_ 92 (mv 5),o_ 93 (mv 9),o_ 94 (mv 12),o_ 95 (cl F_Q60 [(t_ 92),(t_ 93),(t_ 94)])])) .skip)))))) (.reg [] [o_ 96 (bj .add 69 1),o_ 69 (mv 96)]))))
@[reducible] def m_Q29_1:List Bool:=mb 143 [5,67,68,69]
@[reducible] def b_Q29_2:List Bool:=mb 143 [5]
def l_Q29_2:ICode:=(.seq (.reg [] [o_ 107 (bi .lss 106 105)]) (.seq (.cond (t_ 107) .skip (.exit 4)) (.seq (.block 5 [] (.seq (.reg [] [o_ 108 (mv 106),o_ 13 (mv 108)]) (.seq (.reg [] [o_ 110 (mv 5),o_ 111 (nc 110),o_ 112 (fa 14 111),o_ 113 (ld 112),o_ 114 (mv 13),o_ 115 (.lookup true (.p (.int .i64 0)) ⟨false,[.int]⟩ (t_ 113) (t_ 114)),o_ 109 (mv 115),o_ 116 (et 109 0),o_ 117 (et 109 1),o_ 14 (mv 116),o_ 15 (mv 117)]) (.seq (.reg [] [o_ 118 (mv 15)]) (.cond (t_ 118) (.reg [] [o_ 119 (mv 5),o_ 120 (mv 13),o_ 121 (mv 14),o_ 122 (cl F_Q62 [(t_ 119),(t_ 120),(t_ 121)])]) .skip))))) (.reg [] [o_ 123 (bj .add 106 1),o_ 106 (mv 123)]))))
@[reducible] def m_Q29_2:List Bool:=mb 143 [5,105,106]
@[reducible] def b_Q29_4:List Bool:=mb 143 [5]
def c_Q29_70:ICode:=(.seq (.reg [2,3] [o_ 2 (.box (some 2) 5 (t_ 0)),o_ 3 (.box (some 3) 5 (t_ 1)),o_ 4 (.mov xn)]) (.seq (.seq (.reg [] [o_ 19 (lw 5 2),o_ 20 (cl F_Q15 [(t_ 19)]),o_ 21 (.not (t_ 20)),o_ 22 (mv 21),g_ 23 22 false (lw 5 3),g_ 24 22 false (cl F_Q15 [(t_ 23)]),g_ 25 22 false (.not (t_ 24)),o_ 26 (po 22 25)]) (.cond (t_ 26) (.seq (.reg [] [o_ 4 (.mov xn)]) .ret) .skip)) (.seq (.draw [] [o_ 27 (lw 5 2),o_ 28 (lw 5 3),o_ 29 (lw 5 2),s_ 30 (cl F_Q27 [(t_ 29)]) [(29,2)],o_ 31 (lw 5 3),s_ 32 (cl F_Q27 [(t_ 31)]) [(31,4)],o_ 33 (.mkMap),o_ 34 (.mkMap),s_ 35 (.build [(.int .i64 0),(.str []),(.str []), .nilslice, .nilslice,(.int .i64 0),(.str []),(.str []), .nilslice, .nilslice, .nilslice, .nilslice, .nilslice, .nilslice, .nilmap, .nilmap] [(0,5,(t_ 27)),(5,5,(t_ 28)),(10,1,(t_ 30)),(11,1,(t_ 32)),(14,1,(t_ 33)),(15,1,(t_ 34))]) [(27,0),(28,1),(30,3),(32,5),(33,6),(34,7)],s_ 36 (.box none 16 (t_ 35)) [(35,8)],s_ 5 (mv 36) [(36,9)]] [[⟨[0,1,2,4,6,7],[],(some 3)⟩,⟨[],[0,1,4,6,7],(some 5)⟩,⟨[8,9,10],[0,1,6,7],none⟩]]) (.seq (.draw [] [o_ 37 (mv 5),o_ 38 (mv 5),s_ 39 (nc 38) [(38,1)],s_ 40 (fa 10 39) [(39,2)],s_ 41 (ld 40) [(40,3)],s_ 42 (cl F_Q55 [(t_ 41)]) [(41,4)],o_ 43 (mv 5),s_ 44 (nc 43) [(43,6)],s_ 45 (fa 11 44) [(44,7)],s_ 46 (ld 45) [(45,8)],s_ 47 (cl F_Q55 [(t_ 46)]) [(46,9)],s_ 48 (.build [.nilslice, .nilslice] [(0,1,(t_ 42)),(1,1,(t_ 47))]) [(42,5),(47,10)],s_ 49 (nc 37) [(37,0)],s_ 50 (fa 12 49) [(49,12)],e_ (s3 2 50 48) [(50,13),(48,11)]] [[⟨[0,1,2,3,4,6,7,8,9],[],(some 5)⟩,⟨[],[9],(some 10)⟩,⟨[11,12,13],[],(some 14)⟩,⟨[],[],none⟩]]) (.seq (.seq (.reg [] [o_ 51 (lw 5 2),o_ 52 (lw 5 3),o_ 53 (cl F_Q56 [(t_ 51),(t_ 52),(k_ 2)]),o_ 54 (ll 53),o_ 55 (.mov (k_ 0))]) (.block 0 b_Q29_0 (.loop m_Q29_0 l_Q29_0))) (.seq (.seq (.reg [] [o_ 66 (lw 5 2),o_ 67 (cl F_Q58 [(t_ 66)]),o_ 68 (ll 67),o_ 69 (.mov (k_ 0))]) (.block 2 b_Q29_2 (.loop m_Q29_1 l_Q29_1))) (.seq (.seq (.reg [] [o_ 97 (mv 5),o_ 98 (cl F_Q61 [(t_ 97),(k_ 0),(k_ 0)])]) (.cond (t_ 98) (.reg [] [o_ 99 (mv 5),o_ 100 (cl F_Q57 [(t_ 99),(k_ 0),(k_ 0)])]) .skip)) (.seq (.seq (.reg [] [o_ 101 (mv 5),o_ 102 (nc 101),
 o_ 103 (fa 10 102),o_ 104 (ld 103),o_ 105 (ll 104),o_ 106 (.mov (k_ 0))]) (.block 4 b_Q29_4 (.loop m_Q29_2 l_Q29_2))) (.seq (.reg [] [o_ 16 (.mov xn)]) (.reg [] [o_ 124 (mv 5),o_ 125 (nc 124),o_ 126 (fa 14 125),o_ 127 (ld 126)]))))))))))
def c_Q29_71:ICode:=(.reg [] [o_ 134 (mv 16),o_ 135 (mv 17),o_ 136 (mv 18),o_ 137 (.build [(.int .i64 0),(.int .i64 0)] [(0,1,(t_ 135)),(1,1,(t_ 136))]),o_ 138 (.buildSlice 2 1 [(.int .i64 0),(.int .i64 0)] [(0,2,(t_ 137))]),o_ 139 (.append 2 (t_ 134) (t_ 138)),o_ 16 (mv 139)])
def c_Q29_72:ICode:=(.seq (.reg [] [o_ 140 (mv 16),o_ 141 (cl F_Q38 [(t_ 140),(.func F_Q63)])]) (.seq (.reg [] [o_ 142 (mv 16),o_ 4 (mv 142)]) .ret))
@[reducible] def m_Q29_90:List Bool:=mb 143 [16,128]
def b_Q29_91:List Bool:=[]
@[reducible] def b_Q29_92:List Bool:=mb 143 [16]
def c_Q29_73:List IOper:=[o_ 132 (et 131 0),o_ 133 (et 131 1),o_ 17 (mv 132),o_ 18 (mv 133)]
def i_Q29:RFun:=⟨2,143,[.tmp 4],⟨c_Q29_70,(t_ 127),128,129,130,131,m_Q29_90,7,b_Q29_91,c_Q29_73,c_Q29_71,b_Q29_92,c_Q29_72⟩⟩
theorem ok_Q29:ROK Tryz.prog F_Q29 i_Q29:=⟨Tryz.f29,[7,3,2],[(0,m_Q29_0),(1000000,b_Q29_0),(2,m_Q29_1),(1000002,b_Q29_2),(4,m_Q29_2),(1000004,b_Q29_2),(6,m_Q29_90),(1000006,b_Q29_92)],Tryz.func29,by kernel_rfl⟩
noncomputable def i_Q30:IFun:=⟨3,136,[.tmp 6, .tmp 7],codeOf Tryz.prog [13,4,3] [(0,mb 136 [8,9,10,11,32,33,34]),(1000000,mb 136 [8,9,10,11]),(4,mb 136 [8,9,10,14,15,16,17,20,54,55]),(1000004,mb 136 [8,9,10,14,15,54,55]),(2,mb 136 [8,9,10,14,15,54,55]),(1000002,mb 136 [15])] true 3 Tryz.f30,true⟩
theorem ok_Q30:FunOK Tryz.prog F_Q30 i_Q30:=⟨Tryz.f30,[13,4,3],[(0,mb 136 [8,9,10,11,32,33,34]),(1000000,mb 136 [8,9,10,11]),(4,mb 136 [8,9,10,14,15,16,17,20,54,55]),(1000004,mb 136 [8,9,10,14,15,54,55]),(2,mb 136 [8,9,10,14,15,54,55]),(1000002,mb 136 [15])],Tryz.func30,by kernel_rfl⟩
noncomputable def i_Q32:IFun:=⟨3,25,[.tmp 6],codeOf Tryz.prog [] [] false 3 Tryz.f32,false⟩
theorem ok_Q32:FunOK Tryz.prog F_Q32 i_Q32:=⟨Tryz.f32,[],[],Tryz.func32,by kernel_rfl⟩
noncomputable def i_Q33:IFun:=⟨3,55,[.tmp 6],codeOf Tryz.prog [9] [(0,mb 55 [0,1,2,7,22,23,24]),(1000000,mb 55 [0,1,2,7]),(2,mb 55 [7,44,45,46]),(1000002,mb 55 [7])] false 3 Tryz.f33,false⟩
theorem ok_Q33:FunOK Tryz.prog F_Q33 i_Q33:=⟨Tryz.f33,[9],[(0,mb 55 [0,1,2,7,22,23,24]),(1000000,mb 55 [0,1,2,7]),(2,mb 55 [7,44,45,46]),(1000002,mb 55 [7])],Tryz.func33,by kernel_rfl⟩
noncomputable def i_Q34:IFun:=⟨1,11,[],codeOf Tryz.prog [] [] true 1 Tryz.f34,true⟩
theorem ok_Q34:FunOK Tryz.prog F_Q34 i_Q34:=⟨Tryz.f34,[],[],Tryz.func34,by kernel_rfl⟩
noncomputable def i_Q35:IFun:=⟨2,35,[.tmp 4, .tmp 5],codeOf Tryz.prog [] [] false 2 Tryz.f35,false⟩
theorem ok_Q35:FunOK Tryz.prog F_Q35 i_Q35:=⟨Tryz.f35,[],[],Tryz.func35,by kernel_rfl⟩
noncomputable def i_Q36:IFun:=⟨2,73,[.tmp 4],codeOf Tryz.prog [10,7] [(0,mb 73 [0,1,5,23,24,25]),(1000000,mb 73 [0,1,5]),(2,mb 73 [0,1,5,35]),(1000002,mb 73 [5])] false 2 Tryz.f36,false⟩
theorem ok_Q36:FunOK Tryz.prog F_Q36 i_Q36:=⟨Tryz.f36,[10,7],[(0,mb 73 [0,1,5,23,24,25]),(1000000,mb 73 [0,1,5]),(2,mb 73 [0,1,5,35]),(1000002,mb 73 [5])],Tryz.func36,by kernel_rfl⟩
noncomputable def i_Q37:IFun:=⟨3,78,[],codeOf Tryz.prog [] [(0,mb 78 [0,1,8,9,10]),(1000000,mb 78 [])] false 3 Tryz.f37,false⟩
theorem ok_Q37:FunOK Tryz.prog F_Q37 i_Q37:=⟨Tryz.f37,[],[(0,mb 78 [0,1,8,9,10]),(1000000,mb 78 [])],Tryz.func37,by kernel_rfl⟩
def c_Q39:ICode:=(.seq (.reg [2,3] [o_ 2 (.box (some 2) 2 (t_ 0)),o_ 3 (.box (some 3) 2 (t_ 1)),o_ 4 (.mov (k_ 0))]) (.seq (.reg [] [o_ 5 (fa 0 2),o_ 6 (ld 5),o_ 7 (fa 0 3),o_ 8 (ld 7),o_ 9 (cl F_Q40 [(t_ 6),(t_ 8)]),o_ 4 (mv 9)]) .ret))
def i_Q39:IFun:=⟨2,10,[.tmp 4],c_Q39,true⟩
theorem ok_Q39:FunOK Tryz.prog F_Q39 i_Q39:=⟨Tryz.f39,[3,2],[],Tryz.func39,by kernel_rfl⟩
def c_Q40:ICode:=(.seq (.reg [] [o_ 4 (.mov (k_ 0))]) (.seq (.reg [] [o_ 7 (mv 0),o_ 8 (cl F_Q78 [(t_ 7)]),o_ 5 (mv 8)]) (.seq (.reg [] [o_ 9 (mv 1),o_ 10 (cl F_Q78 [(t_ 9)]),o_ 6 (mv 10)]) (.seq (.seq (.reg [] [o_ 11 (mv 5)]) (.cond (t_ 11) (.seq (.seq (.reg [] [o_ 12 (mv 6)]) (.cond (t_ 12) (.seq (.reg [] [o_ 4 (.mov (k_ 0))]) .ret) .skip)) (.seq (.reg [] [o_ 4 (.mov (k_ (-1)))]) .ret)) .skip)) (.seq (.seq (.reg [] [o_ 13 (mv 6)]) (.cond (t_ 13) (.seq (.reg [] [o_ 4 (.mov (k_ 1))]) .ret) .skip)) (.seq (.seq (.reg [] [o_ 14 (mv 0),o_ 15 (mv 1),o_ 16 (bi .lss 14 15)]) (.cond (t_ 16) (.seq (.reg [] [o_ 4 (.mov (k_ (-1)))]) .ret) .skip)) (.seq (.seq (.reg [] [o_ 17 (mv 0),o_ 18 (mv 1),o_ 19 (bi .gtr 17 18)]) (.cond (t_ 19) (.seq (.reg [] [o_ 4 (.mov (k_ 1))]) .ret) .skip)) (.seq (.reg [] [o_ 4 (.mov (k_ 0))]) .ret))))))))
def i_Q40:IFun:=⟨2,20,[.tmp 4],c_Q40,true⟩
theorem ok_Q40:FunOK Tryz.prog F_Q40 i_Q40:=⟨Tryz.f40,[],[],Tryz.func40,by kernel_rfl⟩
noncomputable def i_Q41:IFun:=⟨3,150,[.tmp 6, .tmp 7],codeOf Tryz.prog [13,4,3] [(2,mb 150 [3,8,9,10,11,14,52,53,54]),(1000002,mb 150 [3,8,9,10,11,52,53,54]),(0,mb 150 [3,8,9,10,11,52,53,54]),(1000000,mb 150 [3,9,10,11]),(4,mb 150 [9,10,11,15,85,86,87]),(1000004,mb 150 [9,10,11,15]),(6,mb 150 [9,10,11,15,18]),(1000006,mb 150 [9,10,11,15]),(8,mb 150 [9,10,11,120,121,122]),(1000008,mb 150 [9])] true 3 Tryz.f41,true⟩
theorem ok_Q41:FunOK Tryz.prog F_Q41 i_Q41:=⟨Tryz.f41,[13,4,3],[(2,mb 150 [3,8,9,10,11,14,52,53,54]),(1000002,mb 150 [3,8,9,10,11,52,53,54]),(0,mb 150 [3,8,9,10,11,52,53,54]),(1000000,mb 150 [3,9,10,11]),(4,mb 150 [9,10,11,15,85,86,87]),(1000004,mb 150 [9,10,11,15]),(6,mb 150 [9,10,11,15,18]),(1000006,mb 150 [9,10,11,15]),(8,mb 150 [9,10,11,120,121,122]),(1000008,mb 150 [9])],Tryz.func41,by kernel_rfl⟩
noncomputable def i_Q42:IFun:=⟨1,22,[.tmp 2],codeOf Tryz.prog [] [(0,mb 22 [3,6,7,8]),(1000000,mb 22 [3])] true 1 Tryz.f42,true⟩
theorem ok_Q42:FunOK Tryz.prog F_Q42 i_Q42:=⟨Tryz.f42,[],[(0,mb 22 [3,6,7,8]),(1000000,mb 22 [3])],Tryz.func42,by kernel_rfl⟩
noncomputable def i_Q43:IFun:=⟨1,17,[.tmp 2],codeOf Tryz.prog [] [(0,mb 17 [3,7,8,9]),(1000000,mb 17 [3])] false 1 Tryz.f43,false⟩
theorem ok_Q43:FunOK Tryz.prog F_Q43 i_Q43:=⟨Tryz.f43,[],[(0,mb 17 [3,7,8,9]),(1000000,mb 17 [3])],Tryz.func43,by kernel_rfl⟩
noncomputable def i_Q44:IFun:=⟨4,19,[.tmp 5],codeOf Tryz.prog [] [] false 4 Tryz.f44,false⟩
theorem ok_Q44:FunOK Tryz.prog F_Q44 i_Q44:=⟨Tryz.f44,[],[],Tryz.func44,by kernel_rfl⟩
noncomputable def i_Q45:IFun:=⟨2,23,[.tmp 4],codeOf Tryz.prog [] [(0,mb 23 [1,5,8,9,10]),(1000000,mb 23 [5])] false 2 Tryz.f45,false⟩
theorem ok_Q45:FunOK Tryz.prog F_Q45 i_Q45:=⟨Tryz.f45,[],[(0,mb 23 [1,5,8,9,10]),(1000000,mb 23 [5])],Tryz.func45,by kernel_rfl⟩
noncomputable def i_Q46:IFun:=⟨2,26,[.tmp 4],codeOf Tryz.prog [] [(0,mb 26 [0,1,12,13]),(1000000,mb 26 [])] true 2 Tryz.f46,true⟩
theorem ok_Q46:FunOK Tryz.prog F_Q46 i_Q46:=⟨Tryz.f46,[],[(0,mb 26 [0,1,12,13]),(1000000,mb 26 [])],Tryz.func46,by kernel_rfl⟩
noncomputable def i_Q47:IFun:=⟨4,63,[.tmp 8, .tmp 9],codeOf Tryz.prog [] [(0,mb 63 [0,1,2,3,10,14,15]),(1000000,mb 63 [10])] false 4 Tryz.f47,false⟩
theorem ok_Q47:FunOK Tryz.prog F_Q47 i_Q47:=⟨Tryz.f47,[],[(0,mb 63 [0,1,2,3,10,14,15]),(1000000,mb 63 [10])],Tryz.func47,by kernel_rfl⟩
noncomputable def i_Q48:IFun:=⟨3,45,[.tmp 6],codeOf Tryz.prog [] [(0,mb 45 [1,2,7,12,13,14]),(1000000,mb 45 [7])] false 3 Tryz.f48,false⟩
theorem ok_Q48:FunOK Tryz.prog F_Q48 i_Q48:=⟨Tryz.f48,[],[(0,mb 45 [1,2,7,12,13,14]),(1000000,mb 45 [7])],Tryz.func48,by kernel_rfl⟩
noncomputable def i_Q50:IFun:=⟨1,73,[.tmp 2],codeOf Tryz.prog [1] [] true 1 Tryz.f50,true⟩
theorem ok_Q50:FunOK Tryz.prog F_Q50 i_Q50:=⟨Tryz.f50,[1],[],Tryz.func50,by kernel_rfl⟩
noncomputable def i_Q51:IFun:=⟨2,59,[],codeOf Tryz.prog [6] [(2,mb 59 [1,4,5,6,7]),(1000002,mb 59 [1,4,5]),(0,mb 59 [1,4,5]),(1000000,mb 59 [])] false 2 Tryz.f51,false⟩
theorem ok_Q51:FunOK Tryz.prog F_Q51 i_Q51:=⟨Tryz.f51,[6],[(2,mb 59 [1,4,5,6,7]),(1000002,mb 59 [1,4,5]),(0,mb 59 [1,4,5]),(1000000,mb 59 [])],Tryz.func51,by kernel_rfl⟩
noncomputable def i_Q52:IFun:=⟨3,27,[.tmp 5],codeOf Tryz.prog [6,4] [] false 3 Tryz.f52,false⟩
theorem ok_Q52:FunOK Tryz.prog F_Q52 i_Q52:=⟨Tryz.f52,[6,4],[],Tryz.func52,by kernel_rfl⟩
noncomputable def i_Q53:IFun:=⟨1,8,[.tmp 2],codeOf Tryz.prog [] [] true 1 Tryz.f53,true⟩
theorem ok_Q53:FunOK Tryz.prog F_Q53 i_Q53:=⟨Tryz.f53,[],[],Tryz.func53,by kernel_rfl⟩
noncomputable def i_Q54:IFun:=⟨2,30,[.tmp 4],codeOf Tryz.prog [] [(0,mb 30 [0,1,5,6]),(1000000,mb 30 [5])] true 2 Tryz.f54,true⟩
theorem ok_Q54:FunOK Tryz.prog F_Q54 i_Q54:=⟨Tryz.f54,[],[(0,mb 30 [0,1,5,6]),(1000000,mb 30 [5])],Tryz.func54,by kernel_rfl⟩
noncomputable def i_Q55:IFun:=⟨1,33,[.tmp 2],codeOf Tryz.prog [5] [(0,mb 33 [3,9,10,11]),(1000000,mb 33 [3])] true 1 Tryz.f55,true⟩
theorem ok_Q55:FunOK Tryz.prog F_Q55 i_Q55:=⟨Tryz.f55,[5],[(0,mb 33 [3,9,10,11]),(1000000,mb 33 [3])],Tryz.func55,by kernel_rfl⟩
noncomputable def i_Q56:IFun:=⟨3,167,[.tmp 6],codeOf Tryz.prog [15,4,3] [(0,mb 167 [2,7,8,9,10,11,12]),(1000000,mb 167 [2,7,8,9,10,11]),(6,mb 167 [2,7,8,9,10,11,13,14,15,121,122,123]),(1000006,mb 167 [2,7,8,9,10,11,13,14]),(4,mb 167 [2,7,8,9,10,11,13,14]),(1000004,mb 167 [2,7,8,9,10,11,13]),(2,mb 167 [2,7,8,9,10,11,13]),(1000002,mb 167 [9])] true 3 Tryz.f56,true⟩
theorem ok_Q56:FunOK Tryz.prog F_Q56 i_Q56:=⟨Tryz.f56,[15,4,3],[(0,mb 167 [2,7,8,9,10,11,12]),(1000000,mb 167 [2,7,8,9,10,11]),(6,mb 167 [2,7,8,9,10,11,13,14,15,121,122,123]),(1000006,mb 167 [2,7,8,9,10,11,13,14]),(4,mb 167 [2,7,8,9,10,11,13,14]),(1000004,mb 167 [2,7,8,9,10,11,13]),(2,mb 167 [2,7,8,9,10,11,13]),(1000002,mb 167 [9])],Tryz.func56,by kernel_rfl⟩
noncomputable def i_Q57:IFun:=⟨3,22,[],codeOf Tryz.prog [] [] false 3 Tryz.f57,false⟩
theorem ok_Q57:FunOK Tryz.prog F_Q57 i_Q57:=⟨Tryz.f57,[],[],Tryz.func57,by kernel_rfl⟩
noncomputable def i_Q58:IFun:=⟨1,49,[.tmp 2],codeOf Tryz.prog [1] [(2,mb 49 [3,4,5,6,12,13]),(1000002,mb 49 [3,4,5,6,12,13]),(0,mb 49 [3,4,5,12,13]),(1000000,mb 49 [4])] true 1 Tryz.f58,true⟩
theorem ok_Q58:FunOK Tryz.prog F_Q58 i_Q58:=⟨Tryz.f58,[1],[(2,mb 49 [3,4,5,6,12,13]),(1000002,mb 49 [3,4,5,6,12,13]),(0,mb 49 [3,4,5,12,13]),(1000000,mb 49 [4])],Tryz.func58,by kernel_rfl⟩
noncomputable def i_Q59:IFun:=⟨2,84,[.tmp 4],codeOf Tryz.prog [] [(0,mb 84 [2,3,5,6,7,17,18]),(1000000,mb 84 [5,6,7])] false 2 Tryz.f59,false⟩
theorem ok_Q59:FunOK Tryz.prog F_Q59 i_Q59:=⟨Tryz.f59,[],[(0,mb 84 [2,3,5,6,7,17,18]),(1000000,mb 84 [5,6,7])],Tryz.func59,by kernel_rfl⟩
noncomputable def i_Q60:IFun:=⟨3,65,[],codeOf Tryz.prog [13,8,6] [(0,mb 65 [0,1,2,38,39,40]),(1000000,mb 65 [])] false 3 Tryz.f60,false⟩
theorem ok_Q60:FunOK Tryz.prog F_Q60 i_Q60:=⟨Tryz.f60,[13,8,6],[(0,mb 65 [0,1,2,38,39,40]),(1000000,mb 65 [])],Tryz.func60,by kernel_rfl⟩
noncomputable def i_Q61:IFun:=⟨3,35,[.tmp 6],codeOf Tryz.prog [] [] false 3 Tryz.f61,false⟩
theorem ok_Q61:FunOK Tryz.prog F_Q61 i_Q61:=⟨Tryz.f61,[],[],Tryz.func61,by kernel_rfl⟩
noncomputable def i_Q62:IFun:=⟨3,65,[],codeOf Tryz.prog [] [(2,mb 65 [0,2,7,17,18,19,30,31,32]),(1000002,mb 65 [0,2,17,18,19]),(0,mb 65 [0,2,17,18,19]),(1000000,mb 65 [])] false 3 Tryz.f62,false⟩
theorem ok_Q62:FunOK Tryz.prog F_Q62 i_Q62:=⟨Tryz.f62,[],[(2,mb 65 [0,2,7,17,18,19,30,31,32]),(1000002,mb 65 [0,2,17,18,19]),(0,mb 65 [0,2,17,18,19]),(1000000,mb 65 [])],Tryz.func62,by kernel_rfl⟩
def c_Q63:ICode:=(.seq (.reg [2,3] [o_ 2 (.box (some 2) 2 (t_ 0)),o_ 3 (.box (some 3) 2 (t_ 1)),o_ 4 (.mov (k_ 0))]) (.seq (.reg [] [o_ 5 (fa 0 2),o_ 6 (ld 5),o_ 7 (fa 0 3),o_ 8 (ld 7),o_ 9 (cl F_Q40 [(t_ 6),(t_ 8)]),o_ 4 (mv 9)]) .ret))
def i_Q63:IFun:=⟨2,10,[.tmp 4],c_Q63,true⟩
theorem ok_Q63:FunOK Tryz.prog F_Q63 i_Q63:=⟨Tryz.f63,[3,2],[],Tryz.func63,by kernel_rfl⟩
noncomputable def i_Q64:IFun:=⟨3,94,[.tmp 6],codeOf Tryz.prog [12,4,3] [(0,mb 94 [7,8,9,10,38,39,40]),(1000000,mb 94 [])] true 3 Tryz.f64,true⟩
theorem ok_Q64:FunOK Tryz.prog F_Q64 i_Q64:=⟨Tryz.f64,[12,4,3],[(0,mb 94 [7,8,9,10,38,39,40]),(1000000,mb 94 [])],Tryz.func64,by kernel_rfl⟩
noncomputable def i_Q65:IFun:=⟨2,16,[.tmp 3],codeOf Tryz.prog [] [] false 2 Tryz.f65,false⟩
theorem ok_Q65:FunOK Tryz.prog F_Q65 i_Q65:=⟨Tryz.f65,[],[],Tryz.func65,by kernel_rfl⟩
noncomputable def i_Q66:IFun:=⟨2,74,[.cell 4 (some 6)],codeOf Tryz.prog [11,7,5,4,3,2] [(0,mb 74 [2,3,4,5,21,22,23]),(1000000,mb 74 [2,3,4,5]),(2,mb 74 [3,4,5,50,51,52]),(1000002,mb 74 [4,5])] true 2 Tryz.f66,true⟩
theorem ok_Q66:FunOK Tryz.prog F_Q66 i_Q66:=⟨Tryz.f66,[11,7,5,4,3,2],[(0,mb 74 [2,3,4,5,21,22,23]),(1000000,mb 74 [2,3,4,5]),(2,mb 74 [3,4,5,50,51,52]),(1000002,mb 74 [4,5])],Tryz.func66,by kernel_rfl⟩
noncomputable def i_Q67:IFun:=⟨4,134,[],codeOf Tryz.prog [] [(0,mb 134 [0,1,2,3,8,9]),(1000000,mb 134 [])] true 4 Tryz.f67,true⟩
theorem ok_Q67:FunOK Tryz.prog F_Q67 i_Q67:=⟨Tryz.f67,[],[(0,mb 134 [0,1,2,3,8,9]),(1000000,mb 134 [])],Tryz.func67,by kernel_rfl⟩
noncomputable def i_Q68:IFun:=⟨1,8,[.tmp 2],codeOf Tryz.prog [] [] true 1 Tryz.f68,true⟩
theorem ok_Q68:FunOK Tryz.prog F_Q68 i_Q68:=⟨Tryz.f68,[],[],Tryz.func68,by kernel_rfl⟩
noncomputable def i_Q70:IFun:=⟨1,12,[.cell 2 (some 2)],codeOf Tryz.prog [2] [] true 1 Tryz.f70,true⟩
theorem ok_Q70:FunOK Tryz.prog F_Q70 i_Q70:=⟨Tryz.f70,[2],[],Tryz.func70,by kernel_rfl⟩
noncomputable def i_Q71:IFun:=⟨2,12,[.cell 4 (some 5), .tmp 5],codeOf Tryz.prog [4] [] true 2 Tryz.f71,true⟩
theorem ok_Q71:FunOK Tryz.prog F_Q71 i_Q71:=⟨Tryz.f71,[4],[],Tryz.func71,by kernel_rfl⟩
noncomputable def i_Q73:IFun:=⟨2,14,[],codeOf Tryz.prog [] [] false 2 Tryz.f73,false⟩
theorem ok_Q73:FunOK Tryz.prog F_Q73 i_Q73:=⟨Tryz.f73,[],[],Tryz.func73,by kernel_rfl⟩
noncomputable def i_Q76:IFun:=⟨2,144,[.cell 4 (some 5)],codeOf Tryz.prog [6,4,3] [(0,mb 144 [0,3,4,5,7,8]),(1000000,mb 144 [0,4,5,7])] false 2 Tryz.f76,false⟩
theorem ok_Q76:FunOK Tryz.prog F_Q76 i_Q76:=⟨Tryz.f76,[6,4,3],[(0,mb 144 [0,3,4,5,7,8]),(1000000,mb 144 [0,4,5,7])],Tryz.func76,by kernel_rfl⟩
def c_Q78:ICode:=(.seq (.reg [] [o_ 2 (.mov xf)]) (.seq (.reg [] [o_ 3 (mv 0),o_ 4 (mv 0),o_ 5 (bi .neq 3 4),o_ 2 (mv 5)]) .ret))
def i_Q78:IFun:=⟨1,6,[.tmp 2],c_Q78,true⟩
theorem ok_Q78:FunOK Tryz.prog F_Q78 i_Q78:=⟨Tryz.f78,[],[],Tryz.func78,by kernel_rfl⟩
noncomputable def i_Q79:IFun:=⟨1,15,[.tmp 2, .tmp 3],codeOf Tryz.prog [1] [] false 1 Tryz.f79,false⟩
theorem ok_Q79:FunOK Tryz.prog F_Q79 i_Q79:=⟨Tryz.f79,[1],[],Tryz.func79,by kernel_rfl⟩
noncomputable def i_Q80:IFun:=⟨2,122,[],codeOf Tryz.prog [3] [] false 2 Tryz.f80,false⟩
theorem ok_Q80:FunOK Tryz.prog F_Q80 i_Q80:=⟨Tryz.f80,[3],[],Tryz.func80,by kernel_rfl⟩
noncomputable def i_Q81:IFun:=⟨2,182,[],codeOf Tryz.prog [15,11,8,4] [(1,mb 182 [0,4,6,8,127,128,129]),(1000001,mb 182 [0,4,6,8]),(3,mb 182 [0,6,8,152,153,154]),(1000003,mb 182 [])] false 2 Tryz.f81,false⟩
theorem ok_Q81:FunOK Tryz.prog F_Q81 i_Q81:=⟨Tryz.f81,[15,11,8,4],[(1,mb 182 [0,4,6,8,127,128,129]),(1000001,mb 182 [0,4,6,8]),(3,mb 182 [0,6,8,152,153,154]),(1000003,mb 182 [])],Tryz.func81,by kernel_rfl⟩
noncomputable def i_Q86:IFun:=⟨1,40,[.tmp 2],codeOf Tryz.prog [] [(0,mb 40 [0,13,14]),(1000000,mb 40 [])] true 1 Tryz.f86,true⟩
theorem ok_Q86:FunOK Tryz.prog F_Q86 i_Q86:=⟨Tryz.f86,[],[(0,mb 40 [0,13,14]),(1000000,mb 40 [])],Tryz.func86,by kernel_rfl⟩
noncomputable def i_Q87:IFun:=⟨1,34,[.tmp 2],codeOf Tryz.prog [5] [(0,mb 34 [3,9,10,11]),(1000000,mb 34 [])] true 1 Tryz.f87,true⟩
theorem ok_Q87:FunOK Tryz.prog F_Q87 i_Q87:=⟨Tryz.f87,[5],[(0,mb 34 [3,9,10,11]),(1000000,mb 34 [])],Tryz.func87,by kernel_rfl⟩
noncomputable def i_Q88:IFun:=⟨1,61,[.tmp 2],codeOf Tryz.prog [1] [(0,mb 61 [3,12,13,14]),(1000000,mb 61 [3])] false 1 Tryz.f88,false⟩
theorem ok_Q88:FunOK Tryz.prog F_Q88 i_Q88:=⟨Tryz.f88,[1],[(0,mb 61 [3,12,13,14]),(1000000,mb 61 [3])],Tryz.func88,by kernel_rfl⟩
noncomputable def i_Q89:IFun:=⟨5,46,[],codeOf Tryz.prog [] [(0,mb 46 [0,1,2,3,4,15,16]),(1000000,mb 46 [])] false 5 Tryz.f89,false⟩
theorem ok_Q89:FunOK Tryz.prog F_Q89 i_Q89:=⟨Tryz.f89,[],[(0,mb 46 [0,1,2,3,4,15,16]),(1000000,mb 46 [])],Tryz.func89,by kernel_rfl⟩
noncomputable def i_Q90:IFun:=⟨2,17,[.cell 4 (some 5)],codeOf Tryz.prog [5,4] [] false 2 Tryz.f90,false⟩
theorem ok_Q90:FunOK Tryz.prog F_Q90 i_Q90:=⟨Tryz.f90,[5,4],[],Tryz.func90,by kernel_rfl⟩
def c_Q91:ICode:=(.seq (.reg [2,3] [o_ 2 (.box (some 2) 2 (t_ 0)),o_ 3 (.box (some 3) 2 (t_ 1)),o_ 4 (.mov (k_ 0))]) (.seq (.reg [] [o_ 5 (fa 0 2),o_ 6 (ld 5),o_ 7 (fa 0 3),o_ 8 (ld 7),o_ 9 (cl F_Q40 [(t_ 6),(t_ 8)]),o_ 4 (mv 9)]) .ret))
def i_Q91:IFun:=⟨2,10,[.tmp 4],c_Q91,true⟩
theorem ok_Q91:FunOK Tryz.prog F_Q91 i_Q91:=⟨Tryz.f91,[3,2],[],Tryz.func91,by kernel_rfl⟩
noncomputable def i_Q92:IFun:=⟨2,61,[.tmp 4],codeOf Tryz.prog [] [(2,mb 61 [0,1,5,6,9]),(1000002,mb 61 [0,1,5,6]),(0,mb 61 [0,1,5,6]),(1000000,mb 61 [5])] false 2 Tryz.f92,false⟩
theorem ok_Q92:FunOK Tryz.prog F_Q92 i_Q92:=⟨Tryz.f92,[],[(2,mb 61 [0,1,5,6,9]),(1000002,mb 61 [0,1,5,6]),(0,mb 61 [0,1,5,6]),(1000000,mb 61 [5])],Tryz.func92,by kernel_rfl⟩
noncomputable def i_Q93:IFun:=⟨3,23,[.tmp 4],codeOf Tryz.prog [] [] false 3 Tryz.f93,false⟩
theorem ok_Q93:FunOK Tryz.prog F_Q93 i_Q93:=⟨Tryz.f93,[],[],Tryz.func93,by kernel_rfl⟩
noncomputable def i_Q94:IFun:=⟨1,10,[.cell 2 (some 2)],codeOf Tryz.prog [2,1] [] true 1 Tryz.f94,true⟩
theorem ok_Q94:FunOK Tryz.prog F_Q94 i_Q94:=⟨Tryz.f94,[2,1],[],Tryz.func94,by kernel_rfl⟩
noncomputable def i_Q96:IFun:=⟨2,9,[.tmp 4],codeOf Tryz.prog [] [] true 2 Tryz.f96,true⟩
theorem ok_Q96:FunOK Tryz.prog F_Q96 i_Q96:=⟨Tryz.f96,[],[],Tryz.func96,by kernel_rfl⟩
noncomputable def i_Q97:IFun:=⟨2,28,[.tmp 4, .tmp 5],codeOf Tryz.prog [8,7,3,2] [] true 2 Tryz.f97,true⟩
theorem ok_Q97:FunOK Tryz.prog F_Q97 i_Q97:=⟨Tryz.f97,[8,7,3,2],[],Tryz.func97,by kernel_rfl⟩
noncomputable def i_Q98:IFun:=⟨2,22,[.tmp 4, .tmp 5],codeOf Tryz.prog [7,2] [(0,mb 22 [1,9,10,11]),(1000000,mb 22 [])] true 2 Tryz.f98,true⟩
theorem ok_Q98:FunOK Tryz.prog F_Q98 i_Q98:=⟨Tryz.f98,[7,2],[(0,mb 22 [1,9,10,11]),(1000000,mb 22 [])],Tryz.func98,by kernel_rfl⟩
noncomputable def i_Q99:IFun:=⟨3,49,[],codeOf Tryz.prog [] [(2,mb 49 [0,1,2,6,7]),(1000002,mb 49 [0,1,2,6]),(0,mb 49 [0,1,2,6]),(1000000,mb 49 [])] true 3 Tryz.f99,true⟩
theorem ok_Q99:FunOK Tryz.prog F_Q99 i_Q99:=⟨Tryz.f99,[],[(2,mb 49 [0,1,2,6,7]),(1000002,mb 49 [0,1,2,6]),(0,mb 49 [0,1,2,6]),(1000000,mb 49 [])],Tryz.func99,by kernel_rfl⟩
noncomputable def i_Q109:IFun:=⟨1,25,[.tmp 2],codeOf Tryz.prog [] [] true 1 Tryz.f109,true⟩
theorem ok_Q109:FunOK Tryz.prog F_Q109 i_Q109:=⟨Tryz.f109,[],[],Tryz.func109,by kernel_rfl⟩
noncomputable def i_Q110:IFun:=⟨5,17,[.tmp 7],codeOf Tryz.prog [6] [] false 5 Tryz.f110,false⟩
theorem ok_Q110:FunOK Tryz.prog F_Q110 i_Q110:=⟨Tryz.f110,[6],[],Tryz.func110,by kernel_rfl⟩
noncomputable def i_Q111:IFun:=⟨5,148,[],codeOf Tryz.prog [] [(0,mb 148 [0,1,2,3,4,10,11]),(1000000,mb 148 [])] false 5 Tryz.f111,false⟩
theorem ok_Q111:FunOK Tryz.prog F_Q111 i_Q111:=⟨Tryz.f111,[],[(0,mb 148 [0,1,2,3,4,10,11]),(1000000,mb 148 [])],Tryz.func111,by kernel_rfl⟩
noncomputable def i_Q121:IFun:=⟨3,52,[.tmp 6],codeOf Tryz.prog [9,4] [(0,mb 52 [0,7,22,23,24]),(1000000,mb 52 [7])] false 3 Tryz.f121,false⟩
theorem ok_Q121:FunOK Tryz.prog F_Q121 i_Q121:=⟨Tryz.f121,[9,4],[(0,mb 52 [0,7,22,23,24]),(1000000,mb 52 [7])],Tryz.func121,by kernel_rfl⟩
noncomputable def i_Q122:IFun:=⟨5,96,[.tmp 10],codeOf Tryz.prog [9] [] false 5 Tryz.f122,false⟩
theorem ok_Q122:FunOK Tryz.prog F_Q122 i_Q122:=⟨Tryz.f122,[9],[],Tryz.func122,by kernel_rfl⟩
noncomputable def i_Q125:IFun:=⟨4,78,[.tmp 8],codeOf Tryz.prog [] [] false 4 Tryz.f125,false⟩
theorem ok_Q125:FunOK Tryz.prog F_Q125 i_Q125:=⟨Tryz.f125,[],[],Tryz.func125,by kernel_rfl⟩
noncomputable def i_Q127:IFun:=⟨3,49,[.tmp 6],codeOf Tryz.prog [] [] false 3 Tryz.f127,false⟩
theorem ok_Q127:FunOK Tryz.prog F_Q127 i_Q127:=⟨Tryz.f127,[],[],Tryz.func127,by kernel_rfl⟩
noncomputable def i_Q128:IFun:=⟨2,15,[.tmp 4],codeOf Tryz.prog [] [] false 2 Tryz.f128,false⟩
theorem ok_Q128:FunOK Tryz.prog F_Q128 i_Q128:=⟨Tryz.f128,[],[],Tryz.func128,by kernel_rfl⟩
noncomputable def i_Q129:IFun:=⟨2,19,[.tmp 4],codeOf Tryz.prog [] [] false 2 Tryz.f129,false⟩
theorem ok_Q129:FunOK Tryz.prog F_Q129 i_Q129:=⟨Tryz.f129,[],[],Tryz.func129,by kernel_rfl⟩
noncomputable def i_Q130:IFun:=⟨2,23,[.cell 4 (some 5), .tmp 5],codeOf Tryz.prog [7,4] [] false 2 Tryz.f130,false⟩
theorem ok_Q130:FunOK Tryz.prog F_Q130 i_Q130:=⟨Tryz.f130,[7,4],[],Tryz.func130,by kernel_rfl⟩
noncomputable def i_Q132:IFun:=⟨1,56,[.tmp 2],codeOf Tryz.prog [1] [(2,mb 56 [3,4,5,6,7]),(1000002,mb 56 [3,4,5,6]),(0,mb 56 [3,4,5]),(1000000,mb 56 [4])] true 1 Tryz.f132,true⟩
theorem ok_Q132:FunOK Tryz.prog F_Q132 i_Q132:=⟨Tryz.f132,[1],[(2,mb 56 [3,4,5,6,7]),(1000002,mb 56 [3,4,5,6]),(0,mb 56 [3,4,5]),(1000000,mb 56 [4])],Tryz.func132,by kernel_rfl⟩
noncomputable def i_Q133:IFun:=⟨2,47,[.tmp 4, .cell 5 (some 2), .cell 6 (some 2), .tmp 7],codeOf Tryz.prog [6,5,3,2] [] false 2 Tryz.f133,false⟩
theorem ok_Q133:FunOK Tryz.prog F_Q133 i_Q133:=⟨Tryz.f133,[6,5,3,2],[],Tryz.func133,by kernel_rfl⟩
noncomputable def i_Q134:IFun:=⟨3,126,[.tmp 6],codeOf Tryz.prog [5,4] [] false 3 Tryz.f134,false⟩
theorem ok_Q134:FunOK Tryz.prog F_Q134 i_Q134:=⟨Tryz.f134,[5,4],[],Tryz.func134,by kernel_rfl⟩
def c_Q135:ICode:=(.seq (.reg [2,3] [o_ 2 (.box (some 2) 2 (t_ 0)),o_ 3 (.box (some 3) 2 (t_ 1)),o_ 4 (.mov (k_ 0))]) (.seq (.reg [] [o_ 5 (fa 0 2),o_ 6 (ld 5),o_ 7 (fa 0 3),o_ 8 (ld 7),o_ 9 (cl F_Q40 [(t_ 6),(t_ 8)]),o_ 4 (mv 9)]) .ret))
def i_Q135:IFun:=⟨2,10,[.tmp 4],c_Q135,true⟩
theorem ok_Q135:FunOK Tryz.prog F_Q135 i_Q135:=⟨Tryz.f135,[3,2],[],Tryz.func135,by kernel_rfl⟩
noncomputable def i_Q141:IFun:=⟨4,53,[],codeOf Tryz.prog [] [(2,mb 53 [0,1,2,3,8,9]),(1000002,mb 53 [0,1,2,3,8]),(0,mb 53 [0,1,2,3,8]),(1000000,mb 53 [])] false 4 Tryz.f141,false⟩
theorem ok_Q141:FunOK Tryz.prog F_Q141 i_Q141:=⟨Tryz.f141,[],[(2,mb 53 [0,1,2,3,8,9]),(1000002,mb 53 [0,1,2,3,8]),(0,mb 53 [0,1,2,3,8]),(1000000,mb 53 [])],Tryz.func141,by kernel_rfl⟩
noncomputable def i_Q152:IFun:=⟨4,36,[],codeOf Tryz.prog [7] [] false 4 Tryz.f152,false⟩
theorem ok_Q152:FunOK Tryz.prog F_Q152 i_Q152:=⟨Tryz.f152,[7],[],Tryz.func152,by kernel_rfl⟩
noncomputable def i_Q153:IFun:=⟨2,24,[.tmp 4],codeOf Tryz.prog [] [] false 2 Tryz.f153,false⟩
theorem ok_Q153:FunOK Tryz.prog F_Q153 i_Q153:=⟨Tryz.f153,[],[],Tryz.func153,by kernel_rfl⟩
noncomputable def i_Q154:IFun:=⟨2,9,[.tmp 4],codeOf Tryz.prog [] [] false 2 Tryz.f154,false⟩
theorem ok_Q154:FunOK Tryz.prog F_Q154 i_Q154:=⟨Tryz.f154,[],[],Tryz.func154,by kernel_rfl⟩
noncomputable def i_Q155:IFun:=⟨2,23,[.tmp 4],codeOf Tryz.prog [] [] false 2 Tryz.f155,false⟩
theorem ok_Q155:FunOK Tryz.prog F_Q155 i_Q155:=⟨Tryz.f155,[],[],Tryz.func155,by kernel_rfl⟩
noncomputable def i_Q156:IFun:=⟨2,15,[.tmp 4],codeOf Tryz.prog [] [(0,mb 15 [0,1,5]),(1000000,mb 15 [5])] false 2 Tryz.f156,false⟩
theorem ok_Q156:FunOK Tryz.prog F_Q156 i_Q156:=⟨Tryz.f156,[],[(0,mb 15 [0,1,5]),(1000000,mb 15 [5])],Tryz.func156,by kernel_rfl⟩
noncomputable def i_Q161:IFun:=⟨2,15,[.tmp 4, .tmp 5],codeOf Tryz.prog [] [] false 2 Tryz.f161,false⟩
theorem ok_Q161:FunOK Tryz.prog F_Q161 i_Q161:=⟨Tryz.f161,[],[],Tryz.func161,by kernel_rfl⟩
noncomputable def i_Q162:IFun:=⟨3,95,[.tmp 6],codeOf Tryz.prog [] [] false 3 Tryz.f162,false⟩
theorem ok_Q162:FunOK Tryz.prog F_Q162 i_Q162:=⟨Tryz.f162,[],[],Tryz.func162,by kernel_rfl⟩
noncomputable def i_Q163:IFun:=⟨2,19,[.tmp 4],codeOf Tryz.prog [] [(0,mb 19 [0,1,7,8]),(1000000,mb 19 [])] true 2 Tryz.f163,true⟩
theorem ok_Q163:FunOK Tryz.prog F_Q163 i_Q163:=⟨Tryz.f163,[],[(0,mb 19 [0,1,7,8]),(1000000,mb 19 [])],Tryz.func163,by kernel_rfl⟩
noncomputable def i_Q164:IFun:=⟨2,63,[.tmp 4],codeOf Tryz.prog [7,2] [(0,mb 63 [1,5,30,31,32]),(1000000,mb 63 [1,5]),(2,mb 63 [5,52,53,54]),(1000002,mb 63 [5])] true 2 Tryz.f164,true⟩
theorem ok_Q164:FunOK Tryz.prog F_Q164 i_Q164:=⟨Tryz.f164,[7,2],[(0,mb 63 [1,5,30,31,32]),(1000000,mb 63 [1,5]),(2,mb 63 [5,52,53,54]),(1000002,mb 63 [5])],Tryz.func164,by kernel_rfl⟩
noncomputable def i_Q165:IFun:=⟨1,57,[.tmp 2],codeOf Tryz.prog [1] [(0,mb 57 [3,4,16,17,18]),(1000000,mb 57 [4])] false 1 Tryz.f165,false⟩
theorem ok_Q165:FunOK Tryz.prog F_Q165 i_Q165:=⟨Tryz.f165,[1],[(0,mb 57 [3,4,16,17,18]),(1000000,mb 57 [4])],Tryz.func165,by kernel_rfl⟩
noncomputable def i_Q166:IFun:=⟨2,12,[.cell 4 (some 2)],codeOf Tryz.prog [4] [] true 2 Tryz.f166,true⟩
theorem ok_Q166:FunOK Tryz.prog F_Q166 i_Q166:=⟨Tryz.f166,[4],[],Tryz.func166,by kernel_rfl⟩
noncomputable def i_Q167:IFun:=⟨0,2,[.cell 0 (some 2)],codeOf Tryz.prog [0] [] true 0 Tryz.f167,true⟩
theorem ok_Q167:FunOK Tryz.prog F_Q167 i_Q167:=⟨Tryz.f167,[0],[],Tryz.func167,by kernel_rfl⟩
noncomputable def i_Q168:IFun:=⟨3,77,[.tmp 6],codeOf Tryz.prog [7,5,4] [] false 3 Tryz.f168,false⟩
theorem ok_Q168:FunOK Tryz.prog F_Q168 i_Q168:=⟨Tryz.f168,[7,5,4],[],Tryz.func168,by kernel_rfl⟩
noncomputable def i_Q169:IFun:=⟨3,60,[.tmp 6],codeOf Tryz.prog [5,4] [] false 3 Tryz.f169,false⟩
theorem ok_Q169:FunOK Tryz.prog F_Q169 i_Q169:=⟨Tryz.f169,[5,4],[],Tryz.func169,by kernel_rfl⟩
noncomputable def i_Q170:IFun:=⟨2,17,[.cell 4 (some 2)],codeOf Tryz.prog [4,3] [] false 2 Tryz.f170,false⟩
theorem ok_Q170:FunOK Tryz.prog F_Q170 i_Q170:=⟨Tryz.f170,[4,3],[],Tryz.func170,by kernel_rfl⟩
noncomputable def i_Q171:IFun:=⟨2,17,[.cell 4 (some 2)],codeOf Tryz.prog [4,3] [] false 2 Tryz.f171,false⟩
theorem ok_Q171:FunOK Tryz.prog F_Q171 i_Q171:=⟨Tryz.f171,[4,3],[],Tryz.func171,by kernel_rfl⟩
noncomputable def i_Q172:IFun:=⟨2,32,[.tmp 4],codeOf Tryz.prog [3,2] [] true 2 Tryz.f172,true⟩
theorem ok_Q172:FunOK Tryz.prog F_Q172 i_Q172:=⟨Tryz.f172,[3,2],[],Tryz.func172,by kernel_rfl⟩
noncomputable def i_Q173:IFun:=⟨1,9,[.cell 2 (some 2)],codeOf Tryz.prog [2,1] [] true 1 Tryz.f173,true⟩
theorem ok_Q173:FunOK Tryz.prog F_Q173 i_Q173:=⟨Tryz.f173,[2,1],[],Tryz.func173,by kernel_rfl⟩
noncomputable def i_Q183:IFun:=⟨3,49,[.tmp 6, .tmp 7],codeOf Tryz.prog [] [(0,mb 49 [0,1,2,8,9,10]),(1000000,mb 49 [0,1,2,8,9])] false 3 Tryz.f183,false⟩
theorem ok_Q183:FunOK Tryz.prog F_Q183 i_Q183:=⟨Tryz.f183,[],[(0,mb 49 [0,1,2,8,9,10]),(1000000,mb 49 [0,1,2,8,9])],Tryz.func183,by kernel_rfl⟩
noncomputable def i_Q188:IFun:=⟨2,14,[.tmp 4],codeOf Tryz.prog [] [] true 2 Tryz.f188,true⟩
theorem ok_Q188:FunOK Tryz.prog F_Q188 i_Q188:=⟨Tryz.f188,[],[],Tryz.func188,by kernel_rfl⟩
noncomputable def i_Q189:IFun:=⟨1,25,[.tmp 2],codeOf Tryz.prog [] [(0,mb 25 [0,3,4]),(1000000,mb 25 [3])] true 1 Tryz.f189,true⟩
theorem ok_Q189:FunOK Tryz.prog F_Q189 i_Q189:=⟨Tryz.f189,[],[(0,mb 25 [0,3,4]),(1000000,mb 25 [3])],Tryz.func189,by kernel_rfl⟩
end Go.Ideal

/-
  THE IDEAL PROGRAM OF THIS SEAT: printed by a program of the prover's own out of the given form.
-/
namespace Go.Ideal
open Go Go.Proofs
set_option maxRecDepth 100000
noncomputable def i_Q190:IFun:=⟨2,26,[.tmp 4],codeOf Tryz.prog [] [(0,mb 26 [0,1,12,13]),(1000000,mb 26 [])] true 2 Tryz.f190,true⟩
theorem ok_Q190:FunOK Tryz.prog F_Q190 i_Q190:=⟨Tryz.f190,[],[(0,mb 26 [0,1,12,13]),(1000000,mb 26 [])],Tryz.func190,by kernel_rfl⟩
noncomputable def i_Q195:IFun:=⟨2,17,[.tmp 4],codeOf Tryz.prog [] [] true 2 Tryz.f195,true⟩
theorem ok_Q195:FunOK Tryz.prog F_Q195 i_Q195:=⟨Tryz.f195,[],[],Tryz.func195,by kernel_rfl⟩
noncomputable def i_Q196:IFun:=⟨1,19,[.tmp 2],codeOf Tryz.prog [1] [(0,mb 19 [1,3,5]),(1000000,mb 19 [3])] true 1 Tryz.f196,true⟩
theorem ok_Q196:FunOK Tryz.prog F_Q196 i_Q196:=⟨Tryz.f196,[1],[(0,mb 19 [1,3,5]),(1000000,mb 19 [3])],Tryz.func196,by kernel_rfl⟩
noncomputable def tr:Tr:=(.node 73 (.node 41 (.node 23 (.node 15 (.node 9 (.node 7 (.one F_Q3 i_Q3) (.node 8 (.one F_Q7 i_Q7) (.one F_Q8 i_Q8))) (.node 11 (.node 10 (.one F_Q9 i_Q9) (.one F_Q10 i_Q10)) (.node 14 (.one F_Q11 i_Q11) (.one F_Q14 i_Q14)))) (.node 18 (.node 16 (.one F_Q15 i_Q15) (.node 17 (.one F_Q16 i_Q16) (.one F_Q17 i_Q17))) (.node 20 (.node 19 (.one F_Q18 i_Q18) (.one F_Q19 i_Q19)) (.node 22 (.one F_Q20 i_Q20) (.one F_Q22 i_Q22))))) (.node 32 (.node 26 (.node 24 (.one F_Q23 i_Q23) (.node 25 (.one F_Q24 i_Q24) (.one F_Q25 i_Q25))) (.node 28 (.node 27 (.one F_Q26 i_Q26) (.one F_Q27 i_Q27)) (.node 30 (.one F_Q28 i_Q28) (.one F_Q30 i_Q30)))) (.node 36 (.node 34 (.node 33 (.one F_Q32 i_Q32) (.one F_Q33 i_Q33)) (.node 35 (.one F_Q34 i_Q34) (.one F_Q35 i_Q35))) (.node 39 (.node 37 (.one F_Q36 i_Q36) (.one F_Q37 i_Q37)) (.node 40 (.one F_Q39 i_Q39) (.one F_Q40 i_Q40)))))) (.node 56 (.node 48 (.node 44 (.node 42 (.one F_Q41 i_Q41) (.node 43 (.one F_Q42 i_Q42) (.one F_Q43 i_Q43))) (.node 46 (.node 45 (.one F_Q44 i_Q44) (.one F_Q45 i_Q45)) (.node 47 (.one F_Q46 i_Q46) (.one F_Q47 i_Q47)))) (.node 52 (.node 50 (.one F_Q48 i_Q48) (.node 51 (.one F_Q50 i_Q50) (.one F_Q51 i_Q51))) (.node 54 (.node 53 (.one F_Q52 i_Q52) (.one F_Q53 i_Q53)) (.node 55 (.one F_Q54 i_Q54) (.one F_Q55 i_Q55))))) (.node 63 (.node 59 (.node 57 (.one F_Q56 i_Q56) (.node 58 (.one F_Q57 i_Q57) (.one F_Q58 i_Q58))) (.node 61 (.node 60 (.one F_Q59 i_Q59) (.one F_Q60 i_Q60)) (.node 62 (.one F_Q61 i_Q61) (.one F_Q62 i_Q62)))) (.node 67 (.node 65 (.node 64 (.one F_Q63 i_Q63) (.one F_Q64 i_Q64)) (.node 66 (.one F_Q65 i_Q65) (.one F_Q66 i_Q66))) (.node 70 (.node 68 (.one F_Q67 i_Q67) (.one F_Q68 i_Q68)) (.node 71 (.one F_Q70 i_Q70) (.one F_Q71 i_Q71))))))) (.node 132 (.node 94 (.node 87 (.node 79 (.node 76 (.one F_Q73 i_Q73) (.node 78 (.one F_Q76 i_Q76) (.one F_Q78 i_Q78))) (.node 81 (.node 80 (.one F_Q79 i_Q79) (.one F_Q80 i_Q80)) (.node 86 (.one F_Q81 i_Q81) (.one F_Q86 i_Q86)))) (.node 90 (.node 88 (.one F_Q87 i_Q87) (.node 89 (.one F_Q88 i_Q88) (.one F_Q89 i_Q89))) (.node 92 (.node 91 (.one F_Q90 i_Q90) (.one F_Q91 i_Q91)) (.node 93 (.one F_Q92 i_Q92) (.one F_Q93 i_Q93))))) (.node 111 (.node 98 (.node 96 (.one F_Q94 i_Q94) (.node 97 (.one F_Q96 i_Q96) (.one F_Q97 i_Q97))) (.node 109 (.node 99 (.one F_Q98 i_Q98) (.one F_Q99 i_Q99)) (.node 110 (.one F_Q109 i_Q109) (.one F_Q110 i_Q110)))) (.node 127 (.node 122 (.node 121 (.one F_Q111 i_Q111) (.one F_Q121 i_Q121)) (.node 125 (.one F_Q122 i_Q122) (.one F_Q125 i_Q125))) (.node 129 (.node 128 (.one F_Q127 i_Q127) (.one F_Q128 i_Q128)) (.node 130 (.one F_Q129 i_Q129) (.one F_Q130 i_Q130)))))) (.node 165 (.node 154 (.node 135 (.node 133 (.one F_Q132 i_Q132) (.node 134 (.one F_Q133 i_Q133) (.one F_Q134 i_Q134))) (.node 152 (.node 141 (.one F_Q135 i_Q135) (.one F_Q141 i_Q141)) (.node 153 (.one F_Q152 i_Q152) (.one F_Q153 i_Q153)))) (.node 161 (.node 155 (.one F_Q154 i_Q154) (.node 156 (.one F_Q155 i_Q155) (.one F_Q156 i_Q156))) (.node 163 (.node 162 (.one F_Q161 i_Q161) (.one F_Q162 i_Q162)) (.node 164 (.one F_Q163 i_Q163) (.one F_Q164 i_Q164))))) (.node 172 (.node 168 (.node 166 (.one F_Q165 i_Q165) (.node 167 (.one F_Q166 i_Q166) (.one F_Q167 i_Q167))) (.node 170 (.node 169 (.one F_Q168 i_Q168) (.one F_Q169 i_Q169)) (.node 171 (.one F_Q170 i_Q170) (.one F_Q171 i_Q171)))) (.node 189 (.node 183 (.node 173 (.one F_Q172 i_Q172) (.one F_Q173 i_Q173)) (.node 188 (.one F_Q183 i_Q183) (.one F_Q188 i_Q188))) (.node 195 (.node 190 (.one F_Q189 i_Q189) (.one F_Q190 i_Q190)) (.node 196 (.one F_Q195 i_Q195) (.one F_Q196 i_Q196))))))))
theorem tr_all:tr.all (FunOK Tryz.prog):=⟨⟨⟨⟨⟨⟨ok_Q3,⟨ok_Q7,ok_Q8⟩⟩,⟨⟨ok_Q9,ok_Q10⟩,⟨ok_Q11,ok_Q14⟩⟩⟩,⟨⟨ok_Q15,⟨ok_Q16,ok_Q17⟩⟩,⟨⟨ok_Q18,ok_Q19⟩,⟨ok_Q20,ok_Q22⟩⟩⟩⟩,⟨⟨⟨ok_Q23,⟨ok_Q24,ok_Q25⟩⟩,⟨⟨ok_Q26,ok_Q27⟩,⟨ok_Q28,ok_Q30⟩⟩⟩,⟨⟨⟨ok_Q32,ok_Q33⟩,⟨ok_Q34,ok_Q35⟩⟩,⟨⟨ok_Q36,ok_Q37⟩,⟨ok_Q39,ok_Q40⟩⟩⟩⟩⟩,⟨⟨⟨⟨ok_Q41,⟨ok_Q42,ok_Q43⟩⟩,⟨⟨ok_Q44,ok_Q45⟩,⟨ok_Q46,ok_Q47⟩⟩⟩,⟨⟨ok_Q48,⟨ok_Q50,ok_Q51⟩⟩,⟨⟨ok_Q52,ok_Q53⟩,⟨ok_Q54,ok_Q55⟩⟩⟩⟩,⟨⟨⟨ok_Q56,⟨ok_Q57,ok_Q58⟩⟩,⟨⟨ok_Q59,ok_Q60⟩,⟨ok_Q61,ok_Q62⟩⟩⟩,⟨⟨⟨ok_Q63,ok_Q64⟩,⟨ok_Q65,ok_Q66⟩⟩,⟨⟨ok_Q67,ok_Q68⟩,⟨ok_Q70,ok_Q71⟩⟩⟩⟩⟩⟩,⟨⟨⟨⟨⟨ok_Q73,⟨ok_Q76,ok_Q78⟩⟩,⟨⟨ok_Q79,ok_Q80⟩,⟨ok_Q81,ok_Q86⟩⟩⟩,⟨⟨ok_Q87,⟨ok_Q88,ok_Q89⟩⟩,⟨⟨ok_Q90,ok_Q91⟩,⟨ok_Q92,ok_Q93⟩⟩⟩⟩,⟨⟨⟨ok_Q94,⟨ok_Q96,ok_Q97⟩⟩,⟨⟨ok_Q98,ok_Q99⟩,⟨ok_Q109,ok_Q110⟩⟩⟩,⟨⟨⟨ok_Q111,ok_Q121⟩,⟨ok_Q122,ok_Q125⟩⟩,⟨⟨ok_Q127,ok_Q128⟩,⟨ok_Q129,ok_Q130⟩⟩⟩⟩⟩,⟨⟨⟨⟨ok_Q132,⟨ok_Q133,ok_Q134⟩⟩,⟨⟨ok_Q135,ok_Q141⟩,⟨ok_Q152,ok_Q153⟩⟩⟩,⟨⟨ok_Q154,⟨ok_Q155,ok_Q156⟩⟩,⟨⟨ok_Q161,ok_Q162⟩,⟨ok_Q163,ok_Q164⟩⟩⟩⟩,⟨⟨⟨ok_Q165,⟨ok_Q166,ok_Q167⟩⟩,⟨⟨ok_Q168,ok_Q169⟩,⟨ok_Q170,ok_Q171⟩⟩⟩,⟨⟨⟨ok_Q172,ok_Q173⟩,⟨ok_Q183,ok_Q188⟩⟩,⟨⟨ok_Q189,ok_Q190⟩,⟨ok_Q195,ok_Q196⟩⟩⟩⟩⟩⟩⟩
theorem tr_prog:ProgOK Tryz.prog tr.look:=zapm tr_all
theorem tr_mixed:Tryz.prog.follows .mixedOrders=true:=by kernel_rfl
theorem look_Q3:tr.look F_Q3=some i_Q3:=rfl
theorem look_Q7:tr.look F_Q7=some i_Q7:=rfl
theorem look_Q8:tr.look F_Q8=some i_Q8:=rfl
theorem look_Q9:tr.look F_Q9=some i_Q9:=rfl
theorem look_Q10:tr.look F_Q10=some i_Q10:=rfl
theorem look_Q11:tr.look F_Q11=some i_Q11:=rfl
theorem look_Q14:tr.look F_Q14=some i_Q14:=rfl
theorem look_Q15:tr.look F_Q15=some i_Q15:=rfl
theorem look_Q16:tr.look F_Q16=some i_Q16:=rfl
theorem look_Q17:tr.look F_Q17=some i_Q17:=rfl
theorem look_Q18:tr.look F_Q18=some i_Q18:=rfl
theorem look_Q19:tr.look F_Q19=some i_Q19:=rfl
theorem look_Q20:tr.look F_Q20=some i_Q20:=rfl
theorem look_Q22:tr.look F_Q22=some i_Q22:=rfl
theorem look_Q23:tr.look F_Q23=some i_Q23:=rfl
theorem look_Q24:tr.look F_Q24=some i_Q24:=rfl
theorem look_Q25:tr.look F_Q25=some i_Q25:=rfl
theorem look_Q26:tr.look F_Q26=some i_Q26:=rfl
theorem look_Q27:tr.look F_Q27=some i_Q27:=rfl
theorem look_Q28:tr.look F_Q28=some i_Q28:=rfl
theorem none_Q29:tr.look F_Q29=none:=rfl
theorem look_Q30:tr.look F_Q30=some i_Q30:=rfl
theorem look_Q32:tr.look F_Q32=some i_Q32:=rfl
theorem look_Q33:tr.look F_Q33=some i_Q33:=rfl
theorem look_Q34:tr.look F_Q34=some i_Q34:=rfl
theorem look_Q35:tr.look F_Q35=some i_Q35:=rfl
theorem look_Q36:tr.look F_Q36=some i_Q36:=rfl
theorem look_Q37:tr.look F_Q37=some i_Q37:=rfl
theorem look_Q39:tr.look F_Q39=some i_Q39:=rfl
theorem look_Q40:tr.look F_Q40=some i_Q40:=rfl
theorem look_Q41:tr.look F_Q41=some i_Q41:=rfl
theorem look_Q42:tr.look F_Q42=some i_Q42:=rfl
theorem look_Q43:tr.look F_Q43=some i_Q43:=rfl
theorem look_Q44:tr.look F_Q44=some i_Q44:=rfl
theorem look_Q45:tr.look F_Q45=some i_Q45:=rfl
theorem look_Q46:tr.look F_Q46=some i_Q46:=rfl
theorem look_Q47:tr.look F_Q47=some i_Q47:=rfl
theorem look_Q48:tr.look F_Q48=some i_Q48:=rfl
theorem look_Q50:tr.look F_Q50=some i_Q50:=rfl
theorem look_Q51:tr.look F_Q51=some i_Q51:=rfl
theorem look_Q52:tr.look F_Q52=some i_Q52:=rfl
theorem look_Q53:tr.look F_Q53=some i_Q53:=rfl
theorem look_Q54:tr.look F_Q54=some i_Q54:=rfl
theorem look_Q55:tr.look F_Q55=some i_Q55:=rfl
theorem look_Q56:tr.look F_Q56=some i_Q56:=rfl
theorem look_Q57:tr.look F_Q57=some i_Q57:=rfl
theorem look_Q58:tr.look F_Q58=some i_Q58:=rfl
theorem look_Q59:tr.look F_Q59=some i_Q59:=rfl
theorem look_Q60:tr.look F_Q60=some i_Q60:=rfl
theorem look_Q61:tr.look F_Q61=some i_Q61:=rfl
theorem look_Q62:tr.look F_Q62=some i_Q62:=rfl
theorem look_Q63:tr.look F_Q63=some i_Q63:=rfl
theorem look_Q64:tr.look F_Q64=some i_Q64:=rfl
theorem look_Q65:tr.look F_Q65=some i_Q65:=rfl
theorem look_Q66:tr.look F_Q66=some i_Q66:=rfl
theorem look_Q67:tr.look F_Q67=some i_Q67:=rfl
theorem look_Q68:tr.look F_Q68=some i_Q68:=rfl
theorem look_Q70:tr.look F_Q70=some i_Q70:=rfl
theorem look_Q71:tr.look F_Q71=some i_Q71:=rfl
theorem look_Q73:tr.look F_Q73=some i_Q73:=rfl
theorem look_Q76:tr.look F_Q76=some i_Q76:=rfl
theorem look_Q78:tr.look F_Q78=some i_Q78:=rfl
theorem look_Q79:tr.look F_Q79=some i_Q79:=rfl
theorem look_Q80:tr.look F_Q80=some i_Q80:=rfl
theorem look_Q81:tr.look F_Q81=some i_Q81:=rfl
theorem look_Q86:tr.look F_Q86=some i_Q86:=rfl
theorem look_Q87:tr.look F_Q87=some i_Q87:=rfl
theorem look_Q88:tr.look F_Q88=some i_Q88:=rfl
theorem look_Q89:tr.look F_Q89=some i_Q89:=rfl
theorem look_Q90:tr.look F_Q90=some i_Q90:=rfl
theorem look_Q91:tr.look F_Q91=some i_Q91:=rfl
theorem look_Q92:tr.look F_Q92=some i_Q92:=rfl
theorem look_Q93:tr.look F_Q93=some i_Q93:=rfl
theorem look_Q94:tr.look F_Q94=some i_Q94:=rfl
theorem look_Q96:tr.look F_Q96=some i_Q96:=rfl
theorem look_Q97:tr.look F_Q97=some i_Q97:=rfl
theorem look_Q98:tr.look F_Q98=some i_Q98:=rfl
theorem look_Q99:tr.look F_Q99=some i_Q99:=rfl
theorem look_Q109:tr.look F_Q109=some i_Q109:=rfl
theorem look_Q110:tr.look F_Q110=some i_Q110:=rfl
theorem look_Q111:tr.look F_Q111=some i_Q111:=rfl
theorem look_Q121:tr.look F_Q121=some i_Q121:=rfl
theorem look_Q122:tr.look F_Q122=some i_Q122:=rfl
theorem look_Q125:tr.look F_Q125=some i_Q125:=rfl
theorem look_Q127:tr.look F_Q127=some i_Q127:=rfl
theorem look_Q128:tr.look F_Q128=some i_Q128:=rfl
theorem look_Q129:tr.look F_Q129=some i_Q129:=rfl
theorem look_Q130:tr.look F_Q130=some i_Q130:=rfl
theorem look_Q132:tr.look F_Q132=some i_Q132:=rfl
theorem look_Q133:tr.look F_Q133=some i_Q133:=rfl
theorem look_Q134:tr.look F_Q134=some i_Q134:=rfl
theorem look_Q135:tr.look F_Q135=some i_Q135:=rfl
theorem look_Q141:tr.look F_Q141=some i_Q141:=rfl
theorem look_Q152:tr.look F_Q152=some i_Q152:=rfl
theorem look_Q153:tr.look F_Q153=some i_Q153:=rfl
theorem look_Q154:tr.look F_Q154=some i_Q154:=rfl
theorem look_Q155:tr.look F_Q155=some i_Q155:=rfl
theorem look_Q156:tr.look F_Q156=some i_Q156:=rfl
theorem look_Q161:tr.look F_Q161=some i_Q161:=rfl
theorem look_Q162:tr.look F_Q162=some i_Q162:=rfl
theorem look_Q163:tr.look F_Q163=some i_Q163:=rfl
theorem look_Q164:tr.look F_Q164=some i_Q164:=rfl
theorem look_Q165:tr.look F_Q165=some i_Q165:=rfl
theorem look_Q166:tr.look F_Q166=some i_Q166:=rfl
theorem look_Q167:tr.look F_Q167=some i_Q167:=rfl
theorem look_Q168:tr.look F_Q168=some i_Q168:=rfl
theorem look_Q169:tr.look F_Q169=some i_Q169:=rfl
theorem look_Q170:tr.look F_Q170=some i_Q170:=rfl
theorem look_Q171:tr.look F_Q171=some i_Q171:=rfl
theorem look_Q172:tr.look F_Q172=some i_Q172:=rfl
theorem look_Q173:tr.look F_Q173=some i_Q173:=rfl
theorem look_Q183:tr.look F_Q183=some i_Q183:=rfl
theorem look_Q188:tr.look F_Q188=some i_Q188:=rfl
theorem look_Q189:tr.look F_Q189=some i_Q189:=rfl
theorem look_Q190:tr.look F_Q190=some i_Q190:=rfl
theorem look_Q195:tr.look F_Q195=some i_Q195:=rfl
theorem look_Q196:tr.look F_Q196=some i_Q196:=rfl
theorem none_Q38:tr.look F_Q38=none:=rfl
theorem none_Q157:tr.look F_Q157=none:=rfl
end Go.Ideal
