import Derived.Test.YtpcamifaefigaaaGreatW6
import Derived.Test.YtpcamifaefigaaaGreatChecked
import Derived.Test.YtpcamifaefigaaaGreatW3
import Derived.Test.YtpcamifaefigaaaGreatW9
import Derived.Test.YtpcamifaefigaaaGreatW8
import Derived.Test.YtpcamifaefigaaaGreatW10
import Derived.Test.YtpcamifaefigaaaGreatW7
namespace Go.Ideal
open Go Go.Proofs
set_option maxRecDepth 100000
def zfo:ICode:=(.seq (r_ [v_ 31 11,v_ 32 5,o_ 33 (ll 32),o_ 34 (bi .lss 31 33)] (w_ 34 .skip (.exit 0))) (.seq (.block 1 [] (r_ [v_ 37 5,v_ 38 11,o_ 39 (ix 7 37 38),y_ 40 0 39,z_ 41 40] (.block 2 [] (r_ [o_ 43 (bj .eql 41 1),v_ 42 43] (w_ 42 (r_ [v_ 44 10,o_ 45 (bj .add 44 1),v_ 10 45] (r_ [v_ 46 5,v_ 47 11,o_ 48 (ix 7 46 47),y_ 49 1 48,z_ 50 49,v_ 51 10,o_ 52 (bi .neq 50 51)] (w_ 52 (r_ [o_ 2 (.mov xf)] .ret) .skip))) (r_ [o_ 54 (bj .eql 41 4),v_ 53 54] (w_ 53 .skip (r_ [o_ 2 (.mov xf)] .ret)))))))) (.reg [] [v_ 35 11,o_ 36 (bj .add 35 1),v_ 11 36])))
@[reducible] def zfp:List Bool:=mb 96 [3,5,6,7,8,9,10,11]
@[reducible] def zdq:List Bool:=mb 96 [3,5,6,7,8,9,10]
def zfq:ICode:=(.seq (r_ [v_ 55 12,v_ 56 7,o_ 57 (ll 56),o_ 58 (bi .lss 55 57)] (w_ 58 .skip (.exit 3))) (.seq (.block 4 [] (r_ [v_ 61 7,v_ 62 12,o_ 63 (ix 7 61 62),y_ 64 0 63,z_ 65 64,o_ 66 (bj .neq 65 2)] (w_ 66 (r_ [o_ 2 (.mov xf)] .ret) .skip))) (.reg [] [v_ 59 12,o_ 60 (bj .add 59 1),v_ 12 60])))
@[reducible] def zfr:List Bool:=mb 96 [3,5,6,7,8,9,10,12]
@[reducible] def zlq:List Bool:=mb 96 [3,5,6,7,8,9,10]
def zhd:ICode:=(r_ [o_ 2 (.mov xf)] (.seq (.reg [3] [v_ 13 0,o_ 14 (.call (.func F_21) [(t_ 13)]),o_ 3 (.alloc (some 3) [(.int .i64 0),(.str []),(.str []), .nilslice, .nilslice]),n_ (s3 5 3 14)]) (.seq (.reg [4] [o_ 15 (.build [(.int .i64 0),(.str []),(.str []), .nilslice, .nilslice] [(0,1,(k_ 1))]),o_ 4 (.alloc (some 4) [(.int .i64 0),(.str []),(.str []), .nilslice, .nilslice]),n_ (s3 5 4 15)]) (r_ [o_ 17 (lw 5 4),o_ 18 (lw 5 3),o_ 19 (cl F_14 [(t_ 17),(t_ 18)]),v_ 16 19,o_ 20 (et 16 0),o_ 21 (et 16 1),v_ 5 20,v_ 6 21] (r_ [o_ 23 (lw 5 3),o_ 24 (lw 5 4),o_ 25 (cl F_14 [(t_ 23),(t_ 24)]),v_ 22 25,o_ 26 (et 22 0),o_ 27 (et 22 1),v_ 7 26,v_ 8 27] (r_ [o_ 28 (lw 5 3),o_ 29 (.call (.func F_18) [(t_ 28)]),o_ 30 (bj .sub 29 1),v_ 9 30] (r_ [o_ 10 (.mov (k_ 0))] (.seq (r_ [o_ 11 (.mov (k_ 0))] (.block 0 zdq (.loop zfp zfo))) (.seq (r_ [o_ 12 (.mov (k_ 0))] (.block 3 zlq (.loop zfr zfq))) (r_ [v_ 67 6,o_ 68 (bj .eql 67 0),v_ 69 68,g_ 70 69 true (mv 8),g_ 71 69 true (bj .eql 70 0),o_ 72 (pa 69 71),v_ 73 72,g_ 74 73 true (mv 10),g_ 75 73 true (mv 9),g_ 76 73 true (bi .eql 74 75),o_ 77 (pa 73 76),v_ 78 77,g_ 79 78 true (mv 5),g_ 80 78 true (ll 79),g_ 81 78 true (mv 9),g_ 82 78 true (lw 5 3),g_ 83 78 true (.call (.func F_19) [(t_ 82)]),g_ 84 78 true (bi .add 81 83),g_ 85 78 true (bi .eql 80 84),o_ 86 (pa 78 85),v_ 87 86,g_ 88 87 true (mv 7),g_ 89 87 true (ll 88),g_ 90 87 true (mv 9),g_ 91 87 true (bi .eql 89 90),o_ 92 (pa 87 91),v_ 93 92,g_ 94 93 true (cl F_9 []),o_ 95 (pa 93 94),v_ 2 95] .ret))))))))))
def zct:IFun:=⟨1,96,[.tmp 2],zhd,true⟩
theorem znb:FunOK Tryz.prog F_7 zct:=⟨Tryz.f7,[4,3],[(0,zfp),(1000000,zdq),(3,zfr),(1000003,zdq)],Tryz.func7,by kernel_rfl⟩
noncomputable def zjh:IFun:=⟨0,37,[.tmp 0],codeOf Tryz.prog [2,1] [] true 0 Tryz.f9,true⟩
theorem zww:FunOK Tryz.prog F_9 zjh:=⟨Tryz.f9,[2,1],[],Tryz.func9,by kernel_rfl⟩
def zgu:ICode:=(.seq (r_ [v_ 72 14,o_ 73 (bj .geq 72 0)] (w_ 73 .skip (.exit 2))) (.seq (.block 3 [] (.reg [] [v_ 79 10,v_ 80 14,o_ 81 (ix 1 79 80),n_ (.store 1 (t_ 81) xt)])) (.reg [] [v_ 74 8,v_ 75 14,o_ 76 (ix 10 74 75),y_ 77 0 76,z_ 78 77,v_ 14 78])))
@[reducible] def zld:List Bool:=mb 150 [3,8,9,10,11,14,52,53,54]
@[reducible] def zgv:List Bool:=mb 150 [3,8,9,10,11,52,53,54]
def zgw:ICode:=(r_ [o_ 55 (bi .lss 54 53)] (.seq (w_ 55 .skip (.exit 0)) (.seq (.block 1 [] (.seq (.reg [13] [o_ 56 (ix 2 52 54),o_ 57 (lw 2 56),o_ 13 (.alloc (some 13) [(.int .i64 0),(.int .i64 0)]),n_ (s3 2 13 57)]) (.seq (.draw [] [v_ 58 9,s_ 59 (nc 58) [(58,0)],s_ 60 (fa 2 59) [(59,1)],s_ 61 (ld 60) [(60,2)],y_ 62 1 13,s_ 63 (ld 62) [(62,4)],y_ 64 0 13,s_ 65 (ld 64) [(64,6)],e_ (.mapUpd ⟨false,[.int]⟩ (t_ 61) (t_ 63) (t_ 65)) [(61,3),(63,5),(65,7)]] [[⟨[0,1,2,3,4,5,6,7],[],(some 8)⟩,⟨[],[],none⟩]]) (r_ [v_ 66 11,y_ 67 0 13,z_ 68 67,o_ 69 (ix 1 66 68),n_ (.store 1 (t_ 69) xt)] (r_ [y_ 70 0 13,z_ 71 70,v_ 14 71] (.block 2 zgv (.loop zld zgu))))))) (.reg [] [o_ 82 (bj .add 54 1),v_ 54 82]))))
@[reducible] def ztx:List Bool:=mb 150 [3,8,9,10,11,52,53,54]
@[reducible] def zle:List Bool:=mb 150 [3,9,10,11]
def zgx:ICode:=(r_ [o_ 88 (bi .lss 87 86)] (.seq (w_ 88 .skip (.exit 4)) (.seq (.block 5 [] (r_ [o_ 89 (ix 1 85 87),z_ 90 89,v_ 17 90] (r_ [v_ 91 10,v_ 92 17,o_ 93 (ix 1 91 92),z_ 94 93,o_ 95 (.not (t_ 94))] (w_ 95 (.reg [] [v_ 96 9,v_ 97 17,o_ 98 (.build [(.int .i64 0),(.int .i64 0),(.int .i64 0),(.int .i64 0),(.int .i64 0),(.str []),(.str [])] [(0,1,(k_ 2)),(1,1,(t_ 97))]),o_ 99 (cl F_33 [(t_ 96),(t_ 98)])]) .skip)))) (.reg [] [o_ 100 (bj .add 87 1),v_ 87 100]))))
@[reducible] def zlf:List Bool:=mb 150 [9,10,11,15,85,86,87]
@[reducible] def zgy:List Bool:=mb 150 [9,10,11,15]
def zgz:ICode:=(.seq (r_ [v_ 101 18,v_ 102 9,o_ 103 (nc 102),y_ 104 1 103,z_ 105 104,o_ 106 (ll 105),o_ 107 (bi .lss 101 106),v_ 108 107,g_ 109 108 true (mv 9),g_ 110 108 true (nc 109),g_ 111 108 true (fa 5 110),g_ 112 108 true (ld 111),g_ 113 108 true (.not (t_ 112)),o_ 114 (pa 108 113)] (w_ 114 .skip (.exit 6))) (.seq (.block 7 [] (.reg [] [v_ 117 9,v_ 118 18,o_ 119 (cl F_34 [(t_ 117),(t_ 118)])])) (.reg [] [v_ 115 18,o_ 116 (bj .add 115 1),v_ 18 116])))
@[reducible] def zlg:List Bool:=mb 150 [9,10,11,15,18]
@[reducible] def zty:List Bool:=mb 150 [9,10,11,15]
def zha:ICode:=(r_ [o_ 123 (bi .lss 122 121)] (.seq (w_ 123 .skip (.exit 8)) (.seq (.block 9 [] (r_ [o_ 124 (ix 1 120 122),z_ 125 124,v_ 20 125] (r_ [v_ 126 10,v_ 127 20,o_ 128 (ix 1 126 127),z_ 129 128,v_ 130 129,g_ 131 130 true (mv 11),g_ 132 130 true (mv 20),g_ 133 130 true (ix 1 131 132),g_ 134 130 true (ld 133),g_ 135 130 true (.not (t_ 134)),o_ 136 (pa 130 135)] (w_ 136 (.reg [] [v_ 137 9,v_ 138 20,o_ 139 (.build [(.int .i64 0),(.int .i64 0),(.int .i64 0),(.int .i64 0),(.int .i64 0),(.str []),(.str [])] [(0,1,(k_ 2)),(1,1,(t_ 138))]),o_ 140 (cl F_33 [(t_ 137),(t_ 139)])]) .skip)))) (.reg [] [o_ 141 (bj .add 122 1),v_ 122 141]))))
@[reducible] def zlh:List Bool:=mb 150 [9,10,11,120,121,122]
@[reducible] def zli:List Bool:=mb 150 [9]
def zji:ICode:=(.seq (.reg [3,4] [o_ 3 (.box (some 3) 5 (t_ 0)),o_ 4 (.box (some 4) 5 (t_ 1)),o_ 6 (.mov xn),o_ 7 (.mov (k_ 0))]) (.seq (r_ [o_ 21 (lw 5 3),o_ 22 (lw 5 4),v_ 23 2,o_ 24 (.call (.func F_29) [(t_ 21),(t_ 22),(t_ 23)]),o_ 25 (.not (t_ 24))] (w_ 25 (r_ [o_ 6 (.mov xn),o_ 7 (.mov (k_ 1))] .ret) .skip)) (r_ [o_ 26 (lw 5 3),o_ 27 (.call (.func F_30) [(t_ 26)]),v_ 8 27] (r_ [o_ 28 (lw 5 4),o_ 29 (.call (.func F_30) [(t_ 28)]),o_ 30 (.mkMap),v_ 31 8,o_ 32 (ll 31),o_ 33 (.build [.nilptr, .nilslice, .nilmap,(.int .i64 0), .nilslice,(.bool false)] [(1,1,(t_ 29)),(2,1,(t_ 30)),(3,1,(t_ 32))]),o_ 34 (.box none 6 (t_ 33)),v_ 9 34] (r_ [v_ 36 9,o_ 37 (lw 5 3),o_ 38 (cl F_31 [(t_ 37)]),v_ 35 38,o_ 39 (et 35 0),o_ 40 (et 35 1),o_ 41 (nc 36),y_ 42 0 41,n_ (s3 1 42 39)] (r_ [v_ 43 8,o_ 44 (ll 43),o_ 45 (.mkSlice 1 [(.bool false)] (t_ 44) (t_ 44)),v_ 10 45] (r_ [v_ 46 10,o_ 47 (ll 46),o_ 48 (.mkSlice 1 [(.bool false)] (t_ 47) (t_ 47)),v_ 11 48] (r_ [v_ 49 11,v_ 50 10,o_ 51 (.copy 1 (t_ 49) (t_ 50))] (.seq (r_ [v_ 52 2,o_ 53 (ll 52),o_ 54 (.mov (k_ 0))] (.block 0 zle (.loop ztx zgw))) (r_ [o_ 83 (lw 5 3),o_ 84 (.call (.func F_32) [(t_ 83)]),v_ 15 84] (.seq (r_ [v_ 85 15,o_ 86 (ll 85),o_ 87 (.mov (k_ 0))] (.block 4 zgy (.loop zlf zgx))) (.seq (r_ [o_ 18 (.mov (k_ 1))] (.block 6 zty (.loop zlg zgz))) (.seq (r_ [v_ 120 15,o_ 121 (ll 120),o_ 122 (.mov (k_ 0))] (.block 8 zli (.loop zlh zha))) (.seq (r_ [v_ 142 9,o_ 143 (nc 142),y_ 144 5 143,z_ 145 144] (w_ 145 (r_ [o_ 6 (.mov xn),o_ 7 (.mov (k_ 2))] .ret) .skip)) (r_ [v_ 146 9,o_ 147 (nc 146),y_ 148 4 147,z_ 149 148,v_ 6 149,o_ 7 (.mov (k_ 0))] .ret)))))))))))))))
def zei:IFun:=⟨3,150,[.tmp 6, .tmp 7],zji,true⟩
theorem zwx:FunOK Tryz.prog F_11 zei:=⟨Tryz.f11,[13,4,3],[(2,zld),(1000002,zgv),(0,zgv),(1000000,zle),(4,zlf),(1000004,zgy),(6,zlg),(1000006,zgy),(8,zlh),(1000008,zli)],Tryz.func11,by kernel_rfl⟩
def zjj:ICode:=(.seq (.reg [2,3] [o_ 2 (.box (some 2) 5 (t_ 0)),o_ 3 (.box (some 3) 5 (t_ 1)),o_ 4 (.mov xn),o_ 5 (.mov (k_ 0))]) (.seq (r_ [o_ 6 (lw 5 2),o_ 7 (.call (.func F_44) [(t_ 6)]),o_ 8 (.not (t_ 7)),v_ 9 8,g_ 10 9 false (lw 5 3),g_ 11 9 false (.call (.func F_44) [(t_ 10)]),g_ 12 9 false (.not (t_ 11)),o_ 13 (po 9 12)] (w_ 13 (r_ [o_ 4 (.mov xn),o_ 5 (.mov (k_ 1))] .ret) .skip)) (.seq (.draw [] [o_ 14 (lw 5 2),o_ 15 (lw 5 3),o_ 16 (lw 5 2),o_ 17 (lw 5 3),s_ 18 (.call (.func F_45) [(t_ 16),(t_ 17)]) [(16,2),(17,3)],s_ 19 (cl F_11 [(t_ 14),(t_ 15),(t_ 18)]) [(14,0),(15,1),(18,4)],s_ 20 (et 19 0) [(19,5)],s_ 21 (et 19 1) [(19,5)],s_ 4 (mv 20) [(20,6)],s_ 5 (mv 21) [(21,7)]] [[⟨[0,1,2,3],[],(some 4)⟩,⟨[],[0,1],(some 5)⟩,⟨[6,7,8,9],[],none⟩]]) .ret)))
def zej:IFun:=⟨2,22,[.tmp 4, .tmp 5],zjj,true⟩
theorem zwy:FunOK Tryz.prog F_14 zej:=⟨Tryz.f14,[3,2],[],Tryz.func14,by kernel_rfl⟩
noncomputable def zop:IFun:=⟨2,16,[.tmp 4],codeOf Tryz.prog [3,2] [] true 2 Tryz.f17,true⟩
theorem zwz:FunOK Tryz.prog F_17 zop:=⟨Tryz.f17,[3,2],[],Tryz.func17,by kernel_rfl⟩
def zzp:ICode:=(.seq (.reg [1] [o_ 1 (.box (some 1) 5 (t_ 0)),o_ 2 (.mov (.const (.p .nilptr))),o_ 3 (.mov (k_ 0))]) (.seq (r_ [o_ 5 (lw 5 1),o_ 6 (.call (.func F_44) [(t_ 5)]),o_ 7 (.not (t_ 6))] (w_ 7 (r_ [o_ 2 (.mov (.const (.p .nilptr))),o_ 3 (.mov (k_ 1))] .ret) .skip)) (r_ [o_ 8 (.mkMap),o_ 9 (.build [.nilslice, .nilmap] [(1,1,(t_ 8))]),o_ 10 (.box none 2 (t_ 9)),v_ 4 10] (r_ [v_ 11 4,o_ 12 (lw 5 1),o_ 13 (cl F_65 [(t_ 11),(t_ 12),(k_ (-1))])] (r_ [v_ 14 4,v_ 2 14,o_ 3 (.mov (k_ 0))] .ret)))))
def znu:IFun:=⟨1,15,[.tmp 2, .tmp 3],zzp,false⟩
theorem zaih:FunOK Tryz.prog F_31 znu:=⟨Tryz.f31,[1],[],Tryz.func31,by kernel_rfl⟩
def zcu:ICode:=(.seq (.reg [3] [o_ 3 (.box (some 3) 7 (t_ 1))]) (.seq (r_ [v_ 5 0,o_ 6 (nc 5),y_ 7 5 6,z_ 8 7] (w_ 8 .ret .skip)) (r_ [o_ 4 (.mov (k_ 15))] (.seq (r_ [y_ 9 0 3,z_ 10 9] (.block 0 [] (r_ [o_ 12 (bj .eql 10 1),v_ 11 12] (w_ 11 (.draw [] [v_ 13 0,s_ 14 (nc 13) [(13,0)],s_ 15 (fa 0 14) [(14,1)],s_ 16 (ld 15) [(15,2)],y_ 17 1 3,s_ 18 (ld 17) [(17,4)],y_ 19 2 3,s_ 20 (ld 19) [(19,6)],y_ 21 3 3,s_ 22 (ld 21) [(21,8)],y_ 23 4 3,s_ 24 (ld 23) [(23,10)],y_ 25 5 3,s_ 26 (ld 25) [(25,12)],y_ 27 6 3,s_ 28 (ld 27) [(27,14)],s_ 29 (.build [(.int .i64 0),(.str []),(.str []), .nilslice, .nilslice] [(0,1,(t_ 24)),(1,1,(t_ 26)),(2,1,(t_ 28))]) [(24,11),(26,13),(28,15)],s_ 30 (cl F_66 [(t_ 16),(t_ 18),(t_ 20),(t_ 22),(t_ 29)]) [(16,3),(18,5),(20,7),(22,9),(29,16)],s_ 4 (mv 30) [(30,17)]] [[⟨[0,1,2,3,4,5,6,7,8,9,10,11,12,13,14,15,16],[],(some 17)⟩,⟨[18],[],none⟩]]) (r_ [o_ 32 (bj .eql 10 2),v_ 31 32] (w_ 31 (.draw [] [v_ 33 0,s_ 34 (nc 33) [(33,0)],s_ 35 (fa 0 34) [(34,1)],s_ 36 (ld 35) [(35,2)],y_ 37 1 3,s_ 38 (ld 37) [(37,4)],s_ 39 (cl F_67 [(t_ 36),(t_ 38)]) [(36,3),(38,5)],s_ 4 (mv 39) [(39,6)]] [[⟨[0,1,2,3,4,5],[],(some 6)⟩,⟨[7],[],none⟩]]) (r_ [o_ 41 (bj .eql 10 3),v_ 40 41] (w_ 40 (.draw [] [v_ 42 0,s_ 43 (nc 42) [(42,0)],s_ 44 (fa 0 43) [(43,1)],s_ 45 (ld 44) [(44,2)],y_ 46 1 3,s_ 47 (ld 46) [(46,4)],y_ 48 2 3,s_ 49 (ld 48) [(48,6)],y_ 50 3 3,s_ 51 (ld 50) [(50,8)],s_ 52 (cl F_68 [(t_ 45),(t_ 47),(t_ 49),(t_ 51)]) [(45,3),(47,5),(49,7),(51,9)],s_ 4 (mv 52) [(52,10)]] [[⟨[0,1,2,3,4,5,6,7,8,9],[],(some 10)⟩,⟨[11],[],none⟩]]) (r_ [o_ 54 (bj .eql 10 4),v_ 53 54] (w_ 53 (.draw [] [v_ 55 0,s_ 56 (nc 55) [(55,0)],s_ 57 (fa 0 56) [(56,1)],s_ 58 (ld 57) [(57,2)],y_ 59 1 3,s_ 60 (ld 59) [(59,4)],y_ 61 5 3,
 s_ 62 (ld 61) [(61,6)],y_ 63 6 3,s_ 64 (ld 63) [(63,8)],s_ 65 (cl F_69 [(t_ 58),(t_ 60),(t_ 62),(t_ 64)]) [(58,3),(60,5),(62,7),(64,9)],s_ 4 (mv 65) [(65,10)]] [[⟨[0,1,2,3,4,5,6,7,8,9],[],(some 10)⟩,⟨[11],[],none⟩]]) (r_ [o_ 67 (bj .eql 10 5),v_ 66 67] (w_ 66 (.draw [] [v_ 68 0,s_ 69 (nc 68) [(68,0)],s_ 70 (fa 0 69) [(69,1)],s_ 71 (ld 70) [(70,2)],y_ 72 1 3,s_ 73 (ld 72) [(72,4)],y_ 74 5 3,s_ 75 (ld 74) [(74,6)],s_ 76 (cl F_70 [(t_ 71),(t_ 73),(t_ 75)]) [(71,3),(73,5),(75,7)],s_ 4 (mv 76) [(76,8)]] [[⟨[0,1,2,3,4,5,6,7],[],(some 8)⟩,⟨[9],[],none⟩]]) (r_ [o_ 78 (bj .eql 10 6),v_ 77 78] (w_ 77 (.draw [] [v_ 79 0,s_ 80 (nc 79) [(79,0)],s_ 81 (fa 0 80) [(80,1)],s_ 82 (ld 81) [(81,2)],y_ 83 1 3,s_ 84 (ld 83) [(83,4)],y_ 85 6 3,s_ 86 (ld 85) [(85,6)],s_ 87 (cl F_71 [(t_ 82),(t_ 84),(t_ 86)]) [(82,3),(84,5),(86,7)],s_ 4 (mv 87) [(87,8)]] [[⟨[0,1,2,3,4,5,6,7],[],(some 8)⟩,⟨[9],[],none⟩]]) .skip)))))))))))))) (.seq (.draw [] [v_ 88 0,v_ 89 0,s_ 90 (nc 89) [(89,1)],s_ 91 (fa 4 90) [(90,2)],s_ 92 (ld 91) [(91,3)],v_ 93 0,s_ 94 (nc 93) [(93,5)],s_ 95 (fa 4 94) [(94,6)],s_ 96 (ld 95) [(95,7)],s_ 97 (ll 96) [(96,8)],v_ 98 0,s_ 99 (nc 98) [(98,10)],s_ 100 (fa 4 99) [(99,11)],s_ 101 (ld 100) [(100,12)],s_ 102 (ll 101) [(101,13)],s_ 103 (.clip 7 (t_ 92) (t_ 97) (t_ 102)) [(92,4),(97,9),(102,14)],o_ 104 (lw 7 3),s_ 105 (.buildSlice 7 1 [(.int .i64 0),(.int .i64 0),(.int .i64 0),(.int .i64 0),(.int .i64 0),(.str []),(.str [])] [(0,7,(t_ 104))]) [(104,16)],s_ 106 (.append 7 (t_ 103) (t_ 105)) [(103,15),(105,17)],s_ 107 (nc 88) [(88,0)],s_ 108 (fa 4 107) [(107,19)],e_ (s3 1 108 106) [(108,20),(106,18)]] [[⟨[0,1,2,3,4,5,6,7,8,9,10,11,12,13,14,15,16,17],[],(some 18)⟩,⟨[19,20],[],(some 21)⟩,⟨[],[],none⟩]]) (.reg [] [v_ 109 0,v_ 110 4,o_ 111 (bj .neq 110 0),v_ 112 111,g_ 113 112 false (mv 0),g_ 114 112 false (nc 113),g_ 115 112 false (fa 4 114),g_ 116 112 false (ld 115),g_ 117 112 false (ll 116),g_ 118 112 false (bj .gtr 117 1500),
 o_ 119 (po 112 118),o_ 120 (nc 109),y_ 121 5 120,n_ (s3 1 121 119)]))))))
def zbs:IFun:=⟨2,122,[],zcu,false⟩
theorem znc:FunOK Tryz.prog F_33 zbs:=⟨Tryz.f33,[3],[],Tryz.func33,by kernel_rfl⟩
def zfs:ICode:=(r_ [o_ 130 (bi .lss 129 128)] (.seq (w_ 130 .skip (.exit 1)) (.seq (.block 2 [] (.seq (.reg [11] [o_ 131 (ix 2 127 129),o_ 132 (lw 2 131),o_ 11 (.alloc (some 11) [(.str []),(.str [])]),n_ (s3 2 11 132)]) (r_ [y_ 134 5 4,o_ 135 (lw 5 134),y_ 136 0 11,z_ 137 136,o_ 138 (.call (.func F_75) [(t_ 135),(t_ 137)]),v_ 133 138,o_ 139 (et 133 0),o_ 140 (et 133 1),v_ 12 139,v_ 13 140] (r_ [v_ 141 13,o_ 142 (.not (t_ 141))] (w_ 142 (.reg [] [v_ 143 0,v_ 144 6,y_ 145 0 11,z_ 146 145,o_ 147 (.build [(.int .i64 0),(.int .i64 0),(.int .i64 0),(.int .i64 0),(.int .i64 0),(.str []),(.str [])] [(0,1,(k_ 5)),(1,1,(t_ 144)),(5,1,(t_ 146))]),o_ 148 (cl F_33 [(t_ 143),(t_ 147)])]) .skip))))) (.reg [] [o_ 149 (bj .add 129 1),v_ 129 149]))))
@[reducible] def zft:List Bool:=mb 182 [0,4,6,8,127,128,129]
@[reducible] def zfu:List Bool:=mb 182 [0,4,6,8]
def zfv:ICode:=(r_ [o_ 155 (bi .lss 154 153)] (.seq (w_ 155 .skip (.exit 3)) (.seq (.block 4 [] (.seq (.reg [15] [o_ 156 (ix 2 152 154),o_ 157 (lw 2 156),o_ 15 (.alloc (some 15) [(.str []),(.str [])]),n_ (s3 2 15 157)]) (r_ [o_ 159 (lw 5 8),y_ 160 0 15,z_ 161 160,o_ 162 (.call (.func F_75) [(t_ 159),(t_ 161)]),v_ 158 162,o_ 163 (et 158 0),o_ 164 (et 158 1),v_ 16 163,v_ 17 164] (r_ [v_ 165 17,o_ 166 (.not (t_ 165)),v_ 167 166,g_ 168 167 false (mv 16),g_ 169 167 false (fa 1 15),g_ 170 167 false (ld 169),g_ 171 167 false (bi .neq 168 170),o_ 172 (po 167 171)] (w_ 172 (.reg [] [v_ 173 0,v_ 174 6,y_ 175 0 15,z_ 176 175,y_ 177 1 15,z_ 178 177,o_ 179 (.build [(.int .i64 0),(.int .i64 0),(.int .i64 0),(.int .i64 0),(.int .i64 0),(.str []),(.str [])] [(0,1,(k_ 4)),(1,1,(t_ 174)),(5,1,(t_ 176)),(6,1,(t_ 178))]),o_ 180 (cl F_33 [(t_ 173),(t_ 179)])]) .skip))))) (.reg [] [o_ 181 (bj .add 154 1),v_ 154 181]))))
@[reducible] def zfw:List Bool:=mb 182 [0,6,8,152,153,154]
@[reducible] def zfx:List Bool:=mb 182 []
def zhe:ICode:=(.seq (.reg [4] [v_ 18 0,o_ 19 (nc 18),y_ 20 1 19,z_ 21 20,v_ 22 1,o_ 23 (ix 10 21 22),o_ 24 (lw 10 23),o_ 4 (.alloc (some 4) [(.int .i64 0),(.int .i64 0),(.int .i64 0),(.int .i64 0),(.int .i64 0),(.int .i64 0),(.str []),(.str []), .nilslice, .nilslice]),n_ (s3 10 4 24)]) (.seq (.draw [] [v_ 25 0,s_ 26 (nc 25) [(25,0)],s_ 27 (fa 2 26) [(26,1)],s_ 28 (ld 27) [(27,2)],y_ 29 0 4,s_ 30 (ld 29) [(29,4)],s_ 31 (.lookup false (J4 0) ⟨false,[.int]⟩ (t_ 28) (t_ 30)) [(28,3),(30,5)],s_ 5 (mv 31) [(31,6)]] [[⟨[0,1,2,3,4,5,6,7],[],none⟩]]) (r_ [v_ 33 0,o_ 34 (nc 33),y_ 35 2 34,z_ 36 35,v_ 37 1,o_ 38 (.lookup true (J4 0) ⟨false,[.int]⟩ (t_ 36) (t_ 37)),v_ 32 38,o_ 39 (et 32 0),o_ 40 (et 32 1),v_ 6 39,v_ 7 40] (.seq (.block 0 [] (r_ [v_ 42 7,o_ 43 (.not (t_ 42)),v_ 41 43] (w_ 41 (r_ [v_ 44 0,o_ 45 (nc 44),y_ 46 3 45,z_ 47 46,v_ 6 47] (r_ [v_ 48 0,o_ 49 (nc 48),y_ 50 3 49,z_ 51 50,o_ 52 (bj .add 51 1),o_ 53 (nc 48),y_ 54 3 53,n_ (s3 1 54 52)] (r_ [v_ 55 0,o_ 56 (nc 55),y_ 57 2 56,z_ 58 57,v_ 59 1,v_ 60 6,n_ (.mapUpd ⟨false,[.int]⟩ (t_ 58) (t_ 59) (t_ 60))] (.reg [] [v_ 61 0,v_ 62 6,v_ 63 5,y_ 64 4 4,z_ 65 64,y_ 66 5 4,y_ 67 0 66,z_ 68 67,y_ 69 5 4,y_ 70 1 69,z_ 71 70,y_ 72 5 4,y_ 73 2 72,z_ 74 73,o_ 75 (.build [(.int .i64 0),(.int .i64 0),(.int .i64 0),(.int .i64 0),(.int .i64 0),(.str []),(.str [])] [(0,1,(k_ 1)),(1,1,(t_ 62)),(2,1,(t_ 63)),(3,1,(t_ 65)),(4,1,(t_ 68)),(5,1,(t_ 71)),(6,1,(t_ 74))]),o_ 76 (cl F_33 [(t_ 61),(t_ 75)])])))) (.seq (.draw [] [v_ 78 0,s_ 79 (nc 78) [(78,0)],s_ 80 (fa 0 79) [(79,1)],s_ 81 (ld 80) [(80,2)],
 v_ 82 6,s_ 83 (cl F_72 [(t_ 81),(t_ 82)]) [(81,3),(82,4)],v_ 84 5,s_ 85 (bi .neq 83 84) [(83,5),(84,6)],s_ 86 (mv 85) [(85,7)],q_ 87 86 false (mv 0) [(86,8)],q_ 88 86 false (nc 87) [(87,9),(86,8)],q_ 89 86 false (fa 0 88) [(88,10),(86,8)],q_ 90 86 false (ld 89) [(89,11),(86,8)],q_ 91 86 false (mv 6) [(86,8)],q_ 92 86 false (cl F_73 [(t_ 90),(t_ 91)]) [(90,12),(91,13),(86,8)],q_ 93 86 false (fa 4 4) [(86,8)],q_ 94 86 false (ld 93) [(93,15),(86,8)],q_ 95 86 false (bi .neq 92 94) [(92,14),(94,16),(86,8)],s_ 96 (po 86 95) [(86,8),(95,17)],s_ 77 (mv 96) [(96,18)]] [[⟨[0,1,2,3,4,6],[],(some 5)⟩,⟨[7,8,9,10,11,12,13,15,16],[],(some 14)⟩,⟨[17,18,19],[16],none⟩]]) (w_ 77 (.reg [] [v_ 97 0,v_ 98 6,v_ 99 5,y_ 100 4 4,z_ 101 100,o_ 102 (.build [(.int .i64 0),(.int .i64 0),(.int .i64 0),(.int .i64 0),(.int .i64 0),(.str []),(.str [])] [(0,1,(k_ 3)),(1,1,(t_ 98)),(2,1,(t_ 99)),(3,1,(t_ 101))]),o_ 103 (cl F_33 [(t_ 97),(t_ 102)])]) .skip))))) (.seq (.reg [8] [v_ 105 0,o_ 106 (nc 105),y_ 107 0 106,z_ 108 107,v_ 109 6,o_ 110 (cl F_74 [(t_ 108),(t_ 109)]),v_ 104 110,o_ 111 (et 104 0),o_ 112 (et 104 1),o_ 8 (.alloc (some 8) [(.int .i64 0),(.str []),(.str []), .nilslice, .nilslice]),n_ (s3 5 8 111),v_ 9 112]) (.seq (r_ [y_ 113 5 4,y_ 114 2 113,z_ 115 114,y_ 116 2 8,z_ 117 116,o_ 118 (bi .neq 115 117)] (w_ 118 (.reg [] [v_ 119 0,v_ 120 6,y_ 121 5 4,y_ 122 2 121,z_ 123 122,o_ 124 (.build [(.int .i64 0),(.int .i64 0),(.int .i64 0),(.int .i64 0),(.int .i64 0),(.str []),(.str [])] [(0,1,(k_ 6)),(1,1,(t_ 120)),(6,1,(t_ 123))]),o_ 125 (cl F_33 [(t_ 119),(t_ 124)])]) .skip)) (.seq (r_ [y_ 126 3 8,z_ 127 126,o_ 128 (ll 127),o_ 129 (.mov (k_ 0))] (.block 1 zfu (.loop zft zfs))) (r_ [y_ 150 5 4,y_ 151 3 150,z_ 152 151,o_ 153 (ll 152),o_ 154 (.mov (k_ 0))] (.block 3 zfx (.loop zfw zfv))))))))))
def zcv:IFun:=⟨2,182,[],zhe,false⟩
theorem znd:FunOK Tryz.prog F_34 zcv:=⟨Tryz.f34,[15,11,8,4],[(1,zft),(1000001,zfu),(3,zfw),(1000003,zfx)],Tryz.func34,by kernel_rfl⟩
def zak:ICode:=(r_ [o_ 2 (.mov xn)] (.seq (r_ [v_ 3 0,o_ 4 (.eqSl false (t_ 3) xn)] (w_ 4 (r_ [o_ 2 (.mov xn)] .ret) .skip)) (r_ [o_ 5 (.buildSlice 2 0 [(.str []),(.str [])] []),v_ 6 0,o_ 7 (.append 2 (t_ 5) (t_ 6)),v_ 2 7] .ret)))
def zaf:IFun:=⟨1,8,[.tmp 2],zak,false⟩
theorem zfa:FunOK Tryz.prog F_64 zaf:=⟨Tryz.f64,[],[],Tryz.func64,by kernel_rfl⟩
def zlj:ICode:=(r_ [o_ 25 (bi .lss 24 23)] (.seq (w_ 25 .skip (.exit 0)) (.seq (.block 1 [] (.seq (.reg [9] [o_ 26 (ix 5 22 24),o_ 27 (lw 5 26),o_ 9 (.alloc (some 9) [(.int .i64 0),(.str []),(.str []), .nilslice, .nilslice]),n_ (s3 5 9 27)]) (r_ [v_ 28 0,o_ 29 (lw 5 9),v_ 30 7,o_ 31 (cl F_65 [(t_ 28),(t_ 29),(t_ 30)]),v_ 10 31] (.draw [] [v_ 32 0,s_ 33 (nc 32) [(32,0)],s_ 34 (fa 0 33) [(33,1)],s_ 35 (ld 34) [(34,2)],v_ 36 7,v_ 37 0,s_ 38 (nc 37) [(37,5)],s_ 39 (fa 0 38) [(38,6)],s_ 40 (ld 39) [(39,7)],v_ 41 7,s_ 42 (ix 8 40 41) [(40,8),(41,9)],s_ 43 (fa 7 42) [(42,10)],s_ 44 (ld 43) [(43,11)],v_ 45 10,s_ 46 (.buildSlice 1 1 [(.int .i64 0)] [(0,1,(t_ 45))]) [(45,13)],s_ 47 (.append 1 (t_ 44) (t_ 46)) [(44,12),(46,14)],s_ 48 (ix 8 35 36) [(35,3),(36,4)],s_ 49 (fa 7 48) [(48,16)],e_ (s3 1 49 47) [(49,17),(47,15)]] [[⟨[0,1,2,3,4,5,6,7,8,9,10,11,12,13,14],[],(some 15)⟩,⟨[16,17],[3],(some 18)⟩,⟨[],[],none⟩]])))) (.reg [] [o_ 50 (bj .add 24 1),v_ 24 50]))))
@[reducible] def zlk:List Bool:=mb 52 [0,7,22,23,24]
@[reducible] def zll:List Bool:=mb 52 [7]
def zoq:ICode:=(.seq (.reg [4] [o_ 4 (.box (some 4) 5 (t_ 1)),o_ 6 (.mov (k_ 0))]) (r_ [v_ 11 0,o_ 12 (nc 11),y_ 13 0 12,z_ 14 13,o_ 15 (ll 14),v_ 7 15] (r_ [v_ 16 0,v_ 17 7,v_ 18 2,o_ 19 (lw 5 4),o_ 20 (cl F_111 [(t_ 16),(t_ 17),(t_ 18),(t_ 19)])] (.seq (r_ [y_ 21 4 4,z_ 22 21,o_ 23 (ll 22),o_ 24 (.mov (k_ 0))] (.block 0 zll (.loop zlk zlj))) (r_ [v_ 51 7,v_ 6 51] .ret)))))
def zgi:IFun:=⟨3,52,[.tmp 6],zoq,false⟩
theorem zxa:FunOK Tryz.prog F_65 zgi:=⟨Tryz.f65,[9,4],[(0,zlk),(1000000,zll)],Tryz.func65,by kernel_rfl⟩
def zaw:ICode:=(.seq (.reg [9] [o_ 9 (.box (some 9) 5 (t_ 4)),o_ 10 (.mov (k_ 0))]) (r_ [v_ 12 0,v_ 13 2,o_ 14 (cl F_112 [(t_ 12),(t_ 13)]),v_ 11 14] (.seq (.block 0 [] (.seq (r_ [v_ 16 0,v_ 17 1,o_ 18 (cl F_113 [(t_ 16),(t_ 17)]),v_ 19 18,g_ 20 19 false (mv 1),g_ 21 19 false (bj .lss 20 1),o_ 22 (po 19 21),v_ 23 22,g_ 24 23 false (mv 1),g_ 25 23 false (bj .gtr 24 1048576),o_ 26 (po 23 25),v_ 15 26] (w_ 15 .skip (.reg [] [y_ 27 4 9,z_ 28 27,o_ 29 (ll 28),o_ 30 (bj .gtr 29 0),v_ 31 30,g_ 32 31 false (fa 3 9),g_ 33 31 false (ld 32),g_ 34 31 false (ll 33),g_ 35 31 false (bj .gtr 34 0),o_ 36 (po 31 35),v_ 37 36,g_ 38 37 false (lw 5 9),g_ 39 37 false (.buildSlice 5 1 [(.int .i64 0),(.str []),(.str []), .nilslice, .nilslice] [(0,5,(t_ 38))]),g_ 40 37 false (.build [(.int .i64 0),(.str []),(.str []), .nilslice, .nilslice] [(0,1,(k_ 1)),(4,1,(t_ 39))]),g_ 41 37 false (.call (.func F_44) [(t_ 40)]),g_ 42 37 false (.not (t_ 41)),o_ 43 (po 37 42),v_ 15 43]))) (w_ 15 (r_ [o_ 10 (.mov (k_ 1))] .ret) (r_ [v_ 45 0,o_ 46 (nc 45),y_ 47 0 46,z_ 48 47,o_ 49 (ll 48),o_ 50 (bj .geq 49 300),v_ 44 50] (w_ 44 (r_ [o_ 10 (.mov (k_ 2))] .ret) (r_ [v_ 52 11,o_ 53 (.eqPtr false (t_ 52) (.const (.p .nilptr))),v_ 51 53] (w_ 51 (r_ [o_ 10 (.mov (k_ 3))] .ret) (r_ [v_ 55 11,y_ 56 0 9,z_ 57 56,o_ 58 (cl F_114 [(t_ 55),(t_ 57)]),o_ 59 (.not (t_ 58)),v_ 54 59] (w_ 54 (r_ [o_ 10 (.mov (k_ 4))] .ret) (r_ [v_ 61 3,o_ 62 (bj .lss 61 0),v_ 63 62,g_ 64 63 false (mv 3),g_ 65 63 false (mv 11),g_ 66 63 false (nc 65),g_ 67 63 false (fa 7 66),g_ 68 63 false (ld 67),
 g_ 69 63 false (ll 68),g_ 70 63 false (bi .gtr 64 69),o_ 71 (po 63 70),v_ 60 71] (w_ 60 (r_ [o_ 10 (.mov (k_ 5))] .ret) (r_ [v_ 73 0,v_ 74 2,o_ 75 (cl F_115 [(t_ 73),(t_ 74)]),o_ 76 (bj .geq 75 60),v_ 72 76] (w_ 72 (r_ [o_ 10 (.mov (k_ 2))] .ret) .skip))))))))))))) (r_ [v_ 77 0,v_ 78 1,v_ 79 2,o_ 80 (lw 5 9),o_ 81 (cl F_111 [(t_ 77),(t_ 78),(t_ 79),(t_ 80)])] (r_ [v_ 82 0,v_ 83 2,o_ 84 (cl F_112 [(t_ 82),(t_ 83)]),v_ 11 84] (r_ [v_ 85 11,v_ 86 11,o_ 87 (nc 86),y_ 88 7 87,z_ 89 88,v_ 90 3,v_ 91 1,o_ 92 (.buildSlice 1 1 [(.int .i64 0)] [(0,1,(t_ 91))]),o_ 93 (.call (.func F_116) [(t_ 89),(t_ 90),(t_ 92)]),o_ 94 (nc 85),y_ 95 7 94,n_ (s3 1 95 93)] (r_ [o_ 10 (.mov (k_ 0))] .ret)))))))
def zar:IFun:=⟨5,96,[.tmp 10],zaw,false⟩
theorem zrh:FunOK Tryz.prog F_66 zar:=⟨Tryz.f66,[9],[],Tryz.func66,by kernel_rfl⟩
def zcy:ICode:=(r_ [o_ 4 (.mov (k_ 0))] (r_ [v_ 8 0,v_ 9 1,o_ 10 (cl F_112 [(t_ 8),(t_ 9)]),v_ 5 10] (.seq (.block 0 [] (r_ [v_ 12 5,o_ 13 (.eqPtr false (t_ 12) (.const (.p .nilptr))),v_ 11 13] (w_ 11 (r_ [o_ 4 (.mov (k_ 3))] .ret) (r_ [v_ 15 5,o_ 16 (nc 15),y_ 17 2 16,y_ 18 0 17,z_ 19 18,o_ 20 (bj .eql 19 1),v_ 14 20] (w_ 14 (r_ [o_ 4 (.mov (k_ 4))] .ret) (r_ [v_ 22 5,o_ 23 (nc 22),y_ 24 7 23,z_ 25 24,o_ 26 (ll 25),o_ 27 (bj .gtr 26 0),v_ 21 27] (w_ 21 (r_ [o_ 4 (.mov (k_ 7))] .ret) .skip))))))) (r_ [v_ 28 0,v_ 29 1,o_ 30 (cl F_117 [(t_ 28),(t_ 29)])] (r_ [v_ 31 0,o_ 32 (nc 31),y_ 33 1 32,z_ 34 33,v_ 35 1,o_ 36 (.lookup false (J4 0) ⟨false,[.int]⟩ (t_ 34) (t_ 35)),v_ 6 36] (.seq (.draw [7] [v_ 37 0,s_ 38 (nc 37) [(37,0)],s_ 39 (fa 0 38) [(38,1)],s_ 40 (ld 39) [(39,2)],v_ 41 0,s_ 42 (nc 41) [(41,4)],s_ 43 (fa 0 42) [(42,5)],s_ 44 (ld 43) [(43,6)],s_ 45 (ll 44) [(44,7)],s_ 46 (bj .sub 45 1) [(45,8)],s_ 47 (ix 8 40 46) [(40,3),(46,9)],s_ 48 (lw 8 47) [(47,10)],o_ 7 (.alloc (some 7) [(.int .i64 0),(.int .i64 0),(.int .i64 0),(.str []),(.str []), .nilslice, .nilslice, .nilslice]),e_ (s3 8 7 48) [(7,12),(48,11)]] [[⟨[0,1,2,3,4,5,6,7,8,9,10,11,12],[],(some 13)⟩,⟨[],[],none⟩]]) (.seq (.draw [] [v_ 49 0,s_ 50 (nc 49) [(49,0)],s_ 51 (fa 0 50) [(50,1)],s_ 52 (ld 51) [(51,2)],v_ 53 6,o_ 54 (lw 8 7),s_ 55 (ix 8 52 53) [(52,3),(53,4)],e_ (s3 8 55 54) [(55,6),(54,5)]] [[⟨[0,1,2,3,4,5,6],[],(some 7)⟩,⟨[],[],none⟩]]) (.seq (.draw [] [v_ 56 0,s_ 57 (nc 56) [(56,0)],s_ 58 (fa 1 57) [(57,1)],s_ 59 (ld 58) [(58,2)],y_ 60 0 7,s_ 61 (ld 60) [(60,4)],v_ 62 6,e_ (.mapUpd ⟨false,[.int]⟩ (t_ 59) (t_ 61) (t_ 62)) [(59,3),(61,5),(62,6)]] [[⟨[0,1,2,3,4,5,6],[],(some 7)⟩,⟨[],[],none⟩]]) (.seq
 (.reg [] [v_ 63 0,o_ 64 (nc 63),y_ 65 1 64,z_ 66 65,v_ 67 1,n_ (.del ⟨false,[.int]⟩ (t_ 66) (t_ 67))]) (.seq (.draw [] [v_ 68 0,v_ 69 0,s_ 70 (nc 69) [(69,1)],s_ 71 (fa 0 70) [(70,2)],s_ 72 (ld 71) [(71,3)],v_ 73 0,s_ 74 (nc 73) [(73,5)],s_ 75 (fa 0 74) [(74,6)],s_ 76 (ld 75) [(75,7)],s_ 77 (ll 76) [(76,8)],s_ 78 (bj .sub 77 1) [(77,9)],s_ 79 (.sliceSl 8 (t_ 72) none (some (t_ 78))) [(72,4),(78,10)],s_ 80 (nc 68) [(68,0)],s_ 81 (fa 0 80) [(80,12)],e_ (s3 1 81 79) [(81,13),(79,11)]] [[⟨[0,1,2,3,4,5,6,7,8,9,10,11,12,13],[],(some 14)⟩,⟨[],[],none⟩]]) (r_ [o_ 4 (.mov (k_ 0))] .ret)))))))))))
def zbv:IFun:=⟨2,82,[.tmp 4],zcy,false⟩
theorem zri:FunOK Tryz.prog F_67 zbv:=⟨Tryz.f67,[7],[],Tryz.func67,by kernel_rfl⟩
def zcj:ICode:=(r_ [o_ 8 (.mov (k_ 0))] (r_ [v_ 12 0,v_ 13 1,o_ 14 (cl F_112 [(t_ 12),(t_ 13)]),v_ 9 14] (.seq (.block 0 [] (r_ [v_ 16 9,o_ 17 (.eqPtr false (t_ 16) (.const (.p .nilptr))),v_ 15 17] (w_ 15 (r_ [o_ 8 (.mov (k_ 3))] .ret) (r_ [v_ 19 9,o_ 20 (nc 19),y_ 21 2 20,y_ 22 0 21,z_ 23 22,o_ 24 (bj .neq 23 2),v_ 18 24] (w_ 18 (r_ [o_ 8 (.mov (k_ 4))] .ret) (r_ [v_ 26 2,o_ 27 (.call (.func F_120) [(t_ 26)]),o_ 28 (.not (t_ 27)),v_ 25 28] (w_ 25 (r_ [o_ 8 (.mov (k_ 8))] .ret) .skip))))))) (r_ [v_ 30 9,v_ 31 2,o_ 32 (cl F_121 [(t_ 30),(t_ 31)]),v_ 29 32,o_ 33 (et 29 0),o_ 34 (et 29 1),v_ 10 33,v_ 11 34] (.seq (.block 1 [] (r_ [v_ 36 3,o_ 37 (.lenStr (t_ 36)),o_ 38 (bj .gtr 37 4096),v_ 39 38,g_ 40 39 false (mv 11),g_ 41 39 false (.not (t_ 40)),g_ 42 39 false (mv 41),g_ 43 42 true (mv 9),g_ 44 42 true (nc 43),g_ 45 42 true (fa 2 44),g_ 46 42 true (fa 3 45),g_ 47 42 true (ld 46),g_ 48 42 true (ll 47),g_ 49 42 true (bj .geq 48 12),g_ 50 39 false (pa 42 49),o_ 51 (po 39 50),v_ 35 51] (w_ 35 (r_ [o_ 8 (.mov (k_ 2))] .ret) (r_ [v_ 53 11,o_ 54 (.not (t_ 53)),v_ 52 54] (w_ 52 (.reg [] [v_ 55 9,v_ 56 9,o_ 57 (nc 56),y_ 58 2 57,y_ 59 3 58,z_ 60 59,v_ 61 10,v_ 62 2,o_ 63 (.build [(.str []),(.str [])] [(0,1,(t_ 62))]),o_ 64 (.buildSlice 2 1 [(.str []),(.str [])] [(0,2,(t_ 63))]),o_ 65 (cl F_122 [(t_ 60),(t_ 61),(t_ 64)]),o_ 66 (nc 55),y_ 67 2 66,y_ 68 3 67,n_ (s3 1 68 65)]) .skip))))) (r_ [v_ 69 9,o_ 70 (nc 69),y_ 71 2 70,y_ 72 3 71,
 z_ 73 72,v_ 74 10,v_ 75 3,o_ 76 (ix 2 73 74),y_ 77 1 76,n_ (s3 1 77 75)] (r_ [o_ 8 (.mov (k_ 0))] .ret)))))))
def zbp:IFun:=⟨4,78,[.tmp 8],zcj,false⟩
theorem zxb:FunOK Tryz.prog F_69 zbp:=⟨Tryz.f69,[],[],Tryz.func69,by kernel_rfl⟩
def zxc:ICode:=(r_ [o_ 6 (.mov (k_ 0))] (r_ [v_ 8 0,v_ 9 1,o_ 10 (cl F_112 [(t_ 8),(t_ 9)]),v_ 7 10] (.seq (.block 0 [] (r_ [v_ 12 7,o_ 13 (.eqPtr false (t_ 12) (.const (.p .nilptr))),v_ 11 13] (w_ 11 (r_ [o_ 6 (.mov (k_ 3))] .ret) (r_ [v_ 15 7,o_ 16 (nc 15),y_ 17 2 16,y_ 18 0 17,z_ 19 18,o_ 20 (bj .neq 19 3),v_ 21 20,g_ 22 21 true (mv 7),g_ 23 21 true (nc 22),g_ 24 21 true (fa 2 23),g_ 25 21 true (fa 0 24),g_ 26 21 true (ld 25),g_ 27 21 true (bj .neq 26 4),o_ 28 (pa 21 27),v_ 14 28] (w_ 14 (r_ [o_ 6 (.mov (k_ 4))] .ret) (r_ [v_ 30 7,o_ 31 (nc 30),y_ 32 2 31,y_ 33 0 32,z_ 34 33,o_ 35 (bj .eql 34 3),v_ 36 35,g_ 37 36 true (mv 2),g_ 38 36 true (.bin .eql (t_ 37) (.const (.p (.str [])))),o_ 39 (pa 36 38),v_ 29 39] (w_ 29 (r_ [o_ 6 (.mov (k_ 1))] .ret) (r_ [v_ 41 2,o_ 42 (.lenStr (t_ 41)),o_ 43 (bj .gtr 42 4096),v_ 40 43] (w_ 40 (r_ [o_ 6 (.mov (k_ 2))] .ret) .skip))))))))) (r_ [v_ 44 7,v_ 45 2,o_ 46 (nc 44),y_ 47 2 46,y_ 48 2 47,n_ (s3 1 48 45)] (r_ [o_ 6 (.mov (k_ 0))] .ret)))))
def zne:IFun:=⟨3,49,[.tmp 6],zxc,false⟩
theorem ztz:FunOK Tryz.prog F_71 zne:=⟨Tryz.f71,[],[],Tryz.func71,by kernel_rfl⟩
def zjy:ICode:=(r_ [o_ 4 (.mov (k_ 0))] (r_ [v_ 6 0,v_ 7 1,o_ 8 (cl F_112 [(t_ 6),(t_ 7)]),v_ 5 8] (.seq (r_ [v_ 9 5,o_ 10 (.eqPtr false (t_ 9) (.const (.p .nilptr)))] (w_ 10 (r_ [o_ 4 (.mov (k_ (-1)))] .ret) .skip)) (r_ [v_ 11 5,o_ 12 (nc 11),y_ 13 1 12,z_ 14 13,v_ 4 14] .ret))))
def zea:IFun:=⟨2,15,[.tmp 4],zjy,false⟩
theorem zrj:FunOK Tryz.prog F_72 zea:=⟨Tryz.f72,[],[],Tryz.func72,by kernel_rfl⟩
noncomputable def zlm:IFun:=⟨2,19,[.tmp 4],codeOf Tryz.prog [] [] false 2 Tryz.f73,false⟩
theorem zsk:FunOK Tryz.prog F_73 zlm:=⟨Tryz.f73,[],[],Tryz.func73,by kernel_rfl⟩
def znf:ICode:=(.seq (.reg [4] [o_ 4 (.alloc (some 4) [(.int .i64 0),(.str []),(.str []), .nilslice, .nilslice]),o_ 5 (.mov xf)]) (r_ [v_ 8 0,v_ 9 1,o_ 10 (cl F_112 [(t_ 8),(t_ 9)]),v_ 6 10] (.seq (r_ [v_ 11 6,o_ 12 (.eqPtr false (t_ 11) (.const (.p .nilptr)))] (w_ 12 (r_ [o_ 13 (.build [(.int .i64 0),(.str []),(.str []), .nilslice, .nilslice] []),n_ (s3 5 4 13),o_ 5 (.mov xf)] .ret) .skip)) (.seq (.reg [7] [v_ 14 6,o_ 15 (nc 14),y_ 16 2 15,o_ 17 (lw 5 16),o_ 7 (.alloc (some 7) [(.int .i64 0),(.str []),(.str []), .nilslice, .nilslice]),n_ (s3 5 7 17)]) (r_ [y_ 18 3 7,z_ 19 18,o_ 20 (cl F_64 [(t_ 19)]),y_ 21 3 7,n_ (s3 1 21 20)] (r_ [o_ 22 (lw 5 7),n_ (s3 5 4 22),o_ 5 (.mov xt)] .ret))))))
def zfl:IFun:=⟨2,23,[.cell 4 (some 5), .tmp 5],znf,false⟩
theorem zua:FunOK Tryz.prog F_74 zfl:=⟨Tryz.f74,[7,4],[],Tryz.func74,by kernel_rfl⟩
def zor:ICode:=(.seq (.reg [7] [o_ 7 (.box (some 7) 5 (t_ 3))]) (r_ [y_ 8 4 7,n_ (.store 1 (t_ 8) xn)] (r_ [y_ 9 3 7,z_ 10 9,o_ 11 (cl F_64 [(t_ 10)]),y_ 12 3 7,n_ (s3 1 12 11)] (.seq (.draw [] [v_ 13 0,s_ 14 (nc 13) [(13,0)],s_ 15 (fa 1 14) [(14,1)],s_ 16 (ld 15) [(15,2)],v_ 17 1,v_ 18 0,s_ 19 (nc 18) [(18,5)],s_ 20 (fa 0 19) [(19,6)],s_ 21 (ld 20) [(20,7)],s_ 22 (ll 21) [(21,8)],e_ (.mapUpd ⟨false,[.int]⟩ (t_ 16) (t_ 17) (t_ 22)) [(16,3),(17,4),(22,9)]] [[⟨[0,1,2,3,4,5,6,7,8,9],[],(some 10)⟩,⟨[],[],none⟩]]) (.draw [] [v_ 23 0,v_ 24 0,s_ 25 (nc 24) [(24,1)],s_ 26 (fa 0 25) [(25,2)],s_ 27 (ld 26) [(26,3)],v_ 28 1,v_ 29 2,o_ 30 (lw 5 7),s_ 31 (.build [(.int .i64 0),(.int .i64 0),(.int .i64 0),(.str []),(.str []), .nilslice, .nilslice, .nilslice] [(0,1,(t_ 28)),(1,1,(t_ 29)),(2,5,(t_ 30))]) [(28,5),(29,6),(30,7)],s_ 32 (.buildSlice 8 1 [(.int .i64 0),(.int .i64 0),(.int .i64 0),(.str []),(.str []), .nilslice, .nilslice, .nilslice] [(0,8,(t_ 31))]) [(31,8)],s_ 33 (.append 8 (t_ 27) (t_ 32)) [(27,4),(32,9)],s_ 34 (nc 23) [(23,0)],s_ 35 (fa 0 34) [(34,11)],e_ (s3 1 35 33) [(35,12),(33,10)]] [[⟨[0,1,2,3,4,5,6,7,8,9],[],(some 10)⟩,⟨[11,12],[],(some 13)⟩,⟨[],[],none⟩]])))))
def zgj:IFun:=⟨4,36,[],zor,false⟩
theorem zxd:FunOK Tryz.prog F_111 zgj:=⟨Tryz.f111,[7],[],Tryz.func111,by kernel_rfl⟩
def zim:ICode:=(r_ [o_ 4 (.mov (.const (.p .nilptr)))] (r_ [v_ 8 0,o_ 9 (nc 8),y_ 10 1 9,z_ 11 10,v_ 12 1,o_ 13 (.lookup true (J4 0) ⟨false,[.int]⟩ (t_ 11) (t_ 12)),v_ 7 13,o_ 14 (et 7 0),o_ 15 (et 7 1),v_ 5 14,v_ 6 15] (.seq (r_ [v_ 16 6,o_ 17 (.not (t_ 16))] (w_ 17 (r_ [o_ 4 (.mov (.const (.p .nilptr)))] .ret) .skip)) (r_ [v_ 18 0,o_ 19 (nc 18),y_ 20 0 19,z_ 21 20,v_ 22 5,o_ 23 (ix 8 21 22),v_ 4 23] .ret))))
def zdv:IFun:=⟨2,24,[.tmp 4],zim,false⟩
theorem zub:FunOK Tryz.prog F_112 zdv:=⟨Tryz.f112,[],[],Tryz.func112,by kernel_rfl⟩
def zjk:ICode:=(r_ [o_ 4 (.mov xf)] (r_ [v_ 5 0,v_ 6 1,o_ 7 (cl F_112 [(t_ 5),(t_ 6)]),o_ 8 (.eqPtr true (t_ 7) (.const (.p .nilptr))),v_ 4 8] .ret))
def zek:IFun:=⟨2,9,[.tmp 4],zjk,false⟩
theorem zxe:FunOK Tryz.prog F_113 zek:=⟨Tryz.f113,[],[],Tryz.func113,by kernel_rfl⟩
def zjz:ICode:=(r_ [o_ 4 (.mov xf)] (r_ [v_ 5 0,o_ 6 (nc 5),y_ 7 2 6,y_ 8 0 7,z_ 9 8,o_ 10 (bj .eql 9 1),v_ 11 10,g_ 12 11 false (mv 0),g_ 13 11 false (nc 12),g_ 14 11 false (fa 2 13),g_ 15 11 false (fa 0 14),g_ 16 11 false (ld 15),g_ 17 11 false (bj .eql 16 2),g_ 18 11 false (mv 17),g_ 19 18 true (mv 1),g_ 20 18 true (bj .neq 19 5),g_ 21 11 false (pa 18 20),o_ 22 (po 11 21),v_ 4 22] .ret))
def zeb:IFun:=⟨2,23,[.tmp 4],zjz,false⟩
theorem zrk:FunOK Tryz.prog F_114 zeb:=⟨Tryz.f114,[],[],Tryz.func114,by kernel_rfl⟩
def ziz:ICode:=(.seq (r_ [v_ 6 0,v_ 7 1,o_ 8 (cl F_113 [(t_ 6),(t_ 7)])] (w_ 8 .skip (.exit 0))) (.block 1 [] (r_ [v_ 9 5,o_ 10 (bj .add 9 1),v_ 5 10] (.reg [] [v_ 11 0,v_ 12 1,o_ 13 (cl F_72 [(t_ 11),(t_ 12)]),v_ 1 13]))))
@[reducible] def zja:List Bool:=mb 15 [0,1,5]
@[reducible] def zjb:List Bool:=mb 15 [5]
def zln:ICode:=(r_ [o_ 4 (.mov (k_ 0))] (r_ [o_ 5 (.mov (k_ 0))] (.seq (.block 0 zjb (.loop zja ziz)) (r_ [v_ 14 5,v_ 4 14] .ret))))
def zep:IFun:=⟨2,15,[.tmp 4],zln,false⟩
theorem zsl:FunOK Tryz.prog F_115 zep:=⟨Tryz.f115,[],[(0,zja),(1000000,zjb)],Tryz.func115,by kernel_rfl⟩
def zos:ICode:=(r_ [o_ 3 (.box none 1 (t_ 1))] (r_ [v_ 5 0,v_ 6 0,z_ 7 3,o_ 8 (cl F_72 [(t_ 6),(t_ 7)]),o_ 9 (cl F_112 [(t_ 5),(t_ 8)]),v_ 4 9] (.reg [] [v_ 10 4,v_ 11 4,o_ 12 (nc 11),y_ 13 7 12,z_ 14 13,o_ 15 (.mkFunc F_157 [(t_ 3)]),o_ 16 (cl F_156 [(t_ 14),(t_ 15)]),o_ 17 (nc 10),y_ 18 7 17,n_ (s3 1 18 16)])))
def zgk:IFun:=⟨2,19,[],zos,false⟩
theorem zxf:FunOK Tryz.prog F_117 zgk:=⟨Tryz.f117,[],[],Tryz.func117,by kernel_rfl⟩
def zlo:ICode:=(r_ [o_ 4 (.mov (k_ 0)),o_ 5 (.mov xf)] (r_ [v_ 6 0,o_ 7 (nc 6),y_ 8 2 7,y_ 9 3 8,z_ 10 9,v_ 11 1,o_ 12 (cl F_158 [(t_ 10),(t_ 11),(.func F_159)]),o_ 13 (et 12 0),o_ 14 (et 12 1),v_ 4 13,v_ 5 14] .ret))
def zeq:IFun:=⟨2,15,[.tmp 4, .tmp 5],zlo,false⟩
theorem zsm:FunOK Tryz.prog F_121 zeq:=⟨Tryz.f121,[],[],Tryz.func121,by kernel_rfl⟩
def zco:ICode:=(r_ [o_ 6 (.mov xn)] (r_ [v_ 10 0,v_ 11 1,o_ 12 (.sliceSl 2 (t_ 10) (some (t_ 11)) none)] (r_ [v_ 13 2,o_ 14 (ll 13),v_ 7 14] (.seq (r_ [v_ 15 7,o_ 16 (bj .eql 15 0)] (w_ 16 (r_ [v_ 17 0,v_ 6 17] .ret) .skip)) (r_ [v_ 18 0,o_ 19 (ll 18),v_ 8 19] (.seq (r_ [v_ 20 1,v_ 21 8,o_ 22 (bi .eql 20 21)] (w_ 22 (r_ [v_ 23 0,v_ 24 2,o_ 25 (.append 2 (t_ 23) (t_ 24)),v_ 6 25] .ret) .skip)) (.seq (.seq (.cond (.const .undef) .skip .skip) (w_ 31 (.seq (.cond (.const .undef) .skip .skip) (r_ [v_ 41 9,v_ 42 1,o_ 43 (.sliceSl 2 (t_ 41) (some (t_ 42)) none),v_ 44 2,o_ 45 (.copy 2 (t_ 43) (t_ 44))] (.seq (.draw [] [v_ 46 9,v_ 47 1,v_ 48 7,s_ 49 (bi .add 47 48) [(47,1),(48,2)],s_ 50 (.sliceSl 2 (t_ 46) (some (t_ 49)) none) [(46,0),(49,3)],v_ 51 0,v_ 52 1,s_ 53 (.sliceSl 2 (t_ 51) (some (t_ 52)) none) [(51,5),(52,6)],s_ 54 (.copy 2 (t_ 50) (t_ 53)) [(50,4),(53,7)]] [[⟨[0,1,2,3,4,5,6,7],[],(some 8)⟩,⟨[],[],none⟩]]) (r_ [v_ 55 9,v_ 6 55] .ret)))) .skip)) (r_ [v_ 56 0,v_ 57 8,v_ 58 7,o_ 59 (bi .add 57 58),o_ 60 (.sliceSl 2 (t_ 56) none (some (t_ 59))),v_ 0 60] (.seq (r_ [v_ 61 2,v_ 62 0,v_ 63 1,v_ 64 7,o_ 65 (bi .add 63 64),o_ 66 (.sliceSl 2 (t_ 62) (some (t_ 65)) none),o_ 67 (.call (.func 161) [(t_ 61),(t_ 66)]),o_ 68 (.not (t_ 67))] (w_ 68 (.seq (.draw [] [v_ 69 0,v_ 70 1,v_ 71 7,s_ 72 (bi .add 70 71) [(70,1),(71,2)],s_ 73 (.sliceSl 2 (t_ 69) (some (t_ 72)) none) [(69,0),(72,3)],v_ 74 0,v_ 75 1,s_ 76 (.sliceSl 2 (t_ 74) (some (t_ 75)) none) [(74,5),(75,6)],s_ 77 (.copy 2 (t_ 73) (t_ 76)) [(73,4),(76,7)]] [[⟨[0,1,2,3,4,5,6,7],[],(some 8)⟩,⟨[],[],none⟩]]) (r_ [v_ 78 0,v_ 79 1,o_ 80 (.sliceSl 2 (t_ 78) (some (t_ 79)) none),v_ 81 2,o_ 82 (.copy 2 (t_ 80) (t_ 81))] (r_ [v_ 83 0,v_ 6 83] .ret))) .skip)) (r_ [v_ 84 0,v_ 85 8,
 o_ 86 (.sliceSl 2 (t_ 84) (some (t_ 85)) none),v_ 87 2,o_ 88 (.copy 2 (t_ 86) (t_ 87))] (r_ [v_ 89 0,v_ 90 1,o_ 91 (.sliceSl 2 (t_ 89) (some (t_ 90)) none),v_ 92 7,o_ 93 (.call (.func F_162) [(t_ 91),(t_ 92)])] (r_ [v_ 94 0,v_ 6 94] .ret))))))))))))
def zba:IFun:=⟨3,95,[.tmp 6],zco,false⟩
theorem zeu:FunOK Tryz.prog F_122 zba:=⟨Tryz.f122,[],[],Tryz.func122,by kernel_rfl⟩
noncomputable def zfm:IFun:=⟨2,19,[.tmp 4],codeOf Tryz.prog [] [(0,mb 19 [0,1,7,8]),(1000000,mb 19 [])] true 2 Tryz.f123,true⟩
theorem zka:FunOK Tryz.prog F_123 zfm:=⟨Tryz.f123,[],[(0,mb 19 [0,1,7,8]),(1000000,mb 19 [])],Tryz.func123,by kernel_rfl⟩
def zde:ICode:=(.seq (r_ [v_ 16 6,v_ 17 0,o_ 18 (ll 17),o_ 19 (bi .lss 16 18)] (w_ 19 .skip (.exit 0))) (.seq (.block 1 [] (r_ [v_ 22 0,v_ 23 6,o_ 24 (ix 1 22 23),z_ 25 24,v_ 7 25] (r_ [v_ 26 1,v_ 27 7,o_ 28 (.call (t_ 26) [(t_ 27)]),o_ 29 (.not (t_ 28))] (w_ 29 (r_ [v_ 30 0,v_ 31 5,v_ 32 7,o_ 33 (ix 1 30 31),n_ (s3 1 33 32)] (.reg [] [v_ 34 5,o_ 35 (bj .add 34 1),v_ 5 35])) .skip)))) (.reg [] [v_ 20 6,o_ 21 (bj .add 20 1),v_ 6 21])))
@[reducible] def zdf:List Bool:=mb 42 [0,1,5,6]
@[reducible] def zdg:List Bool:=mb 42 [0,5]
def zci:ICode:=(r_ [o_ 4 (.mov xn)] (r_ [v_ 8 0,v_ 9 1,o_ 10 (cl F_184 [(t_ 8),(t_ 9)]),v_ 5 10] (.seq (r_ [v_ 11 5,o_ 12 (bj .eql 11 (-1))] (w_ 12 (r_ [v_ 13 0,v_ 4 13] .ret) .skip)) (.seq (r_ [v_ 14 5,o_ 15 (bj .add 14 1),v_ 6 15] (.block 0 zdg (.loop zdf zde))) (r_ [v_ 36 0,v_ 37 5,o_ 38 (.sliceSl 1 (t_ 36) (some (t_ 37)) none),n_ (.clear [(.int .i64 0)] (t_ 38))] (r_ [v_ 39 0,v_ 40 5,o_ 41 (.sliceSl 1 (t_ 39) none (some (t_ 40))),v_ 4 41] .ret))))))
def zbd:IFun:=⟨2,42,[.tmp 4],zci,false⟩
theorem zhb:FunOK Tryz.prog F_156 zbd:=⟨Tryz.f156,[],[(0,zdf),(1000000,zdg)],Tryz.func156,by kernel_rfl⟩
def zlp:ICode:=(r_ [o_ 3 (.mov xf)] (r_ [v_ 4 0,z_ 5 1,o_ 6 (bi .eql 4 5),v_ 3 6] .ret))
def zer:IFun:=⟨2,7,[.tmp 3],zlp,false⟩
theorem zsn:FunOK Tryz.prog F_157 zer:=⟨Tryz.f157,[],[],Tryz.func157,by kernel_rfl⟩
def zbe:ICode:=(.seq (r_ [v_ 15 9,v_ 16 10,o_ 17 (bi .lss 15 16)] (w_ 17 .skip (.exit 0))) (.block 1 [] (r_ [v_ 18 9,v_ 19 10,o_ 20 (bi .add 18 19),o_ 21 (.conv .u64 (t_ 20)),o_ 22 (.bin .shr (t_ 21) (.const (.p (.int .u64 1)))),o_ 23 (.conv .i64 (t_ 22)),v_ 11 23] (r_ [v_ 24 2,v_ 25 0,v_ 26 11,o_ 27 (ix 2 25 26),o_ 28 (lw 2 27),v_ 29 1,o_ 30 (.call (t_ 24) [(t_ 28),(t_ 29)]),o_ 31 (bj .lss 30 0)] (w_ 31 (.reg [] [v_ 32 11,o_ 33 (bj .add 32 1),v_ 9 33]) (.reg [] [v_ 34 11,v_ 10 34]))))))
@[reducible] def zbf:List Bool:=mb 49 [0,1,2,8,9,10]
@[reducible] def zbg:List Bool:=mb 49 [0,1,2,8,9]
def zbk:ICode:=(r_ [o_ 6 (.mov (k_ 0)),o_ 7 (.mov xf)] (r_ [v_ 12 0,o_ 13 (ll 12),v_ 8 13] (r_ [v_ 14 8,o_ 9 (.mov (k_ 0)),v_ 10 14] (.seq (.block 0 zbg (.loop zbf zbe)) (r_ [v_ 35 9,v_ 36 9,v_ 37 8,o_ 38 (bi .lss 36 37),v_ 39 38,g_ 40 39 true (mv 2),g_ 41 39 true (mv 0),g_ 42 39 true (mv 9),g_ 43 39 true (ix 2 41 42),g_ 44 39 true (lw 2 43),g_ 45 39 true (mv 1),g_ 46 39 true (.call (t_ 40) [(t_ 44),(t_ 45)]),g_ 47 39 true (bj .eql 46 0),o_ 48 (pa 39 47),v_ 6 35,v_ 7 48] .ret)))))
def zal:IFun:=⟨3,49,[.tmp 6, .tmp 7],zbk,false⟩
theorem zcl:FunOK Tryz.prog F_158 zal:=⟨Tryz.f158,[],[(0,zbf),(1000000,zbg)],Tryz.func158,by kernel_rfl⟩
def zjc:ICode:=(.seq (.reg [2] [o_ 2 (.box (some 2) 2 (t_ 0)),o_ 4 (.mov (k_ 0))]) (r_ [y_ 5 0 2,z_ 6 5,v_ 7 1,o_ 8 (.call (.func 160) [(t_ 6),(t_ 7)]),v_ 4 8] .ret))
def zdr:IFun:=⟨2,9,[.tmp 4],zjc,true⟩
theorem zpk:FunOK Tryz.prog F_159 zdr:=⟨Tryz.f159,[2],[],Tryz.func159,by kernel_rfl⟩
def zdm:ICode:=(r_ [o_ 9 (bi .lss 8 7)] (.seq (w_ 9 .skip (.exit 0)) (.seq (.block 1 [] (r_ [v_ 10 8,v_ 5 10] (r_ [v_ 11 1,v_ 12 0,v_ 13 5,o_ 14 (ix 1 12 13),z_ 15 14,o_ 16 (.call (t_ 11) [(t_ 15)])] (w_ 16 (r_ [v_ 17 5,v_ 4 17] .ret) .skip)))) (.reg [] [o_ 18 (bj .add 8 1),v_ 8 18]))))
@[reducible] def zdn:List Bool:=mb 19 [0,1,7,8]
@[reducible] def zdo:List Bool:=mb 19 []
def zdw:ICode:=(r_ [o_ 4 (.mov (k_ 0))] (.seq (r_ [v_ 6 0,o_ 7 (ll 6),o_ 8 (.mov (k_ 0))] (.block 0 zdo (.loop zdn zdm))) (r_ [o_ 4 (.mov (k_ (-1)))] .ret)))
def zbr:IFun:=⟨2,19,[.tmp 4],zdw,false⟩
theorem zhq:FunOK Tryz.prog F_184 zbr:=⟨Tryz.f184,[],[(0,zdn),(1000000,zdo)],Tryz.func184,by kernel_rfl⟩
noncomputable def tz:Tr:=(.node 80 (.node 41 (.node 14 (.node 7 (.node 5 (.node 4 .leaf .leaf) (.node 6 .leaf .leaf)) (.node 11 (.node 9 (.one F_7 zct) (.one F_9 zjh)) (.node 13 (.one F_11 zei) .leaf))) (.node 31 (.node 17 (.node 15 (.one F_14 zej) .leaf) (.node 23 (.one F_17 zop) .leaf)) (.node 34 (.node 33 (.one F_31 znu) (.one F_33 zbs)) (.node 37 (.one F_34 zcv) .leaf)))) (.node 67 (.node 53 (.node 43 (.node 42 .leaf .leaf) (.node 52 .leaf .leaf)) (.node 65 (.node 64 .leaf (.one F_64 zaf)) (.node 66 (.one F_65 zgi) (.one F_66 zar)))) (.node 71 (.node 69 (.node 68 (.one F_67 zbv) .leaf) (.node 70 (.one F_69 zbp) .leaf)) (.node 73 (.node 72 (.one F_71 zne) (.one F_72 zea)) (.node 74 (.one F_73 zlm) (.node 78 (.one F_74 zfl) .leaf)))))) (.node 121 (.node 104 (.node 100 (.node 98 (.node 81 .leaf .leaf) (.node 99 .leaf .leaf)) (.node 102 (.node 101 .leaf .leaf) (.node 103 .leaf .leaf))) (.node 114 (.node 112 (.node 111 .leaf (.one F_111 zgj)) (.node 113 (.one F_112 zdv) (.one F_113 zek))) (.node 117 (.node 115 (.one F_114 zeb) (.one F_115 zep)) (.node 118 (.one F_117 zgk) (.node 119 .leaf .leaf))))) (.node 144 (.node 140 (.node 123 (.node 122 (.one F_121 zeq) (.one F_122 zba)) (.node 124 (.one F_123 zfm) .leaf)) (.node 142 (.node 141 .leaf .leaf) (.node 143 .leaf .leaf))) (.node 157 (.node 147 (.node 146 .leaf .leaf) (.node 156 .leaf (.one F_156 zbd))) (.node 159 (.node 158 (.one F_157 zer) (.one F_158 zal)) (.node 184 (.one F_159 zdr) (.node 208 (.one F_184 zbr) .leaf)))))))
theorem zbhb:tz.all (FunOK Tryz.prog):=⟨⟨⟨⟨⟨⟨trivial,trivial⟩,⟨trivial,trivial⟩⟩,⟨⟨znb,zww⟩,⟨zwx,trivial⟩⟩⟩,⟨⟨⟨zwy,trivial⟩,⟨zwz,trivial⟩⟩,⟨⟨zaih,znc⟩,⟨znd,trivial⟩⟩⟩⟩,⟨⟨⟨⟨trivial,trivial⟩,⟨trivial,trivial⟩⟩,⟨⟨trivial,zfa⟩,⟨zxa,zrh⟩⟩⟩,⟨⟨⟨zri,trivial⟩,⟨zxb,trivial⟩⟩,⟨⟨ztz,zrj⟩,⟨zsk,⟨zua,trivial⟩⟩⟩⟩⟩⟩,⟨⟨⟨⟨⟨trivial,trivial⟩,⟨trivial,trivial⟩⟩,⟨⟨trivial,trivial⟩,⟨trivial,trivial⟩⟩⟩,⟨⟨⟨trivial,zxd⟩,⟨zub,zxe⟩⟩,⟨⟨zrk,zsl⟩,⟨zxf,⟨trivial,trivial⟩⟩⟩⟩⟩,⟨⟨⟨⟨zsm,zeu⟩,⟨zka,trivial⟩⟩,⟨⟨trivial,trivial⟩,⟨trivial,trivial⟩⟩⟩,⟨⟨⟨trivial,trivial⟩,⟨trivial,zhb⟩⟩,⟨⟨zsn,zcl⟩,⟨zpk,⟨zhq,trivial⟩⟩⟩⟩⟩⟩⟩
theorem zbbe:ProgOK Tryz.prog tz.look:=zadb zbhb
theorem zauv:Tryz.prog.follows .mixedOrders=true:=by kernel_rfl
theorem zfn:tz.look F_7=some zct:=rfl
theorem zso:tz.look F_9=some zjh:=rfl
theorem zec:tz.look F_11=some zei:=rfl
theorem zkb:tz.look F_14=some zej:=rfl
theorem zabw:tz.look F_31=some znu:=rfl
theorem zdk:tz.look F_33=some zbs:=rfl
theorem zky:tz.look F_34=some zcv:=rfl
theorem zam:tz.look F_64=some zaf:=rfl
theorem zsp:tz.look F_65=some zgi:=rfl
theorem zas:tz.look F_66=some zar:=rfl
theorem zcw:tz.look F_67=some zbv:=rfl
theorem zbw:tz.look F_69=some zbp:=rfl
theorem znz:tz.look F_72=some zea:=rfl
theorem zrl:tz.look F_74=some zfl:=rfl
theorem zsq:tz.look F_111=some zgj:=rfl
theorem zjd:tz.look F_112=some zdv:=rfl
theorem zkc:tz.look F_113=some zek:=rfl
theorem zoa:tz.look F_114=some zeb:=rfl
theorem zpl:tz.look F_115=some zep:=rfl
theorem zsr:tz.look F_117=some zgk:=rfl
theorem zpm:tz.look F_121=some zeq:=rfl
theorem zee:tz.look F_122=some zba:=rfl
theorem zcz:tz.look F_156=some zbd:=rfl
theorem zpn:tz.look F_157=some zer:=rfl
theorem zce:tz.look F_158=some zal:=rfl
theorem zng:tz.look F_159=some zdr:=rfl
theorem zgq:tz.look F_184=some zbr:=rfl
end Go.Ideal
namespace Go.Ideal
open Go Go.ChangeShapes Go.WideShapes Go.RowKit
set_option linter.unusedSectionVars false
section
variable [Tabs]
def isl(o:Option (List Int)):PVal:=slval 1 (fun i:Int=>[.int .i64 i]) o
theorem zbhc(o:Option (List Int)):∃L,IV (isl o) L:=by
 cases o with
 |none=>exact⟨[], .inl ⟨rfl,rfl⟩⟩
 |some l =>
  refine⟨l, .inr ?_⟩
  have:∀l:List Int,(l.flatMap fun i:Int=>[PVal.int .i64 i])=l.map (.int .i64):=by
   intro l
   induction l with
   |nil=>rfl
   |cons x l ih=>rw[A0,ih];rfl
  simp only[isl,slval,this]
section
variable {H:Type}{enc:TypeId×Value->H}{P:Program}{W W':World}
theorem zaii{t u:TypeId}(ht:P.underlying t=some (.slice u))(hu:P.underlying u=some (.int .i64))(hc:P.cellsOf u=1){v:Value}{base:Nat}{d:DataW H}{ps:List MemPlace}
 (hv:Value.okWide P W .any base t v)(h:DataW.Trod enc P W 0 (fun _=>true) true t v d ps):∃o:Option (List Int),Stands W (.p (isl o)) v:=by
 obtain⟨o,ho⟩:=zady (e:=fun i:{ i:Int // (Lit.int .i64 i).wf=true }=>[.int .i64 i.1]) ht (fun _=>hc.symm) (by omega) (fun n=>zazv hu) hv h;refine⟨o.map (·.map Subtype.val),?_⟩
 have:isl (o.map (·.map Subtype.val))=slval (P.cellsOf u) (fun i:{ i:Int // (Lit.int .i64 i).wf=true }=>[.int .i64 i.1]) o:=by
  rw[hc];cases o with
  |none=>rfl
  |some l =>
   have:∀l:List { i:Int // (Lit.int .i64 i).wf=true },((l.map Subtype.val).flatMap fun i:Int=>[PVal.int .i64 i])=l.flatMap fun i=>[PVal.int .i64 i.1]:=by
    intro l
    induction l with
    |nil=>rfl
    |cons x l ih=>rw[At,A0,ih];rfl
   simp only[isl,AN,slval,AW,this]
 rw[this];exact ho
end
end
end Go.Ideal
namespace Go.Ideal
open Go
set_option maxHeartbeats 4000000
set_option maxRecDepth 20000
attribute [-simp] getElem?_pos
def attrF(name:Bytes):List (Bytes×Bytes)->Option Bytes
 | []=>none
 |a::l=>if a.1=name then some a.2 else attrF name l
theorem zbbf(t:Tree)(name:Bytes)(hs:(alist t.attrs).length<1000000)(H:J2) :
 CW tr.look F_75 [tagg t, .p (.str name)] H=some (.tup [.p (.str ((attrF name (alist t.attrs)).getD [])), .p (.bool (attrF name (alist t.attrs)).isSome)],H):=by
 refine zaz look_75 rfl (by simp) rfl ?_;dsimp only[i_75,c_75];simp(disch:=omega) [];refine zac (α:=Nat) (fun j=>[(1, .str name),(9, .v (.p (aval t.attrs))),(10, .int .i64 (alist t.attrs).length),(11, .int .i64 j)]) (fun _=>⟨[],[]⟩) (fun j=>j<=(alist t.attrs).length/\attrF name (alist t.attrs)=attrF name ((alist t.attrs).drop j)) (fun j=>(alist t.attrs).length-j) ?_ 0 ⟨A9 _,rfl⟩;rintro j ⟨hj,he⟩ R hR;dsimp only[l_75_0];by_cases hc:j<(alist t.attrs).length
 ·rw[AF hc,attrF]at he;by_cases hx:(alist t.attrs)[j].1=name
  ·rw[if_pos hx]at he;simp(disch:=omega) [zeo,hx,he]
  ·rw[if_neg hx]at he;simp(disch:=omega) [zeo,hx,zaa];exact hR (j+1) ⟨by omega,he⟩ (by omega)
 ·obtain rfl:j=(alist t.attrs).length:=by omega
  rw[B1]at he;simp(disch:=omega) [he,attrF]
theorem zpo{b:Tree}{j:Nat}{v:Vis}(hv:(visT b 0 (-1) 0 0)[j]? = some v):b.items[j]? = some (fullOf v):=by
 rw[Tree.items,zfh,Ap,hv];rfl
theorem zauw{H:J2}{o:Option Nat}{w:IVal}{l:List (Bytes×Bytes)}(hv:VS H o 2 l.length w (pcells (acells l)))(k:Int)(n x name:Bytes)(hs:l.length<1000000) :
 CW tr.look F_75 [.agg [J4 k, .p (.str n), .p (.str x),w, .p .nilslice], .p (.str name)] H=some (.tup [.p (.str ((attrF name l).getD [])), .p (.bool (attrF name l).isSome)],H):=by
 obtain⟨a,ha,hz⟩:∃a:Option Attrs,alist a=l/\freezeCell H 100 w=some (aval a):=by
  have h:=zmq hv;cases o with
  |none =>
   obtain⟨_,h2,_⟩:=hv;exact⟨none,(Av.1 h2).symm,h⟩
  |some z=>exact⟨some l,rfl,h⟩
 have h0:=zbbf (.mk k n x a none) name (by rw[show(Tree.mk k n x a none).attrs=a from rfl,ha];exact hs) [];rw[show(Tree.mk k n x a none).attrs=a from rfl,ha]at h0;refine zabf (al:=[tagg (.mk k n x a none), .p (.str name)]) look_75 rfl ?_ (by simp) rfl h0;have h1:freezeCell H 100 (J4 k)=some (.int .i64 k):=rfl;have h2:freezeCell H 100 (.p (.str n))=some (.str n):=rfl;have h3:freezeCell H 100 (.p (.str x))=some (.str x):=rfl;have h4:freezeCell H 100 (.p .nilslice)=some .nilslice:=rfl;simp only[freezeAll,freezeOne,freezeList,h1,h2,h3,h4,hz];rfl
def slotsN(l:List Tree):Nat:=(l.map fun u=>(alist u.attrs).length).sum
def Tree.slots(t:Tree):Nat:=slotsN t.nodes
theorem zss(a b:List Tree):slotsN (a++b)=slotsN a+slotsN b:=by simp[slotsN]
theorem zakd(t:Tree):t.slots=(alist t.attrs).length+slotsN (lnodes (klist t.kids)):=by
 rw[Tree.slots,zcn];simp[slotsN]
theorem zin(t:Tree)(l:List Tree):lnodes (t::l)=t.nodes++lnodes l:=by rw[lnodes]
theorem zaux(t:Tree)(h:∀u∈t.nodes,(alist u.attrs).length<=1000000):t.slots<=1000000*t.size:=by
 have key:∀l:List Tree,(∀ u∈l,(alist u.attrs).length<=1000000)->slotsN l<=1000000*l.length:=by
  intro l
  induction l with
  |nil=>intro _;simp[slotsN]
  |cons x l ih =>
   intro h;have h1:=ih fun u hu=>h u (Ao _ hu);have h2:=h x (by simp);show(alist x.attrs).length+slotsN l<=_;rw[Ay];omega
 have:=key t.nodes h;rw[zcm]at this;exact this
theorem zauy:∀(n:Nat)(t:Tree),t.size<n->n<=100000->(∀ u∈t.nodes,(alist u.attrs).length<=1000000)->∀(H:J2),CW tr.look F_19 [tagg t] H=some (J4 t.slots,H):=by
 intro n
 induction n with
 |zero=>intro t h;omega
 |succ n ih =>
  intro t h hb hat H;have ht:=zag t
  have hkn:∀u∈klist t.kids,∀w∈u.nodes,w∈t.nodes:=fun u hu w hw=>by
   rw[zcn];exact Ao _ (zhw.2 ⟨u,hu,hw⟩)
  have hself:(alist t.attrs).length<=1000000:=hat t (znp t);refine zaz look_19 rfl (by simp) rfl ?_;dsimp only[i_19,c_19];simp(disch:=omega) []
  refine zac (α:=Nat) (fun a=>[(1, .box 1 0),(3, .int .i64 ((alist t.attrs).length+slotsN (lnodes ((klist t.kids).take a)):Nat)),(4, .int .i64 a)]) (fun _=>⟨[(1,some ⟨[.int .i64 t.kind, .str t.name, .str t.text, .v (.p (aval t.attrs)), .v (.p (kval t.kids))],5⟩)],[]⟩)
   (fun a=>a<=(klist t.kids).length) (fun a=>(klist t.kids).length-a) ?_ 0 (A9 _)
  rintro j hj L hL;dsimp only[l_19_0];have hll:=zay (klist t.kids)
  have hbound:∀j,slotsN (lnodes ((klist t.kids).take j))<=1000000*100000:=fun j=>by
   have h1:slotsN (lnodes (klist t.kids))=slotsN (lnodes ((klist t.kids).take j))+slotsN (lnodes ((klist t.kids).drop j)):=by
    have:∀a b:List Tree,lnodes (a++b)=lnodes a++lnodes b:=by
     intro a b
     induction a with
     |nil=>rfl
     |cons x a ih=>rw[Au,zin,zin,ih,Ax]
    rw[<- zss,<-this,Bl]
   have h2:=zaux t hat;rw[zakd]at h2;omega
  by_cases hc:j<(klist t.kids).length
  ·have hm:=Ba hc;have hs:=zbm hm;have c:=ih (klist t.kids)[j] (by omega) (by omega) (fun u hu=>hat u (hkn _ hm u hu));have hb1:=hbound j;have hb2:=hbound (j+1)
   have htk:slotsN (lnodes ((klist t.kids).take (j+1)))=slotsN (lnodes ((klist t.kids).take j))+(klist t.kids)[j].slots:=by
    have:∀(a:List Tree)(x:Tree),lnodes (a++[x])=lnodes a++x.nodes:=by
     intro a x
     induction a with
     |nil=>rw[AT,zin];simp[lnodes]
     |cons y a ih=>rw[Au,zin,zin,ih,Ax]
    rw[A1,Ae hc];show slotsN (lnodes ((klist t.kids).take j++[(klist t.kids)[j]]))=_;rw[this,zss];rfl
   simp(disch:=omega) [zhn,zai,c,zaa];have hn:=hL (j+1) (by omega) (by omega);rw[htk,<-Bq]at hn;push_cast at hn ⊢;exact hn
  ·obtain rfl:j=(klist t.kids).length:=by omega
   rw[Bk];simp(disch:=omega) [];rw[zakd];simp
theorem zauz(x n:Nat)(hn:0<n)(H:J2):CW tr.look F_25 [J4 x, J4 n] H=some (J4 (x % n:Nat),H):=by
 refine zaz look_25 rfl (by simp) rfl ?_;dsimp only[i_25,c_25];have h0:(n:Int)≠0:=(by omega);have h1:¬n=0:=(by omega)
 have e:(x:Int).tmod (n:Int)=((x % n:Nat):Int):=by
  rw[Bi (by omega)];simp
 have h2:¬((x % n:Nat):Int)<0:=(by omega);simp only[Int.natCast_emod]at e h2 ⊢;simp(disch:=omega) [h1,e]
theorem zaqf(v:PVal)(L:List Int)(hv:IV v L)(iat a:Nat)(H:J2)(h:H[iat]? = some (cnt a))(ha:a<1000000) :
 ∃n a':Nat,n<1099511627776/\a<=a'/\a'<=a+1/\CW tr.look F_49 [.p v, J5 iat 0 0] H=some (J4 n,H.set iat (cnt a')):=by
 have hup:=hv.up;have hlen:=hv.len;have hlt:=(Aa.1 h).1;by_cases hL:L.length=0
 ·refine⟨0,a,by omega,Ak _,by omega,?_⟩
  have hsame:H.set iat (cnt a)=H:=by
   apply Bd;intro i;by_cases hi:i=iat
   ·subst hi;rw[zap hlt];exact h.symm
   ·rw[Ag (Ne.symm hi)]
  obtain⟨r,H',e1,rfl,rfl⟩:=zah (args:=[.p v, J5 iat 0 0]) (H:=H) (Q:=fun r H'=>r = J4 0/\H'=H) look_49 rfl rfl (by
   dsimp only[i_49,c_49]
   simp(disch:=omega) [hup,hlen,hL])
  rw[hsame];exact e1
 ·obtain⟨tt,htt⟩:∃tt,(a+1)*5+(a+1) / L.length=tt:=⟨_,rfl⟩;obtain⟨j,hj⟩:∃j,tt % L.length=j:=⟨_,rfl⟩;have hjl:j<L.length:=(by rw[<- hj];exact Cj _ (by omega));obtain⟨r,hix⟩:=hv.idx hjl;obtain⟨n,hn,hand⟩:=zaue L[j];refine⟨n,a+1,hn,by omega,Ak _,?_⟩;have hpl:=zauz tt L.length (by omega);rw[hj]at hpl;have l0:loadVal ⟨[],H⟩ none (J5 iat 0 0)=some (J4 a):=zab h rfl;have hw:=zaj (bx:=[]) (off:=0) (new:=[J4 ((a:Int)+1)]) h (by simp);have hsp:splice [IVal.p (.int .i64 (a:Int))] 0 [J4 ((a:Int)+1)]=[J4 ((a:Int)+1)]:=rfl;rw[hsp]at hw;have h2:(H.set iat (.cells [J4 ((a:Int)+1)] 1 0 false))[iat]? = some (.cells [J4 ((a:Int)+1)] 1 0 false):=zap hlt;have l2:loadVal ⟨[],H.set iat (.cells [J4 ((a:Int)+1)] 1 0 false)⟩ none (J5 iat 0 0)=some (J4 ((a:Int)+1)):=zab h2 rfl;have hL0:¬(L.length:Int)=0:=(by omega)
  have hq:((a:Int)+1).tdiv (L.length:Int)=(((a+1) / L.length:Nat):Int):=by
   rw[Int.tdiv_eq_ediv_of_nonneg (by omega)];simp
  have hqb:(a+1) / L.length<=a+1:=Nat.div_le_self _ _;have hsum:((a:Int)+1)*5+(((a+1) / L.length:Nat):Int)=(tt:Int):=(by omega);have htb:tt<=6*(a+1):=(by omega);clear htt;generalize (a+1) / L.length=qq at *;have hcnt:cnt (a+1) = .cells [J4 ((a:Int)+1)] 1 0 false:=rfl;rw[hcnt];generalize hK:H.set iat (.cells [J4 ((a:Int)+1)] 1 0 false)=K at *
  obtain⟨r2,H',e1,rfl,rfl⟩:=zah (args:=[.p v, J5 iat 0 0]) (H:=H) (Q:=fun r H'=>r = J4 n/\H'=K) look_49 rfl rfl (by
   dsimp only[i_49,c_49];simp(disch:=omega) [hup,hlen,hL,l0,zaa,hw,l2,hq,hsum,hpl,hix]
   simpa using hand)
  exact e1
def NS(t:Tree):Prop:=t.name.length<=10/\t.text.length<=10/\(alist t.attrs).length<=2/\∀p∈alist t.attrs,p.1.length<=10/\p.2.length<=10
structure GT(t:Tree)(m dp:Nat):Prop where
 sz:t.size<=m
 dp:t.height<=dp
 ns:∀u∈t.nodes,NS u
def NV(t:Tree):Prop:=NS t/\nodeB t=true/\t.kind≠5
structure GV(t:Tree)(m dp:Nat):Prop where
 sz:t.size<=m
 dp:t.height<=dp
 ns:∀u∈t.nodes,NV u
theorem zxg{u:Tree}{l:List Tree}(h:u∈l):u∈lnodes l:=zhw.2 ⟨u,h,by rw[zcn];simp⟩
theorem zabx:∀ {l:List Tree}{r:Bool},(∀ u∈l,NV u)->kidsB r l=true
 | [],r,_=>rfl
 |t::l,r,h=>by
  have h1:=h t (by simp);have h2:=zabx (r:=r) fun u hu=>h u (Ao _ hu);simp only[kidsB,h1.2.1,h2,Cz,Bg,BS,decide_eq_true_eq];exact .inl h1.2.2
def GrownSays(v:PVal)(deep:Nat):Prop:=∀(iat inn a n:Nat)(H:J2),iat≠inn->H[iat]? = some (cnt a)->H[inn]? = some (cnt n)->n<40->a<=n+1 ->
 ∃(cs:J3)(H':J2)(a' n':Nat)(t:Tree),CW tr.look F_50 [.p v, J5 iat 0 0, J5 inn 0 0, J4 deep] H=some (.agg cs,H')/\H'[iat]? = some (cnt a')/\H'[inn]? = some (cnt n')/\n<n'/\n'<=40/\a'<=n'+1 /\
  (∀ x,x<H.length->x≠iat->x≠inn->H'[x]? = H[x]?)/\H.length<=H'.length/\All2 (frzP (fun k=>H.length<=k) H' (20-deep)) cs t.cells/\cs.length=5/\GV t (n'-n) (7-deep)
def GrownQ (iat inn n deep:Nat) (H:J2) (r:IVal) (H':J2):Prop:=∃(cs:J3) (a' n':Nat) (t:Tree),r = .agg cs/\H'[iat]? = some (cnt a')/\H'[inn]? = some (cnt n')/\n<n'/\n'<=40/\a'<=n'+1 /\
    (∀ x,x<H.length->x≠iat->x≠inn->H'[x]? = H[x]?)/\H.length<=H'.length/\All2 (frzP (fun k=>H.length<=k) H' (20-deep)) cs t.cells/\cs.length=5/\GV t (n'-n) (7-deep)
structure GInv(H0:J2)(iat inn n0 deep:Nat)(AL:List (Bytes×Bytes))(av kv:IVal)(ts:List Tree)(a n:Nat)(G:J2):Prop where
 ha:G[iat]? = some (cnt a)
 hn:G[inn]? = some (cnt n)
 b1:n0<=n
 b2:n<=40
 b3:a<=n+1
 le:H0.length<=G.length
 fr:∀x,x<H0.length->x≠iat->x≠inn->G[x]? = H0[x]?
 va:av = .p .nilslice/\AL=[]\/∃ka,H0.length<=ka/\HS G ka 2 AL.length av (pcells (acells AL))/\(∀ kb c d e,kv = .slice kb c d e->ka≠kb)/\AL≠[]
 vk:kv = .p .nilslice/\ts=[]\/∃kb X,H0.length<=kb/\HS G kb 5 ts.length kv X/\All2 (frzP (fun k=>H0.length<=k/\k≠kb) G (19-deep)) X (kcells ts)/\ts≠[]
 sz:lsize ts+n0<=n
 hh:lheight ts<=6-deep
 ns:∀u∈lnodes ts,NV u
theorem zxh:∀(ts:List Tree)(t:Tree),kcells (ts++[t])=kcells ts++t.cells
 | [],t=>by simp[kcells]
 |u::ts,t=>by simp only[Au,kcells,zxh ts t,Ax]
theorem zts:∀(ts:List Tree)(t:Tree),lheight (ts++[t])=max (lheight ts) t.height
 | [],t=>by simp[lheight]
 |u::ts,t=>by simp only[Au,lheight,zts ts t];omega
theorem zxi:∀(ts:List Tree)(t:Tree),lnodes (ts++[t])=lnodes ts++t.nodes
 | [],t=>by simp[lnodes]
 |u::ts,t=>by simp only[Au,lnodes,zxi ts t,Ax]
theorem GInv.kid{H0:J2}{iat inn n0 deep:Nat}{AL:List (Bytes×Bytes)}{av kv:IVal}{ts:List Tree}{a n:Nat}{G:J2}(h:GInv H0 iat inn n0 deep AL av kv ts a n G)(hi:iat<H0.length/\inn<H0.length)(_:deep<=5)
 {cs:J3}{G':J2}{a' n':Nat}{t:Tree}(e1:G'[iat]? = some (cnt a'))(e2:G'[inn]? = some (cnt n'))(e3:n<n')(e4:n'<=40)(e5:a'<=n'+1)
 (e6:∀x,x<G.length->x≠iat->x≠inn->G'[x]? = G[x]?)(e7:G.length<=G'.length)(e8:All2 (frzP (fun k=>G.length<=k) G' (19-deep)) cs t.cells)(e9:cs.length=5)(e10:GV t (n'-n) (6-deep)) :
 up kv = .v kv/\∃kv' G2,evalAppend ⟨[],G'++[.cells cs 5 0 false]⟩ 5 kv (.slice G'.length 0 0 1)=some (kv',⟨[],G2⟩)/\(∃ a b c,kv' = .slice a b 0 c)/\GInv H0 iat inn n0 deep AL av kv' (ts++[t]) a' n' G2:=by
 have hle:=h.le
 have htl:ts.length<=lsize ts:=by
  have:∀l:List Tree,l.length<=lsize l:=by
   intro l
   induction l with
   |nil=>simp
   |cons x l ih=>have:=zad x;simp only[lsize,Ay];omega
  exact this ts
 have hsz:=h.sz;have hb2:=h.b2
 obtain⟨X,hX⟩:∃X,(kv = .p .nilslice/\ts.length=0/\X=[]/\ts=[])\/∃kb,H0.length<=kb/\kb<G.length/\HS G' kb 5 ts.length kv X/\All2 (frzP (fun k=>(H0.length<=k/\k≠kb)/\k<G.length) G' (19-deep)) X (kcells ts):=by
  rcases h.vk with⟨h1,h2⟩|⟨kb,X,h1,h2,h3,_⟩
  ·exact⟨[], .inl ⟨h1,by simp[h2],rfl,h2⟩⟩
  ·refine⟨X, .inr ⟨kb,h1,h2.lt,h2.keep (e6 kb h2.lt (by omega) (by omega)),h3.imp fun v p hv=>zjx (fun k hk hl=>⟨⟨hk,hl⟩,e6 k hl (by omega) (by omega)⟩) hv⟩⟩
 obtain⟨hup,kv',G2,kl,f1,⟨u1,u2,u3,rfl⟩,f3,f4,f5,f6⟩:=zqz (H:=G') (v:=kv) (e:=5) (n:=ts.length) (X:=X) (ys:=cs) (by
  rcases hX with⟨h1,h2,h3,_⟩|⟨kb,_,_,h2,_⟩
  ·exact .inl ⟨h1,h2,h3⟩
  ·exact .inr ⟨kb,h2⟩) e9 (by omega)
 have hkl:(G'.length<=kl)\/(H0.length<=kl/\kl<G.length/\∃c d e,kv = .slice kl c d e):=by
  rcases f6 with f6|f6
  ·exact .inl f6
  ·rcases hX with⟨rfl,_⟩|⟨kb,q1,q2,q3,_⟩
   ·obtain⟨_,_,_,hh,_⟩:=f6;cases hh
   ·obtain⟨_,_,_,hh,_⟩:=f6;obtain⟨_,_,_,hh2,_⟩:=q3;rw[hh]at hh2;cases hh2;exact .inr ⟨q1,q2,_,_,_,hh⟩
 have hklH:H0.length<=kl:=(by rcases hkl with h1|h1<;>omega);have hu:u1=kl:=(by obtain⟨_,_,_,hh,_⟩:=f4;cases hh;rfl);have hG2:∀y,y<G'.length->y≠kl->G2[y]? = G'[y]? := f5;refine⟨hup,_,G2,f1,⟨_,_,_,rfl⟩,?_⟩;refine⟨by rw[hG2 iat (by omega) (by omega)];exact e1,by rw[hG2 inn (by omega) (by omega)];exact e2,by have:=h.b1;omega,e4,e5,by omega,fun x hx h1 h2=>?_,?_,?_,?_,?_,?_⟩
 ·rw[hG2 x (by omega) (by omega),e6 x (by omega) h1 h2];exact h.fr x hx h1 h2
 ·rcases h.va with h1|⟨ka,h1,h2,h3,hA⟩
  ·exact .inl h1
  ·have hne:ka≠kl:=by
    rcases hkl with h4|⟨_,_,c,d,e,h4⟩
    ·have:=h2.lt;omega
    ·exact h3 _ _ _ _ h4
   refine .inr ⟨ka,h1,h2.keep ?_,fun kb c d e he=>?_,hA⟩
   ·have:=h2.lt;rw[hG2 ka (by omega) hne,e6 ka this (by omega) (by omega)]
   ·cases he;rw[hu];exact hne
 ·refine .inr ⟨kl,X++cs,hklH,by rw[Ah];exact f4,?_,by simp⟩;rw[zxh];refine All2.append ?_ (e8.imp fun v p hv=>zjx (fun k hk hl=>?_) hv)
  ·rcases hX with⟨_,_,rfl,rfl⟩|⟨kb,q1,q2,q3,q4⟩
   ·rfl
   ·refine q4.imp fun v p hv=>zjx (fun k hk hl=>?_) hv
    have hne:k≠kl:=by
     rcases hkl with h4|⟨_,_,c,d,e,h4⟩
     ·omega
     ·obtain⟨_,_,_,hh,_⟩:=q3;rw[h4]at hh;cases hh;exact hk.1.2
    exact⟨⟨hk.1.1,hne⟩,hG2 k (by omega) hne⟩
  ·have hne:k≠kl:=(by rcases hkl with h4|⟨_,h4,_⟩<;>omega);exact⟨⟨by omega,hne⟩,hG2 k hl hne⟩
 ·have:=e10.sz;rw[zao];simp only[lsize];omega
 ·rw[zts];have:=h.hh;have:=e10.dp;omega
 ·intro u hu;rw[zxi]at hu;rcases AB.1 hu with h1|h1
  ·exact h.ns u h1
  ·exact e10.ns u h1
def nonil{α:Type}(l:List α):Option (List α):=if l=[]then none else some l
theorem zdx(l:List Tree):klist (nonil l)=l:=by
 unfold nonil;split
 ·rename_i h;rw[h];rfl
 ·rfl
theorem zpp(l:List (Bytes×Bytes)):alist (nonil l)=l:=by
 unfold nonil;split
 ·rename_i h;rw[h];rfl
 ·rfl
theorem GInv.done{H0:J2}{iat inn n0 deep:Nat}{AL:List (Bytes×Bytes)}{av kv:IVal}{ts:List Tree}{a n:Nat}{G:J2}(h:GInv H0 iat inn (n0+1) deep AL av kv ts a n G)(hd:deep<=5)(nm:Bytes)(hnm:nm.length<=10)(hnb:nameB nm=true)(hab:attrsB AL=true)(hAL:AL.length<=2/\∀p∈AL,p.1.length<=10/\p.2.length<=10) :
 up av = .v av/\up kv = .v kv/\GrownQ iat inn n0 deep H0 (.agg [J4 2, .p (.str nm), .p (.str []),av,kv]) G:=by
 have ua:up av = .v av:=(by rcases h.va with⟨rfl,_⟩|⟨_,_,⟨_,_,_,rfl,_⟩,_⟩<;>rfl);have uk:up kv = .v kv:=(by rcases h.vk with⟨rfl,_⟩|⟨_,_,_,⟨_,_,_,rfl,_⟩,_⟩<;>rfl);refine⟨ua,uk,_,a,n, .mk 2 nm [] (nonil AL) (nonil ts),rfl,h.ha,h.hn,h.b1,h.b2,h.b3,h.fr,h.le,?_,rfl,?_,?_,?_⟩
 ·rw[Tree.zbq];refine⟨_,_,rfl,zfj (n:=1) (by omega) rfl,_,_,rfl,zfj (n:=1) (by omega) rfl,_,_,rfl,zfj (n:=1) (by omega) rfl,_,_,rfl,?_,_,_,rfl,?_,rfl⟩
  ·show frzP _ _ _ av (aval (nonil AL));rcases h.va with⟨rfl,rfl⟩|⟨ka,h1,h2,_,hn⟩
   ·exact zfj (n:=1) (by omega) rfl
   ·unfold nonil;rw[if_neg hn];exact zfj (n:=2) (by omega) (h2.frz h1 (All2.plain (n:=0) _))
  ·show frzP _ _ _ kv (kval (nonil ts));rcases h.vk with⟨rfl,rfl⟩|⟨kb,X,h1,h2,h3,hn⟩
   ·exact zfj (n:=1) (by omega) rfl
   ·unfold nonil;rw[if_neg hn];exact zfj (n:=19-deep+1) (by omega) (h2.frz h1 (h3.imp fun v p hv=>zjx (fun k hk _=>⟨hk.1,rfl⟩) hv))
 ·have:=h.sz;rw[zag];show lsize (klist (nonil ts))+1<=_;rw[zdx];omega
 ·have:=h.hh;rw[zeg];show lheight (klist (nonil ts))+1<=_;rw[zdx];omega
 ·intro u hu;rw[zcn]at hu;rcases Am.1 hu with rfl|hu
  ·refine⟨⟨hnm,by simp[Tree.text],?_,?_⟩,?_,by simp[Tree.kind]⟩
   ·show(alist (nonil AL)).length<=2;rw[zpp];exact hAL.1
   ·show ∀p∈alist (nonil AL),_;rw[zpp];exact hAL.2
   ·rw[zkx,if_pos (show(Tree.mk 2 nm [] (nonil AL) (nonil ts)).kind=2 from rfl)];show(nameB nm&&decide (([]:Bytes)=[])&&attrsB (alist (nonil AL))&&kidsB false (klist (nonil ts)))=true;rw[zpp,zdx,hnb,hab,zabx fun u hu=>h.ns u (zxg hu)];simp
  ·have:klist (Tree.mk 2 nm [] (nonil AL) (nonil ts)).kids=ts:=zdx ts;rw[this]at hu;exact h.ns u hu
theorem znv(v:PVal)(_:up (.p v) = .v (.p v))(deep:Nat)(hd:deep<=5)(IH:GrownSays v (deep+1))(H0:J2)(iat inn n0:Nat)(hne:iat≠inn)(hi:iat<H0.length/\inn<H0.length)(AL:List (Bytes×Bytes))(av:IVal)(nm:Bytes)(z:KB)(Q:J0)
 (hQ:∀kv ts a n G,GInv H0 iat inn n0 deep AL av kv ts a n G->Q .normal [(8, .box 8 0),(10, .box 10 0)] ⟨[(10,some ⟨[.int .i64 2, .str nm, .str [], .v av, .v kv],5⟩),(8,some z)],G⟩) :
 ∀(k:Nat)(kv:IVal)(ts:List Tree)(a n:Nat)(G:J2),k<=3->GInv H0 iat inn n0 deep AL av kv ts a n G ->
 wpLoop (CW tr.look) 109 m_50_0 l_50_0 (blkK 1 b_50_1 Q) [(0, .v (.p v)),(1, .v (J5 iat 0 0)),(2, .v (J5 inn 0 0)),(3, .int .i64 deep),(8, .box 8 0),(10, .box 10 0),(11, .int .i64 k)] ⟨[(10,some ⟨[.int .i64 2, .str nm, .str [], .v av, .v kv],5⟩),(8,some z)],G⟩:=by
 intro k
 induction k with
 |zero =>
  intro kv ts a n G hk hG;refine zaq ?_;dsimp only[l_50_0];simp(disch:=omega) [];exact hQ kv ts a n G hG
 |succ k ih =>
  intro kv ts a n G hk hG;refine zaq ?_;dsimp only[l_50_0];have l0:loadVal ⟨[],G⟩ none (J5 inn 0 0)=some (J4 n):=zab hG.hn rfl;have hpos:(0:Int)<((k+1:Nat):Int):=(by omega);by_cases hn:n<40
  ·have hn':(n:Int)<40:=(by omega);obtain⟨cs,G',a',n',t,e0,e1,e2,e3,e4,e5,e6,e7,e8,e9,e10⟩:=IH iat inn a n G hne hG.ha hG.hn hn hG.b3;obtain⟨uk,kv',G2,f1,⟨u1,u2,u3,rfl⟩,f2⟩:=hG.kid hi hd e1 e2 e3 e4 e5 e6 e7 (by rw[show 19-deep=20-(deep+1)by omega];exact e8) e9 (by rw[show 6-deep=7-(deep+1)by omega];exact e10);have e0':CW tr.look F_50 [.p v, J5 iat 0 0, J5 inn 0 0, J4 ((deep:Int)+1)] G=some (.agg cs,G'):=e0
   obtain⟨c0,c1,c2,c3,c4,rfl⟩:∃c0 c1 c2 c3 c4,cs=[c0,c1,c2,c3,c4]:=by
    match cs,e9 with
    | [c0,c1,c2,c3,c4],_=>exact⟨c0,c1,c2,c3,c4,rfl⟩
   have hc:((k+1:Nat):Int)-1=(k:Int):=(by omega);simp only[Dc,Int.cast_ofNat_Int]at hpos hc;have hku:kv≠.undef:=(by rcases hG.vk with⟨rfl,_⟩|⟨_,_,_,⟨_,_,_,rfl,_⟩,_⟩<;>simp);simp(disch:=omega) [l0,hku,zyt,zaa,e0',f1,hc];exact ih _ _ _ _ _ (by omega) f2
  ·have hn':¬(n:Int)<40:=(by omega);simp(disch:=omega) [l0];exact hQ kv ts a n G hG
theorem attrs1{n t:Bytes}(hn:n=[105,100]\/n=[120])(ht:t.length<=10):attrsB [(n,t)]=true:=by
 have:t.length<=4096:=(by omega);have h1:bytesLess [] n=true/\nameB n=true:=(by rcases hn with rfl|rfl<;>exact⟨by decide,by decide⟩);simp[attrsB,attrsG,h1.1,h1.2,this]
theorem attrs2{t u:Bytes}(ht:t.length<=10)(hu:u.length<=10):attrsB [([105,100],t),([120],u)]=true:=by
 have h1:t.length<=4096:=(by omega);have h2:u.length<=4096:=(by omega);have h3:bytesLess [] [105,100]=true:=(by decide);have h4:nameB [105,100]=true:=(by decide);have h5:bytesLess [105,100] [120]=true:=(by decide);have h6:nameB [120]=true:=(by decide);simp[attrsB,attrsG,h1,h2,h3,h4,h5,h6]
theorem zake(v:PVal)(L:List Int)(hv:IV v L)(deep:Nat)(hd:deep<=6)(IH:deep<=5->GrownSays v (deep+1)):GrownSays v deep:=by
 intro iat inn a n H hne hia hin hn ha;have hup:=hv.up;have l0:loadVal ⟨[],H⟩ none (J5 inn 0 0)=some (J4 n):=zab hin rfl;have hw:=zaj (bx:=[]) (off:=0) (new:=[J4 ((n:Int)+1)]) hin (by simp);have hsp:splice [IVal.p (.int .i64 (n:Int))] 0 [J4 ((n:Int)+1)]=[J4 ((n:Int)+1)]:=rfl;rw[hsp]at hw;obtain⟨K,hK⟩:∃K,H.set inn (.cells [J4 ((n:Int)+1)] 1 0 false)=K:=⟨_,rfl⟩;rw[hK]at hw;have hKa:K[iat]? = some (cnt a):=(by rw[<- hK,Ag (Ne.symm hne)];exact hia);obtain⟨x,a',hx,a1,a2,hnext⟩:=zaqf v L hv iat a K hKa (by omega)
 have e:∃r H',CW tr.look F_50 [.p v, J5 iat 0 0, J5 inn 0 0, J4 deep] H=some (r,H')/\GrownQ iat inn n deep H r H':=by
  refine zah look_50 rfl rfl ?_;dsimp only[i_50,c_50];have e7:(x:Int).tmod 7=((x % 7:Nat):Int):=(by rw[Bi (by omega)];simp);have e74:((x:Int) / 7).tmod 4=((x / 7 % 4:Nat):Int):=(by rw[Bi (by omega)];simp);have e76:((x:Int) / 7).tmod 6=((x / 7 % 6:Nat):Int):=(by rw[Bi (by omega)];simp);have b7:x % 7<7:=Cj _ (by omega);have b74:x / 7 % 4<4:=Cj _ (by omega);have b76:x / 7 % 6<6:=Cj _ (by omega);have e28:((x:Int) / 28).tmod 3=((x / 28 % 3:Nat):Int):=(by rw[Bi (by omega)];simp);have e285:((x:Int) / 28).tmod 5=((x / 28 % 5:Nat):Int):=(by rw[Bi (by omega)];simp);have e844:((x:Int) / 84).tmod 4=((x / 84 % 4:Nat):Int):=(by rw[Bi (by omega)];simp);have e843:((x:Int) / 84).tmod 3=((x / 84 % 3:Nat):Int):=(by rw[Bi (by omega)];simp);have e512:((x:Int) / 512).tmod 4=((x / 512 % 4:Nat):Int):=(by rw[Bi (by omega)];simp);have b844:x / 84 % 4<4:=Cj _ (by omega);have b843:x / 84 % 3<3:=Cj _ (by omega);have b512:x / 512 % 4<4:=Cj _ (by omega);generalize x % 7=y7 at *;generalize x / 7 % 4=y74 at *;generalize x / 7 % 6=y76 at *;generalize x / 28 % 3=y283 at *;generalize x / 28 % 5=y285 at *;generalize x / 84 % 4=y844 at *;generalize x / 84 % 3=y843 at *;generalize x / 512 % 4=y512 at *;have hKn:K[inn]? = some (cnt (n+1)):=(by rw[<- hK];exact zap (Aa.1 hin).1);have hKl:K.length=H.length:=(by rw[<- hK,AC]);obtain⟨K1,hK1⟩:∃K1,K.set iat (cnt a')=K1:=⟨_,rfl⟩;rw[hK1]at hnext;have h1a:K1[iat]? = some (cnt a'):=(by rw[<- hK1];exact zap (Aa.1 hKa).1);have h1n:K1[inn]? = some (cnt (n+1)):=(by rw[<- hK1,Ag hne];exact hKn);have h1l:K1.length=H.length:=(by rw[<- hK1,AC];exact hKl)
  have h1k:∀y,y<H.length->y≠iat->y≠inn->K1[y]? = H[y]? := fun y _ h1 h2=>by
   rw[<- hK1,Ag (Ne.symm h1),<-hK,Ag (Ne.symm h2)]
  have leaf:∀(k:Int)(s:Bytes),s.length<=10->(k=4\/k=3/\s≠[])->GrownQ iat inn n deep H (.agg [J4 k, .p (.str []), .p (.str s), .p .nilslice, .p .nilslice]) K1:=fun k s hs hl=>by
   refine⟨_,a',n+1, .mk k [] s none none,rfl,h1a,h1n,by omega,by omega,by omega,h1k,by omega,?_,rfl,⟨?_,?_,fun u hu=>?_⟩⟩
   ·rw[show 20-deep=(19-deep)+1 by omega];exact All2.plain [.int .i64 k, .str [], .str s, .nilslice, .nilslice]
   ·simp only[Tree.size,ksize];omega
   ·simp only[Tree.height,kheight];omega
   ·have:u = .mk k [] s none none:=(by simpa[Tree.nodes,knodes]using hu);subst this;refine⟨⟨by simp[Tree.name],hs,by simp[Tree.attrs,alist],by simp[Tree.attrs,alist]⟩,?_,?_⟩
    ·rcases hl with rfl|⟨rfl,hl⟩
     ·have:s.length<=4096:=(by omega);simp[nodeB,leafB,alist,this]
     ·have:s.length<=4096:=(by omega);simp[nodeB,leafB,alist,this,hl]
    ·rcases hl with rfl|⟨rfl,hl⟩<;>simp[Tree.kind]
  by_cases c7:y7=0
  ·subst c7;have s1:=ztp (s:=[120,121,122]) (h:=(y74:Int)) (by omega) (by simp;omega);simp(disch:=omega) [hup,l0,hw,zaa,hnext,e7,e74,s1];exact leaf _ _ (by simp<;>omega) (.inl rfl)
  ·have c7':¬(y7:Int)=0:=(by omega);by_cases ct:y7<3\/5<deep
   ·have s2:=zoo (s:=[97,98,99,100,101,102]) (l:=(y76:Int)) (h:=(y76:Int)+1) (by omega) (by omega) (by simp;omega);by_cases c3:(y7:Int)<3
    ·simp(disch:=omega) [hup,l0,hw,zaa,hnext,e7,e76,s2];exact leaf _ _ (by simp<;>omega) (.inr ⟨rfl,fun h=>by have:=congrArg List.length h;simp at this;omega⟩)
    ·have c5:(5:Int)<(deep:Int):=(by omega);simp(disch:=omega) [hup,l0,hw,zaa,hnext,e7,e76,s2];exact leaf _ _ (by simp<;>omega) (.inr ⟨rfl,fun h=>by have:=congrArg List.length h;simp at this;omega⟩)
   ·have c3:¬(y7:Int)<3:=(by omega);have c5:¬(5:Int)<(deep:Int):=(by omega);have c4:(0:Int)<=(y74:Int)/\(y74:Int)<4:=(by omega)
    obtain⟨nm,hnm,hnl,hnb⟩:∃nm:Bytes,nth [SV.str [98],SV.str [112],SV.str [100,105,118],SV.str [108,105]] y74=some (.str nm)/\nm.length<=10/\nameB nm=true:=by
     rcases(show y74=0\/y74=1\/y74=2\/y74=3 by omega)with rfl|rfl|rfl|rfl
     ·exact⟨[98],rfl,by simp,by decide⟩
     ·exact⟨[112],rfl,by simp,by decide⟩
     ·exact⟨[100,105,118],rfl,by simp,by decide⟩
     ·exact⟨[108,105],rfl,by simp,by decide⟩
    obtain⟨t3,ht3,s3⟩:∃t3:Bytes,t3.length<=10/\sliceStrF (.p (.str [48,49,50,51])) (some (J4 (y844:Int))) (some (J4 ((y844:Int)+1)))=some (.p (.str t3)):=⟨_,by simp;omega,zoo (by omega) (by omega) (by simp;omega)⟩;obtain⟨t4,ht4,s4⟩:∃t4:Bytes,t4.length<=10/\sliceStrF (.p (.str [117,118])) none (some (J4 (y843:Int)))=some (.p (.str t4)):=⟨_,by simp;omega,ztp (by omega) (by simp;omega)⟩;have p0:(.p .nilslice:IVal) = .p .nilslice/\(0:Nat)=0/\([]:J3)=[]:=⟨rfl,rfl,rfl⟩;have hiH:iat<H.length/\inn<H.length:=⟨(Aa.1 hia).1,(Aa.1 hin).1⟩
    have base:∀(AL:List (Bytes×Bytes))(av:IVal)(G:J2)(hGl:H.length<=G.length)(hG:∀y,y<H.length->G[y]? = K1[y]?)(hva:av = .p .nilslice/\AL=[]\/∃ka,H.length<=ka/\HS G ka 2 AL.length av (pcells (acells AL))/\AL≠[]),GInv H iat inn (n+1) deep AL av (.p .nilslice) [] a' (n+1) G:=by
     intro AL av G hGl hG hva;refine⟨by rw[hG _ hiH.1];exact h1a,by rw[hG _ hiH.2];exact h1n,by omega,by omega,by omega,hGl,fun y hy h1 h2=>by rw[hG y hy];exact h1k y hy h1 h2,?_, .inl ⟨rfl,rfl⟩,by simp[lsize],by simp[lheight],by simp[lnodes]⟩;rcases hva with h|⟨ka,h1,h2,h3⟩
     ·exact .inl h
     ·exact .inr ⟨ka,h1,h2,(fun kb c d e he=>by simp at he),h3⟩
    by_cases c28:y283=0
    ·obtain⟨_,v1,G1,k1,f1,⟨u1,u2,u3,rfl⟩,f3,f4,f5,f6⟩:=zqz (H:=K1) (e:=2) (ys:=[.p (.str [105,100]), .p (.str t3)]) (.inl p0) rfl (by omega)
     have hk1:K1.length<=k1:=by
      rcases f6 with f6|⟨_,_,_,h,_⟩
      ·exact f6
      ·cases h
     by_cases c285:y285=0
     ·obtain⟨_,v2,G2,k2,g1,⟨w1,w2,w3,rfl⟩,g3,g4,g5,g6⟩:=zqz (H:=G1) (e:=2) (ys:=[.p (.str [120]), .p (.str t4)]) (.inr ⟨k1,f4⟩) rfl (by omega)
      have hk2:H.length<=k2:=by
       rcases g6 with g6|g6
       ·omega
       ·obtain⟨_,_,_,h,_⟩:=g6;obtain⟨_,_,_,h2,_⟩:=f4;rw[h]at h2;cases h2;omega
      simp(disch:=omega) [hup,l0,hw,zaa,hnext,e7,e74,c4,hnm,e28,e285,e844,e843,e512,c28,c285,s3,s4,f1,g1];refine znv v hup deep (by omega) (IH (by omega)) H iat inn (n+1) hne hiH [([105,100],t3),([120],t4)] _ nm _ _ (fun kv ts a n0 G hG=>?_) y512 _ [] a' (n+1) G2 (by omega) (base _ _ _ (by omega) (fun y hy=>by rw[g5 y (by omega) (by omega),f5 y (by omega) (by omega)]) (.inr ⟨k2,hk2,g4,by simp⟩));obtain⟨q1,q2,q3⟩:=hG.done (by omega) nm hnl hnb (attrs2 ht3 ht4) (by simp<;>omega);simp(disch:=omega) [];exact q3
     ·have c285':¬(y285:Int)=0:=(by omega);simp(disch:=omega) [hup,l0,hw,zaa,hnext,e7,e74,c4,hnm,e28,e285,e844,e512,c28,s3,f1];refine znv v hup deep (by omega) (IH (by omega)) H iat inn (n+1) hne hiH [([105,100],t3)] _ nm _ _ (fun kv ts a n0 G hG=>?_) y512 _ [] a' (n+1) G1 (by omega) (base _ _ _ (by omega) (fun y hy=>by rw[f5 y (by omega) (by omega)]) (.inr ⟨k1,by omega,f4,by simp⟩));obtain⟨q1,q2,q3⟩:=hG.done (by omega) nm hnl hnb (attrs1 (.inl rfl) ht3) (by simp<;>omega);simp(disch:=omega) [];exact q3
    ·have c28':¬(y283:Int)=0:=(by omega);by_cases c285:y285=0
     ·obtain⟨_,v2,G2,k2,g1,⟨w1,w2,w3,rfl⟩,g3,g4,g5,g6⟩:=zqz (H:=K1) (e:=2) (ys:=[.p (.str [120]), .p (.str t4)]) (.inl p0) rfl (by omega)
      have hk2:K1.length<=k2:=by
       rcases g6 with g6|⟨_,_,_,h,_⟩
       ·exact g6
       ·cases h
      simp(disch:=omega) [hup,l0,hw,zaa,hnext,e7,e74,c4,hnm,e28,e285,e843,e512,c285,s4,g1];refine znv v hup deep (by omega) (IH (by omega)) H iat inn (n+1) hne hiH [([120],t4)] _ nm _ _ (fun kv ts a n0 G hG=>?_) y512 _ [] a' (n+1) G2 (by omega) (base _ _ _ (by omega) (fun y hy=>by rw[g5 y (by omega) (by omega)]) (.inr ⟨k2,by omega,g4,by simp⟩));obtain⟨q1,q2,q3⟩:=hG.done (by omega) nm hnl hnb (attrs1 (.inr rfl) ht4) (by simp<;>omega);simp(disch:=omega) [];exact q3
     ·have c285':¬(y285:Int)=0:=(by omega);simp(disch:=omega) [hup,l0,hw,zaa,hnext,e7,e74,c4,hnm,e28,e285,e512];refine znv v hup deep (by omega) (IH (by omega)) H iat inn (n+1) hne hiH [] _ nm _ _ (fun kv ts a n0 G hG=>?_) y512 _ [] a' (n+1) K1 (by omega) (base _ _ _ (by omega) (fun y _=>rfl) (.inl ⟨rfl,rfl⟩));obtain⟨q1,q2,q3⟩:=hG.done (by omega) nm hnl hnb rfl (by simp<;>omega);simp(disch:=omega) [];exact q3
 obtain⟨r,H',e1,cs,a2,n2,t,rfl,q⟩:=e;exact⟨cs,H',a2,n2,t,e1,q⟩
theorem zaff(v:PVal)(L:List Int)(hv:IV v L):∀(k deep:Nat),deep+k=6->GrownSays v deep
 |0,deep,h=>zake v L hv deep (by omega) (fun h=>by omega)
 |k+1,deep,h=>zake v L hv deep (by omega) (fun _=>zaff v L hv k (deep+1) (by omega))
theorem zaby(v:PVal)(_:up (.p v) = .v (.p v))(IH:GrownSays v 1)(z:KB)(Q:J0)
 (hQ:∀kv ts a n G,GInv [cnt 0,cnt 0] 0 1 0 0 [] (.p .nilslice) kv ts a n G->Q .normal [(2, .box 2 0),(5, .box 5 0)] ⟨[(5,some ⟨[.int .i64 1, .str [], .str [], .v (.p .nilslice), .v kv],5⟩),(2,some z)],G⟩) :
 ∀(k:Nat)(kv:IVal)(ts:List Tree)(a n:Nat)(G:J2),k<=4->GInv [cnt 0,cnt 0] 0 1 0 0 [] (.p .nilslice) kv ts a n G ->
 wpLoop (CW tr.look) 27 m_21_0 l_21_0 (blkK 0 b_21_0 Q) [(0, .v (.p v)),(2, .box 2 0),(3, .v (J5 0 0 0)),(4, .v (J5 1 0 0)),(5, .box 5 0),(6, .int .i64 ((k:Int)-1))] ⟨[(5,some ⟨[.int .i64 1, .str [], .str [], .v (.p .nilslice), .v kv],5⟩),(2,some z)],G⟩:=by
 intro k
 induction k with
 |zero =>
  intro kv ts a n G hk hG;refine zaq ?_;dsimp only[l_21_0];simp(disch:=omega) [];exact hQ kv ts a n G hG
 |succ k ih =>
  intro kv ts a n G hk hG;refine zaq ?_;dsimp only[l_21_0];have l0:loadVal ⟨[],G⟩ none (J5 1 0 0)=some (J4 n):=zab hG.hn rfl;have hc:((k+1:Nat):Int)-1=(k:Int):=(by omega);rw[hc];by_cases hn:n<40
  ·have hn':(n:Int)<40:=(by omega);obtain⟨cs,G',a',n',t,e0,e1,e2,e3,e4,e5,e6,e7,e8,e9,e10⟩:=IH 0 1 a n G (by omega) hG.ha hG.hn hn hG.b3;obtain⟨uk,kv',G2,f1,⟨u1,u2,u3,rfl⟩,f2⟩:=hG.kid (by simp) (by omega) e1 e2 e3 e4 e5 e6 e7 e8 e9 e10;have e0':CW tr.look F_50 [.p v, J5 0 0 0, J5 1 0 0, J4 1] G=some (.agg cs,G'):=e0
   obtain⟨c0,c1,c2,c3,c4,rfl⟩:∃c0 c1 c2 c3 c4,cs=[c0,c1,c2,c3,c4]:=by
    match cs,e9 with
    | [c0,c1,c2,c3,c4],_=>exact⟨c0,c1,c2,c3,c4,rfl⟩
   have hku:kv≠.undef:=(by rcases hG.vk with⟨rfl,_⟩|⟨_,_,_,⟨_,_,_,rfl,_⟩,_⟩<;>simp);simp(disch:=omega) [l0,hku,zyt,zaa,e0',f1];exact ih _ _ _ _ _ (by omega) f2
  ·have hn':¬(n:Int)<40:=(by omega);simp(disch:=omega) [l0];exact hQ kv ts a n G hG
theorem zaqg{k:Int}{n x:Bytes}{a:Option Attrs}{c:Option (List Tree)}:IVal.agg [J4 k, .p (.str n), .p (.str x), .p (aval a), .p (kval c)]=tagg (.mk k n x a c):=rfl
theorem zaij(t:Tree):t.deep=t.height:=by
 have key:∀(n:Nat)(t:Tree),t.size<n->t.deep=t.height:=by
  intro n
  induction n with
  |zero=>intro t h;omega
  |succ n ih =>
   intro t h;have hts:=zag t;rw[zaho,zeg]
   have:∀l:List Tree,lsize l<n->ldeep l=lheight l:=by
    intro l
    induction l with
    |nil=>intro _;rfl
    |cons x l ihl =>
     intro hl;simp only[lsize]at hl;simp only[ldeep,lheight,ih x (by omega),ihl (by omega)]
   rw[this _ (by omega)]
 exact key _ t (An _)
theorem zaik(v:PVal)(L:List Int)(hv:IV v L):∃t,GT t 41 7/\checkB t=true/\∀H,CW tr.look F_21 [.p v] H=some (tagg t,H):=by
 have hup:=hv.up;obtain⟨x,a',hx,a1,a2,hnext⟩:=zaqf v L hv 0 0 [cnt 0,cnt 0] rfl (by omega);have e4:(x:Int).tmod 4=((x % 4:Nat):Int):=(by rw[Bi (by omega)];simp);have b4:x % 4<4:=Cj _ (by omega);generalize x % 4=y at *
 obtain⟨r,e1,t,rfl,e2,e3⟩:∃r,CW tr.look F_21 [.p v] []=some (r,[])/\∃t,r=tagg t/\GT t 41 7/\checkB t=true:=by
  refine zew look_21 rfl (zbl (by simp)) rfl ?_;dsimp only[i_21,c_21];have hnext':CW tr.look F_49 [.p v, J5 0 0 0] [IBlk.cells [J4 0] 1 0 false,IBlk.cells [J4 0] 1 0 false]=some (J4 x,[cnt a',cnt 0]):=hnext;have w1:writeCells ⟨[],[IBlk.cells [J4 0] 1 0 false,IBlk.cells [J4 0] 1 0 false]⟩ (J5 0 0 0) [J4 0]=some ⟨[],[IBlk.cells [J4 0] 1 0 false,IBlk.cells [J4 0] 1 0 false]⟩:=rfl;have w2:writeCells ⟨[],[IBlk.cells [J4 0] 1 0 false,IBlk.cells [J4 0] 1 0 false]⟩ (J5 1 0 0) [J4 0]=some ⟨[],[IBlk.cells [J4 0] 1 0 false,IBlk.cells [J4 0] 1 0 false]⟩:=rfl;simp(disch:=omega) [hup,hnext',w1,w2,e4];have hc:(y:Int)=((y+1:Nat):Int)-1:=(by omega);rw[hc]
  have h0:GInv [cnt 0,cnt 0] 0 1 0 0 [] (.p .nilslice) (.p .nilslice) [] a' 0 [cnt a',cnt 0]:=by
   refine⟨rfl,rfl,Ak _,by omega,by omega,by simp,fun x hx h1 h2=>?_, .inl ⟨rfl,rfl⟩, .inl ⟨rfl,rfl⟩,by simp[lsize],by simp[lheight],by simp[lnodes]⟩;simp at hx;omega
  refine zaby v hup (zaff v L hv 5 1 rfl) _ _ (fun kv ts a n G hG=>?_) (y+1) _ [] a' 0 _ (by omega) h0;have uk:up kv = .v kv:=(by rcases hG.vk with⟨rfl,_⟩|⟨_,_,_,⟨_,_,_,rfl,_⟩,_⟩<;>rfl)
  have hfz:freezeCell G 100 kv=some (kval (nonil ts)):=by
   rcases hG.vk with⟨rfl,rfl⟩|⟨kb,X,h1,h2,h3,hn⟩
   ·rfl
   ·unfold nonil;rw[if_neg hn];exact zpi (zfj (n:=20) (by omega) (h2.frz h1 (h3.imp fun v p hv=>zjx (fun k hk _=>⟨hk.1,rfl⟩) hv)))
  have hagg:freezeOne G (.agg [J4 1, .p (.str []), .p (.str []), .p .nilslice,kv])=some (tagg (.mk 1 [] [] none (nonil ts))):=by
   rw[<- zaqg];have p:∀x:PVal,freezeCell G 100 (.p x)=some x:=fun _=>rfl;simp only[freezeOne,freezeList,p,hfz,pcells,At,B4];rfl
  simp(disch:=omega) [];rw[hagg]
  have hsz:(Tree.mk 1 [] [] none (nonil ts)).size<=41:=by
   have:=hG.sz;have:=hG.b2;rw[zag];show lsize (klist (nonil ts))+1<=_;rw[zdx];omega
  have hhh:(Tree.mk 1 [] [] none (nonil ts)).height<=7:=by
   have:=hG.hh;rw[zeg];show lheight (klist (nonil ts))+1<=_;rw[zdx];omega
  refine⟨_,rfl,_,rfl,⟨hsz,hhh,fun u hu=>?_⟩,?_⟩
  ·rw[zcn]at hu;rcases Am.1 hu with rfl|hu
   ·exact⟨by simp[Tree.name],by simp[Tree.text],by simp[Tree.attrs,alist],by simp[Tree.attrs,alist]⟩
   ·have:klist (Tree.mk 1 [] [] none (nonil ts)).kids=ts:=zdx ts;rw[this]at hu;exact(hG.ns u hu).1
  ·have hk:kidsB true (klist (nonil ts))=true:=by
    rw[zdx];exact zabx fun u hu=>hG.ns u (zxg hu)
   have hd:(Tree.mk 1 [] [] none (nonil ts)).deep<=60:=(by rw[zaij];omega);have hs3:(Tree.mk 1 [] [] none (nonil ts)).size<=300:=(by omega);show(decide ((1:Int)=1)&&decide ((Tree.mk 1 [] [] none (nonil ts)).size<=300)&&decide ((Tree.mk 1 [] [] none (nonil ts)).deep<=60)&&(decide (([]:Bytes)=[])&&decide (([]:Bytes)=[]))&&decide ((alist none).length=0)&&kidsB true (klist (nonil ts)))=true;rw[hk,decide_eq_true hd,decide_eq_true hs3];simp[alist]
 exact⟨t,e2,e3,fun H=>zahs look_21 rfl (by simp) e1⟩
theorem GT.fine{t:Tree}{m d:Nat}(h:GT t m d)(hm:m<1000000):Fine t:=⟨by have:=h.sz;omega,fun u hu=>by have:=(h.ns u hu).2.2.1;omega⟩
theorem GT.str{t:Tree}{m d:Nat}(h:GT t m d):∀u∈t.nodes,NodeStr u:=fun u hu=>by
 obtain⟨h1,h2,h3,h4⟩:=h.ns u hu;exact⟨by omega,by omega,by omega,fun p hp=>by have:=h4 p hp;omega⟩
end Go.Ideal
namespace Go.Ideal
open Go
noncomputable def CW1:Oracle:=CW tr.look
noncomputable instance seatBase2:Base:=Base.of CW1
theorem upz{f:FuncId}{args:J3}{H:J2}{r:IVal×J2}(h2:tz.look f=none)(h : @CW seatBase tr.look f args H=some r):CW tz.look f args H=some r:=zif h2 h
end Go.Ideal
namespace Go.Ideal
open Go
set_option maxHeartbeats 4000000
set_option maxRecDepth 20000
attribute [-simp] getElem?_pos
abbrev EN:=Int×IVal×Nat
def encE(x:EN):IVal×IVal×Nat:=(J4 x.1,x.2.1,x.2.2)
def emap(E:List EN)(ck:Nat):IBlk := .map (E.map encE) ck
def efind(k:Int):List EN->Nat->Option (Nat×IVal)
 | [],_=>none
 |x::r,j=>if x.1=k then some (j,x.2.1)else efind k r (j+1)
def eget(E:List EN)(k:Int):Option IVal:=(efind k E 0).map (·.2)
theorem zzq(k:Int):∀(E:List EN)(j:Nat),findEnt kI (J4 k) (E.map encE) j=some (efind k E j)
 | [],j=>rfl
 |x::r,j=>by
  simp only[At,encE,findEnt,kI_eq,efind];by_cases h:x.1=k
  ·rw[if_pos h,decide_eq_true h.symm]
  ·rw[if_neg h,decide_eq_false (fun e=>h e.symm)];exact zzq k r (j+1)
theorem zrm{k:Int}:∀ {E:List EN}{n j:Nat}{v:IVal},efind k E n=some (j,v)->n<=j/\∃x,E[j-n]? = some x/\x.1=k/\x.2.1=v
 | [],n,j,v,h=>by simp[efind]at h
 |x::r,n,j,v,h=>by
  simp only[efind]at h;split at h
  ·rename_i e;injection h with h;injection h with h1 h2;subst h1 h2;exact⟨Ak _,x,by rw[A6];rfl,e,rfl⟩
  ·obtain⟨h1,y,h2,h3,h4⟩:=zrm h;refine⟨by omega,y,?_,h3,h4⟩;rw[show j-n=(j-(n+1))+1 by omega,Ar];exact h2
theorem zzr{k:Int}:∀ {E:List EN}{n:Nat},efind k E n=none↔k∉E.map (·.1)
 | [],n=>by simp[efind]
 |x::r,n=>by
  simp only[efind,At,Am,not_or];split
  ·rename_i e;simp[e]
  ·rename_i e;rw[zzr];exact⟨fun h=>⟨fun e2=>e e2.symm,h⟩,fun h=>h.2⟩
theorem zafg{k:Int}{E:List EN}:eget E k=none↔k∉E.map (·.1):=by
 rw[eget,Cv,zzr]
theorem zafh{k:Int}{y:EN}:∀ {E:List EN}{n:Nat},efind k (E++[y]) n=match efind k E n with|some p=>some p|none=>if y.1=k then some (n+E.length,y.2.1)else none
 | [],n=>by simp[efind]
 |x::r,n=>by
  simp only[Au,efind];split
  ·rfl
  ·rw[zafh];simp only[Ay];rw[show n+1+r.length=n+(r.length+1)by omega]
theorem zakf{k:Int}{y:EN}{E:List EN}:eget (E++[y]) k=match eget E k with|some p=>some p|none=>if y.1=k then some y.2.1 else none:=by
 unfold eget;rw[zafh];cases efind k E 0 with
 |some p=>rfl
 |none =>
  simp only[B7];split<;>rfl
theorem zxj{α β:Type}(f:α->β):∀(l:List α)(j:Nat),(l.map f).eraseIdx j=(l.eraseIdx j).map f
 | [],_=>rfl
 |x::r,0=>rfl
 |x::r,j+1=>by simp only[At,CV,zxj f r j]
section
variable {H:J2}{m:Nat}{E:List EN}{ck:Nat}{k:Int}
theorem zafi(hm:H[m]? = some (emap E ck))(z:IVal):lookupF true z kI (.map m) (J4 k) H=some (.tup [(eget E k).getD z, .p (.bool (eget E k).isSome)]):=by
 simp only[lookupF,evalOp,two,zon,Mem.get,hm,emap,zzq,eget];cases efind k E 0<;>rfl
theorem zama(hm:H[m]? = some (emap E ck))(z:IVal):lookupF false z kI (.map m) (J4 k) H=some ((eget E k).getD z):=by
 simp only[lookupF,evalOp,two,zon,Mem.get,hm,emap,zzq,eget];cases efind k E 0<;>rfl
theorem zava(hm:H[m]? = some (emap E ck))(hk:eget E k=none){v:IVal}(hv:v.passOK=true):mapUpdF kI (.map m) (J4 k) v H=some (.tup [],H.set m (emap (E++[(k,v,ck)]) (ck+1))):=by
 have h0:efind k E 0=none:=by
  unfold eget at hk;cases h:efind k E 0 with
  |none=>rfl
  |some p=>rw[h]at hk;cases hk
 simp only[mapUpdF,evalOp,three,zon,hv,Mem.get,hm,emap,zzq,h0,Mem.put,AN,AO,At,B4];rfl
theorem zafj(hm:H[m]? = some (emap E ck)){j:Nat}{x:EN}(hx:efind k E 0=some (j,x.2.1))(hj:E[j]? = some x){v:IVal}(hv:v.passOK=true):mapUpdF kI (.map m) (J4 k) v H=some (.tup [],H.set m (emap (E.set j (k,v,x.2.2)) ck)):=by
 have hmod:(E.map encE).modify j (fun e=>(IVal.p (.int .i64 k),v,e.2.2))=(E.set j (k,v,x.2.2)).map encE:=by
  apply Bd;intro i;rw[List.getElem?_modify,Ap,Ap,B5];by_cases e:j=i
  ·subst e;have hl:=(Aa.1 hj).1;simp[hj,hl,encE]
  ·simp[e]
 simp only[mapUpdF,evalOp,three,zon,hv,Mem.get,hm,emap,zzq,hx,Mem.put,AN,hmod]
end
structure NG where
 id:Int
 par:Int
 kind:Int
 name:Bytes
 text:Bytes
 attrs:List (Bytes×Bytes)
 kids:List Int
 ab:Option Nat
 av:IVal
 kb:Option Nat
 kv:IVal
def gcell(r:NG):J3:=[J4 r.id, J4 r.par, J4 r.kind, .p (.str r.name), .p (.str r.text),r.av, .p .nilslice,r.kv]
theorem zcs(r:NG):(gcell r).length=8:=rfl
def gcells:List NG->J3
 | []=>[]
 |r::N=>gcell r++gcells N
theorem zrn:∀N:List NG,(gcells N).length=N.length*8
 | []=>rfl
 |r::N=>by simp only[gcells,Ah,zcs,zrn N,Ay];omega
theorem zafk:∀ {N:List NG}{j f:Nat}{r:NG},N[j]? = some r->f<8->(gcells N)[j*8+f]? = (gcell r)[f]?
 | [],j,f,r,h,_=>by simp at h
 |r::N,0,f,r',h1,hf=>by
  rw[Az,Ai]at h1;subst h1;simp only[gcells,Ca,As];rw[Ac (by rw[zcs];exact hf)]
 |r::N,j+1,f,r',h1,hf=>by
  have:=zafk (f:=f) (N:=N) (j:=j) (by simpa using h1) hf;simp only[gcells];rw[Ad (by rw[zcs];omega),zcs,show(j+1)*8+f-8=j*8+f by omega,this]
theorem zpq:∀ {N:List NG}{j:Nat}{r:NG},N[j]? = some r->((gcells N).drop (j*8)).take 8=gcell r
 | [],j,r,h=>by simp at h
 |r::N,0,r',h1=>by
  rw[Az,Ai]at h1;subst h1;simp only[gcells,Ca,Bn];rw[show(8:Nat)=(gcell r).length from rfl,List.take_left]
 |r::N,j+1,r',h1=>by
  have:=zpq (N:=N) (j:=j) (by simpa using h1);simp only[gcells];rw[show(j+1)*8=(gcell r).length+j*8 by rw[zcs];omega,BY,Bh (by omega),A2,AT,this]
theorem zzs:∀ {N:List NG}{j f:Nat}{r r':NG}{v:IVal},N[j]? = some r->f<8->gcell r'=(gcell r).set f v->(gcells N).set (j*8+f) v=gcells (N.set j r')
 | [],j,f,r,r',v,h,_,_=>by simp at h
 |r::N,0,f,r1,r',v,h1,hf,he=>by
  rw[Az,Ai]at h1;subst h1;simp only[gcells,Ca,As,Bz];rw[BF _ _ (by rw[zcs];exact hf),he]
 |r::N,j+1,f,r1,r',v,h1,hf,he=>by
  have:=zzs (N:=N) (j:=j) (by simpa using h1) hf he;simp only[gcells,BP];rw[B9 _ _ (by rw[zcs];omega),zcs,show(j+1)*8+f-8=j*8+f by omega,this]
theorem zzt:∀(N M:List NG),gcells (N++M)=gcells N++gcells M
 | [],M=>rfl
 |r::N,M=>by simp only[Au,gcells,zzt N M,Ax]
theorem zro:∀ {N:List NG}{j:Nat}{r r':NG},N[j]? = some r->splice (gcells N) (j*8) (gcell r')=gcells (N.set j r')
 | [],j,r,r',h=>by simp at h
 |r::N,0,r1,r',h1=>by
  simp only[gcells,splice,Ca,Cb,AT,As,zcs,Bz];rw[show(8:Nat)=(gcell r).length from rfl,List.drop_left]
 |r::N,j+1,r1,r',h1=>by
  have:=zro (N:=N) (j:=j) (r':=r') (by simpa using h1);simp only[splice,zcs]at this;simp only[gcells,splice,zcs,BP]
  rw[show(j+1)*8=(gcell r).length+j*8 by rw[zcs];omega,Cr,Aq (by omega),A2,
   show(gcell r).length+j*8+8=(gcell r).length+(j*8+8)by omega,BY,Bh (by omega),A2,AT,Ax,this]
theorem zxk:∀(N:List NG)(m:Nat),(gcells N).take (m*8)=gcells (N.take m)
 | [],m=>by simp[gcells]
 |r::N,0=>by simp[gcells]
 |r::N,m+1=>by
  simp only[gcells,BG];rw[show(m+1)*8=(gcell r).length+m*8 by rw[zcs];omega,Cr,Aq (by omega),A2,zxk N m]
def kints(l:List Int):J3:=l.map fun n=>J4 n
structure GD(H:J2)(d mp:Nat)(o:Option Nat)(lv:IVal)(N:List NG)(E:List EN)(ck:Nat)(own:Nat->Option (Int×Bool)):Prop where
 hd:H[d]? = some (.cells [lv, .map mp] 2 0 false)
 hm:H[mp]? = some (emap E ck)
 hv:VS H o 8 N.length lv (gcells N)
 ha:∀r∈N,VS H r.ab 2 r.attrs.length r.av (pcells (acells r.attrs))
 hk:∀r∈N,VS H r.kb 1 r.kids.length r.kv (kints r.kids)
 oa:∀r∈N,∀b,r.ab=some b->own b=some (r.id,true)
 ok:∀r∈N,∀b,r.kb=some b->own b=some (r.id,false)
 od:own d=none
 om:own mp=none
 oo:∀b,o=some b->own b=none/\b≠d/\b≠mp
 dm:d≠mp
 nd:(N.map (·.id)).Nodup
 en:(E.map (·.1)).Nodup
 he:∀(i:Nat)(r:NG),N[i]? = some r->eget E r.id=some (J4 i)
 hn:∀k:Int,k∉N.map (·.id)->eget E k=none
section
variable {H:J2}{d mp:Nat}{o:Option Nat}{lv:IVal}{N:List NG}{E:List EN}{ck:Nat}{own:Nat->Option (Int×Bool)}
theorem zes(h:GD H d mp o lv N E ck own){i:Nat}{r:NG}(hr:N[i]? = some r) :
 ∃ob ver,o=some ob/\lv = .slice ob ver 0 N.length/\CW tz.look F_112 [J5 d 0 0, J4 r.id] H=some (J5 ob ver (i*8),H):=by
 have hi:=(Aa.1 hr).1;have hv:=h.hv
 obtain⟨ob,rfl⟩:∃ob,o=some ob:=by
  cases o with
  |none=>obtain⟨_,e,_⟩:=hv;omega
  |some ob=>exact⟨ob,rfl⟩
 obtain⟨ver,cs,op,hlv,hkk,hnn,hxs⟩:=hv;have l0:=zab (bx:=[]) (off:=0) h.hd rfl;have l1:=zab (bx:=[]) (off:=1) h.hd rfl;have y2:=zau (e:=8) (k:=ob) (v:=ver) (o:=0) hi;rw[As,<-hlv]at y2;have y3:=h.hv.up;have g1:=zafi (k:=r.id) h.hm (J4 0);rw[h.he i r hr]at g1;simp only[Bv,Option.isSome_some]at g1;refine⟨ob,ver,rfl,hlv,?_⟩
 obtain⟨r',H2,e1,e2,e3⟩:=zah (args:=[J5 d 0 0, J4 r.id]) (H:=H) (Q:=fun r' H2=>r' = J5 ob ver (i*8)/\H2=H) zjd rfl rfl (by
  dsimp only[zdv,zim]
  simp(disch:=omega) [l0,l1,y2,y3,g1])
 rw[e1,e2,e3]
theorem zkd(h:GD H d mp o lv N E ck own){k:Int}(hk:k∉N.map (·.id)):CW tz.look F_112 [J5 d 0 0, J4 k] H=some (.p .nilptr,H):=by
 have l1:=zab (bx:=[]) (off:=1) h.hd rfl;have g1:=zafi (k:=k) h.hm (J4 0);rw[h.hn k hk]at g1;simp only[C8,Option.isSome_none]at g1
 obtain⟨r',H2,e1,e2,e3⟩:=zah (args:=[J5 d 0 0, J4 k]) (H:=H) (Q:=fun r' H2=>r' = .p .nilptr/\H2=H) zjd rfl rfl (by
  dsimp only[zdv,zim]
  simp(disch:=omega) [l1,g1])
 rw[e1,e2,e3]
theorem GD.field(h:GD H d mp o lv N E ck own){ob ver:Nat}(hlv:lv = .slice ob ver 0 N.length)(ho:o=some ob){i f:Nat}{r:NG}(hr:N[i]? = some r){x:IVal}(hx:(gcell r)[f]? = some x):loadVal ⟨[],H⟩ none (J5 ob ver (i*8+f))=some x:=by
 have hv:=h.hv;subst ho hlv;have hf:f<8:=(Aa.1 hx).1;have hv:HS H ob 8 N.length (.slice ob ver 0 N.length) (gcells N):=hv;exact hv.field (by rw[zafk hr hf];exact hx)
theorem zzu(h:GD H d mp o lv N E ck own){i:Nat}{r:NG}(hr:N[i]? = some r):CW tz.look F_72 [J5 d 0 0, J4 r.id] H=some (J4 r.par,H):=by
 obtain⟨ob,ver,ho,hlv,c1⟩:=zes h hr;have f1:=h.field hlv ho hr (f:=1) rfl;have hn:evalNilPtr (J5 ob ver (i*8)) (.p .nilptr)=some false:=rfl
 obtain⟨r',H2,e1,e2,e3⟩:=zah (args:=[J5 d 0 0, J4 r.id]) (H:=H) (Q:=fun r' H2=>r' = J4 r.par/\H2=H) znz rfl rfl (by
  dsimp only[zea,zjy]
  simp(disch:=omega) [c1,f1,hn])
 rw[e1,e2,e3]
theorem zail(h:GD H d mp o lv N E ck own)(k:Int):CW tz.look F_113 [J5 d 0 0, J4 k] H=some (.p (.bool (decide (k∈N.map (·.id)))),H):=by
 by_cases hk:k∈N.map (·.id)
 ·obtain⟨r,hr,rfl⟩:=AZ.1 hk;obtain⟨i,hi⟩:=AJ.1 hr;obtain⟨ob,ver,ho,hlv,c1⟩:=zes h hi;have hn:evalNilPtr (J5 ob ver (i*8)) (.p .nilptr)=some false:=rfl
  obtain⟨r',H2,e1,e2,e3⟩:=zah (args:=[J5 d 0 0, J4 r.id]) (H:=H) (Q:=fun r' H2=>r' = .p (.bool (decide (r.id∈N.map (·.id))))/\H2=H) zkc rfl rfl (by
   dsimp only[zek,zjk];simp(disch:=omega) [c1,hn,negIf]
   exact⟨r,hr,rfl⟩)
  rw[e1,e2,e3]
 ·have c1:=zkd h hk;have hn:evalNilPtr (.p .nilptr) (.p .nilptr)=some true:=rfl;have hk2:decide (k∈N.map (·.id))=false:=decide_eq_false hk
  obtain⟨r',H2,e1,e2,e3⟩:=zah (args:=[J5 d 0 0, J4 k]) (H:=H) (Q:=fun r' H2=>r' = .p (.bool (decide (k∈N.map (·.id))))/\H2=H) zkc rfl rfl (by
   rw[hk2];dsimp only[zek,zjk]
   simp(disch:=omega) [c1,hn,negIf])
  rw[e1,e2,e3]
end
theorem VS.insert{H:J2}{o:Option Nat}{n:Nat}{v:IVal}{l:List Int}(h:VS H o 1 n v (kints l)){i:Nat}(hi:i<=n)(u:Int)(hb:n<1000000000) :
 ∃v' H2 o',insSpec [v, J4 i, .slice H.length 0 0 1] (H++[.cells [J4 u] 1 0 false])=some (v',H2)/\VS H2 o' 1 (n+1) v' (kints (l.take i++u::l.drop i))/\Keep (fun x=>o=some x) H H2/\H.length<H2.length/\(o'=o\/∃k,o'=some k/\H.length<=k)/\∃k,o'=some k:=by
 have hnew:(H++[IBlk.cells [J4 u] 1 0 false])[H.length]? = some (.cells [J4 u] 1 0 false):=zbb;cases o with
 |none =>
  obtain⟨rfl,rfl,hx⟩:=h;have hl:l=[]:=(by cases l with|nil=>rfl|cons a l=>simp[kints]at hx);subst hl;obtain rfl:i=0:=by omega
  refine⟨.slice (H.length+1) 0 0 1,H++[.cells [J4 u] 1 0 false]++[.cells [J4 u] 1 0 true],some (H.length+1),?_,⟨0,[J4 u],true,rfl,?_,by simp,by simp[kints]⟩,Keep.new.trans Keep.new,by simp, .inr ⟨_,rfl,by omega⟩,_,rfl⟩
  ·simp only[insSpec,hnew];simp;rfl
  ·have:(H++[IBlk.cells [J4 u] 1 0 false]++[IBlk.cells [J4 u] 1 0 true])[(H++[IBlk.cells [J4 u] 1 0 false]).length]? = some (IBlk.cells [J4 u] 1 0 true):=zbb
   simpa using this
 |some k =>
  obtain⟨ver,cs,op,rfl,hkk,hnn,hxs⟩:=h;have hkl:=(Aa.1 hkk).1;have hkk2:(H++[IBlk.cells [J4 u] 1 0 false])[k]? = some (.cells cs 1 ver op):=(by rw[Ac hkl];exact hkk);rw[Cf]at hxs hnn
  have hnum:∀l:List Int,allNum (kints l)=true:=fun l=>by
   induction l with
   |nil=>rfl
   |cons a l ih=>show allNum (J4 a::kints l)=true;rw[allNum,show isNumI (J4 a)=true from rfl];exact ih
  have h1:(Nat.beq ver ver&&Nat.beq 1 1)=true:=(by rw[AG];rfl)
  have h2:(Nat.ble (0+n) cs.length&&!(Nat.beq k H.length))=true:=by
   rw[As,AE hnn,zig,decide_eq_false (by omega:¬k=H.length)];rfl
  have h3:(decide (0<=(i:Int)/\(i:Int)<=(n:Int)/\(n:Int)<=4294967296)&&allNum ((cs.drop 0).take n))=true:=by
   rw[Bn,hxs,hnum,decide_eq_true (by omega)];rfl
  have hlen:(kints l).length=n:=(by rw[<- hxs,AD];omega);have hll:l.length=n:=(by simpa[kints]using hlen);refine⟨.slice k (ver+1) 0 (n+1),(H++[IBlk.cells [J4 u] 1 0 false]).set k (.cells ((kints l).take i++(J4 u::(kints l).drop i)) 1 (ver+1) true),some k,?_,⟨ver+1,_,true,rfl,zap (by simp;omega),?_,?_⟩,Keep.new.trans (Keep.set (.inl rfl)),by simp, .inl rfl,_,rfl⟩
  ·simp only[insSpec,hnew,hkk2,h2,AG,Cz,Bg,Az,Bn,hxs,CE];have h4:(decide (0<=(i:Int)/\(i:Int)<=(n:Int)/\n<=4294967296)&&allNum (kints l))=true:=(by rw[hnum,decide_eq_true (by omega)];rfl);rw[h4]
  ·simp[hlen];omega
  ·rw[Aq (by simp[hlen];omega)];simp[kints,List.map_take]
section
variable {H:J2}{d mp:Nat}{o:Option Nat}{lv:IVal}{N:List NG}{E:List EN}{ck:Nat}{own:Nat->Option (Int×Bool)}
def Chain(N:List NG):Int->List NG->Prop
 |k,[]=>k∉N.map (·.id)
 |k,r::l=>r∈N/\r.id=k/\Chain N r.par l
theorem zafl(h:GD H d mp o lv N E ck own){k:Int}{l:List NG}(hc:Chain N k l)(hl:l.length<1000000):CW tz.look F_115 [J5 d 0 0, J4 k] H=some (J4 l.length,H):=by
 obtain⟨r',H2,e1,e2,e3⟩:=zah (args:=[J5 d 0 0, J4 k]) (H:=H) (Q:=fun r' H2=>r' = J4 l.length/\H2=H) zpl rfl rfl (by
  dsimp only[zep,zln];simp(disch:=omega) [];refine zac (α:=Int×Nat) (fun a=>[(0, .v (J5 d 0 0)),(1, .int .i64 a.1),(5, .int .i64 a.2)]) (fun _=>⟨[],H⟩) (fun a=>∃m,Chain N a.1 m/\a.2+m.length=l.length) (fun a=>l.length-a.2) ?_ (k,0) ⟨l,hc,by simp⟩;rintro⟨a,n⟩⟨m,hm,hn⟩ R hR;dsimp only at hm hn;dsimp only[ziz];have h1:=zail h a;cases m with
  |nil =>
   have hm:a∉N.map (·.id):=hm;rw[decide_eq_false hm]at h1;have hn:n=l.length:=(by simpa using hn);subst hn;simp(disch:=omega) [h1]
  |cons r m =>
   obtain⟨g1,rfl,g3⟩:=hm;have hm:r.id∈N.map (·.id):=A3 g1;rw[decide_eq_true hm]at h1;obtain⟨i,hi⟩:=AJ.1 g1;have h2:=zzu h hi;simp only[Ay]at hn;simp(disch:=omega) [h1,h2,zaa]
   exact hR (r.par,n+1) ⟨m,g3,by dsimp only;omega⟩ (by dsimp only;omega))
 rw[e1,e2,e3]
theorem GD.upd(h:GD H d mp o lv N E ck own){ob ver:Nat}(hlv:lv = .slice ob ver 0 N.length)(hob:o=some ob){i:Nat}{r:NG}(hr:N[i]? = some r){S:Nat->Prop}{H2:J2}(k:Keep S H H2)(hS:∀x,S x->∃fl,own x=some (r.id,fl))
 {own2:Nat->Option (Int×Bool)}(ho2:∀x,x<H.length->own2 x=own x){f:Nat}{v:IVal}{r':NG}(hf:f<8)(he:gcell r'=(gcell r).set f v)(hid:r'.id=r.id)
 (ha:VS H2 r'.ab 2 r'.attrs.length r'.av (pcells (acells r'.attrs)))(hk:VS H2 r'.kb 1 r'.kids.length r'.kv (kints r'.kids))(oa:∀b,r'.ab=some b->own2 b=some (r.id,true))(ok:∀b,r'.kb=some b->own2 b=some (r.id,false)) :
 ∃b,writeCells ⟨[],H2⟩ (J5 ob ver (i*8+f)) [v]=some ⟨[],H2.set ob b⟩/\GD (H2.set ob b) d mp o lv (N.set i r') E ck own2:=by
 have hi:=(Aa.1 hr).1;subst hob hlv;have hv:HS H ob 8 N.length (.slice ob ver 0 N.length) (gcells N):=h.hv;obtain⟨q1,q2,q3⟩:=h.oo ob rfl;have hdl:=(Aa.1 h.hd).1;have hml:=(Aa.1 h.hm).1;have hobl:=hv.lt;have nS:∀x,own x=none->¬S x:=fun x hx hs=>by obtain⟨fl,e⟩:=hS x hs;rw[hx]at e;cases e
 have hv2:HS H2 ob 8 N.length (.slice ob ver 0 N.length) (gcells N):=hv.keep (k.2 ob hobl (nS ob q1));obtain⟨b,w1,w2⟩:=hv2.store (bx:=[]) (off:=i*8+f) (new:=[v]) (by simp;omega);rw[zey (by rw[zrn];omega),zzs hr hf he]at w2;have k3:Keep (fun z=>z=ob) H2 (H2.set ob b):=Keep.set (.inl rfl);have hlen:(N.set i r').length=N.length:=AC ..
 have hids:(N.set i r').map (·.id)=N.map (·.id):=by
  apply Bd;intro j;rw[Ap,Ap,B5];by_cases e:i=j
  ·subst e;simp[hi,hr,hid]
  ·simp[e]
 have uniq:∀(j:Nat)(s:NG),N[j]? = some s->s.id=r.id->j=i:=fun j s hs e=>by
  have e1:=h.he j s hs;have e2:=h.he i r hr;rw[e,e2]at e1;injection e1 with e1;injection e1 with e1;injection e1 with _ e1;omega
 have rows:∀(P:NG->Prop),P r'->(∀(j:Nat)(s:NG),N[j]? = some s->s.id≠r.id->P s)->∀s∈N.set i r',P s:=by
  intro P h1 h2 s hs;obtain⟨j,hj⟩:=AJ.1 hs;by_cases e:i=j
  ·subst e;rw[AQ hi]at hj;injection hj with hj;rw[<- hj];exact h1
  ·rw[Ag e]at hj;exact h2 j s hj fun e2=>e (uniq j s hj e2).symm
 have hno:∀z y,own2 z=some y->z≠ob:=fun z y hz e=>by rw[e,ho2 ob hobl,q1]at hz;cases hz
 refine⟨b,w1,?_⟩
 exact {
  hd:=by rw[k3.2 d (by have:=k.1;omega) (fun e=>q2 e.symm),k.2 d hdl (nS d h.od)];exact h.hd
  hm:=by rw[k3.2 mp (by have:=k.1;omega) (fun e=>q3 e.symm),k.2 mp hml (nS mp h.om)];exact h.hm
  hv:=by rw[hlen];exact w2
  ha:=rows _ (ha.keep k3 fun z hz=>hno z _ (oa z hz)) fun j s hs hne=>by
   have hm:=Al hs;refine((h.ha s hm).keep k fun z hz hc=>?_).keep k3 fun z hz=>?_
   ·obtain⟨fl,e⟩:=hS z hc;rw[h.oa s hm z hz]at e;injection e with e;injection e with e _;exact hne e
   ·intro e;have:=h.oa s hm z hz;rw[e,q1]at this;cases this
  hk:=rows _ (hk.keep k3 fun z hz=>hno z _ (ok z hz)) fun j s hs hne=>by
   have hm:=Al hs;refine((h.hk s hm).keep k fun z hz hc=>?_).keep k3 fun z hz=>?_
   ·obtain⟨fl,e⟩:=hS z hc;rw[h.ok s hm z hz]at e;injection e with e;injection e with e _;exact hne e
   ·intro e;have:=h.ok s hm z hz;rw[e,q1]at this;cases this
  oa:=rows _ (by rw[hid];exact oa) fun j s hs hne z hz=>by
   have hm:=Al hs;have hvs:=h.ha s hm;rw[hz]at hvs;rw[ho2 z hvs.lt];exact h.oa s hm z hz
  ok:=rows _ (by rw[hid];exact ok) fun j s hs hne z hz=>by
   have hm:=Al hs;have hvs:=h.hk s hm;rw[hz]at hvs;rw[ho2 z hvs.lt];exact h.ok s hm z hz
  od:=by rw[ho2 d hdl];exact h.od
  om:=by rw[ho2 mp hml];exact h.om
  oo:=fun z hz=>by injection hz with hz;subst hz;rw[ho2 _ hobl];exact h.oo _ rfl
  dm:=h.dm
  nd:=by rw[hids];exact h.nd
  en:=h.en
  he:=fun j s hs=>by
   by_cases e:i=j
   ·subst e;rw[AQ hi]at hs;injection hs with hs;rw[<- hs,hid];exact h.he i r hr
   ·rw[Ag e]at hs;exact h.he j s hs
  hn:=by rw[hids];exact h.hn }
end
section
variable {H:J2}{d mp:Nat}{o:Option Nat}{lv:IVal}{N:List NG}{E:List EN}{ck:Nat}{own:Nat->Option (Int×Bool)}
def holdsB(r:NG)(kind:Int):Bool:=decide (r.kind=1)||(decide (r.kind=2)&&decide (kind≠5))
theorem zafm(h:GD H d mp o lv N E ck own){ob ver:Nat}(hlv:lv = .slice ob ver 0 N.length)(ho:o=some ob){i:Nat}{r:NG}(hr:N[i]? = some r)(kind:Int) :
 CW tz.look F_114 [J5 ob ver (i*8), J4 kind] H=some (.p (.bool (holdsB r kind)),H):=by
 have f1:=h.field hlv ho hr (f:=2) rfl
 obtain⟨r',H2,e1,e2,e3⟩:=zah (args:=[J5 ob ver (i*8), J4 kind]) (H:=H) (Q:=fun r' H2=>r' = .p (.bool (holdsB r kind))/\H2=H) zoa rfl rfl (by
  dsimp only[zeb,zjz];unfold holdsB;by_cases h1:r.kind=1
  ·simp(disch:=omega) [f1,h1]
  ·by_cases h2:r.kind=2
   ·simp(disch:=omega) [f1,h2]
   ·simp(disch:=omega) [f1,h1,h2])
 rw[e1,e2,e3]
end
section
variable {H:J2}
theorem evApp0{bx:List (Nat×IBlk)}{k e ver:Nat}{cs:J3}{op:Bool}{y:IVal}(hk:H[k]? = some (.cells cs e ver op))(hy:srcCells ⟨bx,H⟩ e y=some [])(hl:srcLen y=some 0):evalAppend ⟨bx,H⟩ e (.slice k ver 0 0) y=some (.slice k ver 0 0,⟨bx,H⟩):=by
 have h1:Nat.ble (0+0) maxAppend=true:=rfl
 have h2:(Nat.beq ver ver&&Nat.beq e e&&Nat.ble (0+0*e) cs.length)=true:=by
  rw[AG,AG,Ca];simp
 simp only[evalAppend,evalAppend0,hy,hl,sliceLen,h1,Mem.get,hk,h2]
theorem ztt{x y:IBlk}{S:Nat->Prop}:Keep S H ((H++[x]).set H.length y):=⟨by simp,fun i hi _=>by rw[Ag (by omega),Ac hi]⟩
theorem zamb(a:Attrs):(pcells (acells a)).length=a.length*2:=by rw[pcells,AW,zfe]
theorem cloneZ(a:Option Attrs)(ha:(alist a).length<1000000)(H:J2):∃H' v ab,CW tz.look F_64 [.p (aval a)] H=some (v,H')/\VS H' ab 2 (alist a).length v (pcells (acells (alist a)))/\Keep (fun _=>False) H H'/\(∀ b,ab=some b->H.length<=b):=by
 cases a with
 |none =>
  have h1:evalNilSl (.p (aval none)) (.p .nilslice)=some true:=rfl
  obtain⟨r,H',e1,rfl,rfl⟩:=zah (args:=[.p (aval none)]) (H:=H) (Q:=fun r H'=>r = .p .nilslice/\H'=H) zam rfl rfl (by
   dsimp only[zaf,zak]
   simp(disch:=omega) [h1])
  exact⟨H',_,none,e1,VS.nil,Keep.refl,fun b e=>by cases e⟩
 |some l =>
  have h1:evalNilSl (.p (aval (some l))) (.p .nilslice)=some false:=rfl;simp only[alist,Bv]at ha ⊢;have hnew:(H++[IBlk.cells [] 2 0 false])[H.length]? = some (.cells [] 2 0 false):=zbb;by_cases h0:l=[]
  ·subst h0;have h2:evalAppend ⟨[],H++[.cells [] 2 0 false]⟩ 2 (.slice H.length 0 0 0) (.p (aval (some [])))=some (.slice H.length 0 0 0,⟨[],H++[.cells [] 2 0 false]⟩):=evApp0 hnew rfl rfl
   obtain⟨r,H',e1,rfl,rfl⟩:=zah (args:=[.p (aval (some []))]) (H:=H) (Q:=fun r H'=>r = .slice H.length 0 0 0/\H'=H++[IBlk.cells [] 2 0 false]) zam rfl rfl (by
    dsimp only[zaf,zak]
    simp(disch:=omega) [h1,h2])
   exact⟨_,_,some H.length,e1,⟨0,[],false,rfl,hnew,by simp,rfl⟩,Keep.new,fun b e=>by injection e with e;omega⟩
  ·have hpos:0<l.length:=Dg.2 h0;have hlen:=zfe l;have h2:=zcb (bx:=[]) (H:=H++[.cells [] 2 0 false]) (k:=H.length) (n:=0) (ver:=0) (op:=false) (cs:=[]) (esz:=2) (y := .p (aval (some l))) (ys:=pcells (acells l)) (ny:=l.length) hnew (by simp) rfl rfl hpos (by omega);rw[As]at h2;have hs:=zlc (H:=H++[.cells [] 2 0 false]) (k:=H.length) (n:=0) (ver:=0) (op:=false) (cs:=[]) (esz:=2) (ys:=pcells (acells l)) (ny:=l.length) (by simp) (by simp) (zamb l);simp only[List.take_nil,AT,As]at hs
   obtain⟨r,H',e1,rfl,rfl⟩:=zah (args:=[.p (aval (some l))]) (H:=H) (Q:=fun r H'=>r = .slice H.length (appVer [] 2 0 l.length 0) 0 l.length/\H'=(H++[IBlk.cells [] 2 0 false]).set H.length (appBlk [] (pcells (acells l)) 2 0 l.length 0 false)) zam rfl rfl (by
    dsimp only[zaf,zak]
    simp(disch:=omega) [h1,h2])
   exact⟨_,_,some H.length,e1,hs,ztt,fun b e=>by injection e with e;omega⟩
theorem zbhd{bx:List (Nat×IBlk)}{k e n:Nat}{v:IVal}{X:J3}(h:HS H k e n v X):srcCells ⟨bx,H⟩ e v=some X/\srcLen v=some n:=by
 obtain⟨ver,cs,op,rfl,hk,hn,hx⟩:=h
 have h2:(Nat.beq ver ver&&Nat.beq e e&&Nat.ble (0+n*e) cs.length)=true:=by
  rw[AG,AG,As,AE hn];rfl
 refine⟨?_,rfl⟩;simp only[srcCells,Mem.get,hk,h2,Bn,hx]
theorem zaqh{o:Option Nat}{n:Nat}{v:IVal}{X:J3}(h:VS H o 2 n v X)(hn:n<1000000):∃H' w ab,CW tz.look F_64 [v] H=some (w,H')/\VS H' ab 2 n w X/\Keep (fun _=>False) H H'/\(∀ b,ab=some b->H.length<=b):=by
 cases o with
 |none =>
  obtain⟨rfl,rfl,rfl⟩:=h;have h1:evalNilSl (.p .nilslice) (.p .nilslice)=some true:=rfl
  obtain⟨r,H',e1,rfl,rfl⟩:=zah (args:=[.p .nilslice]) (H:=H) (Q:=fun r H'=>r = .p .nilslice/\H'=H) zam rfl rfl (by
   dsimp only[zaf,zak]
   simp(disch:=omega) [h1])
  exact⟨H',_,none,e1,VS.nil,Keep.refl,fun b e=>by cases e⟩
 |some k =>
  have hh:HS H k 2 n v X:=h;have hnew:(H++[IBlk.cells [] 2 0 false])[H.length]? = some (.cells [] 2 0 false):=zbb;have hh2:HS (H++[IBlk.cells [] 2 0 false]) k 2 n v X:=hh.keep (Ac hh.lt);have hxl:=hh.xlen;obtain⟨s1,s2⟩:=zbhd (bx:=[]) hh2;have hup:=h.up;have hpass:=h.pass;have h1:evalNilSl v (.p .nilslice)=some false:=(by obtain⟨ver,cs,op,rfl,_⟩:=hh;rfl);by_cases h0:n=0
  ·subst h0;have hX:X=[]:=Av.1 (by omega);subst hX;have h2:=evApp0 hnew s1 s2
   obtain⟨r,H',e1,rfl,rfl⟩:=zah (args:=[v]) (H:=H) (Q:=fun r H'=>r = .slice H.length 0 0 0/\H'=H++[IBlk.cells [] 2 0 false]) zam rfl rfl (by
    dsimp only[zaf,zak]
    simp(disch:=omega) [h1,h2,hup])
   exact⟨_,_,some H.length,e1,⟨0,[],false,rfl,hnew,by simp,rfl⟩,Keep.new,fun b e=>by injection e with e;omega⟩
  ·have h2:=zcb (bx:=[]) (H:=H++[IBlk.cells [] 2 0 false]) (k:=H.length) (n:=0) (ver:=0) (op:=false) (cs:=[]) (esz:=2) (y:=v) (ys:=X) (ny:=n) hnew (by simp) s1 s2 (by omega) (by omega);rw[As]at h2;have hs:=zlc (H:=H++[IBlk.cells [] 2 0 false]) (k:=H.length) (n:=0) (ver:=0) (op:=false) (cs:=[]) (esz:=2) (ys:=X) (ny:=n) (by simp) (by simp) hxl;simp only[List.take_nil,AT,As]at hs
   obtain⟨r,H',e1,rfl,rfl⟩:=zah (args:=[v]) (H:=H) (Q:=fun r H'=>r = .slice H.length (appVer [] 2 0 n 0) 0 n/\H'=(H++[IBlk.cells [] 2 0 false]).set H.length (appBlk [] X 2 0 n 0 false)) zam rfl rfl (by
    dsimp only[zaf,zak]
    simp(disch:=omega) [h1,h2,hup])
   exact⟨_,_,some H.length,e1,hs,ztt,fun b e=>by injection e with e;omega⟩
end
end Go.Ideal
