/-
  THE FUNCTIONS OF THIS SEAT, OVER LEAN's OWN VARIABLES: printed by a program of the prover's own out of the ideal program.
-/
import Derived.Test.YtcicccnimohlaaaGreatW3
import Derived.Test.YtcicccnimohlaaaGreatW6
namespace Go.Ideal
open Go Go.Proofs
set_option maxRecDepth 100000
noncomputable def ztk:List IVal→HC XF:=x0 (
.op (zad (.p (.func 1)) []) fun _ =>
.fin .ret [])
noncomputable def zid:HFun:=⟨0,ztk,[],true⟩
theorem zps:HOK tr.look F_Q2 zid:=⟨i_Q2, .lf,[],look_Q2,rfl,rfl,rfl,rfl,rfl,by kernel_rfl⟩
noncomputable def zbf (u v:Bool):List IVal→HC XF:=xv fun a0=>xv fun a1=>xv fun a2=>x0 (
.op (zad (.p (.func F_Q5)) [a0,(.p (.int .i64 8))]) fun a3 =>
.op (x_add (.p (.int .i64 1)) a3) fun a4 =>
.fresh [8] [a4,a4,a3,a0,(.p (.bool false)),a0,a1,a2] <|
.op (zaj [(.int .i64 0),(.str []),(.str []), .nilslice, .nilslice] [(0,1,(.p (.int .i64 1)))]) fun a5 =>
.op (zai (some 8) [(.int .i64 0),(.str []),(.str []), .nilslice, .nilslice]) fun a6 =>
.op (zae 5 a6 a5) fun _ =>
.block 1 (.loop [(.p (.int .i64 0)),a6,a1,a4,a2] <| xv fun a8=>xv fun a9=>xv fun a10=>xv fun a11=>xv fun a12=>x0 (
.op (x_lss a8 a11) fun a13 =>
.cond a13 (.block 2 (.op (zaa 4 a9) fun a14 =>
.op (zab none a14) fun a15 =>
.op (x_add a8 (.p (.int .i64 1))) fun a16 =>
.op (zgs (.p (.str [97,98,99,100,101,102,103,104])) (some a8) (some a16)) fun a17 =>
.op (zaj [(.str []),(.str [])] [(0,1,(.p (.str [120]))),(1,1,(.p (.str [118])))]) fun a18 =>
.op (zaf 2 1 [(.str []),(.str [])] [(0,2,a18)]) fun a19 =>
.op (zaj [(.int .i64 0),(.str []),(.str []), .nilslice, .nilslice] [(0,1,(.p (.int .i64 3))),(2,1,(.p (.str [116])))]) fun a20 =>
.op (zaf 5 1 [(.int .i64 0),(.str []),(.str []), .nilslice, .nilslice] [(0,5,a20)]) fun a21 =>
.op (zaj [(.int .i64 0),(.str []),(.str []), .nilslice, .nilslice] [(0,1,(.p (.int .i64 2))),(1,1,a17),(3,1,a19),(4,1,a21)]) fun a22 =>
.op (zaf 5 1 [(.int .i64 0),(.str []),(.str []), .nilslice, .nilslice] [(0,5,a22)]) fun a23 =>
.op (zal 5 (.const a15) (.const a23)) fun a24 =>
.op (zaa 4 a9) fun a25 =>
.op (zae 1 a25 a24) fun _ =>
.fin .normal [a8,a9,a10,a11,a12]) <| xv fun a27=>xv fun a28=>xv fun a29=>xv fun a30=>xv fun a31=>x0 (
.op (x_add a27 (.p (.int .i64 1))) fun a32 =>
.fin .normal [a32,a28,a29,a30,a31])) <|
.fin (.exit 1) [a10,a11,a12,a9])) <| xv fun a33=>xv fun a34=>xv fun a35=>xv fun a36=>x0 (
.fresh [10] [a33,a34,a35,a36] <|
.op (zab (some 5) a36) fun a37 =>
.op (zad (.p (.func F_Q6)) [a37]) fun a38 =>
.op (zai (some 10) [(.int .i64 0),(.str []),(.str []), .nilslice, .nilslice]) fun a39 =>
.op (zae 5 a39 a38) fun _ =>
.op (zad (.p (.func F_Q5)) [a33,a34]) fun a41 =>
.op (zad (.p (.func F_Q5)) [a35,(.p (.int .i64 5))]) fun a42 =>
.block 3 (.op (x_eql a42 (.p (.int .i64 0))) fun a43 =>
.block 0 (.cond a43 (.op (zaa 4 a39) fun a44 =>
.op (zab none a44) fun a45 =>
.op (zac 5 a45 a41) fun a46 =>
.op (zaa 4 a46) fun a47 =>
.op (zab none a47) fun a48 =>
.op (zac 5 a48 (.p (.int .i64 0))) fun a49 =>
.op (zaa 2 a49) fun a50 =>
.op (zae 1 a50 (.p (.str [117]))) fun _ =>
.fin .normal [a36,a39,(.p (.int .i64 6))]) <|
.op (x_eql a42 (.p (.int .i64 1))) fun a52 =>
.block 0 (.cond a52 (.op (zaa 4 a39) fun a53 =>
.op (zab none a53) fun a54 =>
.op (zac 5 a54 a41) fun a55 =>
.op (zaa 3 a55) fun a56 =>
.op (zab none a56) fun a57 =>
.op (zac 2 a57 (.p (.int .i64 0))) fun a58 =>
.op (zaa 1 a58) fun a59 =>
.op (zae 1 a59 (.p (.str [119]))) fun _ =>
.fin .normal [a36,a39,(.p (.int .i64 4))]) <|
.op (x_eql a42 (.p (.int .i64 2))) fun a61 =>
.block 0 (.cond a61 (.op (zaa 4 a39) fun a62 =>
.op (zab none a62) fun a63 =>
.op (zac 5 a63 a41) fun a64 =>
.op (zaa 3 a64) fun a65 =>
.op (zae 1 a65 (.p .nilslice)) fun _ =>
.fin .normal [a36,a39,(.p (.int .i64 5))]) <|
.op (x_eql a42 (.p (.int .i64 3))) fun a67 =>
.block 0 (.cond a67 (.op (zaa 4 a39) fun a68 =>
.op (zab none a68) fun a69 =>
.op (zac 5 a69 a41) fun a70 =>
.op (zaa 4 a70) fun a71 =>
.op (zae 1 a71 (.p .nilslice)) fun _ =>
.fin .normal [a36,a39,(.p (.int .i64 2))]) <|
.fresh [45] [a67,a67,a61,a61,a52,a52,a43,a43,a42,a35,(.p (.int .i64 0)),a41,a41,a34,a33,a39,a38,a37,a33,a34,a35,a36] <|
.op (zai (some 45) [(.bool false)]) fun a73 =>
.op (zae 1 a73 (.p (.bool u))) fun _ =>
.op (zae 1 a73 (.p (.bool v))) fun _ =>
.op (zab none a73) fun a76 =>
.block 0 (.cond a76 (.op (zaa 4 a39) fun a77 =>
.op (zab none a77) fun a78 =>
.op (zac 5 a78 a41) fun a79 =>
.op (zaa 4 a79) fun a80 =>
.op (zab none a80) fun a81 =>
.op (zaj [(.int .i64 0),(.str []),(.str []), .nilslice, .nilslice] [(0,1,(.p (.int .i64 4))),(2,1,(.p (.str [99])))]) fun a82 =>
.op (x_len a81) fun a83 =>
.op (zaf 5 1 [(.int .i64 0),(.str []),(.str []), .nilslice, .nilslice] [(0,5,(.agg [(.p (.int .i64 0)),(.p (.str [])),(.p (.str [])),(.p .nilslice),(.p .nilslice)]))]) fun a84 =>
.op (zal 5 (.const a81) (.const a84)) fun a85 =>
.op (zac 5 a78 a41) fun a86 =>
.op (zaa 4 a86) fun a87 =>
.op (zae 1 a87 a85) fun _ =>
.op (zac 5 a85 a83) fun a89 =>
.op (zae 5 a89 a82) fun _ =>
.fin .normal [a36,a39]) <|
.op (zaa 4 a39) fun a91 =>
.op (zab none a91) fun a92 =>
.op (zaa 4 a39) fun a93 =>
.op (zab none a93) fun a94 =>
.op (zac 5 a94 a41) fun a95 =>
.op (zaa 4 a95) fun a96 =>
.op (zab none a96) fun a97 =>
.op (zaj [(.int .i64 0),(.str []),(.str []), .nilslice, .nilslice] [(0,1,(.p (.int .i64 4))),(2,1,(.p (.str [99])))]) fun a98 =>
.op (zaf 5 1 [(.int .i64 0),(.str []),(.str []), .nilslice, .nilslice] [(0,5,a98)]) fun a99 =>
.op (zal 5 (.const a97) (.const a99)) fun a100 =>
.op (zac 5 a92 a41) fun a101 =>
.op (zaa 4 a101) fun a102 =>
.chk (.load none (.const a91)) a92 <|
.op (zae 1 a102 a100) fun _ =>
.fin .normal [a36,a39]) <| xv fun a104=>xv fun a105=>x0 (
.fin .normal [a104,a105,(.p (.int .i64 1))])) <| xv fun a106=>xv fun a107=>xv fun a108=>x0 (
.fin .normal [a106,a107,a108])) <| xv fun a109=>xv fun a110=>xv fun a111=>x0 (
.fin .normal [a109,a110,a111])) <| xv fun a112=>xv fun a113=>xv fun a114=>x0 (
.fin .normal [a112,a113,a114])) <| xv fun a115=>xv fun a116=>xv fun a117=>x0 (
.fin .normal [a115,a116,a117])) <| xv fun a118=>xv fun a119=>xv fun a120=>x0 (
.op (zab (some 5) a118) fun a121 =>
.op (zab (some 5) a119) fun a122 =>
.op (zad (.p (.func F_Q7)) [a121,a122]) fun a123 =>
.op (zag a123 0) fun a124 =>
.op (zag a123 1) fun a125 =>
.op (x_eql a125 (.p (.int .i64 0))) fun a126 =>
.opg a126 true (x_mov a124) fun a127 =>
.opg a126 true (x_len a127) fun a128 =>
.opg a126 true (x_eql a128 (.p (.int .i64 1))) fun a129 =>
.op (zah a126 a129 (.p (.bool false))) fun a130 =>
.opg a130 true (x_mov a124) fun a131 =>
.opg a130 true (zac 7 a131 (.p (.int .i64 0))) fun a132 =>
.opg a130 true (zaa 0 a132) fun a133 =>
.opg a130 true (zab none a133) fun a134 =>
.opg a130 true (x_mov a120) fun a135 =>
.opg a130 true (x_eql a134 a135) fun a136 =>
.op (zah a130 a136 (.p (.bool false))) fun a137 =>
.opg a137 true (zad (.p (.func F_Q8)) []) fun a138 =>
.op (zah a137 a138 (.p (.bool false))) fun a139 =>
.fin .ret [a139])))
noncomputable def zga (u v:Bool):HFun:=⟨3,zbf u v,[.tmp 6],true⟩
theorem zik:HOK (fun _=>some (i_Q3 0)) F_Q3 (zga true false):=⟨_,(.sq .lf (.sq .lf (.sq .lf (.sq (.sq .lf (.bk [1,7,2,8] (.lp [9,8,1,7,2] (.sq (.sq .lf (.cj .lf .lf)) (.sq (.bk [9,8,1,7,2] .lf) .lf))))) (.sq .lf (.sq .lf (.sq .lf (.sq (.sq .lf (.bk [8,10,12] (.sq .lf (.cd [8,10,12] (.sq .lf .lf) (.sq .lf (.cd [8,10,12] (.sq .lf .lf) (.sq .lf (.cd [8,10,12] (.sq .lf .lf) (.sq .lf (.cd [8,10,12] (.sq .lf .lf) (.sq (.sq .lf (.cd [8,10] (.sq .lf .lf) .lf)) .lf))))))))))) (.sq .lf (.sq .lf .lf)))))))))),[],rfl,rfl,rfl,rfl,rfl,rfl,by kernel_rfl⟩
theorem zil:HOK (fun _=>some (i_Q3 1)) F_Q3 (zga false true):=⟨_,(.sq .lf (.sq .lf (.sq .lf (.sq (.sq .lf (.bk [1,7,2,8] (.lp [9,8,1,7,2] (.sq (.sq .lf (.cj .lf .lf)) (.sq (.bk [9,8,1,7,2] .lf) .lf))))) (.sq .lf (.sq .lf (.sq .lf (.sq (.sq .lf (.bk [8,10,12] (.sq .lf (.cd [8,10,12] (.sq .lf .lf) (.sq .lf (.cd [8,10,12] (.sq .lf .lf) (.sq .lf (.cd [8,10,12] (.sq .lf .lf) (.sq .lf (.cd [8,10,12] (.sq .lf .lf) (.sq (.sq .lf (.cd [8,10] (.sq .lf .lf) .lf)) .lf))))))))))) (.sq .lf (.sq .lf .lf)))))))))),[],rfl,rfl,rfl,rfl,rfl,rfl,by kernel_rfl⟩
noncomputable def zoe:List IVal→HC XF:=xv fun a0=>xv fun a1=>xv fun a2=>x0 (
.op (zad (.p (.func F_Q5)) [a0,(.p (.int .i64 7))]) fun a3 =>
.op (x_add (.p (.int .i64 2)) a3) fun a4 =>
.fresh [8] [a4,a4,a3,a0,(.p (.bool false)),a0,a1,a2] <|
.op (zaj [(.int .i64 0),(.str []),(.str []), .nilslice, .nilslice] [(0,1,(.p (.int .i64 1)))]) fun a5 =>
.op (zai (some 8) [(.int .i64 0),(.str []),(.str []), .nilslice, .nilslice]) fun a6 =>
.op (zae 5 a6 a5) fun _ =>
.block 1 (.loop [(.p (.int .i64 0)),a6,a1,a2,a4] <| xv fun a8=>xv fun a9=>xv fun a10=>xv fun a11=>xv fun a12=>x0 (
.op (x_lss a8 a12) fun a13 =>
.cond a13 (.block 2 (.op (zaa 4 a9) fun a14 =>
.op (zab none a14) fun a15 =>
.op (x_add a8 (.p (.int .i64 1))) fun a16 =>
.op (zgs (.p (.str [97,98,99,100,101,102,103,104,105])) (some a8) (some a16)) fun a17 =>
.op (zaj [(.int .i64 0),(.str []),(.str []), .nilslice, .nilslice] [(0,1,(.p (.int .i64 3))),(2,1,(.p (.str [116])))]) fun a18 =>
.op (zaf 5 1 [(.int .i64 0),(.str []),(.str []), .nilslice, .nilslice] [(0,5,a18)]) fun a19 =>
.op (zaj [(.int .i64 0),(.str []),(.str []), .nilslice, .nilslice] [(0,1,(.p (.int .i64 2))),(1,1,a17),(4,1,a19)]) fun a20 =>
.op (zaf 5 1 [(.int .i64 0),(.str []),(.str []), .nilslice, .nilslice] [(0,5,a20)]) fun a21 =>
.op (zal 5 (.const a15) (.const a21)) fun a22 =>
.op (zaa 4 a9) fun a23 =>
.op (zae 1 a23 a22) fun _ =>
.fin .normal [a8,a9,a10,a11,a12]) <| xv fun a25=>xv fun a26=>xv fun a27=>xv fun a28=>xv fun a29=>x0 (
.op (x_add a25 (.p (.int .i64 1))) fun a30 =>
.fin .normal [a30,a26,a27,a28,a29])) <|
.fin (.exit 1) [a10,a11,a9,a12])) <| xv fun a31=>xv fun a32=>xv fun a33=>xv fun a34=>x0 (
.op (zad (.p (.func F_Q5)) [a31,a34]) fun a35 =>
.op (zad (.p (.func F_Q5)) [a32,a34]) fun a36 =>
.fresh [12] [a36,a35,a36,a34,a32,a35,a34,a31,a31,a32,a33,a34] <|
.op (zab (some 5) a33) fun a37 =>
.op (zad (.p (.func F_Q6)) [a37]) fun a38 =>
.op (zai (some 12) [(.int .i64 0),(.str []),(.str []), .nilslice, .nilslice]) fun a39 =>
.op (zae 5 a39 a38) fun _ =>
.fresh [13] [a39,a38,a37,a36,a35,a36,a34,a32,a35,a34,a31,a31,a32,a33,a34] <|
.op (zaa 4 a39) fun a41 =>
.op (zab none a41) fun a42 =>
.op (zac 5 a42 a35) fun a43 =>
.op (zab (some 5) a43) fun a44 =>
.op (zai (some 13) [(.int .i64 0),(.str []),(.str []), .nilslice, .nilslice]) fun a45 =>
.op (zae 5 a45 a44) fun _ =>
.op (zaa 4 a39) fun a47 =>
.op (zab none a47) fun a48 =>
.op (zaq 5 a48 none (some a35)) fun a49 =>
.op (zaa 4 a39) fun a50 =>
.op (zab none a50) fun a51 =>
.op (x_add a35 (.p (.int .i64 1))) fun a52 =>
.op (zaq 5 a51 (some a52) none) fun a53 =>
.op (zal 5 (.const (.p .nilslice)) (.const a49)) fun a54 =>
.chk (.load none (.const a50)) a51 <|
.chk (.sliceSl 5 (.const a51) (some (.const a52)) none) a53 <|
.op (zal 5 (.const a54) (.const a53)) fun a55 =>
.op (zaq 5 a55 none (some a36)) fun a56 =>
.op (zab (some 5) a45) fun a57 =>
.op (zaf 5 1 [(.int .i64 0),(.str []),(.str []), .nilslice, .nilslice] [(0,5,a57)]) fun a58 =>
.op (zaq 5 a55 (some a36) none) fun a59 =>
.op (zal 5 (.const (.p .nilslice)) (.const a56)) fun a60 =>
.chk (.load (some 5) (.const a45)) a57 <|
.chk (.buildSlice 5 1 [(.int .i64 0),(.str []),(.str []), .nilslice, .nilslice] [(0,5,(.const a57))]) a58 <|
.chk (.sliceSl 5 (.const a55) (some (.const a36)) none) a59 <|
.op (zal 5 (.const a60) (.const a58)) fun a61 =>
.chk (.sliceSl 5 (.const a55) (some (.const a36)) none) a59 <|
.op (zal 5 (.const a61) (.const a59)) fun a62 =>
.op (zaa 4 a39) fun a63 =>
.op (zae 1 a63 a62) fun _ =>
.op (zab (some 5) a33) fun a65 =>
.op (zab (some 5) a39) fun a66 =>
.op (zad (.p (.func F_Q7)) [a65,a66]) fun a67 =>
.op (zag a67 0) fun a68 =>
.op (zag a67 1) fun a69 =>
.block 3 (.loop [(.p (.int .i64 0)),a68,a69,a34,a35,a36] <| xv fun a70=>xv fun a71=>xv fun a72=>xv fun a73=>xv fun a74=>xv fun a75=>x0 (
.op (x_len a71) fun a76 =>
.op (x_lss a70 a76) fun a77 =>
.cond a77 (.block 4 (.op (zac 7 a71 a70) fun a78 =>
.op (zaa 0 a78) fun a79 =>
.op (zab none a79) fun a80 =>
.op (x_neq a80 (.p (.int .i64 3))) fun a81 =>
.opg a81 false (x_mov a71) fun a82 =>
.opg a81 false (x_mov a70) fun a83 =>
.opg a81 false (zac 7 a82 a83) fun a84 =>
.opg a81 false (zaa 2 a84) fun a85 =>
.opg a81 false (zab none a85) fun a86 =>
.opg a81 false (x_neq a86 (.p (.int .i64 0))) fun a87 =>
.op (zah a81 (.p (.bool true)) a87) fun a88 =>
.cond a88 (.fin .ret [(.p (.bool false))]) <|
.fin .normal [a70,a71,a72,a73,a74,a75]) <| xv fun a89=>xv fun a90=>xv fun a91=>xv fun a92=>xv fun a93=>xv fun a94=>x0 (
.op (x_add a89 (.p (.int .i64 1))) fun a95 =>
.fin .normal [a95,a90,a91,a92,a93,a94])) <|
.fin (.exit 3) [a72,a73,a71,a74,a75])) <| xv fun a96=>xv fun a97=>xv fun a98=>xv fun a99=>xv fun a100=>x0 (
.op (x_eql a96 (.p (.int .i64 0))) fun a101 =>
.opg a101 true (x_mov a98) fun a102 =>
.opg a101 true (x_len a102) fun a103 =>
.opg a101 true (x_mov a97) fun a104 =>
.opg a101 true (x_leq a103 a104) fun a105 =>
.op (zah a101 a105 (.p (.bool false))) fun a106 =>
.opg a106 true (x_mov a98) fun a107 =>
.opg a106 true (x_len a107) fun a108 =>
.opg a106 true (x_eql a108 (.p (.int .i64 0))) fun a109 =>
.opg a106 true (x_mov a99) fun a110 =>
.opg a106 true (x_mov a100) fun a111 =>
.opg a106 true (x_eql a110 a111) fun a112 =>
.opg a106 true (x_eqv false ⟨false,[.bool]⟩ (.const a109) (.const a112)) fun a113 =>
.op (zah a106 a113 (.p (.bool false))) fun a114 =>
.opg a114 true (zad (.p (.func F_Q8)) []) fun a115 =>
.op (zah a114 a115 (.p (.bool false))) fun a116 =>
.fin .ret [a116])))
noncomputable def zfj:HFun:=⟨3,zoe,[.tmp 6],true⟩
theorem zka:HOK tr.look F_Q4 zfj:=⟨i_Q4,(.sq .lf (.sq .lf (.sq .lf (.sq (.sq .lf (.bk [1,2,8,7] (.lp [9,8,1,2,7] (.sq (.sq .lf (.cj .lf .lf)) (.sq (.bk [9,8,1,2,7] .lf) .lf))))) (.sq .lf (.sq .lf (.sq .lf (.sq .lf (.sq .lf (.sq .lf (.sq (.sq .lf (.bk [16,7,15,10,11] (.lp [17,15,16,7,10,11] (.sq (.sq .lf (.cj .lf .lf)) (.sq (.bk [17,15,16,7,10,11] (.sq .lf (.cj (.sq .lf .lf) .lf))) .lf))))) (.sq .lf .lf)))))))))))),[],look_Q4,rfl,rfl,rfl,rfl,rfl,by kernel_rfl⟩
noncomputable def zach:List IVal→HC XF:=xv fun a0=>xv fun a1=>x0 (
.op (xgen .rem a0 a1) fun a2 =>
.op (x_lss a2 (.p (.int .i64 0))) fun a3 =>
.block 0 (.cond a3 (.op (x_add a2 a1) fun a4 =>
.fin .normal [a4]) <|
.fin .normal [a2]) <| xv fun a5=>x0 (
.fin .ret [a5]))
noncomputable def zpt:HFun:=⟨2,zach,[.tmp 4],true⟩
theorem zwj:HOK tr.look F_Q5 zpt:=⟨i_Q5,(.sq .lf (.sq .lf (.sq (.sq .lf (.cd [5] .lf .lf)) (.sq .lf .lf)))),[],look_Q5,rfl,rfl,rfl,rfl,rfl,by kernel_rfl⟩
noncomputable def zagt:List IVal→HC XF:=xv fun a0=>x0 (
.fresh [1,2] [a0] <|
.op (x_box (some 1) 5 a0) fun a1 =>
.op (zai (some 2) [(.int .i64 0),(.str []),(.str []), .nilslice, .nilslice]) fun a2 =>
.fresh [3] [a2,a1,a0] <|
.op (zaa 0 a1) fun a3 =>
.op (zab none a3) fun a4 =>
.op (zaa 1 a1) fun a5 =>
.op (zab none a5) fun a6 =>
.op (zaa 2 a1) fun a7 =>
.op (zab none a7) fun a8 =>
.op (zaa 3 a1) fun a9 =>
.op (zab none a9) fun a10 =>
.op (zai (some 3) [(.int .i64 0),(.str []),(.str []), .nilslice, .nilslice]) fun a11 =>
.op (zad (.p (.func F_Q9)) [a10]) fun a12 =>
.op (zaj [(.int .i64 0),(.str []),(.str []), .nilslice, .nilslice] [(0,1,a4),(1,1,a6),(2,1,a8),(3,1,a12)]) fun a13 =>
.chk (.load none (.const a3)) a4 <|
.chk (.load none (.const a5)) a6 <|
.chk (.load none (.const a7)) a8 <|
.chk (.alloc (some 3) [(.int .i64 0),(.str []),(.str []), .nilslice, .nilslice]) a11 <|
.op (zae 5 a11 a13) fun _ =>
.block 1 (.loop [(.p (.int .i64 0)),a11,a1,a2] <| xv fun a15=>xv fun a16=>xv fun a17=>xv fun a18=>x0 (
.op (zaa 4 a17) fun a19 =>
.op (zab none a19) fun a20 =>
.op (x_len a20) fun a21 =>
.op (x_lss a15 a21) fun a22 =>
.cond a22 (.block 2 (.op (zaa 4 a16) fun a23 =>
.op (zab none a23) fun a24 =>
.op (zaa 4 a17) fun a25 =>
.op (zab none a25) fun a26 =>
.op (zac 5 a26 a15) fun a27 =>
.op (zab (some 5) a27) fun a28 =>
.op (zad (.p (.func F_Q6)) [a28]) fun a29 =>
.op (zaf 5 1 [(.int .i64 0),(.str []),(.str []), .nilslice, .nilslice] [(0,5,a29)]) fun a30 =>
.chk (.load none (.const a23)) a24 <|
.op (zal 5 (.const a24) (.const a30)) fun a31 =>
.op (zaa 4 a16) fun a32 =>
.op (zae 1 a32 a31) fun _ =>
.fin .normal [a15,a16,a17,a18]) <| xv fun a34=>xv fun a35=>xv fun a36=>xv fun a37=>x0 (
.op (x_add a34 (.p (.int .i64 1))) fun a38 =>
.fin .normal [a38,a35,a36,a37])) <|
.fin (.exit 1) [a16,a18])) <| xv fun a39=>xv fun a40=>x0 (
.op (zab (some 5) a39) fun a41 =>
.op (zae 5 a40 a41) fun _ =>
.fin .ret [a40]))
noncomputable def zsu:HFun:=⟨1,zagt,[.cell 2 (some 5)],false⟩
theorem zyf:HOK tr.look F_Q6 zsu:=⟨i_Q6,(.sq .lf (.sq .lf (.sq (.sq .lf (.bk [3,2] (.lp [4,3,1,2] (.sq (.sq .lf (.cj .lf .lf)) (.sq (.bk [4,3,1,2] .lf) .lf))))) (.sq .lf .lf)))),[],look_Q6,rfl,rfl,rfl,rfl,rfl,by kernel_rfl⟩
noncomputable def zaci:List IVal→HC XF:=xv fun a0=>xv fun a1=>x0 (
.fresh [2,3] [a0,a1] <|
.op (x_box (some 2) 5 a0) fun a2 =>
.op (x_box (some 3) 5 a1) fun a3 =>
.op (zab (some 5) a2) fun a4 =>
.op (zad (.p (.func F_Q10)) [a4]) fun a5 =>
.op (x_not a5) fun a6 =>
.opg a6 false (zab (some 5) a3) fun a7 =>
.opg a6 false (zad (.p (.func F_Q10)) [a7]) fun a8 =>
.opg a6 false (x_not a8) fun a9 =>
.op (zah a6 (.p (.bool true)) a9) fun a10 =>
.cond a10 (.fin .ret [(.p .nilslice),(.p (.int .i64 1))]) <|
.op (zab (some 5) a2) fun a11 =>
.op (zab (some 5) a3) fun a12 =>
.op (zab (some 5) a2) fun a13 =>
.op (zab (some 5) a3) fun a14 =>
.op (zad (.p (.func F_Q12)) [a13,a14]) fun a15 =>
.chk (.load (some 5) (.const a2)) a11 <|
.chk (.load (some 5) (.const a3)) a12 <|
.op (zad (.p (.func F_Q11)) [a11,a12,a15]) fun a16 =>
.op (zag a16 0) fun a17 =>
.op (zag a16 1) fun a18 =>
.fin .ret [a17,a18])
noncomputable def zpu:HFun:=⟨2,zaci,[.tmp 4, .tmp 5],true⟩
theorem zwk:HOK tr.look F_Q7 zpu:=⟨i_Q7,(.sq .lf (.sq (.sq .lf (.cj (.sq .lf .lf) .lf)) (.sq .lf .lf))),[],look_Q7,rfl,rfl,rfl,rfl,rfl,by kernel_rfl⟩
noncomputable def zacj:List IVal→HC XF:=x0 (
.fresh [1] [(.p (.bool false))] <|
.op (zaj [(.int .i64 0),(.str []),(.str []), .nilslice, .nilslice] [(0,1,(.p (.int .i64 3))),(2,1,(.p (.str [97])))]) fun a0 =>
.op (zaf 5 1 [(.int .i64 0),(.str []),(.str []), .nilslice, .nilslice] [(0,5,a0)]) fun a1 =>
.op (zaj [(.int .i64 0),(.str []),(.str []), .nilslice, .nilslice] [(0,1,(.p (.int .i64 1))),(4,1,a1)]) fun a2 =>
.op (zai (some 1) [(.int .i64 0),(.str []),(.str []), .nilslice, .nilslice]) fun a3 =>
.op (zae 5 a3 a2) fun _ =>
.fresh [2] [a3,a2,a1,a0,(.p (.bool false))] <|
.op (zaj [(.int .i64 0),(.str []),(.str []), .nilslice, .nilslice] [(0,1,(.p (.int .i64 3))),(2,1,(.p (.str [98])))]) fun a5 =>
.op (zaf 5 1 [(.int .i64 0),(.str []),(.str []), .nilslice, .nilslice] [(0,5,a5)]) fun a6 =>
.op (zaj [(.int .i64 0),(.str []),(.str []), .nilslice, .nilslice] [(0,1,(.p (.int .i64 1))),(4,1,a6)]) fun a7 =>
.op (zai (some 2) [(.int .i64 0),(.str []),(.str []), .nilslice, .nilslice]) fun a8 =>
.op (zae 5 a8 a7) fun _ =>
.op (zab (some 5) a3) fun a10 =>
.op (zab (some 5) a8) fun a11 =>
.op (zad (.p (.func F_Q7)) [a10,a11]) fun a12 =>
.op (zag a12 0) fun a13 =>
.op (zag a12 1) fun a14 =>
.op (x_eql a14 (.p (.int .i64 0))) fun a15 =>
.opg a15 true (x_mov a13) fun a16 =>
.opg a15 true (x_len a16) fun a17 =>
.opg a15 true (x_eql a17 (.p (.int .i64 1))) fun a18 =>
.op (zah a15 a18 (.p (.bool false))) fun a19 =>
.opg a19 true (x_mov a13) fun a20 =>
.opg a19 true (zac 7 a20 (.p (.int .i64 0))) fun a21 =>
.opg a19 true (zab (some 7) a21) fun a22 =>
.opg a19 true (zaj [(.int .i64 0),(.int .i64 0),(.int .i64 0),(.int .i64 0),(.int .i64 0),(.str []),(.str [])] [(0,1,(.p (.int .i64 6))),(1,1,(.p (.int .i64 1))),(6,1,(.p (.str [98])))]) fun a23 =>
.opg a19 true (x_eqv false ⟨true,[.int, .int, .int, .int, .int, .str, .str]⟩ (.const a22) (.const a23)) fun a24 =>
.op (zah a19 a24 (.p (.bool false))) fun a25 =>
.opg a25 true (zab (some 5) a3) fun a26 =>
.opg a25 true (zab (some 5) a8) fun a27 =>
.opg a25 true (zad (.p (.func F_Q13)) [a26,a27]) fun a28 =>
.opg a25 true (x_eql a28 (.p (.int .i64 4))) fun a29 =>
.op (zah a25 a29 (.p (.bool false))) fun a30 =>
.fin .ret [a30])
noncomputable def zpv:HFun:=⟨0,zacj,[.tmp 0],true⟩
theorem zwl:HOK tr.look F_Q8 zpv:=⟨i_Q8,(.sq .lf (.sq .lf (.sq .lf (.sq .lf (.sq .lf .lf))))),[],look_Q8,rfl,rfl,rfl,rfl,rfl,by kernel_rfl⟩
noncomputable def zack:List IVal→HC XF:=xv fun a0=>x0 (
.op (zal 2 (.const (.p .nilslice)) (.const a0)) fun a1 =>
.fin .ret [a1])
noncomputable def zpw:HFun:=⟨1,zack,[.tmp 2],false⟩
theorem zwm:HOK tr.look F_Q9 zpw:=⟨i_Q9,(.sq .lf (.sq .lf .lf)),[],look_Q9,rfl,rfl,rfl,rfl,rfl,by kernel_rfl⟩
noncomputable def zagu:List IVal→HC XF:=xv fun a0=>x0 (
.fresh [1] [a0] <|
.op (x_box (some 1) 5 a0) fun a1 =>
.op (zaa 0 a1) fun a2 =>
.op (zab none a2) fun a3 =>
.op (x_eql a3 (.p (.int .i64 1))) fun a4 =>
.opg a4 true (zab (some 5) a1) fun a5 =>
.opg a4 true (zad (.p (.func F_Q14)) [a5]) fun a6 =>
.opg a4 true (x_leq a6 (.p (.int .i64 300))) fun a7 =>
.op (zah a4 a7 (.p (.bool false))) fun a8 =>
.opg a8 true (zab (some 5) a1) fun a9 =>
.opg a8 true (zad (.p (.func F_Q15)) [a9]) fun a10 =>
.opg a8 true (x_leq a10 (.p (.int .i64 60))) fun a11 =>
.op (zah a8 a11 (.p (.bool false))) fun a12 =>
.opg a12 true (zaa 1 a1) fun a13 =>
.opg a12 true (zab none a13) fun a14 =>
.opg a12 true (zaa 2 a1) fun a15 =>
.opg a12 true (zab none a15) fun a16 =>
.opg a12 true (zaf 1 2 [(.str [])] [(0,1,a14),(1,1,a16)]) fun a17 =>
.opg a12 true (zad (.p (.func F_Q16)) [a17]) fun a18 =>
.op (zah a12 a18 (.p (.bool false))) fun a19 =>
.opg a19 true (zaa 3 a1) fun a20 =>
.opg a19 true (zab none a20) fun a21 =>
.opg a19 true (x_len a21) fun a22 =>
.opg a19 true (x_eql a22 (.p (.int .i64 0))) fun a23 =>
.op (zah a19 a23 (.p (.bool false))) fun a24 =>
.opg a24 true (zab (some 5) a1) fun a25 =>
.opg a24 true (zad (.p (.func F_Q17)) [a25]) fun a26 =>
.op (zah a24 a26 (.p (.bool false))) fun a27 =>
.fin .ret [a27])
noncomputable def zsv:HFun:=⟨1,zagu,[.tmp 2],true⟩
theorem zyg:HOK tr.look F_Q10 zsv:=⟨i_Q10,(.sq .lf (.sq .lf .lf)),[],look_Q10,rfl,rfl,rfl,rfl,rfl,by kernel_rfl⟩
noncomputable def zacl:List IVal→HC XF:=xv fun a0=>xv fun a1=>xv fun a2=>x0 (
.fresh [3,4] [a0,a1,a2] <|
.op (x_box (some 3) 5 a0) fun a3 =>
.op (x_box (some 4) 5 a1) fun a4 =>
.op (zab (some 5) a3) fun a5 =>
.op (zab (some 5) a4) fun a6 =>
.op (zad (.p (.func F_Q18)) [a5,a6,a2]) fun a7 =>
.op (x_not a7) fun a8 =>
.cond a8 (.fin .ret [(.p .nilslice),(.p (.int .i64 1))]) <|
.op (zab (some 5) a3) fun a9 =>
.op (zad (.p (.func F_Q19)) [a9]) fun a10 =>
.op (zab (some 5) a4) fun a11 =>
.op (zad (.p (.func F_Q19)) [a11]) fun a12 =>
.op (zhw) fun a13 =>
.op (x_len a10) fun a14 =>
.op (zaj [.nilptr, .nilslice, .nilmap,(.int .i64 0), .nilslice,(.bool false)] [(1,1,a12),(2,1,a13),(3,1,a14)]) fun a15 =>
.op (x_box none 6 a15) fun a16 =>
.op (zab (some 5) a3) fun a17 =>
.op (zad (.p (.func F_Q20)) [a17]) fun a18 =>
.op (zag a18 0) fun a19 =>
.op (zag a18 1) fun _ =>
.op (x_nil a16) fun a21 =>
.op (zaa 0 a21) fun a22 =>
.op (zae 1 a22 a19) fun _ =>
.op (x_len a10) fun a24 =>
.op (zfi 1 [(.bool false)] (.const a24) (.const a24)) fun a25 =>
.op (x_len a25) fun a26 =>
.op (zfi 1 [(.bool false)] (.const a26) (.const a26)) fun a27 =>
.op (zagq 1 (.const a27) (.const a25)) fun _ =>
.op (x_len a2) fun a29 =>
.block 1 (.loop [(.p (.int .i64 0)),a25,a10,a27,a16,a2,a3,a29] <| xv fun a30=>xv fun a31=>xv fun a32=>xv fun a33=>xv fun a34=>xv fun a35=>xv fun a36=>xv fun a37=>x0 (
.op (x_lss a30 a37) fun a38 =>
.cond a38 (.block 2 (.fresh [13] [a38,a30,a31,a32,a33,a34,a35,a36,a37] <|
.op (zac 2 a35 a30) fun a39 =>
.op (zab (some 2) a39) fun a40 =>
.op (zai (some 13) [(.int .i64 0),(.int .i64 0)]) fun a41 =>
.op (zae 2 a41 a40) fun _ =>
.op (x_nil a34) fun a43 =>
.op (zaa 2 a43) fun a44 =>
.op (zab none a44) fun a45 =>
.op (zaa 1 a41) fun a46 =>
.op (zab none a46) fun a47 =>
.op (zaa 0 a41) fun a48 =>
.op (zab none a48) fun a49 =>
.op (zfz ⟨false,[.int]⟩ (.const a45) (.const a47) (.const a49)) fun _ =>
.op (zaa 0 a41) fun a51 =>
.op (zab none a51) fun a52 =>
.op (zac 1 a33 a52) fun a53 =>
.op (zae 1 a53 (.p (.bool true))) fun _ =>
.op (zaa 0 a41) fun a55 =>
.op (zab none a55) fun a56 =>
.block 3 (.loop [a56,a32,a31,a30,a33,a34,a35,a36,a37] <| xv fun a57=>xv fun a58=>xv fun a59=>xv fun a60=>xv fun a61=>xv fun a62=>xv fun a63=>xv fun a64=>xv fun a65=>x0 (
.op (x_geq a57 (.p (.int .i64 0))) fun a66 =>
.cond a66 (.block 4 (.op (zac 1 a59 a57) fun a67 =>
.op (zae 1 a67 (.p (.bool true))) fun _ =>
.fin .normal [a57,a58,a59,a60,a61,a62,a63,a64,a65]) <| xv fun a69=>xv fun a70=>xv fun a71=>xv fun a72=>xv fun a73=>xv fun a74=>xv fun a75=>xv fun a76=>xv fun a77=>x0 (
.op (zac 10 a70 a69) fun a78 =>
.op (zaa 0 a78) fun a79 =>
.op (zab none a79) fun a80 =>
.fin .normal [a80,a70,a71,a72,a73,a74,a75,a76,a77])) <|
.fin (.exit 3) [a60,a59,a58,a61,a62,a63,a64,a65])) <| xv fun a81=>xv fun a82=>xv fun a83=>xv fun a84=>xv fun a85=>xv fun a86=>xv fun a87=>xv fun a88=>x0 (
.fin .normal [a81,a82,a83,a84,a85,a86,a87,a88])) <| xv fun a89=>xv fun a90=>xv fun a91=>xv fun a92=>xv fun a93=>xv fun a94=>xv fun a95=>xv fun a96=>x0 (
.op (x_add a89 (.p (.int .i64 1))) fun a97 =>
.fin .normal [a97,a90,a91,a92,a93,a94,a95,a96])) <|
.fin (.exit 1) [a36,a34,a31,a33])) <| xv fun a98=>xv fun a99=>xv fun a100=>xv fun a101=>x0 (
.op (zab (some 5) a98) fun a102 =>
.op (zad (.p (.func F_Q21)) [a102]) fun a103 =>
.op (x_len a103) fun a104 =>
.block 5 (.loop [(.p (.int .i64 0)),a99,a100,a103,a103,a101,a104] <| xv fun a105=>xv fun a106=>xv fun a107=>xv fun a108=>xv fun a109=>xv fun a110=>xv fun a111=>x0 (
.op (x_lss a105 a111) fun a112 =>
.cond a112 (.block 6 (.op (zac 1 a108 a105) fun a113 =>
.op (zab none a113) fun a114 =>
.op (zac 1 a107 a114) fun a115 =>
.op (zab none a115) fun a116 =>
.op (x_not a116) fun a117 =>
.block 0 (.cond a117 (.op (zaj [(.int .i64 0),(.int .i64 0),(.int .i64 0),(.int .i64 0),(.int .i64 0),(.str []),(.str [])] [(0,1,(.p (.int .i64 2))),(1,1,a114)]) fun a118 =>
.op (zad (.p (.func F_Q22)) [a106,a118]) fun _ =>
.fin .normal [a105,a106,a107,a108,a109,a110,a111]) <|
.fin .normal [a105,a106,a107,a108,a109,a110,a111]) <| xv fun a120=>xv fun a121=>xv fun a122=>xv fun a123=>xv fun a124=>xv fun a125=>xv fun a126=>x0 (
.fin .normal [a120,a121,a122,a123,a124,a125,a126])) <| xv fun a127=>xv fun a128=>xv fun a129=>xv fun a130=>xv fun a131=>xv fun a132=>xv fun a133=>x0 (
.op (x_add a127 (.p (.int .i64 1))) fun a134 =>
.fin .normal [a134,a128,a129,a130,a131,a132,a133])) <|
.fin (.exit 5) [a106,a109,a110,a107])) <| xv fun a135=>xv fun a136=>xv fun a137=>xv fun a138=>x0 (
.block 7 (.loop [(.p (.int .i64 1)),a135,a136,a137,a138] <| xv fun a139=>xv fun a140=>xv fun a141=>xv fun a142=>xv fun a143=>x0 (
.op (x_nil a140) fun a144 =>
.op (zaa 1 a144) fun a145 =>
.op (zab none a145) fun a146 =>
.op (x_len a146) fun a147 =>
.op (x_lss a139 a147) fun a148 =>
.opg a148 true (x_mov a140) fun a149 =>
.opg a148 true (x_nil a149) fun a150 =>
.opg a148 true (zaa 5 a150) fun a151 =>
.opg a148 true (zab none a151) fun a152 =>
.opg a148 true (x_not a152) fun a153 =>
.op (zah a148 a153 (.p (.bool false))) fun a154 =>
.cond a154 (.block 8 (.op (zad (.p (.func F_Q23)) [a140,a139]) fun _ =>
.fin .normal [a139,a140,a141,a142,a143]) <| xv fun a156=>xv fun a157=>xv fun a158=>xv fun a159=>xv fun a160=>x0 (
.op (x_add a156 (.p (.int .i64 1))) fun a161 =>
.fin .normal [a161,a157,a158,a159,a160])) <|
.fin (.exit 7) [a141,a140,a142,a143])) <| xv fun a162=>xv fun a163=>xv fun a164=>xv fun a165=>x0 (
.op (x_len a162) fun a166 =>
.block 9 (.loop [(.p (.int .i64 0)),a163,a164,a165,a162,a166] <| xv fun a167=>xv fun a168=>xv fun a169=>xv fun a170=>xv fun a171=>xv fun a172=>x0 (
.op (x_lss a167 a172) fun a173 =>
.cond a173 (.block 10 (.op (zac 1 a171 a167) fun a174 =>
.op (zab none a174) fun a175 =>
.op (zac 1 a170 a175) fun a176 =>
.op (zab none a176) fun a177 =>
.opg a177 true (x_mov a169) fun a178 =>
.opg a177 true (x_mov a175) fun a179 =>
.opg a177 true (zac 1 a178 a179) fun a180 =>
.opg a177 true (zab none a180) fun a181 =>
.opg a177 true (x_not a181) fun a182 =>
.op (zah a177 a182 (.p (.bool false))) fun a183 =>
.block 0 (.cond a183 (.op (zaj [(.int .i64 0),(.int .i64 0),(.int .i64 0),(.int .i64 0),(.int .i64 0),(.str []),(.str [])] [(0,1,(.p (.int .i64 2))),(1,1,a175)]) fun a184 =>
.op (zad (.p (.func F_Q22)) [a168,a184]) fun _ =>
.fin .normal [a167,a168,a169,a170,a171,a172]) <|
.fin .normal [a167,a168,a169,a170,a171,a172]) <| xv fun a186=>xv fun a187=>xv fun a188=>xv fun a189=>xv fun a190=>xv fun a191=>x0 (
.fin .normal [a186,a187,a188,a189,a190,a191])) <| xv fun a192=>xv fun a193=>xv fun a194=>xv fun a195=>xv fun a196=>xv fun a197=>x0 (
.op (x_add a192 (.p (.int .i64 1))) fun a198 =>
.fin .normal [a198,a193,a194,a195,a196,a197])) <|
.fin (.exit 9) [a168])) <| xv fun a199=>x0 (
.op (x_nil a199) fun a200 =>
.op (zaa 5 a200) fun a201 =>
.op (zab none a201) fun a202 =>
.cond a202 (.fin .ret [(.p .nilslice),(.p (.int .i64 2))]) <|
.op (x_nil a199) fun a203 =>
.op (zaa 4 a203) fun a204 =>
.op (zab none a204) fun a205 =>
.fin .ret [a205,(.p (.int .i64 0))])))))
noncomputable def zpx:HFun:=⟨3,zacl,[.tmp 6, .tmp 7],true⟩
theorem zwn:HOK tr.look F_Q11 zpx:=⟨i_Q11,(.sq .lf (.sq (.sq .lf (.cj (.sq .lf .lf) .lf)) (.sq .lf (.sq .lf (.sq .lf (.sq .lf (.sq .lf (.sq .lf (.sq (.sq .lf (.bk [3,9,10,11] (.lp [54,10,8,11,9,52,3,53] (.sq .lf (.sq (.cj .lf .lf) (.sq (.bk [54,10,8,11,9,52,3,53] (.sq .lf (.sq .lf (.sq .lf (.sq .lf (.bk [54,10,8,11,9,52,3,53] (.lp [14,8,10,54,11,9,52,3,53] (.sq (.sq .lf (.cj .lf .lf)) (.sq (.bk [14,8,10,54,11,9,52,3,53] .lf) .lf))))))))) .lf)))))) (.sq .lf (.sq (.sq .lf (.bk [9,15,11,10] (.lp [87,9,10,85,15,11,86] (.sq .lf (.sq (.cj .lf .lf) (.sq (.bk [87,9,10,85,15,11,86] (.sq .lf (.sq .lf (.cd [87,9,10,85,15,11,86] .lf .lf)))) .lf)))))) (.sq (.sq .lf (.bk [15,9,11,10] (.lp [18,9,15,11,10] (.sq (.sq .lf (.cj .lf .lf)) (.sq (.bk [18,9,15,11,10] .lf) .lf))))) (.sq (.sq .lf (.bk [9] (.lp [122,9,11,10,120,121] (.sq .lf (.sq (.cj .lf .lf) (.sq (.bk [122,9,11,10,120,121] (.sq .lf (.sq .lf (.cd [122,9,11,10,120,121] .lf .lf)))) .lf)))))) (.sq (.sq .lf (.cj (.sq .lf .lf) .lf)) (.sq .lf .lf))))))))))))))),[],look_Q11,rfl,rfl,rfl,rfl,rfl,by kernel_rfl⟩
noncomputable def zng:List IVal→HC XF:=xv fun a0=>xv fun a1=>x0 (
.fresh [2,3] [a0,a1] <|
.op (x_box (some 2) 5 a0) fun a2 =>
.op (x_box (some 3) 5 a1) fun a3 =>
.op (zab (some 5) a2) fun a4 =>
.op (zad (.p (.func F_Q10)) [a4]) fun a5 =>
.op (x_not a5) fun a6 =>
.opg a6 false (zab (some 5) a3) fun a7 =>
.opg a6 false (zad (.p (.func F_Q10)) [a7]) fun a8 =>
.opg a6 false (x_not a8) fun a9 =>
.op (zah a6 (.p (.bool true)) a9) fun a10 =>
.cond a10 (.fin .ret []) <|
.op (zab (some 5) a2) fun a11 =>
.op (zab (some 5) a3) fun a12 =>
.op (zab (some 5) a2) fun a13 =>
.op (zab (some 5) a3) fun a14 =>
.op (zhw) fun a15 =>
.op (zhw) fun a16 =>
.op (zad (.p (.func F_Q19)) [a13]) fun a17 =>
.chk (.load (some 5) (.const a2)) a11 <|
.chk (.load (some 5) (.const a3)) a12 <|
.chk (.load (some 5) (.const a3)) a14 <|
.chk (.mkMap) a15 <|
.chk (.mkMap) a16 <|
.op (zad (.p (.func F_Q19)) [a14]) fun a18 =>
.op (zaj [(.int .i64 0),(.str []),(.str []), .nilslice, .nilslice,(.int .i64 0),(.str []),(.str []), .nilslice, .nilslice, .nilslice, .nilslice, .nilslice, .nilslice, .nilmap, .nilmap] [(0,5,a11),(5,5,a12),(10,1,a17),(11,1,a18),(14,1,a15),(15,1,a16)]) fun a19 =>
.op (x_box none 16 a19) fun a20 =>
.chk (.load (some 5) (.const a2)) a11 <|
.chk (.load (some 5) (.const a3)) a12 <|
.chk (.mkMap) a15 <|
.chk (.mkMap) a16 <|
.op (x_nil a20) fun a21 =>
.op (zaa 10 a21) fun a22 =>
.op (zab none a22) fun a23 =>
.op (x_nil a20) fun a24 =>
.op (zaa 11 a24) fun a25 =>
.op (zab none a25) fun a26 =>
.op (zad (.p (.func F_Q24)) [a23]) fun a27 =>
.chk (.load none (.const a25)) a26 <|
.op (zad (.p (.func F_Q24)) [a26]) fun a28 =>
.op (zaj [.nilslice, .nilslice] [(0,1,a27),(1,1,a28)]) fun a29 =>
.op (x_nil a20) fun a30 =>
.op (zaa 12 a30) fun a31 =>
.op (zae 2 a31 a29) fun _ =>
.op (zab (some 5) a2) fun a33 =>
.op (zab (some 5) a3) fun a34 =>
.op (zad (.p (.func F_Q25)) [a33,a34,(.p (.int .i64 2))]) fun a35 =>
.op (x_len a35) fun a36 =>
.block 1 (.loop [(.p (.int .i64 0)),a20,a35,a2,a36] <| xv fun a37=>xv fun a38=>xv fun a39=>xv fun a40=>xv fun a41=>x0 (
.op (x_lss a37 a41) fun a42 =>
.cond a42 (.block 2 (.fresh [7] [a42,a37,a38,a39,a40,a41] <|
.op (zac 2 a39 a37) fun a43 =>
.op (zab (some 2) a43) fun a44 =>
.op (zai (some 7) [(.int .i64 0),(.int .i64 0)]) fun a45 =>
.op (zae 2 a45 a44) fun _ =>
.op (zaa 0 a45) fun a47 =>
.op (zab none a47) fun a48 =>
.op (zaa 1 a45) fun a49 =>
.op (zab none a49) fun a50 =>
.op (zad (.p (.func F_Q26)) [a38,a48,a50]) fun _ =>
.fin .normal [a37,a38,a39,a40,a41]) <| xv fun a52=>xv fun a53=>xv fun a54=>xv fun a55=>xv fun a56=>x0 (
.op (x_add a52 (.p (.int .i64 1))) fun a57 =>
.fin .normal [a57,a53,a54,a55,a56])) <|
.fin (.exit 1) [a40,a38])) <| xv fun a58=>xv fun a59=>x0 (
.op (zab (some 5) a58) fun a60 =>
.op (zad (.p (.func F_Q21)) [a60]) fun a61 =>
.op (x_len a61) fun a62 =>
.block 3 (.loop [(.p (.int .i64 0)),a59,a61,a62] <| xv fun a63=>xv fun a64=>xv fun a65=>xv fun a66=>x0 (
.op (x_lss a63 a66) fun a67 =>
.cond a67 (.block 4 (.op (zac 1 a65 a63) fun a68 =>
.op (zab none a68) fun a69 =>
.op (x_nil a64) fun a70 =>
.op (zaa 14 a70) fun a71 =>
.op (zab none a71) fun a72 =>
.op (zba true (.p (.int .i64 0)) ⟨false,[.int]⟩ (.const a72) (.const a69)) fun a73 =>
.op (zag a73 0) fun _ =>
.op (zag a73 1) fun a75 =>
.cond a75 (.fin (.exit 4) [a63,a64,a65,a66]) <|
.op (zad (.p (.func F_Q27)) [a64,a69]) fun a76 =>
.op (x_geq a76 (.p (.int .i64 0))) fun a77 =>
.block 0 (.cond a77 (.op (zad (.p (.func F_Q26)) [a64,a69,a76]) fun _ =>
.op (zad (.p (.func F_Q28)) [a64,a69,a76]) fun _ =>
.fin .normal [a63,a64,a65,a66]) <|
.fin .normal [a63,a64,a65,a66]) <| xv fun a80=>xv fun a81=>xv fun a82=>xv fun a83=>x0 (
.fin .normal [a80,a81,a82,a83])) <| xv fun a84=>xv fun a85=>xv fun a86=>xv fun a87=>x0 (
.op (x_add a84 (.p (.int .i64 1))) fun a88 =>
.fin .normal [a88,a85,a86,a87])) <|
.fin (.exit 3) [a64])) <| xv fun a89=>x0 (
.op (zad (.p (.func F_Q29)) [a89,(.p (.int .i64 0)),(.p (.int .i64 0))]) fun a90 =>
.block 0 (.cond a90 (.op (zad (.p (.func F_Q26)) [a89,(.p (.int .i64 0)),(.p (.int .i64 0))]) fun _ =>
.fin .normal [a89]) <|
.fin .normal [a89]) <| xv fun a92=>x0 (
.op (x_nil a92) fun a93 =>
.op (zaa 10 a93) fun a94 =>
.op (zab none a94) fun a95 =>
.op (x_len a95) fun a96 =>
.block 5 (.loop [(.p (.int .i64 0)),a92,a96] <| xv fun a97=>xv fun a98=>xv fun a99=>x0 (
.op (x_lss a97 a99) fun a100 =>
.cond a100 (.block 6 (.op (x_nil a98) fun a101 =>
.op (zaa 14 a101) fun a102 =>
.op (zab none a102) fun a103 =>
.op (zba true (.p (.int .i64 0)) ⟨false,[.int]⟩ (.const a103) (.const a97)) fun a104 =>
.op (zag a104 0) fun a105 =>
.op (zag a104 1) fun a106 =>
.block 0 (.cond a106 (.op (zad (.p (.func F_Q30)) [a98,a97,a105]) fun _ =>
.fin .normal [a97,a98,a99]) <|
.fin .normal [a97,a98,a99]) <| xv fun a108=>xv fun a109=>xv fun a110=>x0 (
.fin .normal [a108,a109,a110])) <| xv fun a111=>xv fun a112=>xv fun a113=>x0 (
.op (x_add a111 (.p (.int .i64 1))) fun a114 =>
.fin .normal [a114,a112,a113])) <|
.fin (.exit 5) [a98])) <| xv fun a115=>x0 (
.op (x_nil a115) fun a116 =>
.op (zaa 14 a116) fun a117 =>
.op (zab none a117) fun a118 =>
.fin .normal [a118,(.p .nilslice)])))))
theorem ztl:zng=hpre i_Q12 (.sq .lf (.sq (.sq .lf (.cj (.sq .lf .lf) .lf)) (.sq .lf (.sq .lf (.sq (.sq .lf (.bk [2,5] (.lp [55,5,53,2,54] (.sq .lf (.sq (.cj .lf .lf) (.sq (.bk [55,5,53,2,54] (.sq .lf .lf)) .lf)))))) (.sq (.sq .lf (.bk [5] (.lp [69,5,67,68] (.sq .lf (.sq (.cj .lf .lf) (.sq (.bk [69,5,67,68] (.sq .lf (.sq (.sq .lf (.sq .lf (.cj .lf .lf))) (.sq .lf (.sq .lf (.cd [69,5,67,68] (.sq .lf .lf) .lf)))))) .lf)))))) (.sq (.sq .lf (.cd [5] .lf .lf)) (.sq (.sq .lf (.bk [5] (.lp [106,5,105] (.sq .lf (.sq (.cj .lf .lf) (.sq (.bk [106,5,105] (.sq .lf (.sq .lf (.sq .lf (.cd [106,5,105] .lf .lf))))) .lf)))))) (.sq .lf .lf))))))))) [127,16] []:=by kernel_rfl
noncomputable def zacm:List IVal→HC XF:=xv fun a0=>xv fun a1=>x0 (
.fresh [2,3] [a0,a1] <|
.op (x_box (some 2) 5 a0) fun a2 =>
.op (x_box (some 3) 5 a1) fun a3 =>
.op (zab (some 5) a2) fun a4 =>
.op (zab (some 5) a3) fun a5 =>
.op (zab (some 5) a2) fun a6 =>
.op (zab (some 5) a3) fun a7 =>
.op (zad (.p (.func F_Q14)) [a4]) fun a8 =>
.chk (.load (some 5) (.const a3)) a5 <|
.chk (.load (some 5) (.const a2)) a6 <|
.chk (.load (some 5) (.const a3)) a7 <|
.op (zad (.p (.func F_Q14)) [a5]) fun a9 =>
.op (x_add a8 a9) fun a10 =>
.chk (.load (some 5) (.const a2)) a6 <|
.chk (.load (some 5) (.const a3)) a7 <|
.op (zad (.p (.func F_Q34)) [a6]) fun a11 =>
.op (x_add a10 a11) fun a12 =>
.chk (.load (some 5) (.const a3)) a7 <|
.op (zad (.p (.func F_Q34)) [a7]) fun a13 =>
.op (x_add a12 a13) fun a14 =>
.fin .ret [a14])
noncomputable def zpy:HFun:=⟨2,zacm,[.tmp 4],true⟩
theorem zwo:HOK tr.look F_Q13 zpy:=⟨i_Q13,(.sq .lf (.sq .lf .lf)),[],look_Q13,rfl,rfl,rfl,rfl,rfl,by kernel_rfl⟩
noncomputable def zajg:List IVal→HC XF:=xv fun a0=>x0 (
.fresh [1] [a0] <|
.op (x_box (some 1) 5 a0) fun a1 =>
.op (zaa 4 a1) fun a2 =>
.op (zab none a2) fun a3 =>
.op (x_len a3) fun a4 =>
.block 1 (.loop [(.p (.int .i64 0)),(.p (.int .i64 1)),a3,a4] <| xv fun a5=>xv fun a6=>xv fun a7=>xv fun a8=>x0 (
.op (x_lss a5 a8) fun a9 =>
.cond a9 (.block 2 (.fresh [5] [a9,a5,a6,a7,a8] <|
.op (zac 5 a7 a5) fun a10 =>
.op (zab (some 5) a10) fun a11 =>
.op (zai (some 5) [(.int .i64 0),(.str []),(.str []), .nilslice, .nilslice]) fun a12 =>
.op (zae 5 a12 a11) fun _ =>
.op (zab (some 5) a12) fun a14 =>
.op (zad (.p (.func F_Q14)) [a14]) fun a15 =>
.op (x_add a6 a15) fun a16 =>
.fin .normal [a5,a16,a7,a8]) <| xv fun a17=>xv fun a18=>xv fun a19=>xv fun a20=>x0 (
.op (x_add a17 (.p (.int .i64 1))) fun a21 =>
.fin .normal [a21,a18,a19,a20])) <|
.fin (.exit 1) [a6])) <| xv fun a22=>x0 (
.fin .ret [a22]))
noncomputable def zwp:HFun:=⟨1,zajg,[.tmp 2],true⟩
theorem zacn:HOK tr.look F_Q14 zwp:=⟨i_Q14,(.sq .lf (.sq .lf (.sq (.sq .lf (.bk [3] (.lp [9,3,7,8] (.sq .lf (.sq (.cj .lf .lf) (.sq (.bk [9,3,7,8] (.sq .lf .lf)) .lf)))))) (.sq .lf .lf)))),[],look_Q14,rfl,rfl,rfl,rfl,rfl,by kernel_rfl⟩
noncomputable def zagv:List IVal→HC XF:=xv fun a0=>x0 (
.fresh [1] [a0] <|
.op (x_box (some 1) 5 a0) fun a1 =>
.op (zaa 4 a1) fun a2 =>
.op (zab none a2) fun a3 =>
.op (x_len a3) fun a4 =>
.block 1 (.loop [(.p (.int .i64 0)),(.p (.int .i64 0)),a3,a4] <| xv fun a5=>xv fun a6=>xv fun a7=>xv fun a8=>x0 (
.op (x_lss a5 a8) fun a9 =>
.cond a9 (.block 2 (.fresh [5] [a9,a5,a6,a7,a8] <|
.op (zac 5 a7 a5) fun a10 =>
.op (zab (some 5) a10) fun a11 =>
.op (zai (some 5) [(.int .i64 0),(.str []),(.str []), .nilslice, .nilslice]) fun a12 =>
.op (zae 5 a12 a11) fun _ =>
.op (zab (some 5) a12) fun a14 =>
.op (zad (.p (.func F_Q15)) [a14]) fun a15 =>
.op (zagp [(.const a6),(.const a15)]) fun a16 =>
.fin .normal [a5,a16,a7,a8]) <| xv fun a17=>xv fun a18=>xv fun a19=>xv fun a20=>x0 (
.op (x_add a17 (.p (.int .i64 1))) fun a21 =>
.fin .normal [a21,a18,a19,a20])) <|
.fin (.exit 1) [a6])) <| xv fun a22=>x0 (
.op (x_add a22 (.p (.int .i64 1))) fun a23 =>
.fin .ret [a23]))
noncomputable def zsw:HFun:=⟨1,zagv,[.tmp 2],true⟩
theorem zyh:HOK tr.look F_Q15 zsw:=⟨i_Q15,(.sq .lf (.sq .lf (.sq (.sq .lf (.bk [3] (.lp [9,3,7,8] (.sq .lf (.sq (.cj .lf .lf) (.sq (.bk [9,3,7,8] (.sq .lf .lf)) .lf)))))) (.sq .lf .lf)))),[],look_Q15,rfl,rfl,rfl,rfl,rfl,by kernel_rfl⟩
noncomputable def zagw:List IVal→HC XF:=xv fun a0=>x0 (
.op (x_len a0) fun a1 =>
.block 1 (.loop [(.p (.int .i64 0)),a0,a1] <| xv fun a2=>xv fun a3=>xv fun a4=>x0 (
.op (x_lss a2 a4) fun a5 =>
.cond a5 (.block 2 (.op (zac 1 a3 a2) fun a6 =>
.op (zab none a6) fun a7 =>
.op (x_neq a7 (.p (.str []))) fun a8 =>
.cond a8 (.fin .ret [(.p (.bool false))]) <|
.fin .normal [a2,a3,a4]) <| xv fun a9=>xv fun a10=>xv fun a11=>x0 (
.op (x_add a9 (.p (.int .i64 1))) fun a12 =>
.fin .normal [a12,a10,a11])) <|
.fin (.exit 1) [])) <| x0 (
.fin .ret [(.p (.bool true))]))
noncomputable def zsx:HFun:=⟨1,zagw,[.tmp 2],true⟩
theorem zyi:HOK tr.look F_Q16 zsx:=⟨i_Q16,(.sq .lf (.sq (.sq .lf (.bk [] (.lp [7,5,6] (.sq .lf (.sq (.cj .lf .lf) (.sq (.bk [7,5,6] (.sq .lf (.sq .lf (.cj (.sq .lf .lf) .lf)))) .lf)))))) (.sq .lf .lf))),[],look_Q16,rfl,rfl,rfl,rfl,rfl,by kernel_rfl⟩
noncomputable def zajh:List IVal→HC XF:=xv fun a0=>x0 (
.fresh [1] [a0] <|
.op (x_box (some 1) 5 a0) fun a1 =>
.op (zaa 4 a1) fun a2 =>
.op (zab none a2) fun a3 =>
.op (x_len a3) fun a4 =>
.block 1 (.loop [(.p (.int .i64 0)),a1,a3,a4] <| xv fun a5=>xv fun a6=>xv fun a7=>xv fun a8=>x0 (
.op (x_lss a5 a8) fun a9 =>
.cond a9 (.block 2 (.fresh [4] [a9,a5,a6,a7,a8] <|
.op (zac 5 a7 a5) fun a10 =>
.op (zab (some 5) a10) fun a11 =>
.op (zai (some 4) [(.int .i64 0),(.str []),(.str []), .nilslice, .nilslice]) fun a12 =>
.op (zae 5 a12 a11) fun _ =>
.op (zab (some 5) a12) fun a14 =>
.op (zad (.p (.func F_Q35)) [a14]) fun a15 =>
.op (x_not a15) fun a16 =>
.opg a16 false (zaa 0 a12) fun a17 =>
.opg a16 false (zab none a17) fun a18 =>
.opg a16 false (x_eql a18 (.p (.int .i64 5))) fun a19 =>
.opg a16 false (x_mov a19) fun a20 =>
.opg a20 true (zaa 0 a6) fun a21 =>
.opg a20 true (zab none a21) fun a22 =>
.opg a20 true (x_neq a22 (.p (.int .i64 1))) fun a23 =>
.opg a16 false (zah a20 a23 (.p (.bool false))) fun a24 =>
.op (zah a16 (.p (.bool true)) a24) fun a25 =>
.cond a25 (.fin .ret [(.p (.bool false))]) <|
.fin .normal [a5,a6,a7,a8]) <| xv fun a26=>xv fun a27=>xv fun a28=>xv fun a29=>x0 (
.op (x_add a26 (.p (.int .i64 1))) fun a30 =>
.fin .normal [a30,a27,a28,a29])) <|
.fin (.exit 1) [])) <| x0 (
.fin .ret [(.p (.bool true))]))
noncomputable def zwq:HFun:=⟨1,zajh,[.tmp 2],true⟩
theorem zaco:HOK tr.look F_Q17 zwq:=⟨i_Q17,(.sq .lf (.sq (.sq .lf (.bk [] (.lp [8,1,6,7] (.sq .lf (.sq (.cj .lf .lf) (.sq (.bk [8,1,6,7] (.sq .lf (.sq .lf (.cj (.sq .lf .lf) .lf)))) .lf)))))) (.sq .lf .lf))),[],look_Q17,rfl,rfl,rfl,rfl,rfl,by kernel_rfl⟩
noncomputable def zacp:List IVal→HC XF:=xv fun a0=>xv fun a1=>xv fun a2=>x0 (
.fresh [3,4] [a0,a1,a2] <|
.op (x_box (some 3) 5 a0) fun a3 =>
.op (x_box (some 4) 5 a1) fun a4 =>
.op (zab (some 5) a3) fun a5 =>
.op (zad (.p (.func F_Q10)) [a5]) fun a6 =>
.op (x_not a6) fun a7 =>
.opg a7 false (zab (some 5) a4) fun a8 =>
.opg a7 false (zad (.p (.func F_Q10)) [a8]) fun a9 =>
.opg a7 false (x_not a9) fun a10 =>
.op (zah a7 (.p (.bool true)) a10) fun a11 =>
.opg a11 false (x_mov a2) fun a12 =>
.opg a11 false (x_len a12) fun a13 =>
.opg a11 false (x_eql a13 (.p (.int .i64 0))) fun a14 =>
.op (zah a11 (.p (.bool true)) a14) fun a15 =>
.opg a15 false (x_mov a2) fun a16 =>
.opg a15 false (zac 2 a16 (.p (.int .i64 0))) fun a17 =>
.opg a15 false (zab (some 2) a17) fun a18 =>
.opg a15 false (zaj [(.int .i64 0),(.int .i64 0)] []) fun a19 =>
.opg a15 false (x_eqv true ⟨true,[.int, .int]⟩ (.const a18) (.const a19)) fun a20 =>
.op (zah a15 (.p (.bool true)) a20) fun a21 =>
.cond a21 (.fin .ret [(.p (.bool false))]) <|
.op (zab (some 5) a3) fun a22 =>
.op (zab (some 5) a4) fun a23 =>
.op (zad (.p (.func F_Q19)) [a22]) fun a24 =>
.chk (.load (some 5) (.const a4)) a23 <|
.op (zad (.p (.func F_Q19)) [a23]) fun a25 =>
.op (zhw) fun a26 =>
.op (x_len a2) fun a27 =>
.block 1 (.loop [a26,(.p (.int .i64 0)),(.p (.int .i64 (-1))),a24,a25,a2,a27] <| xv fun a28=>xv fun a29=>xv fun a30=>xv fun a31=>xv fun a32=>xv fun a33=>xv fun a34=>x0 (
.op (x_lss a29 a34) fun a35 =>
.cond a35 (.block 2 (.fresh [12] [a35,a28,a29,a30,a31,a32,a33,a34] <|
.op (zac 2 a33 a29) fun a36 =>
.op (zab (some 2) a36) fun a37 =>
.op (zai (some 12) [(.int .i64 0),(.int .i64 0)]) fun a38 =>
.op (zae 2 a38 a37) fun _ =>
.op (zaa 0 a38) fun a40 =>
.op (zab none a40) fun a41 =>
.op (x_leq a41 a30) fun a42 =>
.opg a42 false (zaa 0 a38) fun a43 =>
.opg a42 false (zab none a43) fun a44 =>
.opg a42 false (x_mov a31) fun a45 =>
.opg a42 false (x_len a45) fun a46 =>
.opg a42 false (x_geq a44 a46) fun a47 =>
.op (zah a42 (.p (.bool true)) a47) fun a48 =>
.opg a48 false (zaa 1 a38) fun a49 =>
.opg a48 false (zab none a49) fun a50 =>
.opg a48 false (x_lss a50 (.p (.int .i64 0))) fun a51 =>
.op (zah a48 (.p (.bool true)) a51) fun a52 =>
.opg a52 false (zaa 1 a38) fun a53 =>
.opg a52 false (zab none a53) fun a54 =>
.opg a52 false (x_mov a32) fun a55 =>
.opg a52 false (x_len a55) fun a56 =>
.opg a52 false (x_geq a54 a56) fun a57 =>
.op (zah a52 (.p (.bool true)) a57) fun a58 =>
.opg a58 false (x_mov a28) fun a59 =>
.opg a58 false (zaa 1 a38) fun a60 =>
.opg a58 false (zab none a60) fun a61 =>
.opg a58 false (zba false (.p (.bool false)) ⟨false,[.int]⟩ (.const a59) (.const a61)) fun a62 =>
.op (zah a58 (.p (.bool true)) a62) fun a63 =>
.opg a63 false (x_mov a31) fun a64 =>
.opg a63 false (zaa 0 a38) fun a65 =>
.opg a63 false (zab none a65) fun a66 =>
.opg a63 false (zac 10 a64 a66) fun a67 =>
.opg a63 false (zab (some 10) a67) fun a68 =>
.opg a63 false (x_mov a32) fun a69 =>
.opg a63 false (zaa 1 a38) fun a70 =>
.opg a63 false (zab none a70) fun a71 =>
.opg a63 false (zac 10 a69 a71) fun a72 =>
.opg a63 false (zab (some 10) a72) fun a73 =>
.opg a63 false (zad (.p (.func F_Q36)) [a68]) fun a74 =>
.chkg a63 false (.load none (.const a70)) a71 <|
.chkg a63 false (.load (some 10) (.const a72)) a73 <|
.opg a63 false (zad (.p (.func F_Q36)) [a73]) fun a75 =>
.opg a63 false (x_eqv true ⟨true,[.int, .str]⟩ (.const a74) (.const a75)) fun a76 =>
.op (zah a63 (.p (.bool true)) a76) fun a77 =>
.cond a77 (.fin .ret [(.p (.bool false))]) <|
.op (zaa 0 a38) fun a78 =>
.op (zab none a78) fun a79 =>
.op (zaa 1 a38) fun a80 =>
.op (zab none a80) fun a81 =>
.op (zfz ⟨false,[.int]⟩ (.const a28) (.const a81) (.const (.p (.bool true)))) fun _ =>
.fin .normal [a29,a28,a79,a31,a32,a33,a34]) <| xv fun a83=>xv fun a84=>xv fun a85=>xv fun a86=>xv fun a87=>xv fun a88=>xv fun a89=>x0 (
.op (x_add a83 (.p (.int .i64 1))) fun a90 =>
.fin .normal [a84,a90,a85,a86,a87,a88,a89])) <|
.fin (.exit 1) [])) <| x0 (
.fin .ret [(.p (.bool true))]))
noncomputable def zpz:HFun:=⟨3,zacp,[.tmp 6],true⟩
theorem zwr:HOK tr.look F_Q18 zpz:=⟨i_Q18,(.sq .lf (.sq (.sq .lf (.cj (.sq .lf .lf) .lf)) (.sq .lf (.sq .lf (.sq .lf (.sq (.sq .lf (.bk [] (.lp [10,40,9,7,8,38,39] (.sq .lf (.sq (.cj .lf .lf) (.sq (.bk [40,10,9,7,8,38,39] (.sq .lf (.sq (.sq .lf (.cj (.sq .lf .lf) .lf)) (.sq .lf .lf)))) .lf)))))) (.sq .lf .lf))))))),[],look_Q18,rfl,rfl,rfl,rfl,rfl,by kernel_rfl⟩
noncomputable def zaji:List IVal→HC XF:=xv fun a0=>x0 (
.op (x_box none 5 a0) fun a1 =>
.op (zai none [.nilslice]) fun a2 =>
.op (zla 38 [(.const a2)]) fun a3 =>
.op (zad (.p (.func F_Q37)) [a1,a3]) fun _ =>
.op (zab none a2) fun a5 =>
.op (x_len a5) fun a6 =>
.op (x_sub a6 (.p (.int .i64 1))) fun a7 =>
.block 1 (.loop [a7,a2] <| xv fun a8=>xv fun a9=>x0 (
.op (x_gtr a8 (.p (.int .i64 0))) fun a10 =>
.cond a10 (.block 2 (.op (zab none a9) fun a11 =>
.op (zab none a9) fun a12 =>
.op (zac 10 a12 a8) fun a13 =>
.op (zaa 0 a13) fun a14 =>
.op (zab none a14) fun a15 =>
.op (zac 10 a11 a15) fun a16 =>
.op (x_nil a16) fun a17 =>
.op (zaa 1 a17) fun a18 =>
.op (zab none a18) fun a19 =>
.op (zab none a9) fun a20 =>
.op (zac 10 a20 a8) fun a21 =>
.op (zaa 1 a21) fun a22 =>
.op (zab none a22) fun a23 =>
.op (x_add a19 a23) fun a24 =>
.op (x_nil a16) fun a25 =>
.op (zaa 1 a25) fun a26 =>
.op (zae 1 a26 a24) fun _ =>
.op (x_nil a16) fun a28 =>
.op (zaa 3 a28) fun a29 =>
.op (zab none a29) fun a30 =>
.op (zab none a9) fun a31 =>
.op (zac 10 a31 a8) fun a32 =>
.op (zaa 3 a32) fun a33 =>
.op (zab none a33) fun a34 =>
.op (x_add a34 (.p (.int .i64 1))) fun a35 =>
.op (zagp [(.const a30),(.const a35)]) fun a36 =>
.op (x_nil a16) fun a37 =>
.op (zaa 3 a37) fun a38 =>
.op (zae 1 a38 a36) fun _ =>
.fin .normal [a8,a9]) <| xv fun a40=>xv fun a41=>x0 (
.op (x_sub a40 (.p (.int .i64 1))) fun a42 =>
.fin .normal [a42,a41])) <|
.fin (.exit 1) [a9])) <| xv fun a43=>x0 (
.op (zab none a43) fun a44 =>
.fin .ret [a44]))
noncomputable def zws:HFun:=⟨1,zaji,[.tmp 2],true⟩
theorem zacq:HOK tr.look F_Q19 zws:=⟨i_Q19,(.sq .lf (.sq .lf (.sq .lf (.sq (.sq .lf (.bk [3] (.lp [4,3] (.sq (.sq .lf (.cj .lf .lf)) (.sq (.bk [4,3] (.sq .lf (.sq .lf .lf))) .lf))))) (.sq .lf .lf))))),[],look_Q19,rfl,rfl,rfl,rfl,rfl,by kernel_rfl⟩
noncomputable def zapg:List IVal→HC XF:=xv fun a0=>x0 (
.fresh [1] [a0] <|
.op (x_box (some 1) 5 a0) fun a1 =>
.op (zab (some 5) a1) fun a2 =>
.op (zad (.p (.func F_Q10)) [a2]) fun a3 =>
.op (x_not a3) fun a4 =>
.cond a4 (.fin .ret [(.p .nilptr),(.p (.int .i64 1))]) <|
.op (zhw) fun a5 =>
.op (zaj [.nilslice, .nilmap] [(1,1,a5)]) fun a6 =>
.op (x_box none 2 a6) fun a7 =>
.op (zab (some 5) a1) fun a8 =>
.op (zad (.p (.func F_Q40)) [a7,a8,(.p (.int .i64 (-1)))]) fun _ =>
.fin .ret [a7,(.p (.int .i64 0))])
noncomputable def zagx:HFun:=⟨1,zapg,[.tmp 2, .tmp 3],false⟩
theorem zajj:HOK tr.look F_Q20 zagx:=⟨i_Q20,(.sq .lf (.sq (.sq .lf (.cj (.sq .lf .lf) .lf)) (.sq .lf (.sq .lf (.sq .lf .lf))))),[],look_Q20,rfl,rfl,rfl,rfl,rfl,by kernel_rfl⟩
noncomputable def zajk:List IVal→HC XF:=xv fun a0=>x0 (
.fresh [1] [a0] <|
.op (x_box (some 1) 5 a0) fun a1 =>
.op (zab (some 5) a1) fun a2 =>
.op (zad (.p (.func F_Q19)) [a2]) fun a3 =>
.op (x_len a3) fun a4 =>
.op (x_add a4 (.p (.int .i64 1))) fun a5 =>
.block 1 (.loop [a3,(.p .nilslice),(.p .nilslice),(.p (.int .i64 0)),a5] <| xv fun a6=>xv fun a7=>xv fun a8=>xv fun a9=>xv fun a10=>x0 (
.op (x_lss a9 a10) fun a11 =>
.cond a11 (.block 2 (.block 3 (.loop [a10,a7,a6,a9,a9,a8] <| xv fun a12=>xv fun a13=>xv fun a14=>xv fun a15=>xv fun a16=>xv fun a17=>x0 (
.op (x_len a17) fun a18 =>
.op (x_gtr a18 (.p (.int .i64 0))) fun a19 =>
.cond a19 (.block 4 (.op (x_len a17) fun a20 =>
.op (x_sub a20 (.p (.int .i64 1))) fun a21 =>
.op (zac 1 a17 a21) fun a22 =>
.op (zab none a22) fun a23 =>
.op (zac 10 a14 a23) fun a24 =>
.op (zaa 1 a24) fun a25 =>
.op (zab none a25) fun a26 =>
.op (x_add a23 a26) fun a27 =>
.op (x_lss a16 a27) fun a28 =>
.cond a28 (.fin (.exit 3) [a17,a16,a15,a14,a13,a12]) <|
.op (zaf 1 1 [(.int .i64 0)] [(0,1,a23)]) fun a29 =>
.op (zal 1 (.const a13) (.const a29)) fun a30 =>
.op (x_len a17) fun a31 =>
.op (x_sub a31 (.p (.int .i64 1))) fun a32 =>
.op (zaq 1 a17 none (some a32)) fun a33 =>
.fin .normal [a12,a30,a14,a15,a16,a33]) <| xv fun a34=>xv fun a35=>xv fun a36=>xv fun a37=>xv fun a38=>xv fun a39=>x0 (
.fin .normal [a34,a35,a36,a37,a38,a39])) <|
.fin (.exit 3) [a17,a16,a15,a14,a13,a12])) <| xv fun a40=>xv fun a41=>xv fun a42=>xv fun a43=>xv fun a44=>xv fun a45=>x0 (
.op (zaf 1 1 [(.int .i64 0)] [(0,1,a41)]) fun a46 =>
.op (zal 1 (.const a40) (.const a46)) fun a47 =>
.fin .normal [a42,a43,a44,a47,a45])) <| xv fun a48=>xv fun a49=>xv fun a50=>xv fun a51=>xv fun a52=>x0 (
.op (x_add a48 (.p (.int .i64 1))) fun a53 =>
.fin .normal [a49,a50,a51,a53,a52])) <|
.fin (.exit 1) [a7])) <| xv fun a54=>x0 (
.fin .ret [a54]))
noncomputable def zwt:HFun:=⟨1,zajk,[.tmp 2],true⟩
theorem zacr:HOK tr.look F_Q21 zwt:=⟨i_Q21,(.sq .lf (.sq .lf (.sq .lf (.sq (.sq .lf (.bk [4] (.lp [3,4,5,13,12] (.sq .lf (.sq (.cj .lf .lf) (.sq (.bk [13,3,4,5,12] (.sq .lf (.sq (.bk [5,6,13,3,4,12] (.lp [12,4,3,13,6,5] (.sq (.sq .lf (.cj .lf .lf)) (.bk [12,4,3,13,6,5] (.sq .lf (.sq (.sq .lf (.cj .lf .lf)) (.sq .lf .lf))))))) .lf))) .lf)))))) (.sq .lf .lf))))),[],look_Q21,rfl,rfl,rfl,rfl,rfl,by kernel_rfl⟩
noncomputable def zof:List IVal→HC XF:=xv fun a0=>xv fun a1=>x0 (
.fresh [3] [a0,a1] <|
.op (x_box (some 3) 7 a1) fun a2 =>
.op (x_nil a0) fun a3 =>
.op (zaa 5 a3) fun a4 =>
.op (zab none a4) fun a5 =>
.cond a5 (.fin .ret []) <|
.op (zaa 0 a2) fun a6 =>
.op (zab none a6) fun a7 =>
.block 1 (.op (x_eql a7 (.p (.int .i64 1))) fun a8 =>
.block 0 (.cond a8 (.op (x_nil a0) fun a9 =>
.op (zaa 0 a9) fun a10 =>
.op (zab none a10) fun a11 =>
.op (zaa 1 a2) fun a12 =>
.op (zab none a12) fun a13 =>
.op (zaa 2 a2) fun a14 =>
.op (zab none a14) fun a15 =>
.op (zaa 3 a2) fun a16 =>
.op (zab none a16) fun a17 =>
.op (zaa 4 a2) fun a18 =>
.op (zab none a18) fun a19 =>
.op (zaa 5 a2) fun a20 =>
.op (zab none a20) fun a21 =>
.op (zaa 6 a2) fun a22 =>
.op (zab none a22) fun a23 =>
.op (zaj [(.int .i64 0),(.str []),(.str []), .nilslice, .nilslice] [(0,1,a19),(1,1,a21),(2,1,a23)]) fun a24 =>
.op (zad (.p (.func F_Q41)) [a11,a13,a15,a17,a24]) fun a25 =>
.fin .normal [a2,a25,a0]) <|
.op (x_eql a7 (.p (.int .i64 2))) fun a26 =>
.block 0 (.cond a26 (.op (x_nil a0) fun a27 =>
.op (zaa 0 a27) fun a28 =>
.op (zab none a28) fun a29 =>
.op (zaa 1 a2) fun a30 =>
.op (zab none a30) fun a31 =>
.op (zad (.p (.func F_Q42)) [a29,a31]) fun a32 =>
.fin .normal [a2,a32,a0]) <|
.op (x_eql a7 (.p (.int .i64 3))) fun a33 =>
.block 0 (.cond a33 (.op (x_nil a0) fun a34 =>
.op (zaa 0 a34) fun a35 =>
.op (zab none a35) fun a36 =>
.op (zaa 1 a2) fun a37 =>
.op (zab none a37) fun a38 =>
.op (zaa 2 a2) fun a39 =>
.op (zab none a39) fun a40 =>
.op (zaa 3 a2) fun a41 =>
.op (zab none a41) fun a42 =>
.op (zad (.p (.func F_Q43)) [a36,a38,a40,a42]) fun a43 =>
.fin .normal [a2,a43,a0]) <|
.op (x_eql a7 (.p (.int .i64 4))) fun a44 =>
.block 0 (.cond a44 (.op (x_nil a0) fun a45 =>
.op (zaa 0 a45) fun a46 =>
.op (zab none a46) fun a47 =>
.op (zaa 1 a2) fun a48 =>
.op (zab none a48) fun a49 =>
.op (zaa 5 a2) fun a50 =>
.op (zab none a50) fun a51 =>
.op (zaa 6 a2) fun a52 =>
.op (zab none a52) fun a53 =>
.op (zad (.p (.func F_Q44)) [a47,a49,a51,a53]) fun a54 =>
.fin .normal [a2,a54,a0]) <|
.op (x_eql a7 (.p (.int .i64 5))) fun a55 =>
.block 0 (.cond a55 (.op (x_nil a0) fun a56 =>
.op (zaa 0 a56) fun a57 =>
.op (zab none a57) fun a58 =>
.op (zaa 1 a2) fun a59 =>
.op (zab none a59) fun a60 =>
.op (zaa 5 a2) fun a61 =>
.op (zab none a61) fun a62 =>
.op (zad (.p (.func F_Q45)) [a58,a60,a62]) fun a63 =>
.fin .normal [a2,a63,a0]) <|
.op (x_eql a7 (.p (.int .i64 6))) fun a64 =>
.block 0 (.cond a64 (.op (x_nil a0) fun a65 =>
.op (zaa 0 a65) fun a66 =>
.op (zab none a66) fun a67 =>
.op (zaa 1 a2) fun a68 =>
.op (zab none a68) fun a69 =>
.op (zaa 6 a2) fun a70 =>
.op (zab none a70) fun a71 =>
.op (zad (.p (.func F_Q46)) [a67,a69,a71]) fun a72 =>
.fin .normal [a2,a72,a0]) <|
.fin .normal [a2,(.p (.int .i64 15)),a0]) <| xv fun a73=>xv fun a74=>xv fun a75=>x0 (
.fin .normal [a73,a74,a75])) <| xv fun a76=>xv fun a77=>xv fun a78=>x0 (
.fin .normal [a76,a77,a78])) <| xv fun a79=>xv fun a80=>xv fun a81=>x0 (
.fin .normal [a79,a80,a81])) <| xv fun a82=>xv fun a83=>xv fun a84=>x0 (
.fin .normal [a82,a83,a84])) <| xv fun a85=>xv fun a86=>xv fun a87=>x0 (
.fin .normal [a85,a86,a87])) <| xv fun a88=>xv fun a89=>xv fun a90=>x0 (
.fin .normal [a88,a89,a90])) <| xv fun a91=>xv fun a92=>xv fun a93=>x0 (
.op (x_nil a93) fun a94 =>
.op (zaa 4 a94) fun a95 =>
.op (zab none a95) fun a96 =>
.op (x_nil a93) fun a97 =>
.op (zaa 4 a97) fun a98 =>
.op (zab none a98) fun a99 =>
.op (x_len a99) fun a100 =>
.op (x_nil a93) fun a101 =>
.op (zaa 4 a101) fun a102 =>
.op (zab none a102) fun a103 =>
.op (x_len a103) fun a104 =>
.op (zauc 7 (.const a96) (.const a100) (.const a104)) fun a105 =>
.op (zab (some 7) a91) fun a106 =>
.op (zaf 7 1 [(.int .i64 0),(.int .i64 0),(.int .i64 0),(.int .i64 0),(.int .i64 0),(.str []),(.str [])] [(0,7,a106)]) fun a107 =>
.op (zal 7 (.const a105) (.const a107)) fun a108 =>
.op (x_nil a93) fun a109 =>
.op (zaa 4 a109) fun a110 =>
.op (zae 1 a110 a108) fun _ =>
.op (x_neq a92 (.p (.int .i64 0))) fun a112 =>
.opg a112 false (x_mov a93) fun a113 =>
.opg a112 false (x_nil a113) fun a114 =>
.opg a112 false (zaa 4 a114) fun a115 =>
.opg a112 false (zab none a115) fun a116 =>
.opg a112 false (x_len a116) fun a117 =>
.opg a112 false (x_gtr a117 (.p (.int .i64 1500))) fun a118 =>
.op (zah a112 (.p (.bool true)) a118) fun a119 =>
.op (x_nil a93) fun a120 =>
.op (zaa 5 a120) fun a121 =>
.op (zae 1 a121 a119) fun _ =>
.fin .ret []))
noncomputable def zfk:HFun:=⟨2,zof,[],false⟩
theorem zkb:HOK tr.look F_Q22 zfk:=⟨i_Q22,(.sq .lf (.sq (.sq .lf (.cj .lf .lf)) (.sq .lf (.sq (.sq .lf (.bk [3,4,0] (.sq .lf (.cd [3,4,0] .lf (.sq .lf (.cd [3,4,0] .lf (.sq .lf (.cd [3,4,0] .lf (.sq .lf (.cd [3,4,0] .lf (.sq .lf (.cd [3,4,0] .lf (.sq .lf (.cd [3,4,0] .lf .lf)))))))))))))) (.sq .lf .lf))))),[],look_Q22,rfl,rfl,rfl,rfl,rfl,by kernel_rfl⟩
noncomputable def zog:List IVal→HC XF:=xv fun a0=>xv fun a1=>x0 (
.fresh [4] [a0,a1] <|
.op (x_nil a0) fun a2 =>
.op (zaa 1 a2) fun a3 =>
.op (zab none a3) fun a4 =>
.op (zac 10 a4 a1) fun a5 =>
.op (zab (some 10) a5) fun a6 =>
.op (zai (some 4) [(.int .i64 0),(.int .i64 0),(.int .i64 0),(.int .i64 0),(.int .i64 0),(.int .i64 0),(.str []),(.str []), .nilslice, .nilslice]) fun a7 =>
.op (zae 10 a7 a6) fun _ =>
.op (x_nil a0) fun a9 =>
.op (zaa 2 a9) fun a10 =>
.op (zab none a10) fun a11 =>
.op (zaa 0 a7) fun a12 =>
.op (zab none a12) fun a13 =>
.op (zba false (.p (.int .i64 0)) ⟨false,[.int]⟩ (.const a11) (.const a13)) fun a14 =>
.op (x_nil a0) fun a15 =>
.op (zaa 2 a15) fun a16 =>
.op (zab none a16) fun a17 =>
.op (zba true (.p (.int .i64 0)) ⟨false,[.int]⟩ (.const a17) (.const a1)) fun a18 =>
.op (zag a18 0) fun a19 =>
.op (zag a18 1) fun a20 =>
.block 1 (.op (x_not a20) fun a21 =>
.block 0 (.cond a21 (.op (x_nil a0) fun a22 =>
.op (zaa 3 a22) fun a23 =>
.op (zab none a23) fun a24 =>
.op (x_nil a0) fun a25 =>
.op (zaa 3 a25) fun a26 =>
.op (zab none a26) fun a27 =>
.op (x_add a27 (.p (.int .i64 1))) fun a28 =>
.op (x_nil a0) fun a29 =>
.op (zaa 3 a29) fun a30 =>
.op (zae 1 a30 a28) fun _ =>
.op (x_nil a0) fun a32 =>
.op (zaa 2 a32) fun a33 =>
.op (zab none a33) fun a34 =>
.op (zfz ⟨false,[.int]⟩ (.const a34) (.const a1) (.const a24)) fun _ =>
.op (zaa 4 a7) fun a36 =>
.op (zab none a36) fun a37 =>
.op (zaa 5 a7) fun a38 =>
.op (zaa 0 a38) fun a39 =>
.op (zab none a39) fun a40 =>
.op (zaa 5 a7) fun a41 =>
.op (zaa 1 a41) fun a42 =>
.op (zab none a42) fun a43 =>
.op (zaa 5 a7) fun a44 =>
.op (zaa 2 a44) fun a45 =>
.op (zab none a45) fun a46 =>
.op (zaj [(.int .i64 0),(.int .i64 0),(.int .i64 0),(.int .i64 0),(.int .i64 0),(.str []),(.str [])] [(0,1,(.p (.int .i64 1))),(1,1,a24),(2,1,a14),(3,1,a37),(4,1,a40),(5,1,a43),(6,1,a46)]) fun a47 =>
.op (zad (.p (.func F_Q22)) [a0,a47]) fun _ =>
.fin .normal [a24,a0,a7]) <|
.op (x_nil a0) fun a49 =>
.op (zaa 0 a49) fun a50 =>
.op (zab none a50) fun a51 =>
.op (zad (.p (.func F_Q47)) [a51,a19]) fun a52 =>
.op (x_neq a52 a14) fun a53 =>
.opg a53 false (x_mov a0) fun a54 =>
.opg a53 false (x_nil a54) fun a55 =>
.opg a53 false (zaa 0 a55) fun a56 =>
.opg a53 false (zab none a56) fun a57 =>
.opg a53 false (x_mov a19) fun a58 =>
.opg a53 false (zaa 4 a7) fun a59 =>
.opg a53 false (zab none a59) fun a60 =>
.opg a53 false (zad (.p (.func F_Q48)) [a57,a58]) fun a61 =>
.opg a53 false (x_neq a61 a60) fun a62 =>
.op (zah a53 (.p (.bool true)) a62) fun a63 =>
.chkg a53 false (.load none (.const a59)) a60 <|
.block 0 (.cond a63 (.op (zaa 4 a7) fun a64 =>
.op (zab none a64) fun a65 =>
.op (zaj [(.int .i64 0),(.int .i64 0),(.int .i64 0),(.int .i64 0),(.int .i64 0),(.str []),(.str [])] [(0,1,(.p (.int .i64 3))),(1,1,a19),(2,1,a14),(3,1,a65)]) fun a66 =>
.op (zad (.p (.func F_Q22)) [a0,a66]) fun _ =>
.fin .normal [a19,a0,a7]) <|
.fin .normal [a19,a0,a7]) <| xv fun a68=>xv fun a69=>xv fun a70=>x0 (
.fin .normal [a68,a69,a70])) <| xv fun a71=>xv fun a72=>xv fun a73=>x0 (
.fin .normal [a71,a72,a73])) <| xv fun a74=>xv fun a75=>xv fun a76=>x0 (
.fresh [8] [a74,a75,a76] <|
.op (x_nil a75) fun a77 =>
.op (zaa 0 a77) fun a78 =>
.op (zab none a78) fun a79 =>
.op (zad (.p (.func F_Q49)) [a79,a74]) fun a80 =>
.op (zag a80 0) fun a81 =>
.op (zag a80 1) fun _ =>
.op (zai (some 8) [(.int .i64 0),(.str []),(.str []), .nilslice, .nilslice]) fun a83 =>
.op (zae 5 a83 a81) fun _ =>
.op (zaa 5 a76) fun a85 =>
.op (zaa 2 a85) fun a86 =>
.op (zab none a86) fun a87 =>
.op (zaa 2 a83) fun a88 =>
.op (zab none a88) fun a89 =>
.op (x_neq a87 a89) fun a90 =>
.block 0 (.cond a90 (.op (zaa 5 a76) fun a91 =>
.op (zaa 2 a91) fun a92 =>
.op (zab none a92) fun a93 =>
.op (zaj [(.int .i64 0),(.int .i64 0),(.int .i64 0),(.int .i64 0),(.int .i64 0),(.str []),(.str [])] [(0,1,(.p (.int .i64 6))),(1,1,a74),(6,1,a93)]) fun a94 =>
.op (zad (.p (.func F_Q22)) [a75,a94]) fun _ =>
.fin .normal [a74,a75,a76,a83]) <|
.fin .normal [a74,a75,a76,a83]) <| xv fun a96=>xv fun a97=>xv fun a98=>xv fun a99=>x0 (
.op (zaa 3 a99) fun a100 =>
.op (zab none a100) fun a101 =>
.op (x_len a101) fun a102 =>
.block 2 (.loop [(.p (.int .i64 0)),a96,a97,a98,a101,a99,a102] <| xv fun a103=>xv fun a104=>xv fun a105=>xv fun a106=>xv fun a107=>xv fun a108=>xv fun a109=>x0 (
.op (x_lss a103 a109) fun a110 =>
.cond a110 (.block 3 (.fresh [11] [a110,a103,a104,a105,a106,a107,a108,a109] <|
.op (zac 2 a107 a103) fun a111 =>
.op (zab (some 2) a111) fun a112 =>
.op (zai (some 11) [(.str []),(.str [])]) fun a113 =>
.op (zae 2 a113 a112) fun _ =>
.op (zaa 5 a106) fun a115 =>
.op (zab (some 5) a115) fun a116 =>
.op (zaa 0 a113) fun a117 =>
.op (zab none a117) fun a118 =>
.op (zad (.p (.func F_Q50)) [a116,a118]) fun a119 =>
.op (zag a119 0) fun _ =>
.op (zag a119 1) fun a121 =>
.op (x_not a121) fun a122 =>
.block 0 (.cond a122 (.op (zaa 0 a113) fun a123 =>
.op (zab none a123) fun a124 =>
.op (zaj [(.int .i64 0),(.int .i64 0),(.int .i64 0),(.int .i64 0),(.int .i64 0),(.str []),(.str [])] [(0,1,(.p (.int .i64 5))),(1,1,a104),(5,1,a124)]) fun a125 =>
.op (zad (.p (.func F_Q22)) [a105,a125]) fun _ =>
.fin .normal [a103,a104,a105,a106,a107,a108,a109]) <|
.fin .normal [a103,a104,a105,a106,a107,a108,a109]) <| xv fun a127=>xv fun a128=>xv fun a129=>xv fun a130=>xv fun a131=>xv fun a132=>xv fun a133=>x0 (
.fin .normal [a127,a128,a129,a130,a131,a132,a133])) <| xv fun a134=>xv fun a135=>xv fun a136=>xv fun a137=>xv fun a138=>xv fun a139=>xv fun a140=>x0 (
.op (x_add a134 (.p (.int .i64 1))) fun a141 =>
.fin .normal [a141,a135,a136,a137,a138,a139,a140])) <|
.fin (.exit 2) [a106,a104,a105,a108])) <| xv fun a142=>xv fun a143=>xv fun a144=>xv fun a145=>x0 (
.op (zaa 5 a142) fun a146 =>
.op (zaa 3 a146) fun a147 =>
.op (zab none a147) fun a148 =>
.op (x_len a148) fun a149 =>
.block 4 (.loop [(.p (.int .i64 0)),a143,a144,a145,a148,a149] <| xv fun a150=>xv fun a151=>xv fun a152=>xv fun a153=>xv fun a154=>xv fun a155=>x0 (
.op (x_lss a150 a155) fun a156 =>
.cond a156 (.block 5 (.fresh [15] [a156,a150,a151,a152,a153,a154,a155] <|
.op (zac 2 a154 a150) fun a157 =>
.op (zab (some 2) a157) fun a158 =>
.op (zai (some 15) [(.str []),(.str [])]) fun a159 =>
.op (zae 2 a159 a158) fun _ =>
.op (zab (some 5) a153) fun a161 =>
.op (zaa 0 a159) fun a162 =>
.op (zab none a162) fun a163 =>
.op (zad (.p (.func F_Q50)) [a161,a163]) fun a164 =>
.op (zag a164 0) fun a165 =>
.op (zag a164 1) fun a166 =>
.op (x_not a166) fun a167 =>
.opg a167 false (x_mov a165) fun a168 =>
.opg a167 false (zaa 1 a159) fun a169 =>
.opg a167 false (zab none a169) fun a170 =>
.opg a167 false (x_neq a168 a170) fun a171 =>
.op (zah a167 (.p (.bool true)) a171) fun a172 =>
.block 0 (.cond a172 (.op (zaa 0 a159) fun a173 =>
.op (zab none a173) fun a174 =>
.op (zaa 1 a159) fun a175 =>
.op (zab none a175) fun a176 =>
.op (zaj [(.int .i64 0),(.int .i64 0),(.int .i64 0),(.int .i64 0),(.int .i64 0),(.str []),(.str [])] [(0,1,(.p (.int .i64 4))),(1,1,a151),(5,1,a174),(6,1,a176)]) fun a177 =>
.op (zad (.p (.func F_Q22)) [a152,a177]) fun _ =>
.fin .normal [a150,a151,a152,a153,a154,a155]) <|
.fin .normal [a150,a151,a152,a153,a154,a155]) <| xv fun a179=>xv fun a180=>xv fun a181=>xv fun a182=>xv fun a183=>xv fun a184=>x0 (
.fin .normal [a179,a180,a181,a182,a183,a184])) <| xv fun a185=>xv fun a186=>xv fun a187=>xv fun a188=>xv fun a189=>xv fun a190=>x0 (
.op (x_add a185 (.p (.int .i64 1))) fun a191 =>
.fin .normal [a191,a186,a187,a188,a189,a190])) <|
.fin (.exit 4) [])) <| x0 (
.fin .ret [])))))
noncomputable def zfl:HFun:=⟨2,zog,[],false⟩
theorem zkc:HOK tr.look F_Q23 zfl:=⟨i_Q23,(.sq .lf (.sq .lf (.sq .lf (.sq (.bk [6,0,4] (.sq .lf (.cd [6,0,4] (.sq .lf (.sq .lf (.sq .lf .lf))) (.sq .lf (.cd [6,0,4] .lf .lf))))) (.sq .lf (.sq (.sq .lf (.cd [6,0,4,8] .lf .lf)) (.sq (.sq .lf (.bk [4,6,0,8] (.lp [129,6,0,4,127,8,128] (.sq .lf (.sq (.cj .lf .lf) (.sq (.bk [129,6,0,4,127,8,128] (.sq .lf (.sq .lf (.sq .lf (.cd [129,6,0,4,127,8,128] .lf .lf))))) .lf)))))) (.sq .lf (.bk [] (.lp [154,6,0,8,152,153] (.sq .lf (.sq (.cj .lf .lf) (.sq (.bk [154,6,0,8,152,153] (.sq .lf (.sq .lf (.sq .lf (.cd [154,6,0,8,152,153] .lf .lf))))) .lf))))))))))))),[],look_Q23,rfl,rfl,rfl,rfl,rfl,by kernel_rfl⟩
noncomputable def zagy:List IVal→HC XF:=xv fun a0=>x0 (
.op (x_len a0) fun a1 =>
.op (zfi 1 [.nilslice] (.const a1) (.const a1)) fun a2 =>
.op (x_len a0) fun a3 =>
.block 1 (.loop [(.p (.int .i64 0)),a2,a0,a3] <| xv fun a4=>xv fun a5=>xv fun a6=>xv fun a7=>x0 (
.op (x_lss a4 a7) fun a8 =>
.cond a8 (.block 2 (.fresh [5] [a8,a4,a5,a6,a7] <|
.op (zac 10 a6 a4) fun a9 =>
.op (zab (some 10) a9) fun a10 =>
.op (zai (some 5) [(.int .i64 0),(.int .i64 0),(.int .i64 0),(.int .i64 0),(.int .i64 0),(.int .i64 0),(.str []),(.str []), .nilslice, .nilslice]) fun a11 =>
.op (zae 10 a11 a10) fun _ =>
.op (zaa 0 a11) fun a13 =>
.op (zab none a13) fun a14 =>
.op (x_geq a14 (.p (.int .i64 0))) fun a15 =>
.block 0 (.cond a15 (.op (zaa 0 a11) fun a16 =>
.op (zab none a16) fun a17 =>
.op (zaa 0 a11) fun a18 =>
.op (zab none a18) fun a19 =>
.op (zac 1 a5 a19) fun a20 =>
.op (zab none a20) fun a21 =>
.op (zaf 1 1 [(.int .i64 0)] [(0,1,a4)]) fun a22 =>
.op (zal 1 (.const a21) (.const a22)) fun a23 =>
.op (zac 1 a5 a17) fun a24 =>
.chk (.load none (.const a16)) a17 <|
.op (zae 1 a24 a23) fun _ =>
.fin .normal [a4,a5,a6,a7]) <|
.fin .normal [a4,a5,a6,a7]) <| xv fun a26=>xv fun a27=>xv fun a28=>xv fun a29=>x0 (
.fin .normal [a26,a27,a28,a29])) <| xv fun a30=>xv fun a31=>xv fun a32=>xv fun a33=>x0 (
.op (x_add a30 (.p (.int .i64 1))) fun a34 =>
.fin .normal [a34,a31,a32,a33])) <|
.fin (.exit 1) [a5])) <| xv fun a35=>x0 (
.fin .ret [a35]))
noncomputable def zsy:HFun:=⟨1,zagy,[.tmp 2],true⟩
theorem zyj:HOK tr.look F_Q24 zsy:=⟨i_Q24,(.sq .lf (.sq .lf (.sq (.sq .lf (.bk [3] (.lp [11,3,9,10] (.sq .lf (.sq (.cj .lf .lf) (.sq (.bk [11,3,9,10] (.sq .lf (.sq .lf (.cd [11,3,9,10] .lf .lf)))) .lf)))))) (.sq .lf .lf)))),[],look_Q24,rfl,rfl,rfl,rfl,rfl,by kernel_rfl⟩
noncomputable def zwu:List IVal→HC XF:=xv fun a0=>xv fun a1=>xv fun a2=>x0 (
.fresh [3,4] [a0,a1,a2] <|
.op (x_box (some 3) 5 a0) fun a3 =>
.op (x_box (some 4) 5 a1) fun a4 =>
.op (zab (some 5) a3) fun a5 =>
.op (zad (.p (.func F_Q10)) [a5]) fun a6 =>
.op (x_not a6) fun a7 =>
.opg a7 false (zab (some 5) a4) fun a8 =>
.opg a7 false (zad (.p (.func F_Q10)) [a8]) fun a9 =>
.opg a7 false (x_not a9) fun a10 =>
.op (zah a7 (.p (.bool true)) a10) fun a11 =>
.cond a11 (.fin .ret [(.p .nilslice)]) <|
.op (zab (some 5) a3) fun a12 =>
.op (zab (some 5) a4) fun a13 =>
.op (zai none [.nilptr]) fun a14 =>
.op (zai none [.nilptr]) fun a15 =>
.op (zad (.p (.func F_Q51)) [a12]) fun a16 =>
.chk (.load (some 5) (.const a4)) a13 <|
.chk (.alloc none [.nilptr]) a14 <|
.chk (.alloc none [.nilptr]) a15 <|
.op (zad (.p (.func F_Q51)) [a13]) fun a17 =>
.chk (.alloc none [.nilptr]) a14 <|
.chk (.alloc none [.nilptr]) a15 <|
.op (zae 1 a14 a16) fun _ =>
.op (zae 1 a15 a17) fun _ =>
.op (zai none [.nilslice]) fun a20 =>
.op (zla 52 [(.const a14),(.const a20),(.const a15)]) fun a21 =>
.op (zab (some 5) a3) fun a22 =>
.op (zab (some 5) a4) fun a23 =>
.op (zad (.p (.func F_Q53)) [a22,a23]) fun a24 =>
.cond a24 (.op (zad a21 [(.p (.int .i64 0)),(.p (.int .i64 0))]) fun _ =>
.op (zab none a20) fun a26 =>
.fin .ret [a26]) <|
.op (zhw) fun a27 =>
.block 1 (.loop [(.p (.int .i64 1)),a15,a27,a14,a21,a20,a2] <| xv fun a28=>xv fun a29=>xv fun a30=>xv fun a31=>xv fun a32=>xv fun a33=>xv fun a34=>x0 (
.op (zab none a29) fun a35 =>
.op (x_nil a35) fun a36 =>
.op (zaa 5 a36) fun a37 =>
.op (zab none a37) fun a38 =>
.op (x_len a38) fun a39 =>
.op (x_lss a28 a39) fun a40 =>
.cond a40 (.block 2 (.op (zab none a29) fun a41 =>
.op (x_nil a41) fun a42 =>
.op (zaa 6 a42) fun a43 =>
.op (zab none a43) fun a44 =>
.op (zac 2 a44 a28) fun a45 =>
.op (zab (some 2) a45) fun a46 =>
.op (zaf 1 1 [(.int .i64 0)] [(0,1,a28)]) fun a47 =>
.op (zud (.p .nilslice) ⟨true,[.int, .int]⟩ (.const a30) (.const a46)) fun a48 =>
.op (zag a48 0) fun a49 =>
.op (zal 1 (.const a49) (.const a47)) fun a50 =>
.op (zag a48 1) fun a51 =>
.op (zacb (.const a30) (.const a51) (.const a50)) fun _ =>
.fin .normal [a28,a29,a30,a31,a32,a33,a34]) <| xv fun a53=>xv fun a54=>xv fun a55=>xv fun a56=>xv fun a57=>xv fun a58=>xv fun a59=>x0 (
.op (x_add a53 (.p (.int .i64 1))) fun a60 =>
.fin .normal [a60,a54,a55,a56,a57,a58,a59])) <|
.fin (.exit 1) [a31,a29,a32,a30,a33,a34])) <| xv fun a61=>xv fun a62=>xv fun a63=>xv fun a64=>xv fun a65=>xv fun a66=>x0 (
.op (zab none a61) fun a67 =>
.op (x_nil a67) fun a68 =>
.op (zaa 5 a68) fun a69 =>
.op (zab none a69) fun a70 =>
.op (zac 10 a70 (.p (.int .i64 0))) fun a71 =>
.op (zaa 3 a71) fun a72 =>
.op (zab none a72) fun a73 =>
.op (zab none a62) fun a74 =>
.op (x_nil a74) fun a75 =>
.op (zaa 5 a75) fun a76 =>
.op (zab none a76) fun a77 =>
.op (zac 10 a77 (.p (.int .i64 0))) fun a78 =>
.op (zaa 3 a78) fun a79 =>
.op (zab none a79) fun a80 =>
.op (zaoy [(.const a73),(.const a80)]) fun a81 =>
.block 3 (.loop [a81,a61,a62,a63,a64,a65,a66] <| xv fun a82=>xv fun a83=>xv fun a84=>xv fun a85=>xv fun a86=>xv fun a87=>xv fun a88=>x0 (
.op (zagp [(.const (.p (.int .i64 1))),(.const a88)]) fun a89 =>
.op (x_geq a82 a89) fun a90 =>
.cond a90 (.block 4 (.block 5 (.loop [(.p (.int .i64 1)),a86,a85,a84,a83,a82,a87,a88] <| xv fun a91=>xv fun a92=>xv fun a93=>xv fun a94=>xv fun a95=>xv fun a96=>xv fun a97=>xv fun a98=>x0 (
.op (zab none a95) fun a99 =>
.op (x_nil a99) fun a100 =>
.op (zaa 5 a100) fun a101 =>
.op (zab none a101) fun a102 =>
.op (x_len a102) fun a103 =>
.op (x_lss a91 a103) fun a104 =>
.cond a104 (.block 6 (.op (zab none a95) fun a105 =>
.op (x_nil a105) fun a106 =>
.op (zaa 7 a106) fun a107 =>
.op (zab none a107) fun a108 =>
.op (zac 1 a108 a91) fun a109 =>
.op (zab none a109) fun a110 =>
.opg a110 false (zab none a95) fun a111 =>
.opg a110 false (x_nil a111) fun a112 =>
.opg a110 false (zaa 5 a112) fun a113 =>
.opg a110 false (zab none a113) fun a114 =>
.opg a110 false (x_mov a91) fun a115 =>
.opg a110 false (zac 10 a114 a115) fun a116 =>
.opg a110 false (zaa 3 a116) fun a117 =>
.opg a110 false (zab none a117) fun a118 =>
.opg a110 false (x_mov a96) fun a119 =>
.opg a110 false (x_neq a118 a119) fun a120 =>
.op (zah a110 (.p (.bool true)) a120) fun a121 =>
.cond a121 (.fin (.exit 6) [a91,a92,a93,a94,a95,a96,a97,a98]) <|
.fresh [15] [a121,a120,a119,a118,a117,a116,a115,a114,a113,a112,a111,a110,a110,a109,a91,a108,a107,a106,a105,a104,a103,a102,a101,a100,a99,a91,a91,a92,a93,a94,a95,a96,a97,a98] <|
.op (zab none a95) fun a122 =>
.op (zad (.p (.func F_Q54)) [a122,a91]) fun a123 =>
.op (zai (some 15) [(.int .i64 0),(.str []),(.str []), .nilslice, .nilslice]) fun a124 =>
.op (zae 5 a124 a123) fun _ =>
.op (zab none a95) fun a126 =>
.op (x_nil a126) fun a127 =>
.op (zaa 6 a127) fun a128 =>
.op (zab none a128) fun a129 =>
.op (zac 2 a129 a91) fun a130 =>
.op (zab (some 2) a130) fun a131 =>
.op (zba false (.p .nilslice) ⟨true,[.int, .int]⟩ (.const a92) (.const a131)) fun a132 =>
.op (x_len a132) fun a133 =>
.block 7 (.loop [a98,a97,a96,a95,a94,a93,a92,a91,(.p (.int .i64 0)),a124,a132,a133] <| xv fun a134=>xv fun a135=>xv fun a136=>xv fun a137=>xv fun a138=>xv fun a139=>xv fun a140=>xv fun a141=>xv fun a142=>xv fun a143=>xv fun a144=>xv fun a145=>x0 (
.op (x_lss a142 a145) fun a146 =>
.cond a146 (.block 8 (.op (zac 1 a144 a142) fun a147 =>
.op (zab none a147) fun a148 =>
.op (zab none a138) fun a149 =>
.op (x_nil a149) fun a150 =>
.op (zaa 7 a150) fun a151 =>
.op (zab none a151) fun a152 =>
.op (zac 1 a152 a148) fun a153 =>
.op (zab none a153) fun a154 =>
.op (x_not a154) fun a155 =>
.opg a155 true (zab none a138) fun a156 =>
.opg a155 true (x_nil a156) fun a157 =>
.opg a155 true (zaa 6 a157) fun a158 =>
.opg a155 true (zab none a158) fun a159 =>
.opg a155 true (x_mov a148) fun a160 =>
.opg a155 true (zac 2 a159 a160) fun a161 =>
.opg a155 true (zab (some 2) a161) fun a162 =>
.opg a155 true (zab none a137) fun a163 =>
.opg a155 true (x_nil a163) fun a164 =>
.opg a155 true (zaa 6 a164) fun a165 =>
.opg a155 true (zab none a165) fun a166 =>
.opg a155 true (x_mov a141) fun a167 =>
.opg a155 true (zac 2 a166 a167) fun a168 =>
.opg a155 true (zab (some 2) a168) fun a169 =>
.opg a155 true (x_eqv false ⟨true,[.int, .int]⟩ (.const a162) (.const a169)) fun a170 =>
.op (zah a155 a170 (.p (.bool false))) fun a171 =>
.opg a171 true (zab (some 5) a143) fun a172 =>
.opg a171 true (zab none a138) fun a173 =>
.opg a171 true (x_mov a148) fun a174 =>
.opg a171 true (zad (.p (.func F_Q54)) [a173,a174]) fun a175 =>
.chkg a171 true (.load (some 5) (.const a143)) a172 <|
.opg a171 true (zad (.p (.func F_Q53)) [a172,a175]) fun a176 =>
.op (zah a171 a176 (.p (.bool false))) fun a177 =>
.cond a177 (.op (zad a139 [a141,a148]) fun _ =>
.fin (.exit 7) [a141,a140,a139,a138,a137,a136,a135,a134]) <|
.fin .normal [a142,a134,a135,a136,a137,a138,a139,a140,a141,a143,a144,a145]) <| xv fun a179=>xv fun a180=>xv fun a181=>xv fun a182=>xv fun a183=>xv fun a184=>xv fun a185=>xv fun a186=>xv fun a187=>xv fun a188=>xv fun a189=>xv fun a190=>x0 (
.op (x_add a179 (.p (.int .i64 1))) fun a191 =>
.fin .normal [a180,a181,a182,a183,a184,a185,a186,a187,a191,a188,a189,a190])) <|
.fin (.exit 7) [a141,a140,a139,a138,a137,a136,a135,a134])) <| xv fun a192=>xv fun a193=>xv fun a194=>xv fun a195=>xv fun a196=>xv fun a197=>xv fun a198=>xv fun a199=>x0 (
.fin .normal [a192,a193,a194,a195,a196,a197,a198,a199])) <| xv fun a200=>xv fun a201=>xv fun a202=>xv fun a203=>xv fun a204=>xv fun a205=>xv fun a206=>xv fun a207=>x0 (
.op (x_add a200 (.p (.int .i64 1))) fun a208 =>
.fin .normal [a208,a201,a202,a203,a204,a205,a206,a207])) <|
.fin (.exit 5) [a96,a95,a94,a93,a92,a97,a98])) <| xv fun a209=>xv fun a210=>xv fun a211=>xv fun a212=>xv fun a213=>xv fun a214=>xv fun a215=>x0 (
.fin .normal [a209,a210,a211,a212,a213,a214,a215])) <| xv fun a216=>xv fun a217=>xv fun a218=>xv fun a219=>xv fun a220=>xv fun a221=>xv fun a222=>x0 (
.op (x_sub a216 (.p (.int .i64 1))) fun a223 =>
.fin .normal [a223,a217,a218,a219,a220,a221,a222])) <|
.fin (.exit 3) [a87])) <| xv fun a224=>x0 (
.op (zab none a224) fun a225 =>
.op (zad (.p (.func F_Q31)) [a225,(.p (.func F_Q55))]) fun _ =>
.op (zab none a224) fun a227 =>
.fin .ret [a227])))
noncomputable def zkd:HFun:=⟨3,zwu,[.tmp 6],true⟩
theorem zrj:HOK tr.look F_Q25 zkd:=⟨i_Q25,(.sq .lf (.sq (.sq .lf (.cj (.sq .lf .lf) .lf)) (.sq .lf (.sq .lf (.sq .lf (.sq (.sq .lf (.cj (.sq .lf (.sq .lf .lf)) .lf)) (.sq .lf (.sq (.sq .lf (.bk [7,8,10,11,9,2] (.lp [12,8,11,7,10,9,2] (.sq (.sq .lf (.cj .lf .lf)) (.sq (.bk [12,8,11,7,10,9,2] .lf) .lf))))) (.sq (.sq .lf (.bk [9] (.lp [13,7,8,10,11,9,2] (.sq (.sq .lf (.cj .lf .lf)) (.sq (.bk [13,7,8,10,11,9,2] (.sq .lf (.bk [13,7,8,10,11,9,2] (.lp [14,11,10,8,7,13,9,2] (.sq (.sq .lf (.cj .lf .lf)) (.sq (.bk [14,11,10,8,7,13,9,2] (.sq (.sq .lf (.cj .lf .lf)) (.sq .lf (.sq .lf (.bk [14,11,10,8,7,13,9,2] (.lp [2,9,13,7,8,10,11,14,123,15,121,122] (.sq .lf (.sq (.cj .lf .lf) (.sq (.bk [123,2,9,13,7,8,10,11,14,15,121,122] (.sq .lf (.sq .lf (.cj (.sq .lf .lf) .lf)))) .lf))))))))) .lf)))))) .lf))))) (.sq .lf (.sq .lf .lf))))))))))),[],look_Q25,rfl,rfl,rfl,rfl,rfl,by kernel_rfl⟩
noncomputable def zml:List IVal→HC XF:=xv fun a0=>xv fun a1=>xv fun a2=>x0 (
.op (x_nil a0) fun a3 =>
.op (zaa 14 a3) fun a4 =>
.op (zab none a4) fun a5 =>
.op (x_nil a0) fun a6 =>
.op (zaa 15 a6) fun a7 =>
.op (zab none a7) fun a8 =>
.op (zud (.p (.int .i64 0)) ⟨false,[.int]⟩ (.const a5) (.const a1)) fun a9 =>
.op (zag a9 1) fun a10 =>
.op (zacb (.const a5) (.const a10) (.const a2)) fun _ =>
.op (zud (.p (.int .i64 0)) ⟨false,[.int]⟩ (.const a8) (.const a2)) fun a12 =>
.op (zag a12 1) fun a13 =>
.op (zacb (.const a8) (.const a13) (.const a1)) fun _ =>
.fin .ret [])
noncomputable def zef:HFun:=⟨3,zml,[],false⟩
theorem zim:HOK tr.look F_Q26 zef:=⟨i_Q26, .lf,[],look_Q26,rfl,rfl,rfl,rfl,rfl,by kernel_rfl⟩
noncomputable def zmm:List IVal→HC XF:=xv fun a0=>xv fun a1=>x0 (
.op (x_box none 1 a0) fun a2 =>
.op (x_box none 1 a1) fun a3 =>
.op (zab none a2) fun a4 =>
.op (zab none a3) fun a5 =>
.op (zad (.p (.func F_Q56)) [a4,a5]) fun a6 =>
.op (zla 57 [(.const a2),(.const a3)]) fun a7 =>
.op (zab none a2) fun a8 =>
.op (x_nil a8) fun a9 =>
.op (zaa 11 a9) fun a10 =>
.op (zab none a10) fun a11 =>
.op (x_len a11) fun a12 =>
.block 1 (.loop [(.p (.int .i64 0)),a7,a6,(.p (.int .i64 (-1))),a2,a3,a12] <| xv fun a13=>xv fun a14=>xv fun a15=>xv fun a16=>xv fun a17=>xv fun a18=>xv fun a19=>x0 (
.op (x_lss a13 a19) fun a20 =>
.cond a20 (.block 2 (.op (zba false (.p (.int .i64 0)) ⟨false,[.int]⟩ (.const a15) (.const a13)) fun a21 =>
.op (x_eql a21 (.p (.int .i64 0))) fun a22 =>
.opg a22 false (zab none a17) fun a23 =>
.opg a22 false (zab none a18) fun a24 =>
.opg a22 false (x_mov a13) fun a25 =>
.opg a22 false (zad (.p (.func F_Q29)) [a23,a24,a25]) fun a26 =>
.opg a22 false (x_not a26) fun a27 =>
.op (zah a22 (.p (.bool true)) a27) fun a28 =>
.opg a28 false (zab none a17) fun a29 =>
.opg a28 false (x_nil a29) fun a30 =>
.opg a28 false (zaa 10 a30) fun a31 =>
.opg a28 false (zab none a31) fun a32 =>
.opg a28 false (zab none a18) fun a33 =>
.opg a28 false (zac 10 a32 a33) fun a34 =>
.opg a28 false (zab (some 10) a34) fun a35 =>
.opg a28 false (zab none a17) fun a36 =>
.opg a28 false (x_nil a36) fun a37 =>
.opg a28 false (zaa 11 a37) fun a38 =>
.opg a28 false (zab none a38) fun a39 =>
.opg a28 false (x_mov a13) fun a40 =>
.opg a28 false (zac 10 a39 a40) fun a41 =>
.opg a28 false (zab (some 10) a41) fun a42 =>
.opg a28 false (zad (.p (.func F_Q36)) [a35]) fun a43 =>
.chkg a28 false (.load none (.const a17)) a36 <|
.chkg a28 false (.load none (.const a38)) a39 <|
.chkg a28 false (.load (some 10) (.const a41)) a42 <|
.opg a28 false (zad (.p (.func F_Q36)) [a42]) fun a44 =>
.opg a28 false (x_eqv true ⟨true,[.int, .str]⟩ (.const a43) (.const a44)) fun a45 =>
.op (zah a28 (.p (.bool true)) a45) fun a46 =>
.cond a46 (.fin (.exit 2) [a13,a14,a15,a16,a17,a18,a19]) <|
.op (x_lss a16 (.p (.int .i64 0))) fun a47 =>
.opg a47 false (x_mov a15) fun a48 =>
.opg a47 false (x_mov a13) fun a49 =>
.opg a47 false (zba false (.p (.int .i64 0)) ⟨false,[.int]⟩ (.const a48) (.const a49)) fun a50 =>
.opg a47 false (x_mov a14) fun a51 =>
.opg a47 false (x_mov a13) fun a52 =>
.opg a47 false (x_mov a15) fun a53 =>
.opg a47 false (x_mov a16) fun a54 =>
.opg a47 false (zba false (.p (.int .i64 0)) ⟨false,[.int]⟩ (.const a53) (.const a54)) fun a55 =>
.opg a47 false (x_mov a14) fun a56 =>
.opg a47 false (x_mov a16) fun a57 =>
.opg a47 false (zad a51 [a52]) fun a58 =>
.chkg a47 false (.lookup false (.p (.int .i64 0)) ⟨false,[.int]⟩ (.const a48) (.const a49)) a50 <|
.chkg a47 false (.lookup false (.p (.int .i64 0)) ⟨false,[.int]⟩ (.const a53) (.const a54)) a55 <|
.opg a47 false (zad a56 [a57]) fun a59 =>
.chkg a47 false (.lookup false (.p (.int .i64 0)) ⟨false,[.int]⟩ (.const a48) (.const a49)) a50 <|
.chkg a47 false (.lookup false (.p (.int .i64 0)) ⟨false,[.int]⟩ (.const a53) (.const a54)) a55 <|
.opg a47 false (zad (.p (.func F_Q58)) [a50,a58,a55,a59]) fun a60 =>
.opg a47 false (x_gtr a60 (.p (.int .i64 0))) fun a61 =>
.op (zah a47 (.p (.bool true)) a61) fun a62 =>
.block 0 (.cond a62 (.fin .normal [a13,a14,a15,a13,a17,a18,a19]) <|
.fin .normal [a13,a14,a15,a16,a17,a18,a19]) <| xv fun a63=>xv fun a64=>xv fun a65=>xv fun a66=>xv fun a67=>xv fun a68=>xv fun a69=>x0 (
.fin .normal [a63,a64,a65,a66,a67,a68,a69])) <| xv fun a70=>xv fun a71=>xv fun a72=>xv fun a73=>xv fun a74=>xv fun a75=>xv fun a76=>x0 (
.op (x_add a70 (.p (.int .i64 1))) fun a77 =>
.fin .normal [a77,a71,a72,a73,a74,a75,a76])) <|
.fin (.exit 1) [a14,a15,a16])) <| xv fun a78=>xv fun a79=>xv fun a80=>x0 (
.op (x_lss a80 (.p (.int .i64 0))) fun a81 =>
.opg a81 false (x_mov a79) fun a82 =>
.opg a81 false (x_mov a80) fun a83 =>
.opg a81 false (zba false (.p (.int .i64 0)) ⟨false,[.int]⟩ (.const a82) (.const a83)) fun a84 =>
.opg a81 false (x_mov a78) fun a85 =>
.opg a81 false (x_mov a80) fun a86 =>
.opg a81 false (zad a85 [a86]) fun a87 =>
.chkg a81 false (.lookup false (.p (.int .i64 0)) ⟨false,[.int]⟩ (.const a82) (.const a83)) a84 <|
.opg a81 false (zad (.p (.func F_Q59)) [a84,a87]) fun a88 =>
.opg a81 false (x_not a88) fun a89 =>
.op (zah a81 (.p (.bool true)) a89) fun a90 =>
.cond a90 (.fin .ret [(.p (.int .i64 (-1)))]) <|
.fin .ret [a80]))
noncomputable def zeg:HFun:=⟨2,zmm,[.tmp 4],false⟩
theorem zin:HOK tr.look F_Q27 zeg:=⟨i_Q27,(.sq .lf (.sq .lf (.sq .lf (.sq .lf (.sq (.sq .lf (.bk [6,5,7] (.lp [18,6,5,7,2,3,17] (.sq .lf (.sq (.cj .lf .lf) (.sq (.bk [18,6,5,7,2,3,17] (.sq .lf (.sq (.sq .lf (.cj .lf .lf)) (.sq .lf (.cd [18,6,5,7,2,3,17] .lf .lf))))) .lf)))))) (.sq (.sq .lf (.cj (.sq .lf .lf) .lf)) (.sq .lf .lf))))))),[],look_Q27,rfl,rfl,rfl,rfl,rfl,by kernel_rfl⟩
noncomputable def zke:List IVal→HC XF:=xv fun a0=>xv fun a1=>xv fun a2=>x0 (
.fresh [6] [a0,a1,a2] <|
.op (x_nil a0) fun a3 =>
.op (zaa 0 a3) fun a4 =>
.op (zab (some 5) a4) fun a5 =>
.op (zad (.p (.func F_Q60)) [a5,a1]) fun a6 =>
.op (zag a6 0) fun a7 =>
.op (zag a6 1) fun a8 =>
.op (zai (some 6) [(.int .i64 0),(.str []),(.str []), .nilslice, .nilslice]) fun a9 =>
.op (zae 5 a9 a7) fun _ =>
.fresh [8] [a8,a9,a8,a7,a6,a6,a1,a5,a4,a3,a0,a0,a1,a2] <|
.op (x_nil a0) fun a11 =>
.op (zaa 5 a11) fun a12 =>
.op (zab (some 5) a12) fun a13 =>
.op (zad (.p (.func F_Q60)) [a13,a2]) fun a14 =>
.op (zag a14 0) fun a15 =>
.op (zag a14 1) fun _ =>
.op (zai (some 8) [(.int .i64 0),(.str []),(.str []), .nilslice, .nilslice]) fun a17 =>
.op (zae 5 a17 a15) fun _ =>
.op (zab (some 5) a9) fun a19 =>
.op (zab (some 5) a17) fun a20 =>
.op (zad (.p (.func F_Q61)) [a19,a20]) fun a21 =>
.op (zag a21 0) fun a22 =>
.op (zag a21 1) fun _ =>
.op (x_len a22) fun a24 =>
.block 1 (.loop [(.p (.int .i64 0)),a2,a1,a0,a22,a24] <| xv fun a25=>xv fun a26=>xv fun a27=>xv fun a28=>xv fun a29=>xv fun a30=>x0 (
.op (x_lss a25 a30) fun a31 =>
.cond a31 (.block 2 (.fresh [13] [a31,a25,a26,a27,a28,a29,a30] <|
.op (zac 2 a29 a25) fun a32 =>
.op (zab (some 2) a32) fun a33 =>
.op (zai (some 13) [(.int .i64 0),(.int .i64 0)]) fun a34 =>
.op (zae 2 a34 a33) fun _ =>
.op (zaa 0 a34) fun a36 =>
.op (zab none a36) fun a37 =>
.op (x_add a27 a37) fun a38 =>
.op (zaa 1 a34) fun a39 =>
.op (zab none a39) fun a40 =>
.op (x_add a26 a40) fun a41 =>
.op (zad (.p (.func F_Q29)) [a28,a38,a41]) fun a42 =>
.block 0 (.cond a42 (.op (zaa 0 a34) fun a43 =>
.op (zab none a43) fun a44 =>
.op (x_add a27 a44) fun a45 =>
.op (zaa 1 a34) fun a46 =>
.op (zab none a46) fun a47 =>
.op (x_add a26 a47) fun a48 =>
.op (zad (.p (.func F_Q26)) [a28,a45,a48]) fun _ =>
.fin .normal [a25,a26,a27,a28,a29,a30]) <|
.fin .normal [a25,a26,a27,a28,a29,a30]) <| xv fun a50=>xv fun a51=>xv fun a52=>xv fun a53=>xv fun a54=>xv fun a55=>x0 (
.fin .normal [a50,a51,a52,a53,a54,a55])) <| xv fun a56=>xv fun a57=>xv fun a58=>xv fun a59=>xv fun a60=>xv fun a61=>x0 (
.op (x_add a56 (.p (.int .i64 1))) fun a62 =>
.fin .normal [a62,a57,a58,a59,a60,a61])) <|
.fin (.exit 1) [])) <| x0 (
.fin .ret []))
noncomputable def zdu:HFun:=⟨3,zke,[],false⟩
theorem zhy:HOK tr.look F_Q28 zdu:=⟨i_Q28,(.sq .lf (.sq .lf (.sq .lf (.sq .lf (.bk [] (.lp [40,2,1,0,38,39] (.sq .lf (.sq (.cj .lf .lf) (.sq (.bk [40,2,1,0,38,39] (.sq .lf (.sq .lf (.cd [40,2,1,0,38,39] .lf .lf)))) .lf))))))))),[],look_Q28,rfl,rfl,rfl,rfl,rfl,by kernel_rfl⟩
noncomputable def zmn:List IVal→HC XF:=xv fun a0=>xv fun a1=>xv fun a2=>x0 (
.op (x_nil a0) fun a3 =>
.op (zaa 14 a3) fun a4 =>
.op (zab none a4) fun a5 =>
.op (zba true (.p (.int .i64 0)) ⟨false,[.int]⟩ (.const a5) (.const a1)) fun a6 =>
.op (zag a6 0) fun _ =>
.op (zag a6 1) fun a8 =>
.op (x_nil a0) fun a9 =>
.op (zaa 15 a9) fun a10 =>
.op (zab none a10) fun a11 =>
.op (zba true (.p (.int .i64 0)) ⟨false,[.int]⟩ (.const a11) (.const a2)) fun a12 =>
.op (zag a12 0) fun _ =>
.op (zag a12 1) fun a14 =>
.op (x_not a8) fun a15 =>
.opg a15 true (x_mov a14) fun a16 =>
.opg a15 true (x_not a16) fun a17 =>
.op (zah a15 a17 (.p (.bool false))) fun a18 =>
.fin .ret [a18])
noncomputable def zeh:HFun:=⟨3,zmn,[.tmp 6],false⟩
theorem zio:HOK tr.look F_Q29 zeh:=⟨i_Q29,(.sq .lf (.sq .lf (.sq .lf (.sq .lf .lf)))),[],look_Q29,rfl,rfl,rfl,rfl,rfl,by kernel_rfl⟩
noncomputable def zmo:List IVal→HC XF:=xv fun a0=>xv fun a1=>xv fun a2=>x0 (
.op (x_nil a0) fun a3 =>
.op (zaa 12 a3) fun a4 =>
.op (zau 2 1 a4 (.p (.int .i64 0))) fun a5 =>
.op (zab none a5) fun a6 =>
.op (zac 1 a6 a1) fun a7 =>
.op (zab none a7) fun a8 =>
.op (x_len a8) fun a9 =>
.block 1 (.loop [a0,(.p (.int .i64 0)),a2,a8,a9] <| xv fun a10=>xv fun a11=>xv fun a12=>xv fun a13=>xv fun a14=>x0 (
.op (x_lss a11 a14) fun a15 =>
.cond a15 (.block 2 (.op (zac 1 a13 a11) fun a16 =>
.op (zab none a16) fun a17 =>
.op (x_nil a10) fun a18 =>
.op (zaa 12 a18) fun a19 =>
.op (zau 2 1 a19 (.p (.int .i64 1))) fun a20 =>
.op (zab none a20) fun a21 =>
.op (zac 1 a21 a12) fun a22 =>
.op (zab none a22) fun a23 =>
.op (x_len a23) fun a24 =>
.block 3 (.loop [a14,a13,a12,a10,a11,a17,(.p (.int .i64 0)),a23,a24] <| xv fun a25=>xv fun a26=>xv fun a27=>xv fun a28=>xv fun a29=>xv fun a30=>xv fun a31=>xv fun a32=>xv fun a33=>x0 (
.op (x_lss a31 a33) fun a34 =>
.cond a34 (.block 4 (.op (zac 1 a32 a31) fun a35 =>
.op (zab none a35) fun a36 =>
.op (zad (.p (.func F_Q29)) [a28,a30,a36]) fun a37 =>
.opg a37 true (x_mov a28) fun a38 =>
.opg a37 true (x_nil a38) fun a39 =>
.opg a37 true (zaa 10 a39) fun a40 =>
.opg a37 true (zab none a40) fun a41 =>
.opg a37 true (x_mov a30) fun a42 =>
.opg a37 true (zac 10 a41 a42) fun a43 =>
.opg a37 true (zab (some 10) a43) fun a44 =>
.opg a37 true (x_mov a28) fun a45 =>
.opg a37 true (x_nil a45) fun a46 =>
.opg a37 true (zaa 11 a46) fun a47 =>
.opg a37 true (zab none a47) fun a48 =>
.opg a37 true (x_mov a36) fun a49 =>
.opg a37 true (zac 10 a48 a49) fun a50 =>
.opg a37 true (zab (some 10) a50) fun a51 =>
.opg a37 true (zad (.p (.func F_Q36)) [a44]) fun a52 =>
.chkg a37 true (.load none (.const a47)) a48 <|
.chkg a37 true (.load (some 10) (.const a50)) a51 <|
.opg a37 true (zad (.p (.func F_Q36)) [a51]) fun a53 =>
.opg a37 true (x_eqv false ⟨true,[.int, .str]⟩ (.const a52) (.const a53)) fun a54 =>
.op (zah a37 a54 (.p (.bool false))) fun a55 =>
.cond a55 (.op (zad (.p (.func F_Q26)) [a28,a30,a36]) fun _ =>
.fin (.exit 3) [a29,a28,a27,a26,a25]) <|
.fin .normal [a31,a25,a26,a27,a28,a29,a30,a32,a33]) <| xv fun a57=>xv fun a58=>xv fun a59=>xv fun a60=>xv fun a61=>xv fun a62=>xv fun a63=>xv fun a64=>xv fun a65=>x0 (
.op (x_add a57 (.p (.int .i64 1))) fun a66 =>
.fin .normal [a58,a59,a60,a61,a62,a63,a66,a64,a65])) <|
.fin (.exit 3) [a29,a28,a27,a26,a25])) <| xv fun a67=>xv fun a68=>xv fun a69=>xv fun a70=>xv fun a71=>x0 (
.fin .normal [a67,a68,a69,a70,a71])) <| xv fun a72=>xv fun a73=>xv fun a74=>xv fun a75=>xv fun a76=>x0 (
.op (x_add a72 (.p (.int .i64 1))) fun a77 =>
.fin .normal [a73,a77,a74,a75,a76])) <|
.fin (.exit 1) [])) <| x0 (
.fin .ret []))
noncomputable def zei:HFun:=⟨3,zmo,[],false⟩
theorem zip:HOK tr.look F_Q30 zei:=⟨i_Q30,(.sq .lf (.bk [] (.lp [0,19,2,17,18] (.sq .lf (.sq (.cj .lf .lf) (.sq (.bk [19,0,2,17,18] (.sq .lf (.sq .lf (.bk [19,0,2,17,18] (.lp [18,17,2,0,19,7,32,30,31] (.sq .lf (.sq (.cj .lf .lf) (.sq (.bk [32,18,17,2,0,19,7,30,31] (.sq .lf (.sq .lf (.cj (.sq .lf .lf) .lf)))) .lf)))))))) .lf)))))),[],look_Q30,rfl,rfl,rfl,rfl,rfl,by kernel_rfl⟩
noncomputable def zwv:List IVal→HC XF:=xv fun a0=>xv fun a1=>x0 (
.fresh [2,3] [a0,a1] <|
.op (x_box (some 2) 2 a0) fun a2 =>
.op (x_box (some 3) 2 a1) fun a3 =>
.op (zaa 0 a2) fun a4 =>
.op (zab none a4) fun a5 =>
.op (zaa 0 a3) fun a6 =>
.op (zab none a6) fun a7 =>
.op (zad (.p (.func F_Q33)) [a5,a7]) fun a8 =>
.fin .ret [a8])
noncomputable def zkf:HFun:=⟨2,zwv,[.tmp 4],true⟩
theorem zrk:HOK tr.look F_Q32 zkf:=⟨i_Q32,(.sq .lf (.sq .lf .lf)),[],look_Q32,rfl,rfl,rfl,rfl,rfl,by kernel_rfl⟩
noncomputable def zrl:List IVal→HC XF:=xv fun a0=>xv fun a1=>x0 (
.op (zad (.p (.func F_Q64)) [a0]) fun a2 =>
.op (zad (.p (.func F_Q64)) [a1]) fun a3 =>
.cond a2 (.cond a3 (.fin .ret [(.p (.int .i64 0))]) <|
.fin .ret [(.p (.int .i64 (-1)))]) <|
.cond a3 (.fin .ret [(.p (.int .i64 1))]) <|
.op (x_lss a0 a1) fun a4 =>
.cond a4 (.fin .ret [(.p (.int .i64 (-1)))]) <|
.op (x_gtr a0 a1) fun a5 =>
.cond a5 (.fin .ret [(.p (.int .i64 1))]) <|
.fin .ret [(.p (.int .i64 0))])
noncomputable def zgt:HFun:=⟨2,zrl,[.tmp 4],true⟩
theorem zoh:HOK tr.look F_Q33 zgt:=⟨i_Q33,(.sq .lf (.sq .lf (.sq .lf (.sq (.sq .lf (.cj (.sq (.sq .lf (.cj (.sq .lf .lf) .lf)) (.sq .lf .lf)) .lf)) (.sq (.sq .lf (.cj (.sq .lf .lf) .lf)) (.sq (.sq .lf (.cj (.sq .lf .lf) .lf)) (.sq (.sq .lf (.cj (.sq .lf .lf) .lf)) (.sq .lf .lf)))))))),[],look_Q33,rfl,rfl,rfl,rfl,rfl,by kernel_rfl⟩
noncomputable def zagz:List IVal→HC XF:=xv fun a0=>x0 (
.fresh [1] [a0] <|
.op (x_box (some 1) 5 a0) fun a1 =>
.op (zaa 3 a1) fun a2 =>
.op (zab none a2) fun a3 =>
.op (x_len a3) fun a4 =>
.op (zaa 4 a1) fun a5 =>
.op (zab none a5) fun a6 =>
.op (x_len a6) fun a7 =>
.block 1 (.loop [(.p (.int .i64 0)),a4,a6,a7] <| xv fun a8=>xv fun a9=>xv fun a10=>xv fun a11=>x0 (
.op (x_lss a8 a11) fun a12 =>
.cond a12 (.block 2 (.fresh [5] [a12,a8,a9,a10,a11] <|
.op (zac 5 a10 a8) fun a13 =>
.op (zab (some 5) a13) fun a14 =>
.op (zai (some 5) [(.int .i64 0),(.str []),(.str []), .nilslice, .nilslice]) fun a15 =>
.op (zae 5 a15 a14) fun _ =>
.op (zab (some 5) a15) fun a17 =>
.op (zad (.p (.func F_Q34)) [a17]) fun a18 =>
.op (x_add a9 a18) fun a19 =>
.fin .normal [a8,a19,a10,a11]) <| xv fun a20=>xv fun a21=>xv fun a22=>xv fun a23=>x0 (
.op (x_add a20 (.p (.int .i64 1))) fun a24 =>
.fin .normal [a24,a21,a22,a23])) <|
.fin (.exit 1) [a9])) <| xv fun a25=>x0 (
.fin .ret [a25]))
noncomputable def zsz:HFun:=⟨1,zagz,[.tmp 2],true⟩
theorem zyk:HOK tr.look F_Q34 zsz:=⟨i_Q34,(.sq .lf (.sq .lf (.sq (.sq .lf (.bk [3] (.lp [12,3,10,11] (.sq .lf (.sq (.cj .lf .lf) (.sq (.bk [12,3,10,11] (.sq .lf .lf)) .lf)))))) (.sq .lf .lf)))),[],look_Q34,rfl,rfl,rfl,rfl,rfl,by kernel_rfl⟩
noncomputable def zajl:List IVal→HC XF:=xv fun a0=>x0 (
.fresh [1] [a0] <|
.op (x_box (some 1) 5 a0) fun a1 =>
.op (zaa 0 a1) fun a2 =>
.op (zab none a2) fun a3 =>
.op (x_eql a3 (.p (.int .i64 2))) fun a4 =>
.cond a4 (.op (zaa 1 a1) fun a5 =>
.op (zab none a5) fun a6 =>
.op (zad (.p (.func F_Q65)) [a6]) fun a7 =>
.opg a7 true (zaa 2 a1) fun a8 =>
.opg a7 true (zab none a8) fun a9 =>
.opg a7 true (x_eql a9 (.p (.str []))) fun a10 =>
.op (zah a7 a10 (.p (.bool false))) fun a11 =>
.opg a11 true (zaa 3 a1) fun a12 =>
.opg a11 true (zab none a12) fun a13 =>
.opg a11 true (zad (.p (.func F_Q66)) [a13]) fun a14 =>
.op (zah a11 a14 (.p (.bool false))) fun a15 =>
.opg a15 true (zab (some 5) a1) fun a16 =>
.opg a15 true (zad (.p (.func F_Q17)) [a16]) fun a17 =>
.op (zah a15 a17 (.p (.bool false))) fun a18 =>
.fin .ret [a18]) <|
.op (zaa 3 a1) fun a19 =>
.op (zab none a19) fun a20 =>
.op (x_len a20) fun a21 =>
.op (x_gtr a21 (.p (.int .i64 0))) fun a22 =>
.opg a22 false (zaa 4 a1) fun a23 =>
.opg a22 false (zab none a23) fun a24 =>
.opg a22 false (x_len a24) fun a25 =>
.opg a22 false (x_gtr a25 (.p (.int .i64 0))) fun a26 =>
.op (zah a22 (.p (.bool true)) a26) fun a27 =>
.cond a27 (.fin .ret [(.p (.bool false))]) <|
.op (zaa 0 a1) fun a28 =>
.op (zab none a28) fun a29 =>
.block 1 (.op (x_eql a29 (.p (.int .i64 3))) fun a30 =>
.cond a30 (.op (zaa 1 a1) fun a31 =>
.op (zab none a31) fun a32 =>
.op (x_eql a32 (.p (.str []))) fun a33 =>
.opg a33 true (zaa 2 a1) fun a34 =>
.opg a33 true (zab none a34) fun a35 =>
.opg a33 true (x_neq a35 (.p (.str []))) fun a36 =>
.op (zah a33 a36 (.p (.bool false))) fun a37 =>
.opg a37 true (zaa 2 a1) fun a38 =>
.opg a37 true (zab none a38) fun a39 =>
.opg a37 true (zdb a39) fun a40 =>
.opg a37 true (x_leq a40 (.p (.int .i64 4096))) fun a41 =>
.op (zah a37 a41 (.p (.bool false))) fun a42 =>
.fin .ret [a42]) <|
.op (x_eql a29 (.p (.int .i64 4))) fun a43 =>
.cond a43 (.op (zaa 1 a1) fun a44 =>
.op (zab none a44) fun a45 =>
.op (x_eql a45 (.p (.str []))) fun a46 =>
.opg a46 true (zaa 2 a1) fun a47 =>
.opg a46 true (zab none a47) fun a48 =>
.opg a46 true (zdb a48) fun a49 =>
.opg a46 true (x_leq a49 (.p (.int .i64 4096))) fun a50 =>
.op (zah a46 a50 (.p (.bool false))) fun a51 =>
.fin .ret [a51]) <|
.op (x_eql a29 (.p (.int .i64 5))) fun a52 =>
.cond a52 (.op (zaa 2 a1) fun a53 =>
.op (zab none a53) fun a54 =>
.op (x_eql a54 (.p (.str []))) fun a55 =>
.opg a55 true (zaa 1 a1) fun a56 =>
.opg a55 true (zab none a56) fun a57 =>
.opg a55 true (zdb a57) fun a58 =>
.opg a55 true (x_leq a58 (.p (.int .i64 32))) fun a59 =>
.op (zah a55 a59 (.p (.bool false))) fun a60 =>
.fin .ret [a60]) <|
.fin .normal []) <| x0 (
.fin .ret [(.p (.bool false))]))
noncomputable def zww:HFun:=⟨1,zajl,[.tmp 2],true⟩
theorem zacs:HOK tr.look F_Q35 zww:=⟨i_Q35,(.sq .lf (.sq (.sq .lf (.cj (.sq .lf .lf) .lf)) (.sq (.sq .lf (.cj (.sq .lf .lf) .lf)) (.sq (.sq .lf (.bk [] (.sq .lf (.cj (.sq .lf .lf) (.sq .lf (.cj (.sq .lf .lf) (.sq .lf (.cj (.sq .lf .lf) .lf)))))))) (.sq .lf .lf))))),[],look_Q35,rfl,rfl,rfl,rfl,rfl,by kernel_rfl⟩
noncomputable def zamf:List IVal→HC XF:=xv fun a0=>x0 (
.fresh [1,2] [a0] <|
.op (x_box (some 1) 10 a0) fun a1 =>
.op (zai (some 2) [(.int .i64 0),(.str [])]) fun a2 =>
.op (zaa 5 a1) fun a3 =>
.op (zaa 0 a3) fun a4 =>
.op (zab none a4) fun a5 =>
.op (zaa 5 a1) fun a6 =>
.op (zaa 1 a6) fun a7 =>
.op (zab none a7) fun a8 =>
.op (zaj [(.int .i64 0),(.str [])] [(0,1,a5),(1,1,a8)]) fun a9 =>
.op (zae 2 a2 a9) fun _ =>
.fin .ret [a2])
noncomputable def zaal:HFun:=⟨1,zamf,[.cell 2 (some 2)],true⟩
theorem zaha:HOK tr.look F_Q36 zaal:=⟨i_Q36,(.sq .lf (.sq .lf .lf)),[],look_Q36,rfl,rfl,rfl,rfl,rfl,by kernel_rfl⟩
noncomputable def zajm:List IVal→HC XF:=xv fun a0=>xv fun a1=>x0 (
.op (zaj [.nilptr,(.int .i64 0),(.int .i64 0),(.int .i64 0)] [(0,1,a0),(1,1,(.p (.int .i64 (-1))))]) fun a2 =>
.op (zaf 4 1 [.nilptr,(.int .i64 0),(.int .i64 0),(.int .i64 0)] [(0,4,a2)]) fun a3 =>
.block 1 (.loop [(.p (.int .i64 0)),a1,a3] <| xv fun a4=>xv fun a5=>xv fun a6=>x0 (
.op (x_len a6) fun a7 =>
.op (x_gtr a7 (.p (.int .i64 0))) fun a8 =>
.cond a8 (.block 2 (.fresh [6] [a8,a7,a6,a4,a5,a6] <|
.op (x_len a6) fun a9 =>
.op (x_sub a9 (.p (.int .i64 1))) fun a10 =>
.op (zac 4 a6 a10) fun a11 =>
.op (zab (some 4) a11) fun a12 =>
.op (zai (some 6) [.nilptr,(.int .i64 0),(.int .i64 0),(.int .i64 0)]) fun a13 =>
.op (zae 4 a13 a12) fun _ =>
.op (x_len a6) fun a15 =>
.op (x_sub a15 (.p (.int .i64 1))) fun a16 =>
.op (zaq 4 a6 none (some a16)) fun a17 =>
.op (zab (some 4) a13) fun a18 =>
.op (zad a5 [a4,a18]) fun a19 =>
.op (x_not a19) fun a20 =>
.cond a20 (.fin (.exit 1) []) <|
.op (zaa 0 a13) fun a21 =>
.op (zab none a21) fun a22 =>
.op (x_nil a22) fun a23 =>
.op (zaa 4 a23) fun a24 =>
.op (zab none a24) fun a25 =>
.op (x_len a25) fun a26 =>
.op (x_sub a26 (.p (.int .i64 1))) fun a27 =>
.block 3 (.loop [a27,a17,a13,a4,a5] <| xv fun a28=>xv fun a29=>xv fun a30=>xv fun a31=>xv fun a32=>x0 (
.op (x_geq a28 (.p (.int .i64 0))) fun a33 =>
.cond a33 (.block 4 (.op (zaa 0 a30) fun a34 =>
.op (zab none a34) fun a35 =>
.op (x_nil a35) fun a36 =>
.op (zaa 4 a36) fun a37 =>
.op (zab none a37) fun a38 =>
.op (zac 5 a38 a28) fun a39 =>
.op (zaa 2 a30) fun a40 =>
.op (zab none a40) fun a41 =>
.op (x_add a41 (.p (.int .i64 1))) fun a42 =>
.op (zaj [.nilptr,(.int .i64 0),(.int .i64 0),(.int .i64 0)] [(0,1,a39),(1,1,a31),(2,1,a42),(3,1,a28)]) fun a43 =>
.op (zaf 4 1 [.nilptr,(.int .i64 0),(.int .i64 0),(.int .i64 0)] [(0,4,a43)]) fun a44 =>
.op (zal 4 (.const a29) (.const a44)) fun a45 =>
.fin .normal [a28,a45,a30,a31,a32]) <| xv fun a46=>xv fun a47=>xv fun a48=>xv fun a49=>xv fun a50=>x0 (
.op (x_sub a46 (.p (.int .i64 1))) fun a51 =>
.fin .normal [a51,a47,a48,a49,a50])) <|
.fin (.exit 3) [a31,a32,a29])) <| xv fun a52=>xv fun a53=>xv fun a54=>x0 (
.op (x_add a52 (.p (.int .i64 1))) fun a55 =>
.fin .normal [a55,a53,a54])) <| xv fun a56=>xv fun a57=>xv fun a58=>x0 (
.fin .normal [a56,a57,a58])) <|
.fin (.exit 1) [])) <| x0 (
.fin .ret []))
noncomputable def zwx:HFun:=⟨2,zajm,[],false⟩
theorem zact:HOK tr.look F_Q37 zwx:=⟨i_Q37,(.sq .lf (.sq .lf (.sq .lf (.bk [] (.lp [5,1,4] (.sq (.sq .lf (.cj .lf .lf)) (.bk [5,1,4] (.sq .lf (.sq .lf (.sq (.sq .lf (.cj .lf .lf)) (.sq (.sq .lf (.bk [5,1,4] (.lp [7,4,6,5,1] (.sq (.sq .lf (.cj .lf .lf)) (.sq (.bk [7,4,6,5,1] .lf) .lf))))) .lf))))))))))),[],look_Q37,rfl,rfl,rfl,rfl,rfl,by kernel_rfl⟩
noncomputable def zacu:List IVal→HC XF:=xv fun a0=>xv fun a1=>xv fun a2=>x0 (
.fresh [4] [a0,a1,a2] <|
.op (x_box (some 4) 4 a1) fun a3 =>
.fresh [6] [(.p (.bool false)),a3,a0,a1,a2] <|
.op (zaa 0 a3) fun a4 =>
.op (zab none a4) fun a5 =>
.op (x_nil a5) fun a6 =>
.op (zab (some 5) a6) fun a7 =>
.op (zai (some 6) [(.int .i64 0),(.str []),(.str []), .nilslice, .nilslice]) fun a8 =>
.op (zae 5 a8 a7) fun _ =>
.op (zaa 4 a8) fun a10 =>
.op (zae 1 a10 (.p .nilslice)) fun _ =>
.op (zaa 3 a8) fun a12 =>
.op (zab none a12) fun a13 =>
.op (zad (.p (.func F_Q39)) [a13]) fun a14 =>
.op (zaa 3 a8) fun a15 =>
.op (zae 1 a15 a14) fun _ =>
.op (zab none a2) fun a17 =>
.op (zaa 1 a3) fun a18 =>
.op (zab none a18) fun a19 =>
.op (zaa 2 a3) fun a20 =>
.op (zab none a20) fun a21 =>
.op (zaa 3 a3) fun a22 =>
.op (zab none a22) fun a23 =>
.op (zab (some 5) a8) fun a24 =>
.op (zaj [(.int .i64 0),(.int .i64 0),(.int .i64 0),(.int .i64 0),(.int .i64 0),(.int .i64 0),(.str []),(.str []), .nilslice, .nilslice] [(0,1,a19),(1,1,(.p (.int .i64 1))),(2,1,a21),(3,1,(.p (.int .i64 1))),(4,1,a23),(5,5,a24)]) fun a25 =>
.op (zaf 10 1 [(.int .i64 0),(.int .i64 0),(.int .i64 0),(.int .i64 0),(.int .i64 0),(.int .i64 0),(.str []),(.str []), .nilslice, .nilslice] [(0,10,a25)]) fun a26 =>
.op (zal 10 (.const a17) (.const a26)) fun a27 =>
.op (zae 1 a2 a27) fun _ =>
.fin .ret [(.p (.bool true))])
noncomputable def zqa:HFun:=⟨3,zacu,[.tmp 5],false⟩
theorem zwy:HOK tr.look F_Q38 zqa:=⟨i_Q38,(.sq .lf (.sq .lf (.sq .lf (.sq .lf (.sq .lf (.sq .lf .lf)))))),[],look_Q38,rfl,rfl,rfl,rfl,rfl,by kernel_rfl⟩
noncomputable def zde:List IVal→HC XF:=xv fun a0=>x0 (
.op (zaub false (.const a0) (.const (.p .nilslice))) fun a1 =>
.cond a1 (.fin .ret [(.p .nilslice)]) <|
.op (zaf 2 0 [(.str []),(.str [])] []) fun a2 =>
.op (zal 2 (.const a2) (.const a0)) fun a3 =>
.fin .ret [a3])
noncomputable def zbg:HFun:=⟨1,zde,[.tmp 2],false⟩
theorem zcr:HOK tr.look F_Q39 zbg:=⟨i_Q39,(.sq .lf (.sq (.sq .lf (.cj (.sq .lf .lf) .lf)) (.sq .lf .lf))),[],look_Q39,rfl,rfl,rfl,rfl,rfl,by kernel_rfl⟩
noncomputable def zacv:List IVal→HC XF:=xv fun a0=>xv fun a1=>xv fun a2=>x0 (
.fresh [4] [a0,a1,a2] <|
.op (x_box (some 4) 5 a1) fun a3 =>
.op (x_nil a0) fun a4 =>
.op (zaa 0 a4) fun a5 =>
.op (zab none a5) fun a6 =>
.op (x_len a6) fun a7 =>
.op (zab (some 5) a3) fun a8 =>
.op (zad (.p (.func F_Q67)) [a0,a7,a2,a8]) fun _ =>
.op (zaa 4 a3) fun a10 =>
.op (zab none a10) fun a11 =>
.op (x_len a11) fun a12 =>
.block 1 (.loop [(.p (.int .i64 0)),a0,a7,a11,a12] <| xv fun a13=>xv fun a14=>xv fun a15=>xv fun a16=>xv fun a17=>x0 (
.op (x_lss a13 a17) fun a18 =>
.cond a18 (.block 2 (.fresh [9] [a18,a13,a14,a15,a16,a17] <|
.op (zac 5 a16 a13) fun a19 =>
.op (zab (some 5) a19) fun a20 =>
.op (zai (some 9) [(.int .i64 0),(.str []),(.str []), .nilslice, .nilslice]) fun a21 =>
.op (zae 5 a21 a20) fun _ =>
.op (zab (some 5) a21) fun a23 =>
.op (zad (.p (.func F_Q40)) [a14,a23,a15]) fun a24 =>
.op (x_nil a14) fun a25 =>
.op (zaa 0 a25) fun a26 =>
.op (zab none a26) fun a27 =>
.op (x_nil a14) fun a28 =>
.op (zaa 0 a28) fun a29 =>
.op (zab none a29) fun a30 =>
.op (zac 8 a30 a15) fun a31 =>
.op (zaa 7 a31) fun a32 =>
.op (zab none a32) fun a33 =>
.op (zaf 1 1 [(.int .i64 0)] [(0,1,a24)]) fun a34 =>
.op (zal 1 (.const a33) (.const a34)) fun a35 =>
.op (zac 8 a27 a15) fun a36 =>
.op (zaa 7 a36) fun a37 =>
.chk (.load none (.const a26)) a27 <|
.op (zae 1 a37 a35) fun _ =>
.fin .normal [a13,a14,a15,a16,a17]) <| xv fun a39=>xv fun a40=>xv fun a41=>xv fun a42=>xv fun a43=>x0 (
.op (x_add a39 (.p (.int .i64 1))) fun a44 =>
.fin .normal [a44,a40,a41,a42,a43])) <|
.fin (.exit 1) [a15])) <| xv fun a45=>x0 (
.fin .ret [a45]))
noncomputable def zqb:HFun:=⟨3,zacv,[.tmp 6],false⟩
theorem zwz:HOK tr.look F_Q40 zqb:=⟨i_Q40,(.sq .lf (.sq .lf (.sq .lf (.sq (.sq .lf (.bk [7] (.lp [24,0,7,22,23] (.sq .lf (.sq (.cj .lf .lf) (.sq (.bk [24,0,7,22,23] (.sq .lf (.sq .lf .lf))) .lf)))))) (.sq .lf .lf))))),[],look_Q40,rfl,rfl,rfl,rfl,rfl,by kernel_rfl⟩
noncomputable def ztm:List IVal→HC XF:=xv fun a0=>xv fun a1=>xv fun a2=>xv fun a3=>xv fun a4=>x0 (
.fresh [9] [a0,a1,a2,a3,a4] <|
.op (x_box (some 9) 5 a4) fun a5 =>
.op (zad (.p (.func F_Q68)) [a0,a2]) fun a6 =>
.block 1 (.op (zad (.p (.func F_Q69)) [a0,a1]) fun a7 =>
.opg a7 false (x_mov a1) fun a8 =>
.opg a7 false (x_lss a8 (.p (.int .i64 1))) fun a9 =>
.op (zah a7 (.p (.bool true)) a9) fun a10 =>
.opg a10 false (x_mov a1) fun a11 =>
.opg a10 false (x_gtr a11 (.p (.int .i64 1048576))) fun a12 =>
.op (zah a10 (.p (.bool true)) a12) fun a13 =>
.block 0 (.cond a13 (.fin .normal [a13,a6,a5,a0,a2,a3,a1]) <|
.op (zaa 4 a5) fun a14 =>
.op (zab none a14) fun a15 =>
.op (x_len a15) fun a16 =>
.op (x_gtr a16 (.p (.int .i64 0))) fun a17 =>
.opg a17 false (zaa 3 a5) fun a18 =>
.opg a17 false (zab none a18) fun a19 =>
.opg a17 false (x_len a19) fun a20 =>
.opg a17 false (x_gtr a20 (.p (.int .i64 0))) fun a21 =>
.op (zah a17 (.p (.bool true)) a21) fun a22 =>
.opg a22 false (zab (some 5) a5) fun a23 =>
.opg a22 false (zaf 5 1 [(.int .i64 0),(.str []),(.str []), .nilslice, .nilslice] [(0,5,a23)]) fun a24 =>
.opg a22 false (zaj [(.int .i64 0),(.str []),(.str []), .nilslice, .nilslice] [(0,1,(.p (.int .i64 1))),(4,1,a24)]) fun a25 =>
.opg a22 false (zad (.p (.func F_Q10)) [a25]) fun a26 =>
.opg a22 false (x_not a26) fun a27 =>
.op (zah a22 (.p (.bool true)) a27) fun a28 =>
.fin .normal [a28,a6,a5,a0,a2,a3,a1]) <| xv fun a29=>xv fun a30=>xv fun a31=>xv fun a32=>xv fun a33=>xv fun a34=>xv fun a35=>x0 (
.cond a29 (.fin .ret [(.p (.int .i64 1))]) <|
.op (x_nil a32) fun a36 =>
.op (zaa 0 a36) fun a37 =>
.op (zab none a37) fun a38 =>
.op (x_len a38) fun a39 =>
.op (x_geq a39 (.p (.int .i64 300))) fun a40 =>
.cond a40 (.fin .ret [(.p (.int .i64 2))]) <|
.op (zeb false (.const a30) (.const (.p .nilptr))) fun a41 =>
.cond a41 (.fin .ret [(.p (.int .i64 3))]) <|
.op (zaa 0 a31) fun a42 =>
.op (zab none a42) fun a43 =>
.op (zad (.p (.func F_Q70)) [a30,a43]) fun a44 =>
.op (x_not a44) fun a45 =>
.cond a45 (.fin .ret [(.p (.int .i64 4))]) <|
.op (x_lss a34 (.p (.int .i64 0))) fun a46 =>
.opg a46 false (x_mov a34) fun a47 =>
.opg a46 false (x_mov a30) fun a48 =>
.opg a46 false (x_nil a48) fun a49 =>
.opg a46 false (zaa 7 a49) fun a50 =>
.opg a46 false (zab none a50) fun a51 =>
.opg a46 false (x_len a51) fun a52 =>
.opg a46 false (x_gtr a47 a52) fun a53 =>
.op (zah a46 (.p (.bool true)) a53) fun a54 =>
.cond a54 (.fin .ret [(.p (.int .i64 5))]) <|
.op (zad (.p (.func F_Q71)) [a32,a33]) fun a55 =>
.op (x_geq a55 (.p (.int .i64 60))) fun a56 =>
.cond a56 (.fin .ret [(.p (.int .i64 2))]) <|
.fin .normal [a31,a32,a33,a34,a35])) <| xv fun a57=>xv fun a58=>xv fun a59=>xv fun a60=>xv fun a61=>x0 (
.op (zab (some 5) a57) fun a62 =>
.op (zad (.p (.func F_Q67)) [a58,a61,a59,a62]) fun _ =>
.op (zad (.p (.func F_Q68)) [a58,a59]) fun a64 =>
.op (x_nil a64) fun a65 =>
.op (zaa 7 a65) fun a66 =>
.op (zab none a66) fun a67 =>
.op (zaf 1 1 [(.int .i64 0)] [(0,1,a61)]) fun a68 =>
.op (zad (.p (.func F_Q72)) [a67,a60,a68]) fun a69 =>
.op (x_nil a64) fun a70 =>
.op (zaa 7 a70) fun a71 =>
.op (zae 1 a71 a69) fun _ =>
.fin .ret [(.p (.int .i64 0))]))
noncomputable def zie:HFun:=⟨5,ztm,[.tmp 10],false⟩
theorem zqc:HOK tr.look F_Q41 zie:=⟨i_Q41,(.sq .lf (.sq .lf (.sq (.bk [9,0,2,3,1] (.sq (.sq .lf (.cd [15,11,9,0,2,3,1] .lf .lf)) (.cj (.sq .lf .lf) (.sq .lf (.cj (.sq .lf .lf) (.sq .lf (.cj (.sq .lf .lf) (.sq .lf (.cj (.sq .lf .lf) (.sq .lf (.cj (.sq .lf .lf) (.sq .lf (.cj (.sq .lf .lf) .lf))))))))))))) (.sq .lf (.sq .lf (.sq .lf (.sq .lf .lf))))))),[],look_Q41,rfl,rfl,rfl,rfl,rfl,by kernel_rfl⟩
noncomputable def ztn:List IVal→HC XF:=xv fun a0=>xv fun a1=>x0 (
.op (zad (.p (.func F_Q68)) [a0,a1]) fun a2 =>
.block 1 (.op (zeb false (.const a2) (.const (.p .nilptr))) fun a3 =>
.cond a3 (.fin .ret [(.p (.int .i64 3))]) <|
.op (x_nil a2) fun a4 =>
.op (zaa 2 a4) fun a5 =>
.op (zaa 0 a5) fun a6 =>
.op (zab none a6) fun a7 =>
.op (x_eql a7 (.p (.int .i64 1))) fun a8 =>
.cond a8 (.fin .ret [(.p (.int .i64 4))]) <|
.op (x_nil a2) fun a9 =>
.op (zaa 7 a9) fun a10 =>
.op (zab none a10) fun a11 =>
.op (x_len a11) fun a12 =>
.op (x_gtr a12 (.p (.int .i64 0))) fun a13 =>
.cond a13 (.fin .ret [(.p (.int .i64 7))]) <|
.fin .normal [a1,a0]) <| xv fun a14=>xv fun a15=>x0 (
.op (zad (.p (.func F_Q73)) [a15,a14]) fun a16 =>
.op (x_nil a15) fun a17 =>
.op (zaa 1 a17) fun a18 =>
.op (zab none a18) fun a19 =>
.op (zba false (.p (.int .i64 0)) ⟨false,[.int]⟩ (.const a19) (.const a14)) fun a20 =>
.fresh [7] [a20,a20,a14,a19,a18,a17,a15,a16,a14,a15,a14,a15] <|
.op (x_nil a15) fun a21 =>
.op (zaa 0 a21) fun a22 =>
.op (zab none a22) fun a23 =>
.op (x_nil a15) fun a24 =>
.op (zaa 0 a24) fun a25 =>
.op (zab none a25) fun a26 =>
.op (x_len a26) fun a27 =>
.op (x_sub a27 (.p (.int .i64 1))) fun a28 =>
.op (zac 8 a23 a28) fun a29 =>
.op (zab (some 8) a29) fun a30 =>
.op (zai (some 7) [(.int .i64 0),(.int .i64 0),(.int .i64 0),(.str []),(.str []), .nilslice, .nilslice, .nilslice]) fun a31 =>
.op (zae 8 a31 a30) fun _ =>
.op (x_nil a15) fun a33 =>
.op (zaa 0 a33) fun a34 =>
.op (zab none a34) fun a35 =>
.op (zab (some 8) a31) fun a36 =>
.op (zac 8 a35 a20) fun a37 =>
.op (zae 8 a37 a36) fun _ =>
.op (x_nil a15) fun a39 =>
.op (zaa 1 a39) fun a40 =>
.op (zab none a40) fun a41 =>
.op (zaa 0 a31) fun a42 =>
.op (zab none a42) fun a43 =>
.op (zfz ⟨false,[.int]⟩ (.const a41) (.const a43) (.const a20)) fun _ =>
.op (x_nil a15) fun a45 =>
.op (zaa 1 a45) fun a46 =>
.op (zab none a46) fun a47 =>
.op (x_del ⟨false,[.int]⟩ (.const a47) (.const a14)) fun _ =>
.op (x_nil a15) fun a49 =>
.op (zaa 0 a49) fun a50 =>
.op (zab none a50) fun a51 =>
.op (x_nil a15) fun a52 =>
.op (zaa 0 a52) fun a53 =>
.op (zab none a53) fun a54 =>
.op (x_len a54) fun a55 =>
.op (x_sub a55 (.p (.int .i64 1))) fun a56 =>
.op (zaq 8 a51 none (some a56)) fun a57 =>
.op (x_nil a15) fun a58 =>
.op (zaa 0 a58) fun a59 =>
.op (zae 1 a59 a57) fun _ =>
.fin .ret [(.p (.int .i64 0))]))
noncomputable def zif:HFun:=⟨2,ztn,[.tmp 4],false⟩
theorem zqd:HOK tr.look F_Q42 zif:=⟨i_Q42,(.sq .lf (.sq .lf (.sq (.bk [1,0] (.sq .lf (.cj (.sq .lf .lf) (.sq .lf (.cj (.sq .lf .lf) (.sq .lf (.cj (.sq .lf .lf) .lf))))))) (.sq .lf (.sq .lf (.sq .lf (.sq .lf (.sq .lf (.sq .lf (.sq .lf (.sq .lf .lf))))))))))),[],look_Q42,rfl,rfl,rfl,rfl,rfl,by kernel_rfl⟩
noncomputable def zyl:List IVal→HC XF:=xv fun a0=>xv fun a1=>xv fun a2=>xv fun a3=>x0 (
.op (zad (.p (.func F_Q68)) [a0,a1]) fun a4 =>
.op (zad (.p (.func F_Q68)) [a0,a2]) fun a5 =>
.block 1 (.op (zeb false (.const a4) (.const (.p .nilptr))) fun a6 =>
.opg a6 false (x_mov a5) fun a7 =>
.opg a6 false (zeb false (.const a7) (.const (.p .nilptr))) fun a8 =>
.op (zah a6 (.p (.bool true)) a8) fun a9 =>
.cond a9 (.fin .ret [(.p (.int .i64 3))]) <|
.op (x_nil a4) fun a10 =>
.op (zaa 2 a10) fun a11 =>
.op (zaa 0 a11) fun a12 =>
.op (zab none a12) fun a13 =>
.op (x_eql a13 (.p (.int .i64 1))) fun a14 =>
.opg a14 false (x_mov a5) fun a15 =>
.opg a14 false (x_mov a4) fun a16 =>
.opg a14 false (x_nil a16) fun a17 =>
.opg a14 false (zaa 2 a17) fun a18 =>
.opg a14 false (zaa 0 a18) fun a19 =>
.opg a14 false (zab none a19) fun a20 =>
.opg a14 false (zad (.p (.func F_Q70)) [a15,a20]) fun a21 =>
.opg a14 false (x_not a21) fun a22 =>
.op (zah a14 (.p (.bool true)) a22) fun a23 =>
.cond a23 (.fin .ret [(.p (.int .i64 4))]) <|
.op (zad (.p (.func F_Q74)) [a0,a1,a2]) fun a24 =>
.cond a24 (.fin .ret [(.p (.int .i64 6))]) <|
.fin .normal [a0,a4,a2,a5,a3,a1]) <| xv fun a25=>xv fun a26=>xv fun a27=>xv fun a28=>xv fun a29=>xv fun a30=>x0 (
.op (x_nil a28) fun a31 =>
.op (zaa 7 a31) fun a32 =>
.op (zab none a32) fun a33 =>
.op (x_len a33) fun a34 =>
.op (x_nil a26) fun a35 =>
.op (zaa 1 a35) fun a36 =>
.op (zab none a36) fun a37 =>
.op (x_eql a37 a27) fun a38 =>
.block 0 (.cond a38 (.op (x_sub a34 (.p (.int .i64 1))) fun a39 =>
.fin .normal [a39,a25,a26,a27,a28,a29,a30]) <|
.fin .normal [a34,a25,a26,a27,a28,a29,a30]) <| xv fun a40=>xv fun a41=>xv fun a42=>xv fun a43=>xv fun a44=>xv fun a45=>xv fun a46=>x0 (
.block 2 (.op (x_lss a45 (.p (.int .i64 0))) fun a47 =>
.opg a47 false (x_mov a45) fun a48 =>
.opg a47 false (x_mov a40) fun a49 =>
.opg a47 false (x_gtr a48 a49) fun a50 =>
.op (zah a47 (.p (.bool true)) a50) fun a51 =>
.cond a51 (.fin .ret [(.p (.int .i64 5))]) <|
.op (zad (.p (.func F_Q71)) [a41,a43]) fun a52 =>
.op (zad (.p (.func F_Q75)) [a41,a46]) fun a53 =>
.op (x_add a52 a53) fun a54 =>
.op (x_gtr a54 (.p (.int .i64 60))) fun a55 =>
.cond a55 (.fin .ret [(.p (.int .i64 2))]) <|
.fin .normal [a41,a42,a43,a44,a45,a46]) <| xv fun a56=>xv fun a57=>xv fun a58=>xv fun a59=>xv fun a60=>xv fun a61=>x0 (
.op (zad (.p (.func F_Q73)) [a56,a61]) fun _ =>
.op (x_nil a57) fun a63 =>
.op (zaa 1 a63) fun a64 =>
.op (zae 1 a64 a58) fun _ =>
.op (x_nil a59) fun a66 =>
.op (zaa 7 a66) fun a67 =>
.op (zab none a67) fun a68 =>
.op (zaf 1 1 [(.int .i64 0)] [(0,1,a61)]) fun a69 =>
.op (zad (.p (.func F_Q72)) [a68,a60,a69]) fun a70 =>
.op (x_nil a59) fun a71 =>
.op (zaa 7 a71) fun a72 =>
.op (zae 1 a72 a70) fun _ =>
.fin .ret [(.p (.int .i64 0))]))))
noncomputable def znh:HFun:=⟨4,zyl,[.tmp 8],false⟩
theorem zto:HOK tr.look F_Q43 znh:=⟨i_Q43,(.sq .lf (.sq .lf (.sq (.bk [0,9,2,10,3,1] (.sq .lf (.cj (.sq .lf .lf) (.sq .lf (.cj (.sq .lf .lf) (.sq .lf (.cj (.sq .lf .lf) .lf))))))) (.sq .lf (.sq (.sq .lf (.cd [11,0,9,2,10,3,1] .lf .lf)) (.sq (.bk [0,9,2,10,3,1] (.sq .lf (.cj (.sq .lf .lf) (.sq .lf (.cj (.sq .lf .lf) .lf))))) (.sq .lf (.sq .lf (.sq .lf (.sq .lf .lf)))))))))),[],look_Q43,rfl,rfl,rfl,rfl,rfl,by kernel_rfl⟩
noncomputable def zacw:List IVal→HC XF:=xv fun a0=>xv fun a1=>xv fun a2=>xv fun a3=>x0 (
.op (zad (.p (.func F_Q68)) [a0,a1]) fun a4 =>
.block 1 (.op (zeb false (.const a4) (.const (.p .nilptr))) fun a5 =>
.cond a5 (.fin .ret [(.p (.int .i64 3))]) <|
.op (x_nil a4) fun a6 =>
.op (zaa 2 a6) fun a7 =>
.op (zaa 0 a7) fun a8 =>
.op (zab none a8) fun a9 =>
.op (x_neq a9 (.p (.int .i64 2))) fun a10 =>
.cond a10 (.fin .ret [(.p (.int .i64 4))]) <|
.op (zad (.p (.func F_Q65)) [a2]) fun a11 =>
.op (x_not a11) fun a12 =>
.cond a12 (.fin .ret [(.p (.int .i64 8))]) <|
.fin .normal [a3,a4,a2]) <| xv fun a13=>xv fun a14=>xv fun a15=>x0 (
.op (zad (.p (.func F_Q76)) [a14,a15]) fun a16 =>
.op (zag a16 0) fun a17 =>
.op (zag a16 1) fun a18 =>
.block 2 (.op (zdb a13) fun a19 =>
.op (x_gtr a19 (.p (.int .i64 4096))) fun a20 =>
.opg a20 false (x_mov a18) fun a21 =>
.opg a20 false (x_not a21) fun a22 =>
.opg a20 false (x_mov a22) fun a23 =>
.opg a23 true (x_mov a14) fun a24 =>
.opg a23 true (x_nil a24) fun a25 =>
.opg a23 true (zaa 2 a25) fun a26 =>
.opg a23 true (zaa 3 a26) fun a27 =>
.opg a23 true (zab none a27) fun a28 =>
.opg a23 true (x_len a28) fun a29 =>
.opg a23 true (x_geq a29 (.p (.int .i64 12))) fun a30 =>
.opg a20 false (zah a23 a30 (.p (.bool false))) fun a31 =>
.op (zah a20 (.p (.bool true)) a31) fun a32 =>
.cond a32 (.fin .ret [(.p (.int .i64 2))]) <|
.op (x_not a18) fun a33 =>
.block 0 (.cond a33 (.op (x_nil a14) fun a34 =>
.op (zaa 2 a34) fun a35 =>
.op (zaa 3 a35) fun a36 =>
.op (zab none a36) fun a37 =>
.op (zaj [(.str []),(.str [])] [(0,1,a15)]) fun a38 =>
.op (zaf 2 1 [(.str []),(.str [])] [(0,2,a38)]) fun a39 =>
.op (zad (.p (.func 77)) [a37,a17,a39]) fun a40 =>
.op (x_nil a14) fun a41 =>
.op (zaa 2 a41) fun a42 =>
.op (zaa 3 a42) fun a43 =>
.op (zae 1 a43 a40) fun _ =>
.fin .normal [a14,a17,a13]) <|
.fin .normal [a14,a17,a13]) <| xv fun a45=>xv fun a46=>xv fun a47=>x0 (
.fin .normal [a45,a46,a47])) <| xv fun a48=>xv fun a49=>xv fun a50=>x0 (
.op (x_nil a48) fun a51 =>
.op (zaa 2 a51) fun a52 =>
.op (zaa 3 a52) fun a53 =>
.op (zab none a53) fun a54 =>
.op (zac 2 a54 a49) fun a55 =>
.op (zaa 1 a55) fun a56 =>
.op (zae 1 a56 a50) fun _ =>
.fin .ret [(.p (.int .i64 0))])))
noncomputable def zqe:HFun:=⟨4,zacw,[.tmp 8],false⟩
theorem zxa:HOK tr.look F_Q44 zqe:=⟨i_Q44,(.sq .lf (.sq .lf (.sq (.bk [3,9,2] (.sq .lf (.cj (.sq .lf .lf) (.sq .lf (.cj (.sq .lf .lf) (.sq .lf (.cj (.sq .lf .lf) .lf))))))) (.sq .lf (.sq (.bk [9,10,3] (.sq .lf (.cj (.sq .lf .lf) (.sq .lf (.cd [9,10,3] .lf .lf))))) (.sq .lf (.sq .lf .lf))))))),[],look_Q44,rfl,rfl,rfl,rfl,rfl,by kernel_rfl⟩
noncomputable def zxb:List IVal→HC XF:=xv fun a0=>xv fun a1=>xv fun a2=>x0 (
.op (zad (.p (.func F_Q68)) [a0,a1]) fun a3 =>
.block 1 (.op (zeb false (.const a3) (.const (.p .nilptr))) fun a4 =>
.cond a4 (.fin .ret [(.p (.int .i64 3))]) <|
.op (x_nil a3) fun a5 =>
.op (zaa 2 a5) fun a6 =>
.op (zaa 0 a6) fun a7 =>
.op (zab none a7) fun a8 =>
.op (x_neq a8 (.p (.int .i64 2))) fun a9 =>
.cond a9 (.fin .ret [(.p (.int .i64 4))]) <|
.fin .normal [a2,a3]) <| xv fun a10=>xv fun a11=>x0 (
.op (zad (.p (.func F_Q76)) [a11,a10]) fun a12 =>
.op (zag a12 0) fun a13 =>
.op (zag a12 1) fun a14 =>
.op (x_not a14) fun a15 =>
.cond a15 (.fin .ret [(.p (.int .i64 8))]) <|
.op (x_nil a11) fun a16 =>
.op (zaa 2 a16) fun a17 =>
.op (zaa 3 a17) fun a18 =>
.op (zab none a18) fun a19 =>
.op (x_len a19) fun a20 =>
.op (x_sub a20 (.p (.int .i64 1))) fun a21 =>
.op (zfi 2 [(.str []),(.str [])] (.const a21) (.const a21)) fun a22 =>
.op (x_nil a11) fun a23 =>
.op (zaa 2 a23) fun a24 =>
.op (zaa 3 a24) fun a25 =>
.op (zab none a25) fun a26 =>
.op (zaq 2 a26 none (some a13)) fun a27 =>
.op (zagq 2 (.const a22) (.const a27)) fun _ =>
.op (zaq 2 a22 (some a13) none) fun a29 =>
.op (x_nil a11) fun a30 =>
.op (zaa 2 a30) fun a31 =>
.op (zaa 3 a31) fun a32 =>
.op (zab none a32) fun a33 =>
.op (x_add a13 (.p (.int .i64 1))) fun a34 =>
.op (zaq 2 a33 (some a34) none) fun a35 =>
.op (zagq 2 (.const a29) (.const a35)) fun _ =>
.op (x_nil a11) fun a37 =>
.op (zaa 2 a37) fun a38 =>
.op (zaa 3 a38) fun a39 =>
.op (zae 1 a39 a22) fun _ =>
.fin .ret [(.p (.int .i64 0))]))
noncomputable def zkg:HFun:=⟨3,zxb,[.tmp 6],false⟩
theorem zrm:HOK tr.look F_Q45 zkg:=⟨i_Q45,(.sq .lf (.sq .lf (.sq (.bk [2,7] (.sq .lf (.cj (.sq .lf .lf) (.sq .lf (.cj (.sq .lf .lf) .lf))))) (.sq .lf (.sq (.sq .lf (.cj (.sq .lf .lf) .lf)) (.sq .lf (.sq .lf (.sq .lf (.sq .lf (.sq .lf .lf)))))))))),[],look_Q45,rfl,rfl,rfl,rfl,rfl,by kernel_rfl⟩
noncomputable def zym:List IVal→HC XF:=xv fun a0=>xv fun a1=>xv fun a2=>x0 (
.op (zad (.p (.func F_Q68)) [a0,a1]) fun a3 =>
.block 1 (.op (zeb false (.const a3) (.const (.p .nilptr))) fun a4 =>
.cond a4 (.fin .ret [(.p (.int .i64 3))]) <|
.op (x_nil a3) fun a5 =>
.op (zaa 2 a5) fun a6 =>
.op (zaa 0 a6) fun a7 =>
.op (zab none a7) fun a8 =>
.op (x_neq a8 (.p (.int .i64 3))) fun a9 =>
.opg a9 true (x_mov a3) fun a10 =>
.opg a9 true (x_nil a10) fun a11 =>
.opg a9 true (zaa 2 a11) fun a12 =>
.opg a9 true (zaa 0 a12) fun a13 =>
.opg a9 true (zab none a13) fun a14 =>
.opg a9 true (x_neq a14 (.p (.int .i64 4))) fun a15 =>
.op (zah a9 a15 (.p (.bool false))) fun a16 =>
.cond a16 (.fin .ret [(.p (.int .i64 4))]) <|
.op (x_nil a3) fun a17 =>
.op (zaa 2 a17) fun a18 =>
.op (zaa 0 a18) fun a19 =>
.op (zab none a19) fun a20 =>
.op (x_eql a20 (.p (.int .i64 3))) fun a21 =>
.opg a21 true (x_mov a2) fun a22 =>
.opg a21 true (x_eql a22 (.p (.str []))) fun a23 =>
.op (zah a21 a23 (.p (.bool false))) fun a24 =>
.cond a24 (.fin .ret [(.p (.int .i64 1))]) <|
.op (zdb a2) fun a25 =>
.op (x_gtr a25 (.p (.int .i64 4096))) fun a26 =>
.cond a26 (.fin .ret [(.p (.int .i64 2))]) <|
.fin .normal [a3,a2]) <| xv fun a27=>xv fun a28=>x0 (
.op (x_nil a27) fun a29 =>
.op (zaa 2 a29) fun a30 =>
.op (zaa 2 a30) fun a31 =>
.op (zae 1 a31 a28) fun _ =>
.fin .ret [(.p (.int .i64 0))]))
noncomputable def zni:HFun:=⟨3,zym,[.tmp 6],false⟩
theorem ztp:HOK tr.look F_Q46 zni:=⟨i_Q46,(.sq .lf (.sq .lf (.sq (.bk [7,2] (.sq .lf (.cj (.sq .lf .lf) (.sq .lf (.cj (.sq .lf .lf) (.sq .lf (.cj (.sq .lf .lf) (.sq .lf (.cj (.sq .lf .lf) .lf))))))))) (.sq .lf (.sq .lf .lf))))),[],look_Q46,rfl,rfl,rfl,rfl,rfl,by kernel_rfl⟩
noncomputable def ztq:List IVal→HC XF:=xv fun a0=>xv fun a1=>x0 (
.op (zad (.p (.func F_Q68)) [a0,a1]) fun a2 =>
.op (zeb false (.const a2) (.const (.p .nilptr))) fun a3 =>
.cond a3 (.fin .ret [(.p (.int .i64 (-1)))]) <|
.op (x_nil a2) fun a4 =>
.op (zaa 1 a4) fun a5 =>
.op (zab none a5) fun a6 =>
.fin .ret [a6])
noncomputable def zig:HFun:=⟨2,ztq,[.tmp 4],false⟩
theorem zqf:HOK tr.look F_Q47 zig:=⟨i_Q47,(.sq .lf (.sq .lf (.sq (.sq .lf (.cj (.sq .lf .lf) .lf)) (.sq .lf .lf)))),[],look_Q47,rfl,rfl,rfl,rfl,rfl,by kernel_rfl⟩
noncomputable def zxc:List IVal→HC XF:=xv fun a0=>xv fun a1=>x0 (
.op (zad (.p (.func F_Q47)) [a0,a1]) fun a2 =>
.op (zad (.p (.func F_Q68)) [a0,a2]) fun a3 =>
.op (zeb false (.const a3) (.const (.p .nilptr))) fun a4 =>
.cond a4 (.fin .ret [(.p (.int .i64 (-1)))]) <|
.op (x_nil a3) fun a5 =>
.op (zaa 7 a5) fun a6 =>
.op (zab none a6) fun a7 =>
.op (zad (.p (.func F_Q78)) [a7,a1]) fun a8 =>
.fin .ret [a8])
noncomputable def zkh:HFun:=⟨2,zxc,[.tmp 4],false⟩
theorem zrn:HOK tr.look F_Q48 zkh:=⟨i_Q48,(.sq .lf (.sq .lf (.sq (.sq .lf (.cj (.sq .lf .lf) .lf)) (.sq .lf .lf)))),[],look_Q48,rfl,rfl,rfl,rfl,rfl,by kernel_rfl⟩
noncomputable def zyn:List IVal→HC XF:=xv fun a0=>xv fun a1=>x0 (
.fresh [4] [a0,a1] <|
.op (zai (some 4) [(.int .i64 0),(.str []),(.str []), .nilslice, .nilslice]) fun a2 =>
.op (zad (.p (.func F_Q68)) [a0,a1]) fun a3 =>
.op (zeb false (.const a3) (.const (.p .nilptr))) fun a4 =>
.cond a4 (.op (zaj [(.int .i64 0),(.str []),(.str []), .nilslice, .nilslice] []) fun a5 =>
.op (zae 5 a2 a5) fun _ =>
.fin .ret [a2,(.p (.bool false))]) <|
.fresh [7] [a4,a3,a3,a3,a1,a0,(.p (.bool false)),a2,a0,a1] <|
.op (x_nil a3) fun a7 =>
.op (zaa 2 a7) fun a8 =>
.op (zab (some 5) a8) fun a9 =>
.op (zai (some 7) [(.int .i64 0),(.str []),(.str []), .nilslice, .nilslice]) fun a10 =>
.op (zae 5 a10 a9) fun _ =>
.op (zaa 3 a10) fun a12 =>
.op (zab none a12) fun a13 =>
.op (zad (.p (.func F_Q39)) [a13]) fun a14 =>
.op (zaa 3 a10) fun a15 =>
.op (zae 1 a15 a14) fun _ =>
.op (zab (some 5) a10) fun a17 =>
.op (zae 5 a2 a17) fun _ =>
.fin .ret [a2,(.p (.bool true))])
noncomputable def znj:HFun:=⟨2,zyn,[.cell 4 (some 5), .tmp 5],false⟩
theorem ztr:HOK tr.look F_Q49 znj:=⟨i_Q49,(.sq .lf (.sq .lf (.sq (.sq .lf (.cj (.sq .lf .lf) .lf)) (.sq .lf (.sq .lf (.sq .lf .lf)))))),[],look_Q49,rfl,rfl,rfl,rfl,rfl,by kernel_rfl⟩
noncomputable def zajn:List IVal→HC XF:=xv fun a0=>xv fun a1=>x0 (
.fresh [2] [a0,a1] <|
.op (x_box (some 2) 5 a0) fun a2 =>
.op (zaa 3 a2) fun a3 =>
.op (zab none a3) fun a4 =>
.op (x_len a4) fun a5 =>
.block 1 (.loop [(.p (.int .i64 0)),a1,a4,a5] <| xv fun a6=>xv fun a7=>xv fun a8=>xv fun a9=>x0 (
.op (x_lss a6 a9) fun a10 =>
.cond a10 (.block 2 (.fresh [7] [a10,a6,a7,a8,a9] <|
.op (zac 2 a8 a6) fun a11 =>
.op (zab (some 2) a11) fun a12 =>
.op (zai (some 7) [(.str []),(.str [])]) fun a13 =>
.op (zae 2 a13 a12) fun _ =>
.op (zaa 0 a13) fun a15 =>
.op (zab none a15) fun a16 =>
.op (x_eql a16 a7) fun a17 =>
.cond a17 (.op (zaa 1 a13) fun a18 =>
.op (zab none a18) fun a19 =>
.fin .ret [a19,(.p (.bool true))]) <|
.fin .normal [a6,a7,a8,a9]) <| xv fun a20=>xv fun a21=>xv fun a22=>xv fun a23=>x0 (
.op (x_add a20 (.p (.int .i64 1))) fun a24 =>
.fin .normal [a24,a21,a22,a23])) <|
.fin (.exit 1) [])) <| x0 (
.fin .ret [(.p (.str [])),(.p (.bool false))]))
noncomputable def zxd:HFun:=⟨2,zajn,[.tmp 4, .tmp 5],true⟩
theorem zacx:HOK tr.look F_Q50 zxd:=⟨i_Q50,(.sq .lf (.sq (.sq .lf (.bk [] (.lp [11,1,9,10] (.sq .lf (.sq (.cj .lf .lf) (.sq (.bk [11,1,9,10] (.sq .lf (.sq .lf (.cj (.sq .lf .lf) .lf)))) .lf)))))) (.sq .lf .lf))),[],look_Q50,rfl,rfl,rfl,rfl,rfl,by kernel_rfl⟩
noncomputable def zahb:List IVal→HC XF:=xv fun a0=>x0 (
.fresh [1] [a0] <|
.op (x_box (some 1) 5 a0) fun a1 =>
.op (zab (some 5) a1) fun a2 =>
.op (zab (some 5) a1) fun a3 =>
.op (zad (.p (.func F_Q19)) [a3]) fun a4 =>
.op (zaj [(.int .i64 0),(.str []),(.str []), .nilslice, .nilslice, .nilslice, .nilslice, .nilslice] [(0,5,a2),(5,1,a4)]) fun a5 =>
.op (x_box none 8 a5) fun a6 =>
.chk (.load (some 5) (.const a1)) a2 <|
.op (zab (some 5) a1) fun a7 =>
.op (zad (.p (.func F_Q79)) [a7]) fun a8 =>
.op (x_len a8) fun a9 =>
.block 1 (.loop [(.p (.int .i64 0)),a6,a8,a9] <| xv fun a10=>xv fun a11=>xv fun a12=>xv fun a13=>x0 (
.op (x_lss a10 a13) fun a14 =>
.cond a14 (.block 2 (.op (zac 1 a12 a10) fun a15 =>
.op (zab none a15) fun a16 =>
.op (x_nil a11) fun a17 =>
.op (zaa 6 a17) fun a18 =>
.op (zab none a18) fun a19 =>
.op (x_nil a11) fun a20 =>
.op (zaa 5 a20) fun a21 =>
.op (zab none a21) fun a22 =>
.op (zac 10 a22 a10) fun a23 =>
.op (zaa 1 a23) fun a24 =>
.op (zab none a24) fun a25 =>
.op (zdt .u64 a25) fun a26 =>
.op (xgen .shl a26 (.p (.int .u64 32))) fun a27 =>
.op (x_nil a11) fun a28 =>
.op (zaa 5 a28) fun a29 =>
.op (zab none a29) fun a30 =>
.op (zac 10 a30 a10) fun a31 =>
.op (zaa 3 a31) fun a32 =>
.op (zab none a32) fun a33 =>
.op (zdt .u64 a33) fun a34 =>
.op (x_or a27 a34) fun a35 =>
.op (zaj [(.int .u64 0),(.int .u64 0)] [(0,1,a16),(1,1,a35)]) fun a36 =>
.op (zaf 2 1 [(.int .u64 0),(.int .u64 0)] [(0,2,a36)]) fun a37 =>
.op (zal 2 (.const a19) (.const a37)) fun a38 =>
.op (x_nil a11) fun a39 =>
.op (zaa 6 a39) fun a40 =>
.op (zae 1 a40 a38) fun _ =>
.fin .normal [a10,a11,a12,a13]) <| xv fun a42=>xv fun a43=>xv fun a44=>xv fun a45=>x0 (
.op (x_add a42 (.p (.int .i64 1))) fun a46 =>
.fin .normal [a46,a43,a44,a45])) <|
.fin (.exit 1) [a11])) <| xv fun a47=>x0 (
.op (x_nil a47) fun a48 =>
.op (zaa 5 a48) fun a49 =>
.op (zab none a49) fun a50 =>
.op (x_len a50) fun a51 =>
.op (zfi 1 [(.bool false)] (.const a51) (.const a51)) fun a52 =>
.op (x_nil a47) fun a53 =>
.op (zaa 7 a53) fun a54 =>
.op (zae 1 a54 a52) fun _ =>
.fin .ret [a47]))
noncomputable def zta:HFun:=⟨1,zahb,[.tmp 2],false⟩
theorem zyo:HOK tr.look F_Q51 zta:=⟨i_Q51,(.sq .lf (.sq .lf (.sq (.sq .lf (.bk [3] (.lp [14,3,12,13] (.sq .lf (.sq (.cj .lf .lf) (.sq (.bk [14,3,12,13] (.sq .lf .lf)) .lf)))))) (.sq .lf (.sq .lf .lf))))),[],look_Q51,rfl,rfl,rfl,rfl,rfl,by kernel_rfl⟩
noncomputable def zro:List IVal→HC XF:=xv fun a0=>xv fun a1=>xv fun a2=>xv fun a3=>xv fun a4=>x0 (
.op (zab none a2) fun a5 =>
.op (x_nil a5) fun a6 =>
.op (zaa 5 a6) fun a7 =>
.op (zab none a7) fun a8 =>
.op (zac 10 a8 a0) fun a9 =>
.op (zaa 1 a9) fun a10 =>
.op (zab none a10) fun a11 =>
.block 1 (.loop [(.p (.int .i64 0)),a2,a0,a4,a1,a3,a11] <| xv fun a12=>xv fun a13=>xv fun a14=>xv fun a15=>xv fun a16=>xv fun a17=>xv fun a18=>x0 (
.op (x_lss a12 a18) fun a19 =>
.cond a19 (.block 2 (.op (zab none a17) fun a20 =>
.op (x_add a14 a12) fun a21 =>
.op (x_add a16 a12) fun a22 =>
.op (zaj [(.int .i64 0),(.int .i64 0)] [(0,1,a21),(1,1,a22)]) fun a23 =>
.op (zaf 2 1 [(.int .i64 0),(.int .i64 0)] [(0,2,a23)]) fun a24 =>
.op (zal 2 (.const a20) (.const a24)) fun a25 =>
.op (zae 1 a17 a25) fun _ =>
.op (zab none a13) fun a27 =>
.op (x_nil a27) fun a28 =>
.op (zaa 7 a28) fun a29 =>
.op (zab none a29) fun a30 =>
.op (x_add a14 a12) fun a31 =>
.op (zab none a15) fun a32 =>
.op (x_nil a32) fun a33 =>
.op (zaa 7 a33) fun a34 =>
.op (zab none a34) fun a35 =>
.op (x_add a16 a12) fun a36 =>
.op (zac 1 a30 a31) fun a37 =>
.op (zae 1 a37 (.p (.bool true))) fun _ =>
.op (zac 1 a35 a36) fun a39 =>
.op (zae 1 a39 (.p (.bool true))) fun _ =>
.fin .normal [a12,a13,a14,a15,a16,a17,a18]) <| xv fun a41=>xv fun a42=>xv fun a43=>xv fun a44=>xv fun a45=>xv fun a46=>xv fun a47=>x0 (
.op (x_add a41 (.p (.int .i64 1))) fun a48 =>
.fin .normal [a48,a42,a43,a44,a45,a46,a47])) <|
.fin (.exit 1) [])) <| x0 (
.fin .ret []))
noncomputable def zgu:HFun:=⟨5,zro,[],false⟩
theorem zoi:HOK tr.look F_Q52 zgu:=⟨i_Q52,(.sq .lf (.bk [] (.lp [16,2,0,4,1,3,15] (.sq .lf (.sq (.cj .lf .lf) (.sq (.bk [16,2,0,4,1,3,15] (.sq .lf (.sq .lf .lf))) .lf)))))),[],look_Q52,rfl,rfl,rfl,rfl,rfl,by kernel_rfl⟩
noncomputable def zajo:List IVal→HC XF:=xv fun a0=>xv fun a1=>x0 (
.fresh [2,3] [a0,a1] <|
.op (x_box (some 2) 5 a0) fun a2 =>
.op (x_box (some 3) 5 a1) fun a3 =>
.op (zaa 0 a2) fun a4 =>
.op (zab none a4) fun a5 =>
.op (zaa 0 a3) fun a6 =>
.op (zab none a6) fun a7 =>
.op (x_neq a5 a7) fun a8 =>
.opg a8 false (zaa 1 a2) fun a9 =>
.opg a8 false (zab none a9) fun a10 =>
.opg a8 false (zaa 1 a3) fun a11 =>
.opg a8 false (zab none a11) fun a12 =>
.opg a8 false (x_neq a10 a12) fun a13 =>
.op (zah a8 (.p (.bool true)) a13) fun a14 =>
.opg a14 false (zaa 2 a2) fun a15 =>
.opg a14 false (zab none a15) fun a16 =>
.opg a14 false (zaa 2 a3) fun a17 =>
.opg a14 false (zab none a17) fun a18 =>
.opg a14 false (x_neq a16 a18) fun a19 =>
.op (zah a14 (.p (.bool true)) a19) fun a20 =>
.opg a20 false (zaa 3 a2) fun a21 =>
.opg a20 false (zab none a21) fun a22 =>
.opg a20 false (x_len a22) fun a23 =>
.opg a20 false (zaa 3 a3) fun a24 =>
.opg a20 false (zab none a24) fun a25 =>
.opg a20 false (x_len a25) fun a26 =>
.opg a20 false (x_neq a23 a26) fun a27 =>
.op (zah a20 (.p (.bool true)) a27) fun a28 =>
.opg a28 false (zaa 4 a2) fun a29 =>
.opg a28 false (zab none a29) fun a30 =>
.opg a28 false (x_len a30) fun a31 =>
.opg a28 false (zaa 4 a3) fun a32 =>
.opg a28 false (zab none a32) fun a33 =>
.opg a28 false (x_len a33) fun a34 =>
.opg a28 false (x_neq a31 a34) fun a35 =>
.op (zah a28 (.p (.bool true)) a35) fun a36 =>
.cond a36 (.fin .ret [(.p (.bool false))]) <|
.op (zaa 3 a2) fun a37 =>
.op (zab none a37) fun a38 =>
.op (x_len a38) fun a39 =>
.block 1 (.loop [(.p (.int .i64 0)),a3,a38,a2,a39] <| xv fun a40=>xv fun a41=>xv fun a42=>xv fun a43=>xv fun a44=>x0 (
.op (x_lss a40 a44) fun a45 =>
.cond a45 (.block 2 (.fresh [6] [a45,a40,a41,a42,a43,a44] <|
.op (zac 2 a42 a40) fun a46 =>
.op (zab (some 2) a46) fun a47 =>
.op (zai (some 6) [(.str []),(.str [])]) fun a48 =>
.op (zae 2 a48 a47) fun _ =>
.op (zab (some 2) a48) fun a50 =>
.op (zaa 3 a41) fun a51 =>
.op (zab none a51) fun a52 =>
.op (zac 2 a52 a40) fun a53 =>
.op (zab (some 2) a53) fun a54 =>
.op (x_eqv true ⟨true,[.str, .str]⟩ (.const a50) (.const a54)) fun a55 =>
.cond a55 (.fin .ret [(.p (.bool false))]) <|
.fin .normal [a40,a41,a42,a43,a44]) <| xv fun a56=>xv fun a57=>xv fun a58=>xv fun a59=>xv fun a60=>x0 (
.op (x_add a56 (.p (.int .i64 1))) fun a61 =>
.fin .normal [a61,a57,a58,a59,a60])) <|
.fin (.exit 1) [a43,a41])) <| xv fun a62=>xv fun a63=>x0 (
.op (zaa 4 a62) fun a64 =>
.op (zab none a64) fun a65 =>
.op (x_len a65) fun a66 =>
.block 3 (.loop [(.p (.int .i64 0)),a63,a65,a66] <| xv fun a67=>xv fun a68=>xv fun a69=>xv fun a70=>x0 (
.op (x_lss a67 a70) fun a71 =>
.cond a71 (.block 4 (.fresh [8] [a71,a67,a68,a69,a70] <|
.op (zac 5 a69 a67) fun a72 =>
.op (zab (some 5) a72) fun a73 =>
.op (zai (some 8) [(.int .i64 0),(.str []),(.str []), .nilslice, .nilslice]) fun a74 =>
.op (zae 5 a74 a73) fun _ =>
.op (zab (some 5) a74) fun a76 =>
.op (zaa 4 a68) fun a77 =>
.op (zab none a77) fun a78 =>
.op (zac 5 a78 a67) fun a79 =>
.op (zab (some 5) a79) fun a80 =>
.op (zad (.p (.func F_Q53)) [a76,a80]) fun a81 =>
.op (x_not a81) fun a82 =>
.cond a82 (.fin .ret [(.p (.bool false))]) <|
.fin .normal [a67,a68,a69,a70]) <| xv fun a83=>xv fun a84=>xv fun a85=>xv fun a86=>x0 (
.op (x_add a83 (.p (.int .i64 1))) fun a87 =>
.fin .normal [a87,a84,a85,a86])) <|
.fin (.exit 3) [])) <| x0 (
.fin .ret [(.p (.bool true))])))
noncomputable def zxe:HFun:=⟨2,zajo,[.tmp 4],true⟩
theorem zacy:HOK tr.look F_Q53 zxe:=⟨i_Q53,(.sq .lf (.sq (.sq .lf (.cj (.sq .lf .lf) .lf)) (.sq (.sq .lf (.bk [2,3] (.lp [49,3,47,2,48] (.sq .lf (.sq (.cj .lf .lf) (.sq (.bk [49,3,47,2,48] (.sq .lf (.sq .lf (.cj (.sq .lf .lf) .lf)))) .lf)))))) (.sq (.sq .lf (.bk [] (.lp [65,3,63,64] (.sq .lf (.sq (.cj .lf .lf) (.sq (.bk [65,3,63,64] (.sq .lf (.sq .lf (.cj (.sq .lf .lf) .lf)))) .lf)))))) (.sq .lf .lf))))),[],look_Q53,rfl,rfl,rfl,rfl,rfl,by kernel_rfl⟩
noncomputable def zqg:List IVal→HC XF:=xv fun a0=>xv fun a1=>x0 (
.fresh [4] [a0,a1] <|
.op (zai (some 4) [(.int .i64 0),(.str []),(.str []), .nilslice, .nilslice]) fun a2 =>
.fresh [5] [a2,a0,a1] <|
.op (x_nil a0) fun a3 =>
.op (zaa 0 a3) fun a4 =>
.op (zab (some 5) a4) fun a5 =>
.op (zad (.p (.func F_Q60)) [a5,a1]) fun a6 =>
.op (zag a6 0) fun a7 =>
.op (zag a6 1) fun _ =>
.op (zai (some 5) [(.int .i64 0),(.str []),(.str []), .nilslice, .nilslice]) fun a9 =>
.op (zae 5 a9 a7) fun _ =>
.op (zab (some 5) a9) fun a11 =>
.op (zae 5 a2 a11) fun _ =>
.fin .ret [a2])
noncomputable def zgb:HFun:=⟨2,zqg,[.cell 4 (some 5)],false⟩
theorem zmp:HOK tr.look F_Q54 zgb:=⟨i_Q54,(.sq .lf (.sq .lf (.sq .lf .lf))),[],look_Q54,rfl,rfl,rfl,rfl,rfl,by kernel_rfl⟩
noncomputable def zrp:List IVal→HC XF:=xv fun a0=>xv fun a1=>x0 (
.fresh [2,3] [a0,a1] <|
.op (x_box (some 2) 2 a0) fun a2 =>
.op (x_box (some 3) 2 a1) fun a3 =>
.op (zaa 0 a2) fun a4 =>
.op (zab none a4) fun a5 =>
.op (zaa 0 a3) fun a6 =>
.op (zab none a6) fun a7 =>
.op (zad (.p (.func F_Q33)) [a5,a7]) fun a8 =>
.fin .ret [a8])
noncomputable def zgv:HFun:=⟨2,zrp,[.tmp 4],true⟩
theorem zoj:HOK tr.look F_Q55 zgv:=⟨i_Q55,(.sq .lf (.sq .lf .lf)),[],look_Q55,rfl,rfl,rfl,rfl,rfl,by kernel_rfl⟩
noncomputable def ziq:List IVal→HC XF:=xv fun a0=>xv fun a1=>x0 (
.op (zhw) fun a2 =>
.op (x_add a1 (.p (.int .i64 1))) fun a3 =>
.block 1 (.loop [a3,a0,a2,a1] <| xv fun a4=>xv fun a5=>xv fun a6=>xv fun a7=>x0 (
.op (x_nil a5) fun a8 =>
.op (zaa 10 a8) fun a9 =>
.op (zab none a9) fun a10 =>
.op (zac 10 a10 a7) fun a11 =>
.op (zaa 1 a11) fun a12 =>
.op (zab none a12) fun a13 =>
.op (x_add a7 a13) fun a14 =>
.op (x_lss a4 a14) fun a15 =>
.cond a15 (.block 2 (.op (x_nil a5) fun a16 =>
.op (zaa 14 a16) fun a17 =>
.op (zab none a17) fun a18 =>
.op (zba true (.p (.int .i64 0)) ⟨false,[.int]⟩ (.const a18) (.const a4)) fun a19 =>
.op (zag a19 0) fun a20 =>
.op (zag a19 1) fun a21 =>
.op (x_not a21) fun a22 =>
.cond a22 (.fin (.exit 2) [a4,a5,a6,a7]) <|
.op (x_nil a5) fun a23 =>
.op (zaa 11 a23) fun a24 =>
.op (zab none a24) fun a25 =>
.op (zac 10 a25 a20) fun a26 =>
.op (zaa 0 a26) fun a27 =>
.op (zab none a27) fun a28 =>
.block 3 (.loop [a28,a5,a6,a4,a7] <| xv fun a29=>xv fun a30=>xv fun a31=>xv fun a32=>xv fun a33=>x0 (
.op (x_geq a29 (.p (.int .i64 0))) fun a34 =>
.cond a34 (.block 4 (.op (zba false (.p (.int .i64 0)) ⟨false,[.int]⟩ (.const a31) (.const a29)) fun a35 =>
.op (x_add a35 (.p (.int .i64 1))) fun a36 =>
.op (zfz ⟨false,[.int]⟩ (.const a31) (.const a29) (.const a36)) fun _ =>
.fin .normal [a29,a30,a31,a32,a33]) <| xv fun a38=>xv fun a39=>xv fun a40=>xv fun a41=>xv fun a42=>x0 (
.op (x_nil a39) fun a43 =>
.op (zaa 11 a43) fun a44 =>
.op (zab none a44) fun a45 =>
.op (zac 10 a45 a38) fun a46 =>
.op (zaa 0 a46) fun a47 =>
.op (zab none a47) fun a48 =>
.fin .normal [a48,a39,a40,a41,a42])) <|
.fin (.exit 3) [a32,a30,a31,a33])) <| xv fun a49=>xv fun a50=>xv fun a51=>xv fun a52=>x0 (
.fin .normal [a49,a50,a51,a52])) <| xv fun a53=>xv fun a54=>xv fun a55=>xv fun a56=>x0 (
.op (x_add a53 (.p (.int .i64 1))) fun a57 =>
.fin .normal [a57,a54,a55,a56])) <|
.fin (.exit 1) [a6])) <| xv fun a58=>x0 (
.fin .ret [a58]))
noncomputable def zdh:HFun:=⟨2,ziq,[.tmp 4],false⟩
theorem zgw:HOK tr.look F_Q56 zdh:=⟨i_Q56,(.sq .lf (.sq .lf (.sq (.sq .lf (.bk [5] (.lp [6,0,5,1] (.sq (.sq .lf (.cj .lf .lf)) (.sq (.bk [6,0,5,1] (.sq .lf (.sq (.sq .lf (.cj .lf .lf)) (.sq .lf (.bk [6,0,5,1] (.lp [9,0,5,6,1] (.sq (.sq .lf (.cj .lf .lf)) (.sq (.bk [9,0,5,6,1] .lf) .lf)))))))) .lf))))) (.sq .lf .lf)))),[],look_Q56,rfl,rfl,rfl,rfl,rfl,by kernel_rfl⟩
noncomputable def zir:List IVal→HC XF:=xv fun a0=>xv fun a1=>xv fun a2=>x0 (
.op (zab none a1) fun a3 =>
.op (x_nil a3) fun a4 =>
.op (zaa 10 a4) fun a5 =>
.op (zab none a5) fun a6 =>
.op (zab none a2) fun a7 =>
.op (zac 10 a6 a7) fun a8 =>
.op (zaa 1 a8) fun a9 =>
.op (zab none a9) fun a10 =>
.op (zab none a1) fun a11 =>
.op (x_nil a11) fun a12 =>
.op (zaa 11 a12) fun a13 =>
.op (zab none a13) fun a14 =>
.op (zac 10 a14 a0) fun a15 =>
.op (zaa 1 a15) fun a16 =>
.op (zab none a16) fun a17 =>
.op (x_add a10 a17) fun a18 =>
.op (x_sub a18 (.p (.int .i64 2))) fun a19 =>
.fin .ret [a19])
noncomputable def zdi:HFun:=⟨3,zir,[.tmp 4],false⟩
theorem zgx:HOK tr.look F_Q57 zdi:=⟨i_Q57,(.sq .lf (.sq .lf .lf)),[],look_Q57,rfl,rfl,rfl,rfl,rfl,by kernel_rfl⟩
noncomputable def zyp:List IVal→HC XF:=xv fun a0=>xv fun a1=>xv fun a2=>xv fun a3=>x0 (
.op (x_eql a1 (.p (.int .i64 0))) fun a4 =>
.block 0 (.cond a4 (.fin .normal [a2,a3,(.p (.int .i64 0)),(.p (.int .i64 1))]) <|
.fin .normal [a2,a3,a0,a1]) <| xv fun a5=>xv fun a6=>xv fun a7=>xv fun a8=>x0 (
.op (x_eql a6 (.p (.int .i64 0))) fun a9 =>
.block 0 (.cond a9 (.fin .normal [a7,(.p (.int .i64 1)),(.p (.int .i64 0)),a8]) <|
.fin .normal [a7,a6,a5,a8]) <| xv fun a10=>xv fun a11=>xv fun a12=>xv fun a13=>x0 (
.op (x_mul a10 a11) fun a14 =>
.op (x_mul a12 a13) fun a15 =>
.op (zad (.p (.func F_Q33)) [a14,a15]) fun a16 =>
.fin .ret [a16])))
noncomputable def znk:HFun:=⟨4,zyp,[.tmp 8],true⟩
theorem zts:HOK tr.look F_Q58 znk:=⟨i_Q58,(.sq .lf (.sq (.sq .lf (.cd [2,3,0,1] .lf .lf)) (.sq (.sq .lf (.cd [0,3,2,1] .lf .lf)) (.sq .lf .lf)))),[],look_Q58,rfl,rfl,rfl,rfl,rfl,by kernel_rfl⟩
noncomputable def zyq:List IVal→HC XF:=xv fun a0=>xv fun a1=>x0 (
.op (x_mul (.p (.int .i64 4)) a0) fun a2 =>
.op (x_gtr a2 a1) fun a3 =>
.fin .ret [a3])
noncomputable def znl:HFun:=⟨2,zyq,[.tmp 4],true⟩
theorem ztt:HOK tr.look F_Q59 znl:=⟨i_Q59,(.sq .lf (.sq .lf .lf)),[],look_Q59,rfl,rfl,rfl,rfl,rfl,by kernel_rfl⟩
noncomputable def zamg:List IVal→HC XF:=xv fun a0=>xv fun a1=>x0 (
.fresh [4] [a0,a1] <|
.op (x_box none 5 a0) fun a2 =>
.op (x_box none 1 a1) fun a3 =>
.op (zai (some 4) [(.int .i64 0),(.str []),(.str []), .nilslice, .nilslice]) fun a4 =>
.op (zai none [(.int .i64 0),(.str []),(.str []), .nilslice, .nilslice]) fun a5 =>
.op (zai none [(.bool false)]) fun a6 =>
.op (zae 1 a6 (.p (.bool false))) fun _ =>
.op (zla 80 [(.const a3),(.const a5),(.const a6)]) fun a8 =>
.op (zad (.p (.func F_Q37)) [a2,a8]) fun _ =>
.op (zab (some 5) a5) fun a10 =>
.op (zab none a6) fun a11 =>
.op (zae 5 a4 a10) fun _ =>
.chk (.load none (.const a6)) a11 <|
.fin .ret [a4,a11])
noncomputable def zaam:HFun:=⟨2,zamg,[.cell 4 (some 5), .tmp 5],true⟩
theorem zahc:HOK tr.look F_Q60 zaam:=⟨i_Q60,(.sq .lf (.sq .lf (.sq .lf (.sq .lf (.sq .lf .lf))))),[],look_Q60,rfl,rfl,rfl,rfl,rfl,by kernel_rfl⟩
noncomputable def zxf:List IVal→HC XF:=xv fun a0=>xv fun a1=>x0 (
.fresh [2,3] [a0,a1] <|
.op (x_box (some 2) 5 a0) fun a2 =>
.op (x_box (some 3) 5 a1) fun a3 =>
.fresh [7,8] [(.p (.int .i64 0)),(.p .nilslice),a3,a2,a0,a1] <|
.op (zab (some 5) a2) fun a4 =>
.op (zab (some 5) a3) fun a5 =>
.op (zad (.p (.func F_Q81)) [a4,a5]) fun a6 =>
.op (zag a6 0) fun a7 =>
.op (zag a6 1) fun a8 =>
.op (zag a6 2) fun a9 =>
.op (zag a6 3) fun a10 =>
.op (zai (some 7) [(.int .i64 0),(.int .i64 0)]) fun a11 =>
.op (zai (some 8) [(.int .i64 0),(.int .i64 0)]) fun a12 =>
.op (zae 2 a11 a8) fun _ =>
.op (zae 2 a12 a9) fun _ =>
.op (x_not a10) fun a15 =>
.cond a15 (.fin .ret [(.p .nilslice),(.p (.int .i64 2))]) <|
.op (zab (some 2) a11) fun a16 =>
.op (zab (some 2) a12) fun a17 =>
.op (zad (.p (.func F_Q82)) [a7,a16,a17]) fun a18 =>
.op (zad (.p (.func F_Q31)) [a18,(.p (.func F_Q83))]) fun _ =>
.fin .ret [a18,(.p (.int .i64 0))])
noncomputable def zki:HFun:=⟨2,zxf,[.tmp 4, .tmp 5],true⟩
theorem zrq:HOK tr.look F_Q61 zki:=⟨i_Q61,(.sq .lf (.sq .lf (.sq (.sq .lf (.cj (.sq .lf .lf) .lf)) (.sq .lf (.sq .lf (.sq .lf .lf)))))),[],look_Q61,rfl,rfl,rfl,rfl,rfl,by kernel_rfl⟩
noncomputable def zxg:List IVal→HC XF:=xv fun a0=>x0 (
.cond (.p (.bool false)) (.op (zdt .u32 a0) fun a1 =>
.op (zad (.p (.func F_Q92)) [a1]) fun a2 =>
.fin .ret [a2]) <|
.op (zad (.p (.func F_Q93)) [a0]) fun a3 =>
.fin .ret [a3])
noncomputable def zkj:HFun:=⟨1,zxg,[.tmp 2],true⟩
theorem zrr:HOK tr.look F_Q63 zkj:=⟨i_Q63,(.sq .lf (.sq (.cj (.sq .lf .lf) .lf) (.sq .lf .lf))),[],look_Q63,rfl,rfl,rfl,rfl,rfl,by kernel_rfl⟩
noncomputable def zxh:List IVal→HC XF:=xv fun a0=>x0 (
.op (x_neq a0 a0) fun a1 =>
.fin .ret [a1])
noncomputable def zkk:HFun:=⟨1,zxh,[.tmp 2],true⟩
theorem zrs:HOK tr.look F_Q64 zkk:=⟨i_Q64,(.sq .lf (.sq .lf .lf)),[],look_Q64,rfl,rfl,rfl,rfl,rfl,by kernel_rfl⟩
noncomputable def zajp:List IVal→HC XF:=xv fun a0=>x0 (
.op (x_eql a0 (.p (.str []))) fun a1 =>
.opg a1 false (x_mov a0) fun a2 =>
.opg a1 false (zdb a2) fun a3 =>
.opg a1 false (x_gtr a3 (.p (.int .i64 32))) fun a4 =>
.op (zah a1 (.p (.bool true)) a4) fun a5 =>
.cond a5 (.fin .ret [(.p (.bool false))]) <|
.op (zdb a0) fun a6 =>
.block 1 (.loop [(.p (.int .i64 0)),a0,a6] <| xv fun a7=>xv fun a8=>xv fun a9=>x0 (
.op (x_lss a7 a9) fun a10 =>
.cond a10 (.block 2 (.op (zuc a8 a7) fun a11 =>
.block 3 (.op (x_eql a11 (.p (.int .u8 9))) fun a12 =>
.block 0 (.cond a12 (.fin .normal [a12,a7,a8,a9,a11]) <|
.op (x_eql a11 (.p (.int .u8 10))) fun a13 =>
.block 0 (.cond a13 (.fin .normal [a13,a7,a8,a9,a11]) <|
.op (x_eql a11 (.p (.int .u8 12))) fun a14 =>
.block 0 (.cond a14 (.fin .normal [a14,a7,a8,a9,a11]) <|
.op (x_eql a11 (.p (.int .u8 32))) fun a15 =>
.block 0 (.cond a15 (.fin .normal [a15,a7,a8,a9,a11]) <|
.op (x_eql a11 (.p (.int .u8 0))) fun a16 =>
.block 0 (.cond a16 (.fin .normal [a16,a7,a8,a9,a11]) <|
.op (x_eql a11 (.p (.int .u8 34))) fun a17 =>
.block 0 (.cond a17 (.fin .normal [a17,a7,a8,a9,a11]) <|
.op (x_eql a11 (.p (.int .u8 39))) fun a18 =>
.block 0 (.cond a18 (.fin .normal [a18,a7,a8,a9,a11]) <|
.op (x_eql a11 (.p (.int .u8 62))) fun a19 =>
.block 0 (.cond a19 (.fin .normal [a19,a7,a8,a9,a11]) <|
.op (x_eql a11 (.p (.int .u8 47))) fun a20 =>
.block 0 (.cond a20 (.fin .normal [a20,a7,a8,a9,a11]) <|
.op (x_eql a11 (.p (.int .u8 61))) fun a21 =>
.block 0 (.cond a21 (.fin .normal [a21,a7,a8,a9,a11]) <|
.op (x_eql a11 (.p (.int .u8 60))) fun a22 =>
.fin .normal [a22,a7,a8,a9,a11]) <| xv fun a23=>xv fun a24=>xv fun a25=>xv fun a26=>xv fun a27=>x0 (
.fin .normal [a23,a24,a25,a26,a27])) <| xv fun a28=>xv fun a29=>xv fun a30=>xv fun a31=>xv fun a32=>x0 (
.fin .normal [a28,a29,a30,a31,a32])) <| xv fun a33=>xv fun a34=>xv fun a35=>xv fun a36=>xv fun a37=>x0 (
.fin .normal [a33,a34,a35,a36,a37])) <| xv fun a38=>xv fun a39=>xv fun a40=>xv fun a41=>xv fun a42=>x0 (
.fin .normal [a38,a39,a40,a41,a42])) <| xv fun a43=>xv fun a44=>xv fun a45=>xv fun a46=>xv fun a47=>x0 (
.fin .normal [a43,a44,a45,a46,a47])) <| xv fun a48=>xv fun a49=>xv fun a50=>xv fun a51=>xv fun a52=>x0 (
.fin .normal [a48,a49,a50,a51,a52])) <| xv fun a53=>xv fun a54=>xv fun a55=>xv fun a56=>xv fun a57=>x0 (
.fin .normal [a53,a54,a55,a56,a57])) <| xv fun a58=>xv fun a59=>xv fun a60=>xv fun a61=>xv fun a62=>x0 (
.fin .normal [a58,a59,a60,a61,a62])) <| xv fun a63=>xv fun a64=>xv fun a65=>xv fun a66=>xv fun a67=>x0 (
.fin .normal [a63,a64,a65,a66,a67])) <| xv fun a68=>xv fun a69=>xv fun a70=>xv fun a71=>xv fun a72=>x0 (
.cond a68 (.fin .ret [(.p (.bool false))]) <|
.op (x_geq a72 (.p (.int .u8 65))) fun a73 =>
.opg a73 true (x_mov a72) fun a74 =>
.opg a73 true (x_leq a74 (.p (.int .u8 90))) fun a75 =>
.op (zah a73 a75 (.p (.bool false))) fun a76 =>
.cond a76 (.fin .ret [(.p (.bool false))]) <|
.fin .normal [a69,a70,a71])) <| xv fun a77=>xv fun a78=>xv fun a79=>x0 (
.fin .normal [a77,a78,a79])) <| xv fun a80=>xv fun a81=>xv fun a82=>x0 (
.op (x_add a80 (.p (.int .i64 1))) fun a83 =>
.fin .normal [a83,a81,a82])) <|
.fin (.exit 1) [])) <| x0 (
.fin .ret [(.p (.bool true))]))
noncomputable def zxi:HFun:=⟨1,zajp,[.tmp 2],true⟩
theorem zacz:HOK tr.look F_Q65 zxi:=⟨i_Q65,(.sq .lf (.sq (.sq .lf (.cj (.sq .lf .lf) .lf)) (.sq (.sq .lf (.bk [] (.lp [14,0,13] (.sq .lf (.sq (.cj .lf .lf) (.sq (.bk [14,0,13] (.sq .lf (.sq .lf (.sq .lf (.bk [14,0,13] (.sq (.sq .lf (.cd [27,14,0,13,4] .lf (.sq .lf (.cd [27,14,0,13,4] .lf (.sq .lf (.cd [27,14,0,13,4] .lf (.sq .lf (.cd [27,14,0,13,4] .lf (.sq .lf (.cd [27,14,0,13,4] .lf (.sq .lf (.cd [27,14,0,13,4] .lf (.sq .lf (.cd [27,14,0,13,4] .lf (.sq .lf (.cd [27,14,0,13,4] .lf (.sq .lf (.cd [27,14,0,13,4] .lf (.sq .lf (.cd [27,14,0,13,4] .lf .lf)))))))))))))))))))) (.cj (.sq .lf .lf) (.sq .lf (.cj (.sq .lf .lf) .lf))))))))) .lf)))))) (.sq .lf .lf)))),[],look_Q65,rfl,rfl,rfl,rfl,rfl,by kernel_rfl⟩
noncomputable def zahd:List IVal→HC XF:=xv fun a0=>x0 (
.op (x_len a0) fun a1 =>
.op (x_gtr a1 (.p (.int .i64 12))) fun a2 =>
.cond a2 (.fin .ret [(.p (.bool false))]) <|
.op (x_len a0) fun a3 =>
.block 1 (.loop [(.p (.int .i64 0)),(.p (.str [])),a0,a3] <| xv fun a4=>xv fun a5=>xv fun a6=>xv fun a7=>x0 (
.op (x_lss a4 a7) fun a8 =>
.cond a8 (.block 2 (.fresh [5] [a8,a4,a5,a6,a7] <|
.op (zac 2 a6 a4) fun a9 =>
.op (zab (some 2) a9) fun a10 =>
.op (zai (some 5) [(.str []),(.str [])]) fun a11 =>
.op (zae 2 a11 a10) fun _ =>
.op (zaa 0 a11) fun a13 =>
.op (zab none a13) fun a14 =>
.op (x_leq a14 a5) fun a15 =>
.opg a15 false (zaa 0 a11) fun a16 =>
.opg a15 false (zab none a16) fun a17 =>
.opg a15 false (zad (.p (.func F_Q65)) [a17]) fun a18 =>
.opg a15 false (x_not a18) fun a19 =>
.op (zah a15 (.p (.bool true)) a19) fun a20 =>
.opg a20 false (zaa 1 a11) fun a21 =>
.opg a20 false (zab none a21) fun a22 =>
.opg a20 false (zdb a22) fun a23 =>
.opg a20 false (x_gtr a23 (.p (.int .i64 4096))) fun a24 =>
.op (zah a20 (.p (.bool true)) a24) fun a25 =>
.cond a25 (.fin .ret [(.p (.bool false))]) <|
.op (zaa 0 a11) fun a26 =>
.op (zab none a26) fun a27 =>
.fin .normal [a4,a27,a6,a7]) <| xv fun a28=>xv fun a29=>xv fun a30=>xv fun a31=>x0 (
.op (x_add a28 (.p (.int .i64 1))) fun a32 =>
.fin .normal [a32,a29,a30,a31])) <|
.fin (.exit 1) [])) <| x0 (
.fin .ret [(.p (.bool true))]))
noncomputable def ztb:HFun:=⟨1,zahd,[.tmp 2],true⟩
theorem zyr:HOK tr.look F_Q66 ztb:=⟨i_Q66,(.sq .lf (.sq (.sq .lf (.cj (.sq .lf .lf) .lf)) (.sq .lf (.sq (.sq .lf (.bk [] (.lp [11,3,9,10] (.sq .lf (.sq (.cj .lf .lf) (.sq (.bk [11,3,9,10] (.sq .lf (.sq (.sq .lf (.cj (.sq .lf .lf) .lf)) .lf))) .lf)))))) (.sq .lf .lf))))),[],look_Q66,rfl,rfl,rfl,rfl,rfl,by kernel_rfl⟩
noncomputable def zada:List IVal→HC XF:=xv fun a0=>xv fun a1=>xv fun a2=>xv fun a3=>x0 (
.fresh [7] [a0,a1,a2,a3] <|
.op (x_box (some 7) 5 a3) fun a4 =>
.op (zaa 4 a4) fun a5 =>
.op (zae 1 a5 (.p .nilslice)) fun _ =>
.op (zaa 3 a4) fun a7 =>
.op (zab none a7) fun a8 =>
.op (zad (.p (.func F_Q39)) [a8]) fun a9 =>
.op (zaa 3 a4) fun a10 =>
.op (zae 1 a10 a9) fun _ =>
.op (x_nil a0) fun a12 =>
.op (zaa 1 a12) fun a13 =>
.op (zab none a13) fun a14 =>
.op (x_nil a0) fun a15 =>
.op (zaa 0 a15) fun a16 =>
.op (zab none a16) fun a17 =>
.op (x_len a17) fun a18 =>
.op (zfz ⟨false,[.int]⟩ (.const a14) (.const a1) (.const a18)) fun _ =>
.op (x_nil a0) fun a20 =>
.op (zaa 0 a20) fun a21 =>
.op (zab none a21) fun a22 =>
.op (zab (some 5) a4) fun a23 =>
.op (zaj [(.int .i64 0),(.int .i64 0),(.int .i64 0),(.str []),(.str []), .nilslice, .nilslice, .nilslice] [(0,1,a1),(1,1,a2),(2,5,a23)]) fun a24 =>
.op (zaf 8 1 [(.int .i64 0),(.int .i64 0),(.int .i64 0),(.str []),(.str []), .nilslice, .nilslice, .nilslice] [(0,8,a24)]) fun a25 =>
.op (zal 8 (.const a22) (.const a25)) fun a26 =>
.op (x_nil a0) fun a27 =>
.op (zaa 0 a27) fun a28 =>
.op (zae 1 a28 a26) fun _ =>
.fin .ret [])
noncomputable def zqh:HFun:=⟨4,zada,[],false⟩
theorem zxj:HOK tr.look F_Q67 zqh:=⟨i_Q67,(.sq .lf (.sq .lf (.sq .lf (.sq .lf .lf)))),[],look_Q67,rfl,rfl,rfl,rfl,rfl,by kernel_rfl⟩
noncomputable def zys:List IVal→HC XF:=xv fun a0=>xv fun a1=>x0 (
.op (x_nil a0) fun a2 =>
.op (zaa 1 a2) fun a3 =>
.op (zab none a3) fun a4 =>
.op (zba true (.p (.int .i64 0)) ⟨false,[.int]⟩ (.const a4) (.const a1)) fun a5 =>
.op (zag a5 0) fun a6 =>
.op (zag a5 1) fun a7 =>
.op (x_not a7) fun a8 =>
.cond a8 (.fin .ret [(.p .nilptr)]) <|
.op (x_nil a0) fun a9 =>
.op (zaa 0 a9) fun a10 =>
.op (zab none a10) fun a11 =>
.op (zac 8 a11 a6) fun a12 =>
.fin .ret [a12])
noncomputable def znm:HFun:=⟨2,zys,[.tmp 4],false⟩
theorem ztu:HOK tr.look F_Q68 znm:=⟨i_Q68,(.sq .lf (.sq .lf (.sq (.sq .lf (.cj (.sq .lf .lf) .lf)) (.sq .lf .lf)))),[],look_Q68,rfl,rfl,rfl,rfl,rfl,by kernel_rfl⟩
noncomputable def zadb:List IVal→HC XF:=xv fun a0=>xv fun a1=>x0 (
.op (zad (.p (.func F_Q68)) [a0,a1]) fun a2 =>
.op (zeb true (.const a2) (.const (.p .nilptr))) fun a3 =>
.fin .ret [a3])
noncomputable def zqi:HFun:=⟨2,zadb,[.tmp 4],false⟩
theorem zxk:HOK tr.look F_Q69 zqi:=⟨i_Q69,(.sq .lf (.sq .lf .lf)),[],look_Q69,rfl,rfl,rfl,rfl,rfl,by kernel_rfl⟩
noncomputable def ztv:List IVal→HC XF:=xv fun a0=>xv fun a1=>x0 (
.op (x_nil a0) fun a2 =>
.op (zaa 2 a2) fun a3 =>
.op (zaa 0 a3) fun a4 =>
.op (zab none a4) fun a5 =>
.op (x_eql a5 (.p (.int .i64 1))) fun a6 =>
.opg a6 false (x_mov a0) fun a7 =>
.opg a6 false (x_nil a7) fun a8 =>
.opg a6 false (zaa 2 a8) fun a9 =>
.opg a6 false (zaa 0 a9) fun a10 =>
.opg a6 false (zab none a10) fun a11 =>
.opg a6 false (x_eql a11 (.p (.int .i64 2))) fun a12 =>
.opg a6 false (x_mov a12) fun a13 =>
.opg a13 true (x_mov a1) fun a14 =>
.opg a13 true (x_neq a14 (.p (.int .i64 5))) fun a15 =>
.opg a6 false (zah a13 a15 (.p (.bool false))) fun a16 =>
.op (zah a6 (.p (.bool true)) a16) fun a17 =>
.fin .ret [a17])
noncomputable def zih:HFun:=⟨2,ztv,[.tmp 4],false⟩
theorem zqj:HOK tr.look F_Q70 zih:=⟨i_Q70,(.sq .lf (.sq .lf .lf)),[],look_Q70,rfl,rfl,rfl,rfl,rfl,by kernel_rfl⟩
noncomputable def zxl:List IVal→HC XF:=xv fun a0=>xv fun a1=>x0 (
.block 1 (.loop [a1,a0,(.p (.int .i64 0))] <| xv fun a2=>xv fun a3=>xv fun a4=>x0 (
.op (zad (.p (.func F_Q69)) [a3,a2]) fun a5 =>
.cond a5 (.block 2 (.op (x_add a4 (.p (.int .i64 1))) fun a6 =>
.op (zad (.p (.func F_Q47)) [a3,a2]) fun a7 =>
.fin .normal [a7,a3,a6]) <| xv fun a8=>xv fun a9=>xv fun a10=>x0 (
.fin .normal [a8,a9,a10])) <|
.fin (.exit 1) [a4])) <| xv fun a11=>x0 (
.fin .ret [a11]))
noncomputable def zkl:HFun:=⟨2,zxl,[.tmp 4],false⟩
theorem zrt:HOK tr.look F_Q71 zkl:=⟨i_Q71,(.sq .lf (.sq .lf (.sq (.bk [5] (.lp [1,0,5] (.sq (.sq .lf (.cj .lf .lf)) (.bk [1,0,5] (.sq .lf .lf))))) (.sq .lf .lf)))),[],look_Q71,rfl,rfl,rfl,rfl,rfl,by kernel_rfl⟩
noncomputable def zadc:List IVal→HC XF:=xv fun a0=>xv fun a1=>x0 (
.op (x_box none 1 a1) fun a2 =>
.op (zab none a2) fun a3 =>
.op (zad (.p (.func F_Q47)) [a0,a3]) fun a4 =>
.op (zad (.p (.func F_Q68)) [a0,a4]) fun a5 =>
.op (x_nil a5) fun a6 =>
.op (zaa 7 a6) fun a7 =>
.op (zab none a7) fun a8 =>
.op (zla 97 [(.const a2)]) fun a9 =>
.op (zad (.p (.func F_Q96)) [a8,a9]) fun a10 =>
.op (x_nil a5) fun a11 =>
.op (zaa 7 a11) fun a12 =>
.op (zae 1 a12 a10) fun _ =>
.fin .ret [])
noncomputable def zqk:HFun:=⟨2,zadc,[],false⟩
theorem zxm:HOK tr.look F_Q73 zqk:=⟨i_Q73,(.sq .lf (.sq .lf .lf)),[],look_Q73,rfl,rfl,rfl,rfl,rfl,by kernel_rfl⟩
noncomputable def ztw:List IVal→HC XF:=xv fun a0=>xv fun a1=>xv fun a2=>x0 (
.block 1 (.loop [a0,a2,a1] <| xv fun a3=>xv fun a4=>xv fun a5=>x0 (
.op (zad (.p (.func F_Q69)) [a3,a5]) fun a6 =>
.opg a6 true (x_mov a3) fun a7 =>
.opg a6 true (x_mov a4) fun a8 =>
.opg a6 true (zad (.p (.func F_Q69)) [a7,a8]) fun a9 =>
.op (zah a6 a9 (.p (.bool false))) fun a10 =>
.cond a10 (.block 2 (.op (x_eql a4 a5) fun a11 =>
.cond a11 (.fin .ret [(.p (.bool true))]) <|
.op (zad (.p (.func F_Q47)) [a3,a4]) fun a12 =>
.fin .normal [a3,a12,a5]) <| xv fun a13=>xv fun a14=>xv fun a15=>x0 (
.fin .normal [a13,a14,a15])) <|
.fin (.exit 1) [])) <| x0 (
.fin .ret [(.p (.bool false))]))
noncomputable def zii:HFun:=⟨3,ztw,[.tmp 6],false⟩
theorem zql:HOK tr.look F_Q74 zii:=⟨i_Q74,(.sq .lf (.sq (.bk [] (.lp [0,2,1] (.sq (.sq .lf (.cj .lf .lf)) (.bk [0,2,1] (.sq (.sq .lf (.cj (.sq .lf .lf) .lf)) .lf))))) (.sq .lf .lf))),[],look_Q74,rfl,rfl,rfl,rfl,rfl,by kernel_rfl⟩
noncomputable def ztx:List IVal→HC XF:=xv fun a0=>xv fun a1=>x0 (
.op (zad (.p (.func F_Q68)) [a0,a1]) fun a2 =>
.op (x_nil a2) fun a3 =>
.op (zaa 7 a3) fun a4 =>
.op (zab none a4) fun a5 =>
.op (x_len a5) fun a6 =>
.block 1 (.loop [(.p (.int .i64 0)),a0,(.p (.int .i64 0)),a5,a6] <| xv fun a7=>xv fun a8=>xv fun a9=>xv fun a10=>xv fun a11=>x0 (
.op (x_lss a7 a11) fun a12 =>
.cond a12 (.block 2 (.op (zac 1 a10 a7) fun a13 =>
.op (zab none a13) fun a14 =>
.op (zad (.p (.func F_Q75)) [a8,a14]) fun a15 =>
.op (zagp [(.const a9),(.const a15)]) fun a16 =>
.fin .normal [a7,a8,a16,a10,a11]) <| xv fun a17=>xv fun a18=>xv fun a19=>xv fun a20=>xv fun a21=>x0 (
.op (x_add a17 (.p (.int .i64 1))) fun a22 =>
.fin .normal [a22,a18,a19,a20,a21])) <|
.fin (.exit 1) [a9])) <| xv fun a23=>x0 (
.op (x_add a23 (.p (.int .i64 1))) fun a24 =>
.fin .ret [a24]))
noncomputable def zij:HFun:=⟨2,ztx,[.tmp 4],false⟩
theorem zqm:HOK tr.look F_Q75 zij:=⟨i_Q75,(.sq .lf (.sq .lf (.sq (.sq .lf (.bk [5] (.lp [15,0,5,13,14] (.sq .lf (.sq (.cj .lf .lf) (.sq (.bk [15,0,5,13,14] (.sq .lf .lf)) .lf)))))) (.sq .lf .lf)))),[],look_Q75,rfl,rfl,rfl,rfl,rfl,by kernel_rfl⟩
noncomputable def zxn:List IVal→HC XF:=xv fun a0=>xv fun a1=>x0 (
.op (x_nil a0) fun a2 =>
.op (zaa 2 a2) fun a3 =>
.op (zaa 3 a3) fun a4 =>
.op (zab none a4) fun a5 =>
.op (zad (.p (.func F_Q98)) [a5,a1,(.p (.func F_Q99))]) fun a6 =>
.op (zag a6 0) fun a7 =>
.op (zag a6 1) fun a8 =>
.fin .ret [a7,a8])
noncomputable def zkm:HFun:=⟨2,zxn,[.tmp 4, .tmp 5],false⟩
theorem zru:HOK tr.look F_Q76 zkm:=⟨i_Q76,(.sq .lf (.sq .lf .lf)),[],look_Q76,rfl,rfl,rfl,rfl,rfl,by kernel_rfl⟩
noncomputable def zis:List IVal→HC XF:=xv fun a0=>xv fun a1=>x0 (
.op (x_len a0) fun a2 =>
.block 1 (.loop [(.p (.int .i64 0)),a0,a1,a2] <| xv fun a3=>xv fun a4=>xv fun a5=>xv fun a6=>x0 (
.op (x_lss a3 a6) fun a7 =>
.cond a7 (.block 2 (.op (zac 1 a4 a3) fun a8 =>
.op (zab none a8) fun a9 =>
.op (x_eql a5 a9) fun a10 =>
.cond a10 (.fin .ret [a3]) <|
.fin .normal [a3,a4,a5,a6]) <| xv fun a11=>xv fun a12=>xv fun a13=>xv fun a14=>x0 (
.op (x_add a11 (.p (.int .i64 1))) fun a15 =>
.fin .normal [a15,a12,a13,a14])) <|
.fin (.exit 1) [])) <| x0 (
.fin .ret [(.p (.int .i64 (-1)))]))
noncomputable def zdj:HFun:=⟨2,zis,[.tmp 4],true⟩
theorem zgy:HOK tr.look F_Q78 zdj:=⟨i_Q78,(.sq .lf (.sq (.sq .lf (.bk [] (.lp [8,0,1,7] (.sq .lf (.sq (.cj .lf .lf) (.sq (.bk [8,0,1,7] (.sq .lf (.sq .lf (.cj (.sq .lf .lf) .lf)))) .lf)))))) (.sq .lf .lf))),[],look_Q78,rfl,rfl,rfl,rfl,rfl,by kernel_rfl⟩
noncomputable def zamh:List IVal→HC XF:=xv fun a0=>x0 (
.fresh [1] [a0] <|
.op (x_box (some 1) 5 a0) fun a1 =>
.op (zab (some 5) a1) fun a2 =>
.op (zad (.p (.func F_Q19)) [a2]) fun a3 =>
.op (x_len a3) fun a4 =>
.op (zfi 1 [(.int .u64 0)] (.const a4) (.const a4)) fun a5 =>
.op (x_len a3) fun a6 =>
.op (x_sub a6 (.p (.int .i64 1))) fun a7 =>
.block 1 (.loop [a7,a5,a3] <| xv fun a8=>xv fun a9=>xv fun a10=>x0 (
.op (x_geq a8 (.p (.int .i64 0))) fun a11 =>
.cond a11 (.block 2 (.op (x_add a8 (.p (.int .i64 1))) fun a12 =>
.block 3 (.loop [a12,a10,a9,(.p .nilslice),a8] <| xv fun a13=>xv fun a14=>xv fun a15=>xv fun a16=>xv fun a17=>x0 (
.op (zac 10 a14 a17) fun a18 =>
.op (zaa 1 a18) fun a19 =>
.op (zab none a19) fun a20 =>
.op (x_add a17 a20) fun a21 =>
.op (x_lss a13 a21) fun a22 =>
.cond a22 (.block 4 (.op (zac 1 a15 a13) fun a23 =>
.op (zab none a23) fun a24 =>
.op (zaf 1 1 [(.int .u64 0)] [(0,1,a24)]) fun a25 =>
.op (zal 1 (.const a16) (.const a25)) fun a26 =>
.fin .normal [a13,a14,a15,a26,a17]) <| xv fun a27=>xv fun a28=>xv fun a29=>xv fun a30=>xv fun a31=>x0 (
.op (zac 10 a28 a27) fun a32 =>
.op (zaa 1 a32) fun a33 =>
.op (zab none a33) fun a34 =>
.op (x_add a27 a34) fun a35 =>
.fin .normal [a35,a28,a29,a30,a31])) <|
.fin (.exit 3) [a16,a17,a15,a14])) <| xv fun a36=>xv fun a37=>xv fun a38=>xv fun a39=>x0 (
.op (zac 10 a39 a37) fun a40 =>
.op (zaa 5 a40) fun a41 =>
.op (zab (some 5) a41) fun a42 =>
.op (zad (.p (.func F_Q103)) [a42,a36]) fun a43 =>
.op (zac 1 a38 a37) fun a44 =>
.op (zae 1 a44 a43) fun _ =>
.fin .normal [a37,a38,a39])) <| xv fun a46=>xv fun a47=>xv fun a48=>x0 (
.op (x_sub a46 (.p (.int .i64 1))) fun a49 =>
.fin .normal [a49,a47,a48])) <|
.fin (.exit 1) [a9])) <| xv fun a50=>x0 (
.fin .ret [a50]))
noncomputable def zaan:HFun:=⟨1,zamh,[.tmp 2],true⟩
theorem zahe:HOK tr.look F_Q79 zaan:=⟨i_Q79,(.sq .lf (.sq .lf (.sq .lf (.sq (.sq .lf (.bk [4] (.lp [5,4,3] (.sq (.sq .lf (.cj .lf .lf)) (.sq (.bk [5,4,3] (.sq .lf (.sq (.sq .lf (.bk [6,5,4,3] (.lp [7,3,4,6,5] (.sq (.sq .lf (.cj .lf .lf)) (.sq (.bk [7,3,4,6,5] .lf) .lf))))) .lf))) .lf))))) (.sq .lf .lf))))),[],look_Q79,rfl,rfl,rfl,rfl,rfl,by kernel_rfl⟩
noncomputable def zahf:List IVal→HC XF:=xv fun a0=>xv fun a1=>xv fun a2=>xv fun a3=>xv fun a4=>x0 (
.fresh [6] [a0,a1,a2,a3,a4] <|
.op (x_box (some 6) 4 a1) fun a5 =>
.op (zab none a2) fun a6 =>
.op (x_eql a0 a6) fun a7 =>
.block 0 (.cond a7 (.op (zaa 0 a5) fun a8 =>
.op (zab none a8) fun a9 =>
.op (x_nil a9) fun a10 =>
.op (zab (some 5) a10) fun a11 =>
.op (zae 5 a3 a11) fun _ =>
.op (zae 1 a4 (.p (.bool true))) fun _ =>
.fin .normal [a4]) <|
.fin .normal [a4]) <| xv fun a14=>x0 (
.op (zab none a14) fun a15 =>
.op (x_not a15) fun a16 =>
.fin .ret [a16]))
noncomputable def ztc:HFun:=⟨5,zahf,[.tmp 7],false⟩
theorem zyt:HOK tr.look F_Q80 ztc:=⟨i_Q80,(.sq .lf (.sq (.sq .lf (.cd [4] .lf .lf)) (.sq .lf .lf))),[],look_Q80,rfl,rfl,rfl,rfl,rfl,by kernel_rfl⟩
noncomputable def zadd:List IVal→HC XF:=xv fun a0=>xv fun a1=>x0 (
.fresh [2,3,5,6] [a0,a1] <|
.op (x_box (some 2) 5 a0) fun a2 =>
.op (x_box (some 3) 5 a1) fun a3 =>
.op (zai (some 5) [(.int .i64 0),(.int .i64 0)]) fun a4 =>
.op (zai (some 6) [(.int .i64 0),(.int .i64 0)]) fun a5 =>
.op (zab (some 5) a2) fun a6 =>
.op (zab (some 5) a3) fun a7 =>
.op (zhw) fun a8 =>
.op (zad (.p (.func F_Q104)) [a6]) fun a9 =>
.chk (.load (some 5) (.const a3)) a7 <|
.chk (.mkMap) a8 <|
.op (zad (.p (.func F_Q104)) [a7]) fun a10 =>
.op (zaj [.nilptr, .nilptr, .nilmap] [(0,1,a9),(1,1,a10),(2,1,a8)]) fun a11 =>
.op (x_box none 3 a11) fun a12 =>
.chk (.mkMap) a8 <|
.op (x_nil a12) fun a13 =>
.op (zaa 0 a13) fun a14 =>
.op (zab none a14) fun a15 =>
.op (x_nil a15) fun a16 =>
.op (zaa 0 a16) fun a17 =>
.op (zab none a17) fun a18 =>
.op (x_len a18) fun a19 =>
.op (x_nil a12) fun a20 =>
.op (zaa 1 a20) fun a21 =>
.op (zab none a21) fun a22 =>
.op (x_nil a22) fun a23 =>
.op (zaa 0 a23) fun a24 =>
.op (zab none a24) fun a25 =>
.op (x_len a25) fun a26 =>
.op (x_sub a19 (.p (.int .i64 1))) fun a27 =>
.op (zad (.p (.func F_Q105)) [(.p (.int .i64 0)),a27]) fun a28 =>
.op (x_sub a26 (.p (.int .i64 1))) fun a29 =>
.op (zad (.p (.func F_Q105)) [(.p (.int .i64 0)),a29]) fun a30 =>
.op (x_leq a19 (.p (.int .i64 8))) fun a31 =>
.opg a31 true (x_mov a26) fun a32 =>
.opg a31 true (x_leq a32 (.p (.int .i64 8))) fun a33 =>
.op (zah a31 a33 (.p (.bool false))) fun a34 =>
.op (zae 2 a4 a28) fun _ =>
.op (zae 2 a5 a30) fun _ =>
.fin .ret [a12,a4,a5,a34])
noncomputable def zqn:HFun:=⟨2,zadd,[.tmp 4, .cell 5 (some 2), .cell 6 (some 2), .tmp 7],false⟩
theorem zxo:HOK tr.look F_Q81 zqn:=⟨i_Q81,(.sq .lf (.sq .lf (.sq .lf (.sq .lf .lf)))),[],look_Q81,rfl,rfl,rfl,rfl,rfl,by kernel_rfl⟩
noncomputable def zqo:List IVal→HC XF:=xv fun a0=>xv fun a1=>xv fun a2=>x0 (
.fresh [4,5] [a0,a1,a2] <|
.op (x_box (some 4) 2 a1) fun a3 =>
.op (x_box (some 5) 2 a2) fun a4 =>
.op (zab (some 2) a3) fun a5 =>
.op (zad (.p (.func F_Q106)) []) fun a6 =>
.op (x_eqv false ⟨true,[.int, .int]⟩ (.const a5) (.const a6)) fun a7 =>
.opg a7 false (zab (some 2) a4) fun a8 =>
.chk (.load (some 2) (.const a3)) a5 <|
.opg a7 false (zad (.p (.func F_Q106)) []) fun a9 =>
.opg a7 false (x_eqv false ⟨true,[.int, .int]⟩ (.const a8) (.const a9)) fun a10 =>
.op (zah a7 (.p (.bool true)) a10) fun a11 =>
.chkg a7 false (.load (some 2) (.const a4)) a8 <|
.cond a11 (.fin .ret [(.p .nilslice)]) <|
.op (zab (some 2) a3) fun a12 =>
.op (zab (some 2) a4) fun a13 =>
.op (zad (.p (.func F_Q107)) [a0,a12,a13]) fun a14 =>
.block 1 (.op (zab (some 2) a3) fun a15 =>
.op (zab (some 2) a4) fun a16 =>
.op (zad (.p (.func F_Q108)) [a0,a15,a16]) fun a17 =>
.op (x_eql a14 a17) fun a18 =>
.cond a18 (.op (x_nil a0) fun a19 =>
.op (zaa 0 a19) fun a20 =>
.op (zab none a20) fun a21 =>
.op (zab (some 2) a3) fun a22 =>
.op (x_nil a0) fun a23 =>
.op (zaa 1 a23) fun a24 =>
.op (zab none a24) fun a25 =>
.op (zab (some 2) a4) fun a26 =>
.op (x_nil a0) fun a27 =>
.op (zaa 0 a27) fun a28 =>
.op (zab none a28) fun a29 =>
.op (zab (some 2) a3) fun a30 =>
.op (x_nil a0) fun a31 =>
.op (zaa 1 a31) fun a32 =>
.op (zab none a32) fun a33 =>
.op (zab (some 2) a4) fun a34 =>
.op (zad (.p (.func F_Q109)) [a21,a22]) fun a35 =>
.chk (.load none (.const a24)) a25 <|
.chk (.load (some 2) (.const a4)) a26 <|
.chk (.load none (.const a28)) a29 <|
.chk (.load (some 2) (.const a3)) a30 <|
.chk (.load none (.const a32)) a33 <|
.chk (.load (some 2) (.const a4)) a34 <|
.op (zad (.p (.func F_Q109)) [a25,a26]) fun a36 =>
.chk (.load none (.const a28)) a29 <|
.chk (.load (some 2) (.const a3)) a30 <|
.chk (.load none (.const a32)) a33 <|
.chk (.load (some 2) (.const a4)) a34 <|
.op (zad (.p (.func F_Q82)) [a0,a35,a36]) fun a37 =>
.chk (.load none (.const a28)) a29 <|
.chk (.load (some 2) (.const a3)) a30 <|
.chk (.load none (.const a32)) a33 <|
.chk (.load (some 2) (.const a4)) a34 <|
.op (zad (.p (.func F_Q110)) [a29,a30]) fun a38 =>
.chk (.load none (.const a32)) a33 <|
.chk (.load (some 2) (.const a4)) a34 <|
.op (zad (.p (.func F_Q110)) [a33,a34]) fun a39 =>
.op (zad (.p (.func F_Q82)) [a0,a38,a39]) fun a40 =>
.op (zal 2 (.const a37) (.const a40)) fun a41 =>
.op (x_nil a0) fun a42 =>
.op (zaa 0 a42) fun a43 =>
.op (zab none a43) fun a44 =>
.op (x_nil a44) fun a45 =>
.op (zaa 0 a45) fun a46 =>
.op (zab none a46) fun a47 =>
.op (zau 2 1 a3 (.p (.int .i64 1))) fun a48 =>
.op (zab none a48) fun a49 =>
.op (zac 5 a47 a49) fun a50 =>
.op (zab (some 5) a50) fun a51 =>
.op (x_nil a0) fun a52 =>
.op (zaa 1 a52) fun a53 =>
.op (zab none a53) fun a54 =>
.op (x_nil a54) fun a55 =>
.op (zaa 0 a55) fun a56 =>
.op (zab none a56) fun a57 =>
.op (zau 2 1 a4 (.p (.int .i64 1))) fun a58 =>
.op (zab none a58) fun a59 =>
.op (zac 5 a57 a59) fun a60 =>
.op (zab (some 5) a60) fun a61 =>
.op (zad (.p (.func F_Q111)) [a51,a61]) fun a62 =>
.op (x_lss a62 (.p (.int .i64 3))) fun a63 =>
.block 0 (.cond a63 (.op (x_nil a0) fun a64 =>
.op (zaa 0 a64) fun a65 =>
.op (zab none a65) fun a66 =>
.op (x_nil a66) fun a67 =>
.op (zaa 1 a67) fun a68 =>
.op (zab none a68) fun a69 =>
.op (zau 2 1 a3 (.p (.int .i64 1))) fun a70 =>
.op (zab none a70) fun a71 =>
.op (zac 1 a69 a71) fun a72 =>
.op (zab none a72) fun a73 =>
.op (x_nil a0) fun a74 =>
.op (zaa 1 a74) fun a75 =>
.op (zab none a75) fun a76 =>
.op (x_nil a76) fun a77 =>
.op (zaa 1 a77) fun a78 =>
.op (zab none a78) fun a79 =>
.op (zau 2 1 a4 (.p (.int .i64 1))) fun a80 =>
.op (zab none a80) fun a81 =>
.op (zac 1 a79 a81) fun a82 =>
.op (zab none a82) fun a83 =>
.op (zaj [(.int .i64 0),(.int .i64 0)] [(0,1,a73),(1,1,a83)]) fun a84 =>
.op (zaf 2 1 [(.int .i64 0),(.int .i64 0)] [(0,2,a84)]) fun a85 =>
.op (zal 2 (.const a41) (.const a85)) fun a86 =>
.fin .normal [a86]) <|
.fin .normal [a41]) <| xv fun a87=>x0 (
.fin .ret [a87])) <|
.op (zab (some 2) a3) fun a88 =>
.op (zab (some 2) a4) fun a89 =>
.op (zad (.p (.func F_Q112)) [a88]) fun a90 =>
.chk (.load (some 2) (.const a4)) a89 <|
.op (zad (.p (.func F_Q107)) [a0,a90,a89]) fun a91 =>
.op (x_add a91 (.p (.int .i64 1))) fun a92 =>
.op (x_eql a14 a92) fun a93 =>
.cond a93 (.op (zab (some 2) a3) fun a94 =>
.op (zab (some 2) a4) fun a95 =>
.op (zad (.p (.func F_Q112)) [a94]) fun a96 =>
.chk (.load (some 2) (.const a4)) a95 <|
.op (zad (.p (.func F_Q82)) [a0,a96,a95]) fun a97 =>
.fin .ret [a97]) <|
.fin .normal [a4,a3,a0]) <| xv fun a98=>xv fun a99=>xv fun a100=>x0 (
.op (zab (some 2) a99) fun a101 =>
.op (zab (some 2) a98) fun a102 =>
.op (zad (.p (.func F_Q112)) [a102]) fun a103 =>
.chk (.load (some 2) (.const a99)) a101 <|
.op (zad (.p (.func F_Q82)) [a100,a101,a103]) fun a104 =>
.fin .ret [a104]))
noncomputable def zgc:HFun:=⟨3,zqo,[.tmp 6],false⟩
theorem zmq:HOK tr.look F_Q82 zgc:=⟨i_Q82,(.sq .lf (.sq (.sq .lf (.cj (.sq .lf .lf) .lf)) (.sq .lf (.sq (.sq .lf (.bk [5,4,0] (.sq .lf (.cj (.sq .lf (.sq (.sq .lf (.cd [8] .lf .lf)) (.sq .lf .lf))) (.sq .lf (.cj (.sq .lf .lf) .lf)))))) (.sq .lf .lf))))),[],look_Q82,rfl,rfl,rfl,rfl,rfl,by kernel_rfl⟩
noncomputable def zrv:List IVal→HC XF:=xv fun a0=>xv fun a1=>x0 (
.fresh [2,3] [a0,a1] <|
.op (x_box (some 2) 2 a0) fun a2 =>
.op (x_box (some 3) 2 a1) fun a3 =>
.op (zaa 0 a2) fun a4 =>
.op (zab none a4) fun a5 =>
.op (zaa 0 a3) fun a6 =>
.op (zab none a6) fun a7 =>
.op (zad (.p (.func F_Q33)) [a5,a7]) fun a8 =>
.fin .ret [a8])
noncomputable def zgz:HFun:=⟨2,zrv,[.tmp 4],true⟩
theorem zok:HOK tr.look F_Q83 zgz:=⟨i_Q83,(.sq .lf (.sq .lf .lf)),[],look_Q83,rfl,rfl,rfl,rfl,rfl,by kernel_rfl⟩
noncomputable def zrw:List IVal→HC XF:=xv fun a0=>x0 (
.op (x_geq a0 (.p (.int .u32 65536))) fun a1 =>
.block 0 (.cond a1 (.op (xgen .shr a0 (.p (.int .u64 16))) fun a2 =>
.fin .normal [a2,(.p (.int .i64 16))]) <|
.fin .normal [a0,(.p (.int .i64 0))]) <| xv fun a3=>xv fun a4=>x0 (
.op (x_geq a3 (.p (.int .u32 256))) fun a5 =>
.block 0 (.cond a5 (.op (xgen .shr a3 (.p (.int .u64 8))) fun a6 =>
.op (x_add a4 (.p (.int .i64 8))) fun a7 =>
.fin .normal [a7,a6]) <|
.fin .normal [a4,a3]) <| xv fun a8=>xv fun a9=>x0 (
.op (zdt .u8 a9) fun a10 =>
.op (zuc (.p (.str [0,1,2,2,3,3,3,3,4,4,4,4,4,4,4,4,5,5,5,5,5,5,5,5,5,5,5,5,5,5,5,5,6,6,6,6,6,6,6,6,6,6,6,6,6,6,6,6,6,6,6,6,6,6,6,6,6,6,6,6,6,6,6,6,7,7,7,7,7,7,7,7,7,7,7,7,7,7,7,7,7,7,7,7,7,7,7,7,7,7,7,7,7,7,7,7,7,7,7,7,7,7,7,7,7,7,7,7,7,7,7,7,7,7,7,7,7,7,7,7,7,7,7,7,7,7,7,7,8,8,8,8,8,8,8,8,8,8,8,8,8,8,8,8,8,8,8,8,8,8,8,8,8,8,8,8,8,8,8,8,8,8,8,8,8,8,8,8,8,8,8,8,8,8,8,8,8,8,8,8,8,8,8,8,8,8,8,8,8,8,8,8,8,8,8,8,8,8,8,8,8,8,8,8,8,8,8,8,8,8,8,8,8,8,8,8,8,8,8,8,8,8,8,8,8,8,8,8,8,8,8,8,8,8,8,8,8,8,8,8,8,8,8,8,8,8,8,8,8,8,8,8,8,8,8,8])) a10) fun a11 =>
.op (zdt .i64 a11) fun a12 =>
.op (x_add a8 a12) fun a13 =>
.fin .ret [a13])))
noncomputable def zha:HFun:=⟨1,zrw,[.tmp 2],true⟩
theorem zol:HOK tr.look F_Q92 zha:=⟨i_Q92,(.sq .lf (.sq (.sq .lf (.cd [0,2] (.sq .lf .lf) .lf)) (.sq (.sq .lf (.cd [2,0] (.sq .lf .lf) .lf)) (.sq .lf .lf)))),[],look_Q92,rfl,rfl,rfl,rfl,rfl,by kernel_rfl⟩
noncomputable def zrx:List IVal→HC XF:=xv fun a0=>x0 (
.op (x_geq a0 (.p (.int .u64 4294967296))) fun a1 =>
.block 0 (.cond a1 (.op (xgen .shr a0 (.p (.int .u64 32))) fun a2 =>
.fin .normal [a2,(.p (.int .i64 32))]) <|
.fin .normal [a0,(.p (.int .i64 0))]) <| xv fun a3=>xv fun a4=>x0 (
.op (x_geq a3 (.p (.int .u64 65536))) fun a5 =>
.block 0 (.cond a5 (.op (xgen .shr a3 (.p (.int .u64 16))) fun a6 =>
.op (x_add a4 (.p (.int .i64 16))) fun a7 =>
.fin .normal [a6,a7]) <|
.fin .normal [a3,a4]) <| xv fun a8=>xv fun a9=>x0 (
.op (x_geq a8 (.p (.int .u64 256))) fun a10 =>
.block 0 (.cond a10 (.op (xgen .shr a8 (.p (.int .u64 8))) fun a11 =>
.op (x_add a9 (.p (.int .i64 8))) fun a12 =>
.fin .normal [a12,a11]) <|
.fin .normal [a9,a8]) <| xv fun a13=>xv fun a14=>x0 (
.op (zdt .u8 a14) fun a15 =>
.op (zuc (.p (.str [0,1,2,2,3,3,3,3,4,4,4,4,4,4,4,4,5,5,5,5,5,5,5,5,5,5,5,5,5,5,5,5,6,6,6,6,6,6,6,6,6,6,6,6,6,6,6,6,6,6,6,6,6,6,6,6,6,6,6,6,6,6,6,6,7,7,7,7,7,7,7,7,7,7,7,7,7,7,7,7,7,7,7,7,7,7,7,7,7,7,7,7,7,7,7,7,7,7,7,7,7,7,7,7,7,7,7,7,7,7,7,7,7,7,7,7,7,7,7,7,7,7,7,7,7,7,7,7,8,8,8,8,8,8,8,8,8,8,8,8,8,8,8,8,8,8,8,8,8,8,8,8,8,8,8,8,8,8,8,8,8,8,8,8,8,8,8,8,8,8,8,8,8,8,8,8,8,8,8,8,8,8,8,8,8,8,8,8,8,8,8,8,8,8,8,8,8,8,8,8,8,8,8,8,8,8,8,8,8,8,8,8,8,8,8,8,8,8,8,8,8,8,8,8,8,8,8,8,8,8,8,8,8,8,8,8,8,8,8,8,8,8,8,8,8,8,8,8,8,8,8,8,8,8,8,8])) a15) fun a16 =>
.op (zdt .i64 a16) fun a17 =>
.op (x_add a13 a17) fun a18 =>
.fin .ret [a18]))))
noncomputable def zhb:HFun:=⟨1,zrx,[.tmp 2],true⟩
theorem zom:HOK tr.look F_Q93 zhb:=⟨i_Q93,(.sq .lf (.sq (.sq .lf (.cd [0,2] (.sq .lf .lf) .lf)) (.sq (.sq .lf (.cd [0,2] (.sq .lf .lf) .lf)) (.sq (.sq .lf (.cd [2,0] (.sq .lf .lf) .lf)) (.sq .lf .lf))))),[],look_Q93,rfl,rfl,rfl,rfl,rfl,by kernel_rfl⟩
noncomputable def zhc:List IVal→HC XF:=xv fun a0=>xv fun a1=>x0 (
.op (x_len a0) fun a2 =>
.op (x_sub a2 a1) fun a3 =>
.op (zad (.p (.func F_Q118)) [a0,a3]) fun _ =>
.fin .ret [])
noncomputable def zcp:HFun:=⟨2,zhc,[],true⟩
theorem zfn:HOK tr.look F_Q95 zcp:=⟨i_Q95, .lf,[],look_Q95,rfl,rfl,rfl,rfl,rfl,by kernel_rfl⟩
noncomputable def zfm:List IVal→HC XF:=xv fun a0=>xv fun a1=>x0 (
.op (zad (.p (.func F_Q119)) [a0,a1]) fun a2 =>
.op (x_eql a2 (.p (.int .i64 (-1)))) fun a3 =>
.cond a3 (.fin .ret [a0]) <|
.op (x_add a2 (.p (.int .i64 1))) fun a4 =>
.block 1 (.loop [a4,a2,a0,a1] <| xv fun a5=>xv fun a6=>xv fun a7=>xv fun a8=>x0 (
.op (x_len a7) fun a9 =>
.op (x_lss a5 a9) fun a10 =>
.cond a10 (.block 2 (.op (zac 1 a7 a5) fun a11 =>
.op (zab none a11) fun a12 =>
.op (zad a8 [a12]) fun a13 =>
.op (x_not a13) fun a14 =>
.block 0 (.cond a14 (.op (zac 1 a7 a6) fun a15 =>
.op (zae 1 a15 a12) fun _ =>
.op (x_add a6 (.p (.int .i64 1))) fun a17 =>
.fin .normal [a5,a17,a7,a8]) <|
.fin .normal [a5,a6,a7,a8]) <| xv fun a18=>xv fun a19=>xv fun a20=>xv fun a21=>x0 (
.fin .normal [a18,a19,a20,a21])) <| xv fun a22=>xv fun a23=>xv fun a24=>xv fun a25=>x0 (
.op (x_add a22 (.p (.int .i64 1))) fun a26 =>
.fin .normal [a26,a23,a24,a25])) <|
.fin (.exit 1) [a7,a6])) <| xv fun a27=>xv fun a28=>x0 (
.op (zaq 1 a27 (some a28) none) fun a29 =>
.op (zaoz [(.int .i64 0)] (.const a29)) fun _ =>
.op (zaq 1 a27 none (some a28)) fun a31 =>
.fin .ret [a31]))
noncomputable def zbw:HFun:=⟨2,zfm,[.tmp 4],false⟩
theorem zec:HOK tr.look F_Q96 zbw:=⟨i_Q96,(.sq .lf (.sq .lf (.sq (.sq .lf (.cj (.sq .lf .lf) .lf)) (.sq (.sq .lf (.bk [0,5] (.lp [6,5,0,1] (.sq (.sq .lf (.cj .lf .lf)) (.sq (.bk [6,5,0,1] (.sq .lf (.sq .lf (.cd [6,5,0,1] (.sq .lf .lf) .lf)))) .lf))))) (.sq .lf (.sq .lf .lf)))))),[],look_Q96,rfl,rfl,rfl,rfl,rfl,by kernel_rfl⟩
noncomputable def zxp:List IVal→HC XF:=xv fun a0=>xv fun a1=>x0 (
.op (zab none a1) fun a2 =>
.op (x_eql a0 a2) fun a3 =>
.fin .ret [a3])
noncomputable def zkn:HFun:=⟨2,zxp,[.tmp 3],false⟩
theorem zry:HOK tr.look F_Q97 zkn:=⟨i_Q97,(.sq .lf (.sq .lf .lf)),[],look_Q97,rfl,rfl,rfl,rfl,rfl,by kernel_rfl⟩
noncomputable def zbb:List IVal→HC XF:=xv fun a0=>xv fun a1=>xv fun a2=>x0 (
.op (x_len a0) fun a3 =>
.block 1 (.loop [a1,a0,a2,a3,(.p (.int .i64 0)),a3] <| xv fun a4=>xv fun a5=>xv fun a6=>xv fun a7=>xv fun a8=>xv fun a9=>x0 (
.op (x_lss a8 a7) fun a10 =>
.cond a10 (.block 2 (.op (x_add a8 a7) fun a11 =>
.op (zdt .u64 a11) fun a12 =>
.op (xgen .shr a12 (.p (.int .u64 1))) fun a13 =>
.op (zdt .i64 a13) fun a14 =>
.op (zac 2 a5 a14) fun a15 =>
.op (zab (some 2) a15) fun a16 =>
.op (zad a6 [a16,a4]) fun a17 =>
.op (x_lss a17 (.p (.int .i64 0))) fun a18 =>
.block 0 (.cond a18 (.op (x_add a14 (.p (.int .i64 1))) fun a19 =>
.fin .normal [a4,a5,a6,a7,a19,a9]) <|
.fin .normal [a4,a5,a6,a14,a8,a9]) <| xv fun a20=>xv fun a21=>xv fun a22=>xv fun a23=>xv fun a24=>xv fun a25=>x0 (
.fin .normal [a20,a21,a22,a23,a24,a25])) <| xv fun a26=>xv fun a27=>xv fun a28=>xv fun a29=>xv fun a30=>xv fun a31=>x0 (
.fin .normal [a26,a27,a28,a29,a30,a31])) <|
.fin (.exit 1) [a9,a6,a5,a8,a4])) <| xv fun a32=>xv fun a33=>xv fun a34=>xv fun a35=>xv fun a36=>x0 (
.op (x_lss a35 a32) fun a37 =>
.opg a37 true (x_mov a33) fun a38 =>
.opg a37 true (x_mov a34) fun a39 =>
.opg a37 true (x_mov a35) fun a40 =>
.opg a37 true (zac 2 a39 a40) fun a41 =>
.opg a37 true (zab (some 2) a41) fun a42 =>
.opg a37 true (x_mov a36) fun a43 =>
.opg a37 true (zad a38 [a42,a43]) fun a44 =>
.opg a37 true (x_eql a44 (.p (.int .i64 0))) fun a45 =>
.op (zah a37 a45 (.p (.bool false))) fun a46 =>
.fin .ret [a35,a46]))
noncomputable def zao:HFun:=⟨3,zbb,[.tmp 6, .tmp 7],false⟩
theorem zaz:HOK tr.look F_Q98 zao:=⟨i_Q98,(.sq .lf (.sq .lf (.sq .lf (.sq (.bk [8,2,0,9,1] (.lp [1,0,2,10,9,8] (.sq (.sq .lf (.cj .lf .lf)) (.bk [1,0,2,10,9,8] (.sq .lf (.sq .lf (.cd [1,0,2,10,9,8] .lf .lf))))))) (.sq .lf .lf))))),[],look_Q98,rfl,rfl,rfl,rfl,rfl,by kernel_rfl⟩
noncomputable def zrz:List IVal→HC XF:=xv fun a0=>xv fun a1=>x0 (
.fresh [2] [a0,a1] <|
.op (x_box (some 2) 2 a0) fun a2 =>
.op (zaa 0 a2) fun a3 =>
.op (zab none a3) fun a4 =>
.op (zad (.p (.func F_Q100)) [a4,a1]) fun a5 =>
.fin .ret [a5])
noncomputable def zhd:HFun:=⟨2,zrz,[.tmp 4],true⟩
theorem zon:HOK tr.look F_Q99 zhd:=⟨i_Q99,(.sq .lf (.sq .lf .lf)),[],look_Q99,rfl,rfl,rfl,rfl,rfl,by kernel_rfl⟩
noncomputable def zed:List IVal→HC XF:=xv fun a0=>xv fun a1=>x0 (
.op (x_len a0) fun a2 =>
.op (x_sub a2 a1) fun a3 =>
.op (zad (.p (.func F_Q121)) [a0,a3]) fun _ =>
.fin .ret [])
noncomputable def zbr:HFun:=⟨2,zed,[],true⟩
theorem zdm:HOK tr.look F_Q102 zbr:=⟨i_Q102, .lf,[],look_Q102,rfl,rfl,rfl,rfl,rfl,by kernel_rfl⟩
noncomputable def zajq:List IVal→HC XF:=xv fun a0=>xv fun a1=>x0 (
.fresh [2] [a0,a1] <|
.op (x_box (some 2) 5 a0) fun a2 =>
.op (zaa 0 a2) fun a3 =>
.op (zab none a3) fun a4 =>
.op (zdt .u64 a4) fun a5 =>
.op (zaa 1 a2) fun a6 =>
.op (zab none a6) fun a7 =>
.op (zad (.p (.func F_Q123)) [a7]) fun a8 =>
.op (zad (.p (.func F_Q122)) [a5,a8]) fun a9 =>
.op (zaa 2 a2) fun a10 =>
.op (zab none a10) fun a11 =>
.op (zad (.p (.func F_Q123)) [a11]) fun a12 =>
.op (zad (.p (.func F_Q122)) [a9,a12]) fun a13 =>
.op (zaa 3 a2) fun a14 =>
.op (zab none a14) fun a15 =>
.op (x_len a15) fun a16 =>
.op (zdt .u64 a16) fun a17 =>
.op (zad (.p (.func F_Q122)) [a13,a17]) fun a18 =>
.op (zaa 3 a2) fun a19 =>
.op (zab none a19) fun a20 =>
.op (x_len a20) fun a21 =>
.block 1 (.loop [(.p (.int .i64 0)),a18,a20,a1,a21] <| xv fun a22=>xv fun a23=>xv fun a24=>xv fun a25=>xv fun a26=>x0 (
.op (x_lss a22 a26) fun a27 =>
.cond a27 (.block 2 (.fresh [7] [a27,a22,a23,a24,a25,a26] <|
.op (zac 2 a24 a22) fun a28 =>
.op (zab (some 2) a28) fun a29 =>
.op (zai (some 7) [(.str []),(.str [])]) fun a30 =>
.op (zae 2 a30 a29) fun _ =>
.op (zaa 0 a30) fun a32 =>
.op (zab none a32) fun a33 =>
.op (zad (.p (.func F_Q123)) [a33]) fun a34 =>
.op (zad (.p (.func F_Q122)) [a23,a34]) fun a35 =>
.op (zaa 1 a30) fun a36 =>
.op (zab none a36) fun a37 =>
.op (zad (.p (.func F_Q123)) [a37]) fun a38 =>
.op (zad (.p (.func F_Q122)) [a35,a38]) fun a39 =>
.fin .normal [a22,a39,a24,a25,a26]) <| xv fun a40=>xv fun a41=>xv fun a42=>xv fun a43=>xv fun a44=>x0 (
.op (x_add a40 (.p (.int .i64 1))) fun a45 =>
.fin .normal [a45,a41,a42,a43,a44])) <|
.fin (.exit 1) [a23,a25])) <| xv fun a46=>xv fun a47=>x0 (
.op (x_len a47) fun a48 =>
.op (zdt .u64 a48) fun a49 =>
.op (zad (.p (.func F_Q122)) [a46,a49]) fun a50 =>
.op (x_len a47) fun a51 =>
.block 3 (.loop [(.p (.int .i64 0)),a50,a47,a51] <| xv fun a52=>xv fun a53=>xv fun a54=>xv fun a55=>x0 (
.op (x_lss a52 a55) fun a56 =>
.cond a56 (.block 4 (.op (zac 1 a54 a52) fun a57 =>
.op (zab none a57) fun a58 =>
.op (zad (.p (.func F_Q122)) [a53,a58]) fun a59 =>
.fin .normal [a52,a59,a54,a55]) <| xv fun a60=>xv fun a61=>xv fun a62=>xv fun a63=>x0 (
.op (x_add a60 (.p (.int .i64 1))) fun a64 =>
.fin .normal [a64,a61,a62,a63])) <|
.fin (.exit 3) [a53])) <| xv fun a65=>x0 (
.fin .ret [a65])))
noncomputable def zxq:HFun:=⟨2,zajq,[.tmp 4],true⟩
theorem zade:HOK tr.look F_Q103 zxq:=⟨i_Q103,(.sq .lf (.sq .lf (.sq .lf (.sq .lf (.sq .lf (.sq (.sq .lf (.bk [5,1] (.lp [32,5,30,1,31] (.sq .lf (.sq (.cj .lf .lf) (.sq (.bk [32,5,30,1,31] (.sq .lf (.sq .lf .lf))) .lf)))))) (.sq .lf (.sq (.sq .lf (.bk [5] (.lp [54,5,52,53] (.sq .lf (.sq (.cj .lf .lf) (.sq (.bk [54,5,52,53] (.sq .lf .lf)) .lf)))))) (.sq .lf .lf))))))))),[],look_Q103,rfl,rfl,rfl,rfl,rfl,by kernel_rfl⟩
noncomputable def zami:List IVal→HC XF:=xv fun a0=>x0 (
.fresh [1] [a0] <|
.op (x_box (some 1) 5 a0) fun a1 =>
.op (zab (some 5) a1) fun a2 =>
.op (zad (.p (.func F_Q19)) [a2]) fun a3 =>
.op (zab (some 5) a1) fun a4 =>
.op (zad (.p (.func F_Q21)) [a4]) fun a5 =>
.op (zaj [.nilslice, .nilslice, .nilslice] [(1,1,a5)]) fun a6 =>
.op (x_box none 3 a6) fun a7 =>
.op (x_nil a7) fun a8 =>
.op (zaa 1 a8) fun a9 =>
.op (zab none a9) fun a10 =>
.op (x_len a10) fun a11 =>
.block 1 (.loop [(.p (.int .i64 0)),a7,a3,a10,a11] <| xv fun a12=>xv fun a13=>xv fun a14=>xv fun a15=>xv fun a16=>x0 (
.op (x_lss a12 a16) fun a17 =>
.cond a17 (.block 2 (.op (zac 1 a15 a12) fun a18 =>
.op (zab none a18) fun a19 =>
.block 0 (.both (.op (x_nil a13) fun a20 =>
.op (zaa 0 a20) fun a21 =>
.op (zab none a21) fun a22 =>
.op (zac 10 a14 a19) fun a23 =>
.op (zaa 5 a23) fun a24 =>
.op (zab (some 5) a24) fun a25 =>
.op (x_len a22) fun a26 =>
.op (zaf 5 1 [(.int .i64 0),(.str []),(.str []), .nilslice, .nilslice] [(0,5,(.agg [(.p (.int .i64 0)),(.p (.str [])),(.p (.str [])),(.p .nilslice),(.p .nilslice)]))]) fun a27 =>
.op (zal 5 (.const a22) (.const a27)) fun a28 =>
.op (zac 5 a28 a26) fun a29 =>
.op (x_nil a13) fun a30 =>
.op (zaa 0 a30) fun a31 =>
.op (zae 5 a29 a25) fun a32 =>
.op (zae 1 a31 a28) fun a33 =>
.fin .normal [a13,a20,a21,a22,a14,a19,a23,a24,a25,a26,a27,a28,a29,a32,a30,a31,a33]) (.op (x_nil a13) fun a34 =>
.op (zaa 0 a34) fun a35 =>
.op (zab none a35) fun a36 =>
.op (zac 10 a14 a19) fun a37 =>
.op (zaa 5 a37) fun a38 =>
.op (zab (some 5) a38) fun a39 =>
.op (x_len a36) fun a40 =>
.op (zaf 5 1 [(.int .i64 0),(.str []),(.str []), .nilslice, .nilslice] [(0,5,(.agg [(.p (.int .i64 0)),(.p (.str [])),(.p (.str [])),(.p .nilslice),(.p .nilslice)]))]) fun a41 =>
.op (zal 5 (.const a36) (.const a41)) fun a42 =>
.op (zac 5 a42 a40) fun a43 =>
.op (x_nil a13) fun a44 =>
.op (zaa 0 a44) fun a45 =>
.op (zae 1 a45 a42) fun a46 =>
.op (zae 5 a43 a39) fun a47 =>
.fin .normal [a13,a34,a35,a36,a14,a19,a37,a38,a39,a40,a41,a42,a43,a47,a44,a45,a46]) fun z=>.fin .normal z) <| xv fun _=>xv fun _=>xv fun _=>xv fun _=>xv fun _=>xv fun _=>xv fun _=>xv fun _=>xv fun _=>xv fun _=>xv fun _=>xv fun _=>xv fun _=>xv fun _=>xv fun _=>xv fun _=>xv fun _=>x0 (
.op (x_nil a13) fun a65 =>
.op (zaa 2 a65) fun a66 =>
.op (zab none a66) fun a67 =>
.op (x_add a12 (.p (.int .i64 1))) fun a68 =>
.op (zac 10 a14 a19) fun a69 =>
.op (zaa 1 a69) fun a70 =>
.op (zab none a70) fun a71 =>
.op (x_sub a68 a71) fun a72 =>
.op (zaf 1 1 [(.int .i64 0)] [(0,1,a72)]) fun a73 =>
.op (zal 1 (.const a67) (.const a73)) fun a74 =>
.op (x_nil a13) fun a75 =>
.op (zaa 2 a75) fun a76 =>
.op (zae 1 a76 a74) fun _ =>
.fin .normal [a12,a13,a14,a15,a16])) <| xv fun a78=>xv fun a79=>xv fun a80=>xv fun a81=>xv fun a82=>x0 (
.op (x_add a78 (.p (.int .i64 1))) fun a83 =>
.fin .normal [a83,a79,a80,a81,a82])) <|
.fin (.exit 1) [a13])) <| xv fun a84=>x0 (
.fin .ret [a84]))
noncomputable def zaao:HFun:=⟨1,zami,[.tmp 2],false⟩
theorem zahg:HOK tr.look F_Q104 zaao:=⟨i_Q104,(.sq .lf (.sq .lf (.sq .lf (.sq (.sq .lf (.bk [4] (.lp [18,4,3,16,17] (.sq .lf (.sq (.cj .lf .lf) (.sq (.bk [18,4,3,16,17] (.sq .lf (.sq .lf .lf))) .lf)))))) (.sq .lf .lf))))),[],look_Q104,rfl,rfl,rfl,rfl,rfl,by kernel_rfl⟩
noncomputable def zahh:List IVal→HC XF:=xv fun a0=>xv fun a1=>x0 (
.fresh [4] [a0,a1] <|
.op (zai (some 4) [(.int .i64 0),(.int .i64 0)]) fun a2 =>
.op (x_gtr a0 a1) fun a3 =>
.cond a3 (.op (zad (.p (.func F_Q106)) []) fun a4 =>
.op (zae 2 a2 a4) fun _ =>
.fin .ret [a2]) <|
.op (zaj [(.int .i64 0),(.int .i64 0)] [(0,1,a0),(1,1,a1)]) fun a6 =>
.op (zae 2 a2 a6) fun _ =>
.fin .ret [a2])
noncomputable def ztd:HFun:=⟨2,zahh,[.cell 4 (some 2)],true⟩
theorem zyu:HOK tr.look F_Q105 ztd:=⟨i_Q105,(.sq .lf (.sq (.sq .lf (.cj (.sq .lf .lf) .lf)) (.sq .lf .lf))),[],look_Q105,rfl,rfl,rfl,rfl,rfl,by kernel_rfl⟩
noncomputable def zahi:List IVal→HC XF:=x0 (
.fresh [0] [] <|
.op (zai (some 0) [(.int .i64 0),(.int .i64 0)]) fun a0 =>
.op (zaj [(.int .i64 0),(.int .i64 0)] [(0,1,(.p (.int .i64 0))),(1,1,(.p (.int .i64 (-1))))]) fun a1 =>
.op (zae 2 a0 a1) fun _ =>
.fin .ret [a0])
noncomputable def zte:HFun:=⟨0,zahi,[.cell 0 (some 2)],true⟩
theorem zyv:HOK tr.look F_Q106 zte:=⟨i_Q106,(.sq .lf (.sq .lf .lf)),[],look_Q106,rfl,rfl,rfl,rfl,rfl,by kernel_rfl⟩
noncomputable def zqp:List IVal→HC XF:=xv fun a0=>xv fun a1=>xv fun a2=>x0 (
.fresh [4,5] [a0,a1,a2] <|
.op (x_box (some 4) 2 a1) fun a3 =>
.op (x_box (some 5) 2 a2) fun a4 =>
.block 1 (.op (zab (some 2) a3) fun a5 =>
.op (zad (.p (.func F_Q106)) []) fun a6 =>
.op (x_eqv false ⟨true,[.int, .int]⟩ (.const a5) (.const a6)) fun a7 =>
.opg a7 true (zab (some 2) a4) fun a8 =>
.chk (.load (some 2) (.const a3)) a5 <|
.opg a7 true (zad (.p (.func F_Q106)) []) fun a9 =>
.opg a7 true (x_eqv false ⟨true,[.int, .int]⟩ (.const a8) (.const a9)) fun a10 =>
.op (zah a7 a10 (.p (.bool false))) fun a11 =>
.chkg a7 true (.load (some 2) (.const a4)) a8 <|
.cond a11 (.fin .ret [(.p (.int .i64 0))]) <|
.op (zab (some 2) a3) fun a12 =>
.op (zad (.p (.func F_Q106)) []) fun a13 =>
.op (x_eqv false ⟨true,[.int, .int]⟩ (.const a12) (.const a13)) fun a14 =>
.chk (.load (some 2) (.const a3)) a12 <|
.cond a14 (.op (zau 2 1 a4 (.p (.int .i64 1))) fun a15 =>
.op (zab none a15) fun a16 =>
.op (zau 2 1 a4 (.p (.int .i64 0))) fun a17 =>
.op (zab none a17) fun a18 =>
.op (x_sub a16 a18) fun a19 =>
.op (x_add a19 (.p (.int .i64 1))) fun a20 =>
.fin .ret [a20]) <|
.op (zab (some 2) a4) fun a21 =>
.op (zad (.p (.func F_Q106)) []) fun a22 =>
.op (x_eqv false ⟨true,[.int, .int]⟩ (.const a21) (.const a22)) fun a23 =>
.chk (.load (some 2) (.const a4)) a21 <|
.cond a23 (.op (zau 2 1 a3 (.p (.int .i64 1))) fun a24 =>
.op (zab none a24) fun a25 =>
.op (zau 2 1 a3 (.p (.int .i64 0))) fun a26 =>
.op (zab none a26) fun a27 =>
.op (x_sub a25 a27) fun a28 =>
.op (x_add a28 (.p (.int .i64 1))) fun a29 =>
.fin .ret [a29]) <|
.fin .normal [a4,a3,a0]) <| xv fun a30=>xv fun a31=>xv fun a32=>x0 (
.fresh [7] [a30,a31,a32] <|
.op (zab (some 2) a31) fun a33 =>
.op (zab (some 2) a30) fun a34 =>
.op (zaj [(.int .i64 0),(.int .i64 0),(.int .i64 0),(.int .i64 0)] [(0,2,a33),(2,2,a34)]) fun a35 =>
.op (zai (some 7) [(.int .i64 0),(.int .i64 0),(.int .i64 0),(.int .i64 0)]) fun a36 =>
.op (zae 4 a36 a35) fun _ =>
.op (x_nil a32) fun a38 =>
.op (zaa 2 a38) fun a39 =>
.op (zab none a39) fun a40 =>
.op (zab (some 4) a36) fun a41 =>
.op (zba true (.p (.int .i64 0)) ⟨true,[.int, .int, .int, .int]⟩ (.const a40) (.const a41)) fun a42 =>
.op (zag a42 0) fun a43 =>
.op (zag a42 1) fun a44 =>
.op (x_not a44) fun a45 =>
.block 0 (.cond a45 (.op (zab (some 2) a31) fun a46 =>
.op (zab (some 2) a30) fun a47 =>
.op (zab (some 2) a31) fun a48 =>
.op (zab (some 2) a30) fun a49 =>
.op (zab (some 2) a31) fun a50 =>
.op (zab (some 2) a30) fun a51 =>
.op (zad (.p (.func F_Q108)) [a32,a46,a47]) fun a52 =>
.chk (.load (some 2) (.const a31)) a48 <|
.chk (.load (some 2) (.const a30)) a49 <|
.chk (.load (some 2) (.const a31)) a50 <|
.chk (.load (some 2) (.const a30)) a51 <|
.op (zad (.p (.func F_Q112)) [a48]) fun a53 =>
.chk (.load (some 2) (.const a30)) a49 <|
.chk (.load (some 2) (.const a31)) a50 <|
.chk (.load (some 2) (.const a30)) a51 <|
.op (zad (.p (.func F_Q107)) [a32,a53,a49]) fun a54 =>
.op (x_add a54 (.p (.int .i64 1))) fun a55 =>
.chk (.load (some 2) (.const a31)) a50 <|
.chk (.load (some 2) (.const a30)) a51 <|
.op (zad (.p (.func F_Q112)) [a51]) fun a56 =>
.chk (.load (some 2) (.const a31)) a50 <|
.op (zad (.p (.func F_Q107)) [a32,a50,a56]) fun a57 =>
.op (x_add a57 (.p (.int .i64 1))) fun a58 =>
.op (zaoy [(.const a52),(.const a55),(.const a58)]) fun a59 =>
.op (x_nil a32) fun a60 =>
.op (zaa 2 a60) fun a61 =>
.op (zab none a61) fun a62 =>
.op (zab (some 4) a36) fun a63 =>
.op (zfz ⟨true,[.int, .int, .int, .int]⟩ (.const a62) (.const a63) (.const a59)) fun _ =>
.fin .normal [a59]) <|
.fin .normal [a43]) <| xv fun a65=>x0 (
.fin .ret [a65])))
noncomputable def zgd:HFun:=⟨3,zqp,[.tmp 6],false⟩
theorem zmr:HOK tr.look F_Q107 zgd:=⟨i_Q107,(.sq .lf (.sq (.bk [5,4,0] (.sq .lf (.cj (.sq .lf .lf) (.sq .lf (.cj (.sq .lf .lf) (.sq .lf (.cj (.sq .lf .lf) .lf))))))) (.sq .lf (.sq .lf (.sq (.sq .lf (.cd [8] (.sq .lf .lf) .lf)) (.sq .lf .lf)))))),[],look_Q107,rfl,rfl,rfl,rfl,rfl,by kernel_rfl⟩
noncomputable def zms:List IVal→HC XF:=xv fun a0=>xv fun a1=>xv fun a2=>x0 (
.fresh [4,5] [a0,a1,a2] <|
.op (x_box (some 4) 2 a1) fun a3 =>
.op (x_box (some 5) 2 a2) fun a4 =>
.op (x_nil a0) fun a5 =>
.op (zaa 0 a5) fun a6 =>
.op (zab none a6) fun a7 =>
.op (zab (some 2) a3) fun a8 =>
.op (x_nil a0) fun a9 =>
.op (zaa 1 a9) fun a10 =>
.op (zab none a10) fun a11 =>
.op (zab (some 2) a4) fun a12 =>
.op (x_nil a0) fun a13 =>
.op (zaa 0 a13) fun a14 =>
.op (zab none a14) fun a15 =>
.op (zab (some 2) a3) fun a16 =>
.op (x_nil a0) fun a17 =>
.op (zaa 1 a17) fun a18 =>
.op (zab none a18) fun a19 =>
.op (zab (some 2) a4) fun a20 =>
.op (x_nil a0) fun a21 =>
.op (zaa 0 a21) fun a22 =>
.op (zab none a22) fun a23 =>
.op (x_nil a23) fun a24 =>
.op (zaa 0 a24) fun a25 =>
.op (zab none a25) fun a26 =>
.op (zau 2 1 a3 (.p (.int .i64 1))) fun a27 =>
.op (zab none a27) fun a28 =>
.op (zac 5 a26 a28) fun a29 =>
.op (zab (some 5) a29) fun a30 =>
.op (x_nil a0) fun a31 =>
.op (zaa 1 a31) fun a32 =>
.op (zab none a32) fun a33 =>
.op (x_nil a33) fun a34 =>
.op (zaa 0 a34) fun a35 =>
.op (zab none a35) fun a36 =>
.op (zau 2 1 a4 (.p (.int .i64 1))) fun a37 =>
.op (zab none a37) fun a38 =>
.op (zac 5 a36 a38) fun a39 =>
.op (zab (some 5) a39) fun a40 =>
.op (zad (.p (.func F_Q109)) [a7,a8]) fun a41 =>
.chk (.load none (.const a10)) a11 <|
.chk (.load (some 2) (.const a4)) a12 <|
.chk (.load none (.const a14)) a15 <|
.chk (.load (some 2) (.const a3)) a16 <|
.chk (.load none (.const a18)) a19 <|
.chk (.load (some 2) (.const a4)) a20 <|
.chk (.load none (.const a22)) a23 <|
.chk (.load none (.const a25)) a26 <|
.chk (.load none (.const a27)) a28 <|
.chk (.load (some 5) (.const a29)) a30 <|
.chk (.load none (.const a32)) a33 <|
.chk (.load none (.const a35)) a36 <|
.chk (.load none (.const a37)) a38 <|
.chk (.load (some 5) (.const a39)) a40 <|
.op (zad (.p (.func F_Q109)) [a11,a12]) fun a42 =>
.chk (.load none (.const a14)) a15 <|
.chk (.load (some 2) (.const a3)) a16 <|
.chk (.load none (.const a18)) a19 <|
.chk (.load (some 2) (.const a4)) a20 <|
.chk (.load none (.const a22)) a23 <|
.chk (.load none (.const a25)) a26 <|
.chk (.load none (.const a27)) a28 <|
.chk (.load (some 5) (.const a29)) a30 <|
.chk (.load none (.const a32)) a33 <|
.chk (.load none (.const a35)) a36 <|
.chk (.load none (.const a37)) a38 <|
.chk (.load (some 5) (.const a39)) a40 <|
.op (zad (.p (.func F_Q107)) [a0,a41,a42]) fun a43 =>
.chk (.load none (.const a14)) a15 <|
.chk (.load (some 2) (.const a3)) a16 <|
.chk (.load none (.const a18)) a19 <|
.chk (.load (some 2) (.const a4)) a20 <|
.chk (.load none (.const a22)) a23 <|
.chk (.load none (.const a25)) a26 <|
.chk (.load none (.const a27)) a28 <|
.chk (.load (some 5) (.const a29)) a30 <|
.chk (.load none (.const a32)) a33 <|
.chk (.load none (.const a35)) a36 <|
.chk (.load none (.const a37)) a38 <|
.chk (.load (some 5) (.const a39)) a40 <|
.op (zad (.p (.func F_Q110)) [a15,a16]) fun a44 =>
.chk (.load none (.const a18)) a19 <|
.chk (.load (some 2) (.const a4)) a20 <|
.chk (.load none (.const a22)) a23 <|
.chk (.load none (.const a25)) a26 <|
.chk (.load none (.const a27)) a28 <|
.chk (.load (some 5) (.const a29)) a30 <|
.chk (.load none (.const a32)) a33 <|
.chk (.load none (.const a35)) a36 <|
.chk (.load none (.const a37)) a38 <|
.chk (.load (some 5) (.const a39)) a40 <|
.op (zad (.p (.func F_Q110)) [a19,a20]) fun a45 =>
.chk (.load none (.const a22)) a23 <|
.chk (.load none (.const a25)) a26 <|
.chk (.load none (.const a27)) a28 <|
.chk (.load (some 5) (.const a29)) a30 <|
.chk (.load none (.const a32)) a33 <|
.chk (.load none (.const a35)) a36 <|
.chk (.load none (.const a37)) a38 <|
.chk (.load (some 5) (.const a39)) a40 <|
.op (zad (.p (.func F_Q107)) [a0,a44,a45]) fun a46 =>
.op (x_add a43 a46) fun a47 =>
.chk (.load none (.const a22)) a23 <|
.chk (.load none (.const a25)) a26 <|
.chk (.load none (.const a27)) a28 <|
.chk (.load (some 5) (.const a29)) a30 <|
.chk (.load none (.const a32)) a33 <|
.chk (.load none (.const a35)) a36 <|
.chk (.load none (.const a37)) a38 <|
.chk (.load (some 5) (.const a39)) a40 <|
.op (zad (.p (.func F_Q111)) [a30,a40]) fun a48 =>
.op (x_add a47 a48) fun a49 =>
.fin .ret [a49])
noncomputable def zej:HFun:=⟨3,zms,[.tmp 6],false⟩
theorem zit:HOK tr.look F_Q108 zej:=⟨i_Q108,(.sq .lf (.sq .lf .lf)),[],look_Q108,rfl,rfl,rfl,rfl,rfl,by kernel_rfl⟩
noncomputable def zsa:List IVal→HC XF:=xv fun a0=>xv fun a1=>x0 (
.fresh [3,4] [a0,a1] <|
.op (x_box (some 3) 2 a1) fun a2 =>
.op (zai (some 4) [(.int .i64 0),(.int .i64 0)]) fun a3 =>
.op (x_nil a0) fun a4 =>
.op (zaa 2 a4) fun a5 =>
.op (zab none a5) fun a6 =>
.op (zau 2 1 a2 (.p (.int .i64 1))) fun a7 =>
.op (zab none a7) fun a8 =>
.op (zac 1 a6 a8) fun a9 =>
.op (zab none a9) fun a10 =>
.op (zau 2 1 a2 (.p (.int .i64 1))) fun a11 =>
.op (zab none a11) fun a12 =>
.op (x_sub a12 (.p (.int .i64 1))) fun a13 =>
.op (zad (.p (.func F_Q105)) [a10,a13]) fun a14 =>
.op (zae 2 a3 a14) fun _ =>
.fin .ret [a3])
noncomputable def zhe:HFun:=⟨2,zsa,[.cell 4 (some 2)],false⟩
theorem zoo:HOK tr.look F_Q109 zhe:=⟨i_Q109,(.sq .lf (.sq .lf .lf)),[],look_Q109,rfl,rfl,rfl,rfl,rfl,by kernel_rfl⟩
noncomputable def zmt:List IVal→HC XF:=xv fun a0=>xv fun a1=>x0 (
.fresh [3,4] [a0,a1] <|
.op (x_box (some 3) 2 a1) fun a2 =>
.op (zai (some 4) [(.int .i64 0),(.int .i64 0)]) fun a3 =>
.op (zau 2 1 a2 (.p (.int .i64 0))) fun a4 =>
.op (zab none a4) fun a5 =>
.op (x_nil a0) fun a6 =>
.op (zaa 2 a6) fun a7 =>
.op (zab none a7) fun a8 =>
.op (zau 2 1 a2 (.p (.int .i64 1))) fun a9 =>
.op (zab none a9) fun a10 =>
.op (zac 1 a8 a10) fun a11 =>
.op (zab none a11) fun a12 =>
.op (x_sub a12 (.p (.int .i64 1))) fun a13 =>
.op (zad (.p (.func F_Q105)) [a5,a13]) fun a14 =>
.op (zae 2 a3 a14) fun _ =>
.fin .ret [a3])
noncomputable def zek:HFun:=⟨2,zmt,[.cell 4 (some 2)],false⟩
theorem ziu:HOK tr.look F_Q110 zek:=⟨i_Q110,(.sq .lf (.sq .lf .lf)),[],look_Q110,rfl,rfl,rfl,rfl,rfl,by kernel_rfl⟩
noncomputable def zahj:List IVal→HC XF:=xv fun a0=>xv fun a1=>x0 (
.fresh [2,3] [a0,a1] <|
.op (x_box (some 2) 5 a0) fun a2 =>
.op (x_box (some 3) 5 a1) fun a3 =>
.block 1 (.op (zaa 0 a2) fun a4 =>
.op (zab none a4) fun a5 =>
.op (zaa 0 a3) fun a6 =>
.op (zab none a6) fun a7 =>
.op (x_neq a5 a7) fun a8 =>
.opg a8 false (zaa 1 a2) fun a9 =>
.opg a8 false (zab none a9) fun a10 =>
.opg a8 false (zaa 1 a3) fun a11 =>
.opg a8 false (zab none a11) fun a12 =>
.opg a8 false (x_neq a10 a12) fun a13 =>
.op (zah a8 (.p (.bool true)) a13) fun a14 =>
.cond a14 (.fin .ret [(.p (.int .i64 3))]) <|
.op (zaa 2 a2) fun a15 =>
.op (zab none a15) fun a16 =>
.op (zaa 2 a3) fun a17 =>
.op (zab none a17) fun a18 =>
.op (x_neq a16 a18) fun a19 =>
.opg a19 false (zaa 3 a2) fun a20 =>
.opg a19 false (zab none a20) fun a21 =>
.opg a19 false (zaa 3 a3) fun a22 =>
.opg a19 false (zab none a22) fun a23 =>
.opg a19 false (zad (.p (.func F_Q124)) [a21,a23]) fun a24 =>
.opg a19 false (x_not a24) fun a25 =>
.op (zah a19 (.p (.bool true)) a25) fun a26 =>
.cond a26 (.fin .ret [(.p (.int .i64 1))]) <|
.fin .normal []) <| x0 (
.fin .ret [(.p (.int .i64 0))]))
noncomputable def ztf:HFun:=⟨2,zahj,[.tmp 4],true⟩
theorem zyw:HOK tr.look F_Q111 ztf:=⟨i_Q111,(.sq .lf (.sq (.bk [] (.sq .lf (.cj (.sq .lf .lf) (.sq .lf (.cj (.sq .lf .lf) .lf))))) (.sq .lf .lf))),[],look_Q111,rfl,rfl,rfl,rfl,rfl,by kernel_rfl⟩
noncomputable def zahk:List IVal→HC XF:=xv fun a0=>x0 (
.fresh [1,2] [a0] <|
.op (x_box (some 1) 2 a0) fun a1 =>
.op (zai (some 2) [(.int .i64 0),(.int .i64 0)]) fun a2 =>
.op (zau 2 1 a1 (.p (.int .i64 0))) fun a3 =>
.op (zab none a3) fun a4 =>
.op (zau 2 1 a1 (.p (.int .i64 1))) fun a5 =>
.op (zab none a5) fun a6 =>
.op (x_sub a6 (.p (.int .i64 1))) fun a7 =>
.op (zad (.p (.func F_Q105)) [a4,a7]) fun a8 =>
.op (zae 2 a2 a8) fun _ =>
.fin .ret [a2])
noncomputable def ztg:HFun:=⟨1,zahk,[.cell 2 (some 2)],true⟩
theorem zyx:HOK tr.look F_Q112 ztg:=⟨i_Q112,(.sq .lf (.sq .lf .lf)),[],look_Q112,rfl,rfl,rfl,rfl,rfl,by kernel_rfl⟩
noncomputable def zhz:List IVal→HC XF:=xv fun a0=>x0 (
.op (zdt .u64 a0) fun a1 =>
.op (zad (.p (.func F_Q63)) [a1]) fun a2 =>
.op (xgen .shl (.p (.int .u64 1)) a2) fun a3 =>
.fin .ret [a3])
noncomputable def zdc:HFun:=⟨1,zhz,[.tmp 2],true⟩
theorem zgh:HOK tr.look F_Q114 zdc:=⟨i_Q114,(.sq .lf (.sq .lf .lf)),[],look_Q114,rfl,rfl,rfl,rfl,rfl,by kernel_rfl⟩
noncomputable def ziv:List IVal→HC XF:=xv fun a0=>x0 (
.op (x_nil a0) fun a1 =>
.op (zab none a1) fun a2 =>
.op (x_nil a0) fun a3 =>
.op (zab none a3) fun a4 =>
.op (xgen .shl a4 (.p (.int .u64 13))) fun a5 =>
.op (x_xor a2 a5) fun a6 =>
.op (x_nil a0) fun a7 =>
.op (zae 1 a7 a6) fun _ =>
.op (x_nil a0) fun a9 =>
.op (zab none a9) fun a10 =>
.op (x_nil a0) fun a11 =>
.op (zab none a11) fun a12 =>
.op (xgen .shr a12 (.p (.int .u64 7))) fun a13 =>
.op (x_xor a10 a13) fun a14 =>
.op (x_nil a0) fun a15 =>
.op (zae 1 a15 a14) fun _ =>
.op (x_nil a0) fun a17 =>
.op (zab none a17) fun a18 =>
.op (x_nil a0) fun a19 =>
.op (zab none a19) fun a20 =>
.op (xgen .shl a20 (.p (.int .u64 17))) fun a21 =>
.op (x_xor a18 a21) fun a22 =>
.op (x_nil a0) fun a23 =>
.op (zae 1 a23 a22) fun _ =>
.op (x_nil a0) fun a25 =>
.op (zab none a25) fun a26 =>
.fin .ret [a26])
noncomputable def zdk:HFun:=⟨1,ziv,[.tmp 2],false⟩
theorem zhf:HOK tr.look F_Q115 zdk:=⟨i_Q115,(.sq .lf (.sq .lf (.sq .lf (.sq .lf (.sq .lf .lf))))),[],look_Q115,rfl,rfl,rfl,rfl,rfl,by kernel_rfl⟩
noncomputable def zia:List IVal→HC XF:=xv fun a0=>xv fun a1=>x0 (
.op (zaq 1 a0 none (some a1)) fun a2 =>
.op (zad (.p (.func F_Q126)) [a2]) fun _ =>
.op (zaq 1 a0 (some a1) none) fun a4 =>
.op (zad (.p (.func F_Q126)) [a4]) fun _ =>
.op (zad (.p (.func F_Q126)) [a0]) fun _ =>
.fin .ret [])
noncomputable def zdd:HFun:=⟨2,zia,[],true⟩
theorem zgi:HOK tr.look F_Q118 zdd:=⟨i_Q118,(.sq .lf (.sq .lf .lf)),[],look_Q118,rfl,rfl,rfl,rfl,rfl,by kernel_rfl⟩
noncomputable def zfo:List IVal→HC XF:=xv fun a0=>xv fun a1=>x0 (
.op (x_len a0) fun a2 =>
.block 1 (.loop [(.p (.int .i64 0)),a0,a1,a2] <| xv fun a3=>xv fun a4=>xv fun a5=>xv fun a6=>x0 (
.op (x_lss a3 a6) fun a7 =>
.cond a7 (.block 2 (.op (zac 1 a4 a3) fun a8 =>
.op (zab none a8) fun a9 =>
.op (zad a5 [a9]) fun a10 =>
.cond a10 (.fin .ret [a3]) <|
.fin .normal [a3,a4,a5,a6]) <| xv fun a11=>xv fun a12=>xv fun a13=>xv fun a14=>x0 (
.op (x_add a11 (.p (.int .i64 1))) fun a15 =>
.fin .normal [a15,a12,a13,a14])) <|
.fin (.exit 1) [])) <| x0 (
.fin .ret [(.p (.int .i64 (-1)))]))
noncomputable def zca:HFun:=⟨2,zfo,[.tmp 4],false⟩
theorem zer:HOK tr.look F_Q119 zca:=⟨i_Q119,(.sq .lf (.sq (.sq .lf (.bk [] (.lp [8,0,1,7] (.sq .lf (.sq (.cj .lf .lf) (.sq (.bk [8,0,1,7] (.sq .lf (.sq .lf (.cj (.sq .lf .lf) .lf)))) .lf)))))) (.sq .lf .lf))),[],look_Q119,rfl,rfl,rfl,rfl,rfl,by kernel_rfl⟩
noncomputable def zdf:List IVal→HC XF:=xv fun a0=>xv fun a1=>x0 (
.op (zad (.p (.func 127)) [a0,a1]) fun a2 =>
.fin .ret [a2])
noncomputable def zbh:HFun:=⟨2,zdf,[.tmp 4],true⟩
theorem zcs:HOK tr.look F_Q120 zbh:=⟨i_Q120,(.sq .lf (.sq .lf .lf)),[],look_Q120,rfl,rfl,rfl,rfl,rfl,by kernel_rfl⟩
noncomputable def zes:List IVal→HC XF:=xv fun a0=>xv fun a1=>x0 (
.op (zaq 2 a0 none (some a1)) fun a2 =>
.op (zad (.p (.func F_Q128)) [a2]) fun _ =>
.op (zaq 2 a0 (some a1) none) fun a4 =>
.op (zad (.p (.func F_Q128)) [a4]) fun _ =>
.op (zad (.p (.func F_Q128)) [a0]) fun _ =>
.fin .ret [])
noncomputable def zbs:HFun:=⟨2,zes,[],true⟩
theorem zdv:HOK tr.look F_Q121 zbs:=⟨i_Q121,(.sq .lf (.sq .lf .lf)),[],look_Q121,rfl,rfl,rfl,rfl,rfl,by kernel_rfl⟩
noncomputable def zamj:List IVal→HC XF:=xv fun a0=>xv fun a1=>x0 (
.op (x_xor a0 a1) fun a2 =>
.op (x_mul a2 (.p (.int .u64 11400714819323198485))) fun a3 =>
.op (xgen .shr a3 (.p (.int .u64 29))) fun a4 =>
.op (x_xor a3 a4) fun a5 =>
.op (zad (.p (.func F_Q129)) [a5,(.p (.int .i64 31))]) fun a6 =>
.fin .ret [a6])
noncomputable def zaap:HFun:=⟨2,zamj,[.tmp 4],true⟩
theorem zahl:HOK tr.look F_Q122 zaap:=⟨i_Q122,(.sq .lf (.sq .lf (.sq .lf .lf))),[],look_Q122,rfl,rfl,rfl,rfl,rfl,by kernel_rfl⟩
noncomputable def zajr:List IVal→HC XF:=xv fun a0=>x0 (
.op (zdb a0) fun a1 =>
.op (zdt .u64 a1) fun a2 =>
.block 1 (.loop [(.p (.int .i64 0)),a2,a0] <| xv fun a3=>xv fun a4=>xv fun a5=>x0 (
.op (zdb a5) fun a6 =>
.op (x_lss a3 a6) fun a7 =>
.cond a7 (.block 2 (.op (zalb [(.int .u8 0),(.int .u8 0),(.int .u8 0),(.int .u8 0),(.int .u8 0),(.int .u8 0),(.int .u8 0),(.int .u8 0)] 1) fun a8 =>
.op (zaab 8 1 (.const a8) none none) fun a9 =>
.op (zgs a5 (some a3) none) fun a10 =>
.op (zagq 1 (.const a9) (.const a10)) fun _ =>
.op (zab (some 8) a8) fun a12 =>
.op (zad (.p (.func F_Q130)) [a12]) fun a13 =>
.op (zad (.p (.func F_Q122)) [a4,a13]) fun a14 =>
.fin .normal [a3,a14,a5]) <| xv fun a15=>xv fun a16=>xv fun a17=>x0 (
.op (x_add a15 (.p (.int .i64 8))) fun a18 =>
.fin .normal [a18,a16,a17])) <|
.fin (.exit 1) [a4])) <| xv fun a19=>x0 (
.fin .ret [a19]))
noncomputable def zxr:HFun:=⟨1,zajr,[.tmp 2],true⟩
theorem zadf:HOK tr.look F_Q123 zxr:=⟨i_Q123,(.sq .lf (.sq .lf (.sq (.sq .lf (.bk [3] (.lp [4,3,0] (.sq (.sq .lf (.cj .lf .lf)) (.sq (.bk [4,3,0] (.sq .lf (.sq .lf .lf))) .lf))))) (.sq .lf .lf)))),[],look_Q123,rfl,rfl,rfl,rfl,rfl,by kernel_rfl⟩
noncomputable def zdg:List IVal→HC XF:=xv fun a0=>xv fun a1=>x0 (
.op (x_len a0) fun a2 =>
.op (x_len a1) fun a3 =>
.op (x_neq a2 a3) fun a4 =>
.cond a4 (.fin .ret [(.p (.bool false))]) <|
.op (x_len a0) fun a5 =>
.block 1 (.loop [(.p (.int .i64 0)),a0,a1,a5] <| xv fun a6=>xv fun a7=>xv fun a8=>xv fun a9=>x0 (
.op (x_lss a6 a9) fun a10 =>
.cond a10 (.block 2 (.op (zac 2 a7 a6) fun a11 =>
.op (zab (some 2) a11) fun a12 =>
.op (zac 2 a8 a6) fun a13 =>
.op (zab (some 2) a13) fun a14 =>
.op (x_eqv true ⟨true,[.str, .str]⟩ (.const a12) (.const a14)) fun a15 =>
.cond a15 (.fin .ret [(.p (.bool false))]) <|
.fin .normal [a6,a7,a8,a9]) <| xv fun a16=>xv fun a17=>xv fun a18=>xv fun a19=>x0 (
.op (x_add a16 (.p (.int .i64 1))) fun a20 =>
.fin .normal [a20,a17,a18,a19])) <|
.fin (.exit 1) [])) <| x0 (
.fin .ret [(.p (.bool true))]))
noncomputable def zbi:HFun:=⟨2,zdg,[.tmp 4],true⟩
theorem zct:HOK tr.look F_Q124 zbi:=⟨i_Q124,(.sq .lf (.sq (.sq .lf (.cj (.sq .lf .lf) .lf)) (.sq (.sq .lf (.bk [] (.lp [13,0,1,12] (.sq .lf (.sq (.cj .lf .lf) (.sq (.bk [13,0,1,12] (.sq .lf (.sq .lf (.cj (.sq .lf .lf) .lf)))) .lf)))))) (.sq .lf .lf)))),[],look_Q124,rfl,rfl,rfl,rfl,rfl,by kernel_rfl⟩
noncomputable def zhg:List IVal→HC XF:=xv fun a0=>x0 (
.op (x_len a0) fun a1 =>
.op (x_sub a1 (.p (.int .i64 1))) fun a2 =>
.block 1 (.loop [a2,(.p (.int .i64 0)),a0] <| xv fun a3=>xv fun a4=>xv fun a5=>x0 (
.op (x_lss a4 a3) fun a6 =>
.cond a6 (.block 2 (.op (zac 1 a5 a3) fun a7 =>
.op (zab none a7) fun a8 =>
.op (zac 1 a5 a4) fun a9 =>
.op (zab none a9) fun a10 =>
.op (zac 1 a5 a4) fun a11 =>
.op (zae 1 a11 a8) fun _ =>
.op (zac 1 a5 a3) fun a13 =>
.op (zae 1 a13 a10) fun _ =>
.fin .normal [a4,a3,a5]) <| xv fun a15=>xv fun a16=>xv fun a17=>x0 (
.op (x_add a15 (.p (.int .i64 1))) fun a18 =>
.op (x_sub a16 (.p (.int .i64 1))) fun a19 =>
.fin .normal [a19,a18,a17])) <|
.fin (.exit 1) [])) <| x0 (
.fin .ret []))
noncomputable def zcq:HFun:=⟨1,zhg,[],true⟩
theorem zfp:HOK tr.look F_Q126 zcq:=⟨i_Q126,(.sq .lf (.bk [] (.lp [3,2,0] (.sq (.sq .lf (.cj .lf .lf)) (.sq (.bk [2,3,0] .lf) .lf))))),[],look_Q126,rfl,rfl,rfl,rfl,rfl,by kernel_rfl⟩
noncomputable def zcu:List IVal→HC XF:=xv fun a0=>x0 (
.op (x_len a0) fun a1 =>
.op (x_sub a1 (.p (.int .i64 1))) fun a2 =>
.block 1 (.loop [a2,(.p (.int .i64 0)),a0] <| xv fun a3=>xv fun a4=>xv fun a5=>x0 (
.op (x_lss a4 a3) fun a6 =>
.cond a6 (.block 2 (.op (zac 2 a5 a3) fun a7 =>
.op (zab (some 2) a7) fun a8 =>
.op (zac 2 a5 a4) fun a9 =>
.op (zab (some 2) a9) fun a10 =>
.op (zac 2 a5 a4) fun a11 =>
.op (zae 2 a11 a8) fun _ =>
.op (zac 2 a5 a3) fun a13 =>
.op (zae 2 a13 a10) fun _ =>
.fin .normal [a4,a3,a5]) <| xv fun a15=>xv fun a16=>xv fun a17=>x0 (
.op (x_add a15 (.p (.int .i64 1))) fun a18 =>
.op (x_sub a16 (.p (.int .i64 1))) fun a19 =>
.fin .normal [a19,a18,a17])) <|
.fin (.exit 1) [])) <| x0 (
.fin .ret []))
noncomputable def zbc:HFun:=⟨1,zcu,[],true⟩
theorem zch:HOK tr.look F_Q128 zbc:=⟨i_Q128,(.sq .lf (.bk [] (.lp [3,2,0] (.sq (.sq .lf (.cj .lf .lf)) (.sq (.bk [2,3,0] .lf) .lf))))),[],look_Q128,rfl,rfl,rfl,rfl,rfl,by kernel_rfl⟩
noncomputable def zajs:List IVal→HC XF:=xv fun a0=>xv fun a1=>x0 (
.op (zdt .u64 a1) fun a2 =>
.op (x_and a2 (.p (.int .u64 63))) fun a3 =>
.op (xgen .shl a0 a3) fun a4 =>
.op (x_sub (.p (.int .u64 64)) a3) fun a5 =>
.op (xgen .shr a0 a5) fun a6 =>
.op (x_or a4 a6) fun a7 =>
.fin .ret [a7])
noncomputable def zxs:HFun:=⟨2,zajs,[.tmp 4],true⟩
theorem zadg:HOK tr.look F_Q129 zxs:=⟨i_Q129,(.sq .lf (.sq .lf (.sq .lf .lf))),[],look_Q129,rfl,rfl,rfl,rfl,rfl,by kernel_rfl⟩
noncomputable def zaph:List IVal→HC XF:=xv fun a0=>x0 (
.fresh [1] [a0] <|
.op (x_box (some 1) 8 a0) fun a1 =>
.block 1 (.loop [(.p (.int .i64 0)),a1,(.p (.int .u64 0))] <| xv fun a2=>xv fun a3=>xv fun a4=>x0 (
.op (x_lss a2 (.p (.int .i64 8))) fun a5 =>
.cond a5 (.block 2 (.op (zau 8 1 a3 a2) fun a6 =>
.op (zab none a6) fun a7 =>
.op (zdt .u64 a7) fun a8 =>
.op (x_mul (.p (.int .i64 8)) a2) fun a9 =>
.op (xgen .shl a8 a9) fun a10 =>
.op (x_or a4 a10) fun a11 =>
.fin .normal [a2,a3,a11]) <| xv fun a12=>xv fun a13=>xv fun a14=>x0 (
.op (x_add a12 (.p (.int .i64 1))) fun a15 =>
.fin .normal [a15,a13,a14])) <|
.fin (.exit 1) [a4])) <| xv fun a16=>x0 (
.fin .ret [a16]))
noncomputable def zahm:HFun:=⟨1,zaph,[.tmp 2],true⟩
theorem zajt:HOK tr.look F_Q130 zahm:=⟨i_Q130,(.sq .lf (.sq .lf (.sq (.sq .lf (.bk [3] (.lp [5,1,3] (.sq .lf (.sq (.cj .lf .lf) (.sq (.bk [5,1,3] (.sq .lf .lf)) .lf)))))) (.sq .lf .lf)))),[],look_Q130,rfl,rfl,rfl,rfl,rfl,by kernel_rfl⟩
noncomputable def ht:HTr:=(.node 58 (.node 30 (.node 16 (.node 8 (.node 5 (.node 3 (.one F_Q2 zid) (.node 4 .leaf (.one F_Q4 zfj))) (.node 6 (.one F_Q5 zpt) (.node 7 (.one F_Q6 zsu) (.one F_Q7 zpu)))) (.node 11 (.node 9 (.one F_Q8 zpv) (.node 10 (.one F_Q9 zpw) (.one F_Q10 zsv))) (.node 14 (.node 13 (.one F_Q11 zpx) (.one F_Q13 zpy)) (.node 15 (.one F_Q14 zwp) (.one F_Q15 zsw))))) (.node 23 (.node 19 (.node 17 (.one F_Q16 zsx) (.node 18 (.one F_Q17 zwq) (.one F_Q18 zpz))) (.node 21 (.node 20 (.one F_Q19 zws) (.one F_Q20 zagx)) (.node 22 (.one F_Q21 zwt) (.one F_Q22 zfk)))) (.node 26 (.node 24 (.one F_Q23 zfl) (.node 25 (.one F_Q24 zsy) (.one F_Q25 zkd))) (.node 28 (.node 27 (.one F_Q26 zef) (.one F_Q27 zeg)) (.node 29 (.one F_Q28 zdu) (.one F_Q29 zeh)))))) (.node 44 (.node 37 (.node 34 (.node 32 (.one F_Q30 zei) (.node 33 (.one F_Q32 zkf) (.one F_Q33 zgt))) (.node 35 (.one F_Q34 zsz) (.node 36 (.one F_Q35 zww) (.one F_Q36 zaal)))) (.node 40 (.node 38 (.one F_Q37 zwx) (.node 39 (.one F_Q38 zqa) (.one F_Q39 zbg))) (.node 42 (.node 41 (.one F_Q40 zqb) (.one F_Q41 zie)) (.node 43 (.one F_Q42 zif) (.one F_Q43 znh))))) (.node 51 (.node 47 (.node 45 (.one F_Q44 zqe) (.node 46 (.one F_Q45 zkg) (.one F_Q46 zni))) (.node 49 (.node 48 (.one F_Q47 zig) (.one F_Q48 zkh)) (.node 50 (.one F_Q49 znj) (.one F_Q50 zxd)))) (.node 54 (.node 52 (.one F_Q51 zta) (.node 53 (.one F_Q52 zgu) (.one F_Q53 zxe))) (.node 56 (.node 55 (.one F_Q54 zgb) (.one F_Q55 zgv)) (.node 57 (.one F_Q56 zdh) (.one F_Q57 zdi))))))) (.node 97 (.node 73 (.node 65 (.node 61 (.node 59 (.one F_Q58 znk) (.node 60 (.one F_Q59 znl) (.one F_Q60 zaam))) (.node 63 (.one F_Q61 zki) (.node 64 (.one F_Q63 zkj) (.one F_Q64 zkk)))) (.node 68 (.node 66 (.one F_Q65 zxi) (.node 67 (.one F_Q66 ztb) (.one F_Q67 zqh))) (.node 70 (.node 69 (.one F_Q68 znm) (.one F_Q69 zqi)) (.node 71 (.one F_Q70 zih) (.one F_Q71 zkl))))) (.node 81 (.node 76 (.node 74 (.one F_Q73 zqk) (.node 75 (.one F_Q74 zii) (.one F_Q75 zij))) (.node 79 (.node 78 (.one F_Q76 zkm) (.one F_Q78 zdj)) (.node 80 (.one F_Q79 zaan) (.one F_Q80 ztc)))) (.node 92 (.node 82 (.one F_Q81 zqn) (.node 83 (.one F_Q82 zgc) (.one F_Q83 zgz))) (.node 95 (.node 93 (.one F_Q92 zha) (.one F_Q93 zhb)) (.node 96 (.one F_Q95 zcp) (.one F_Q96 zbw)))))) (.node 112 (.node 105 (.node 102 (.node 98 (.one F_Q97 zkn) (.node 99 (.one F_Q98 zao) (.one F_Q99 zhd))) (.node 103 (.one F_Q102 zbr) (.node 104 (.one F_Q103 zxq) (.one F_Q104 zaao)))) (.node 108 (.node 106 (.one F_Q105 ztd) (.node 107 (.one F_Q106 zte) (.one F_Q107 zgd))) (.node 110 (.node 109 (.one F_Q108 zej) (.one F_Q109 zhe)) (.node 111 (.one F_Q110 zek) (.one F_Q111 ztf))))) (.node 122 (.node 118 (.node 114 (.one F_Q112 ztg) (.node 115 (.one F_Q114 zdc) (.one F_Q115 zdk))) (.node 120 (.node 119 (.one F_Q118 zdd) (.one F_Q119 zca)) (.node 121 (.one F_Q120 zbh) (.one F_Q121 zbs)))) (.node 126 (.node 123 (.one F_Q122 zaap) (.node 124 (.one F_Q123 zxr) (.one F_Q124 zbi))) (.node 129 (.node 128 (.one F_Q126 zcq) (.one F_Q128 zbc)) (.node 130 (.one F_Q129 zxs) (.one F_Q130 zahm))))))))
theorem ht_ok:ht.all (HOK tr.look):=⟨⟨⟨⟨⟨⟨zps,⟨trivial,zka⟩⟩,⟨zwj,⟨zyf,zwk⟩⟩⟩,⟨⟨zwl,⟨zwm,zyg⟩⟩,⟨⟨zwn,zwo⟩,⟨zacn,zyh⟩⟩⟩⟩,⟨⟨⟨zyi,⟨zaco,zwr⟩⟩,⟨⟨zacq,zajj⟩,⟨zacr,zkb⟩⟩⟩,⟨⟨zkc,⟨zyj,zrj⟩⟩,⟨⟨zim,zin⟩,⟨zhy,zio⟩⟩⟩⟩⟩,⟨⟨⟨⟨zip,⟨zrk,zoh⟩⟩,⟨zyk,⟨zacs,zaha⟩⟩⟩,⟨⟨zact,⟨zwy,zcr⟩⟩,⟨⟨zwz,zqc⟩,⟨zqd,zto⟩⟩⟩⟩,⟨⟨⟨zxa,⟨zrm,ztp⟩⟩,⟨⟨zqf,zrn⟩,⟨ztr,zacx⟩⟩⟩,⟨⟨zyo,⟨zoi,zacy⟩⟩,⟨⟨zmp,zoj⟩,⟨zgw,zgx⟩⟩⟩⟩⟩⟩,⟨⟨⟨⟨⟨zts,⟨ztt,zahc⟩⟩,⟨zrq,⟨zrr,zrs⟩⟩⟩,⟨⟨zacz,⟨zyr,zxj⟩⟩,⟨⟨ztu,zxk⟩,⟨zqj,zrt⟩⟩⟩⟩,⟨⟨⟨zxm,⟨zql,zqm⟩⟩,⟨⟨zru,zgy⟩,⟨zahe,zyt⟩⟩⟩,⟨⟨zxo,⟨zmq,zok⟩⟩,⟨⟨zol,zom⟩,⟨zfn,zec⟩⟩⟩⟩⟩,⟨⟨⟨⟨zry,⟨zaz,zon⟩⟩,⟨zdm,⟨zade,zahg⟩⟩⟩,⟨⟨zyu,⟨zyv,zmr⟩⟩,⟨⟨zit,zoo⟩,⟨ziu,zyw⟩⟩⟩⟩,⟨⟨⟨zyx,⟨zgh,zhf⟩⟩,⟨⟨zgi,zer⟩,⟨zcs,zdv⟩⟩⟩,⟨⟨zahl,⟨zadf,zct⟩⟩,⟨⟨zfp,zch⟩,⟨zadg,zajt⟩⟩⟩⟩⟩⟩⟩
end Go.Ideal
