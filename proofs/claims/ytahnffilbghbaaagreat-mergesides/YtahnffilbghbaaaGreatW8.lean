/-
  THE FUNCTIONS OF THIS SEAT, OVER LEAN's OWN VARIABLES: printed by a program of the prover's own out of the ideal program.
-/
import Derived.Test.YtahnffilbghbaaaGreatW3
import Derived.Test.YtahnffilbghbaaaGreatW7
namespace Go.Ideal
open Go Go.Proofs
set_option maxRecDepth 100000
noncomputable def zzi:List IVal→HC XF:=x0 (
.op (zag 1 2 [(.int .i64 0)] [(0,1,(.p (.int .i64 1))),(1,1,(.p (.int .i64 2)))]) fun a0 =>
.op (zag 1 3 [(.int .i64 0)] [(0,1,(.p (.int .i64 1))),(1,1,(.p (.int .i64 (-2)))),(2,1,(.p (.int .i64 2)))]) fun a1 =>
.op (zag 1 2 [(.int .i64 0)] [(0,1,(.p (.int .i64 1))),(1,1,(.p (.int .i64 2)))]) fun a2 =>
.op (zad (.p (.func F_Q9)) [a0,a1,a2,(.p (.func F_Q15))]) fun a3 =>
.op (zae a3 0) fun a4 =>
.op (zae a3 1) fun a5 =>
.fresh [3] [a5,a4,a5,a4,a3,a3,a2,a1,a0,(.p (.bool false))] <|
.op (zak [(.int .i64 0),(.str []),(.str []), .nilslice, .nilslice] [(0,1,(.p (.int .i64 1)))]) fun a6 =>
.op (zak [(.int .i64 0),(.str []),(.str []), .nilslice, .nilslice] [(0,1,(.p (.int .i64 1)))]) fun a7 =>
.op (zak [(.int .i64 0),(.str []),(.str []), .nilslice, .nilslice] [(0,1,(.p (.int .i64 3))),(2,1,(.p (.str [97])))]) fun a8 =>
.op (zag 5 1 [(.int .i64 0),(.str []),(.str []), .nilslice, .nilslice] [(0,5,a8)]) fun a9 =>
.op (zak [(.int .i64 0),(.str []),(.str []), .nilslice, .nilslice] [(0,1,(.p (.int .i64 1))),(4,1,a9)]) fun a10 =>
.op (zad (.p (.func F_Q16)) [a6,a7,a10]) fun a11 =>
.op (zae a11 0) fun a12 =>
.op (zae a11 1) fun a13 =>
.op (zaj (some 3) [(.int .i64 0),(.str []),(.str []), .nilslice, .nilslice, .nilslice, .nilslice, .nilslice]) fun a14 =>
.op (zaf 8 a14 a12) fun _ =>
.opg a5 true (x_mov a4) fun a16 =>
.opg a5 true (zag 1 3 [(.int .i64 0)] [(0,1,(.p (.int .i64 1))),(1,1,(.p (.int .i64 (-2)))),(2,1,(.p (.int .i64 2)))]) fun a17 =>
.opg a5 true (zad (.p (.func F_Q13)) [a16,a17]) fun a18 =>
.op (zah a5 a18 (.p (.bool false))) fun a19 =>
.opg a19 true (x_mov a13) fun a20 =>
.opg a19 true (x_eql a20 (.p (.int .i64 0))) fun a21 =>
.op (zah a19 a21 (.p (.bool false))) fun a22 =>
.opg a22 true (zaa 0 a14) fun a23 =>
.opg a22 true (zaa 4 a23) fun a24 =>
.opg a22 true (zab none a24) fun a25 =>
.opg a22 true (x_len a25) fun a26 =>
.opg a22 true (x_eql a26 (.p (.int .i64 1))) fun a27 =>
.op (zah a22 a27 (.p (.bool false))) fun a28 =>
.opg a28 true (zaa 5 a14) fun a29 =>
.opg a28 true (zab none a29) fun a30 =>
.opg a28 true (x_len a30) fun a31 =>
.opg a28 true (x_eql a31 (.p (.int .i64 0))) fun a32 =>
.op (zah a28 a32 (.p (.bool false))) fun a33 =>
.fin .ret [a33])
noncomputable def znn:HFun:=⟨0,zzi,[.tmp 0],true⟩
theorem ztr:HOK tr.look F_Q5 znn:=⟨i_Q5,(.sq .lf (.sq .lf (.sq .lf (.sq .lf .lf)))),[],look_Q5,rfl,rfl,rfl,rfl,rfl,by kernel_rfl⟩
noncomputable def zzj:List IVal→HC XF:=xv fun a0=>xv fun a1=>xv fun a2=>xv fun a3=>x0 (
.op (zad (.p (.func F_Q17)) [a2]) fun a4 =>
.op (zad (.p (.func F_Q18)) [a0]) fun a5 =>
.op (zad (.p (.func F_Q18)) [a1]) fun a6 =>
.op (zad (.p (.func F_Q18)) [a4]) fun a7 =>
.op (zaj none [.nilmap]) fun a8 =>
.op (zaj none [.nilmap]) fun a9 =>
.op (zaj none [.nilmap]) fun a10 =>
.op (zaf 1 a8 a5) fun _ =>
.op (zaf 1 a9 a6) fun _ =>
.op (zaf 1 a10 a7) fun _ =>
.op (zhe 19 [(.const a8),(.const a9),(.const a10)]) fun a14 =>
.op (zad (.p (.func F_Q20)) [a0,a14]) fun a15 =>
.op (zad (.p (.func F_Q20)) [a1,a14]) fun a16 =>
.op (zad (.p (.func F_Q20)) [a4,a14]) fun a17 =>
.block 1 (.op (zad (.p (.func F_Q21)) [a16,a17]) fun a18 =>
.cond a18 (.op (zab none a8) fun a19 =>
.op (zab none a8) fun a20 =>
.op (zad (.p (.func F_Q23)) [a1,a19,a14]) fun a21 =>
.chk (.load none (.const a8)) a20 <|
.op (zad (.p (.func F_Q23)) [a4,a20,a14]) fun a22 =>
.op (zad (.p (.func F_Q22)) [a16,a21,a22,a3]) fun a23 =>
.op (zae a23 0) fun a24 =>
.op (zae a23 1) fun a25 =>
.fin .ret [a24,a25]) <|
.op (zad (.p (.func F_Q21)) [a17,a15]) fun a26 =>
.cond a26 (.op (zab none a8) fun a27 =>
.op (zab none a10) fun a28 =>
.op (zad (.p (.func F_Q24)) [a1,a4,a27,a28]) fun a29 =>
.op (zae a29 0) fun a30 =>
.op (zae a29 1) fun a31 =>
.fin .ret [a30,a31]) <|
.op (zad (.p (.func F_Q21)) [a16,a15]) fun a32 =>
.cond a32 (.op (zab none a8) fun a33 =>
.op (zab none a9) fun a34 =>
.op (zad (.p (.func F_Q24)) [a4,a1,a33,a34]) fun a35 =>
.op (zae a35 0) fun a36 =>
.op (zae a35 1) fun a37 =>
.fin .ret [a36,a37]) <|
.fin .normal []) <| x0 (
.fin .ret [(.p .nilslice),(.p (.bool false))]))
noncomputable def zno:HFun:=⟨4,zzj,[.tmp 8, .tmp 9],false⟩
theorem zts:HOK tr.look F_Q9 zno:=⟨i_Q9,(.sq .lf (.sq .lf (.sq .lf (.sq .lf (.sq .lf (.sq (.bk [] (.sq .lf (.cj (.sq .lf .lf) (.sq .lf (.cj (.sq .lf .lf) (.sq .lf (.cj (.sq .lf .lf) .lf))))))) (.sq .lf .lf))))))),[],look_Q9,rfl,rfl,rfl,rfl,rfl,by kernel_rfl⟩
noncomputable def zqq:List IVal→HC XF:=xv fun a0=>xv fun a1=>x0 (
.op (x_len a0) fun a2 =>
.op (x_len a1) fun a3 =>
.op (x_neq a2 a3) fun a4 =>
.cond a4 (.fin .ret [(.p (.bool false))]) <|
.block 1 (.loop [(.p (.int .i64 0)),a0,a1] <| xv fun a5=>xv fun a6=>xv fun a7=>x0 (
.op (x_len a6) fun a8 =>
.op (x_lss a5 a8) fun a9 =>
.cond a9 (.block 2 (.op (zac 1 a6 a5) fun a10 =>
.op (zab none a10) fun a11 =>
.op (zac 1 a7 a5) fun a12 =>
.op (zab none a12) fun a13 =>
.op (x_neq a11 a13) fun a14 =>
.cond a14 (.fin .ret [(.p (.bool false))]) <|
.fin .normal [a5,a6,a7]) <| xv fun a15=>xv fun a16=>xv fun a17=>x0 (
.op (x_add a15 (.p (.int .i64 1))) fun a18 =>
.fin .normal [a18,a16,a17])) <|
.fin (.exit 1) [])) <| x0 (
.fin .ret [(.p (.bool true))]))
noncomputable def zhk:HFun:=⟨2,zqq,[.tmp 4],true⟩
theorem znp:HOK tr.look F_Q13 zhk:=⟨i_Q13,(.sq .lf (.sq (.sq .lf (.cj (.sq .lf .lf) .lf)) (.sq (.sq .lf (.bk [] (.lp [5,0,1] (.sq (.sq .lf (.cj .lf .lf)) (.sq (.bk [5,0,1] (.sq .lf (.cj (.sq .lf .lf) .lf))) .lf))))) (.sq .lf .lf)))),[],look_Q13,rfl,rfl,rfl,rfl,rfl,by kernel_rfl⟩
noncomputable def zzk:List IVal→HC XF:=xv fun a0=>xv fun a1=>xv fun a2=>x0 (
.fresh [3,4,5,6] [a0,a1,a2] <|
.op (x_box (some 3) 5 a0) fun a3 =>
.op (x_box (some 4) 5 a1) fun a4 =>
.op (x_box (some 5) 5 a2) fun a5 =>
.op (zaj (some 6) [(.int .i64 0),(.str []),(.str []), .nilslice, .nilslice, .nilslice, .nilslice, .nilslice]) fun a6 =>
.block 1 (.op (zab (some 5) a3) fun a7 =>
.op (zad (.p (.func F_Q30)) [a7]) fun a8 =>
.op (x_not a8) fun a9 =>
.opg a9 false (zab (some 5) a4) fun a10 =>
.opg a9 false (zad (.p (.func F_Q30)) [a10]) fun a11 =>
.opg a9 false (x_not a11) fun a12 =>
.op (zah a9 (.p (.bool true)) a12) fun a13 =>
.opg a13 false (zab (some 5) a5) fun a14 =>
.opg a13 false (zad (.p (.func F_Q30)) [a14]) fun a15 =>
.opg a13 false (x_not a15) fun a16 =>
.op (zah a13 (.p (.bool true)) a16) fun a17 =>
.cond a17 (.op (zak [(.int .i64 0),(.str []),(.str []), .nilslice, .nilslice, .nilslice, .nilslice, .nilslice] []) fun a18 =>
.op (zaf 8 a6 a18) fun _ =>
.fin .ret [a6,(.p (.int .i64 1))]) <|
.op (zab (some 5) a4) fun a20 =>
.op (zab (some 5) a5) fun a21 =>
.op (zad (.p (.func F_Q31)) [a20,a21]) fun a22 =>
.cond a22 (.op (zab (some 5) a4) fun a23 =>
.op (zak [(.int .i64 0),(.str []),(.str []), .nilslice, .nilslice, .nilslice, .nilslice, .nilslice] [(0,5,a23)]) fun a24 =>
.op (zaf 8 a6 a24) fun _ =>
.fin .ret [a6,(.p (.int .i64 0))]) <|
.fin .normal [a4,a5,a3,a6]) <| xv fun a26=>xv fun a27=>xv fun a28=>xv fun a29=>x0 (
.op (zab (some 5) a28) fun a30 =>
.op (zab (some 5) a26) fun a31 =>
.op (zab (some 5) a27) fun a32 =>
.op (zad (.p (.func F_Q32)) [a30,a31,a32]) fun a33 =>
.op (x_nil a33) fun a34 =>
.op (zaa 0 a34) fun a35 =>
.op (zab none a35) fun a36 =>
.op (x_len a36) fun a37 =>
.block 2 (.loop [(.p (.int .i64 0)),a28,a33,(.p .nilslice),a29,a37] <| xv fun a38=>xv fun a39=>xv fun a40=>xv fun a41=>xv fun a42=>xv fun a43=>x0 (
.op (x_lss a38 a43) fun a44 =>
.cond a44 (.block 3 (.op (zab (some 5) a39) fun a45 =>
.op (zad (.p (.func F_Q33)) [a40,a45,a38]) fun a46 =>
.op (zal 3 (.const a41) (.const a46)) fun a47 =>
.fin .normal [a38,a39,a40,a47,a42,a43]) <| xv fun a48=>xv fun a49=>xv fun a50=>xv fun a51=>xv fun a52=>xv fun a53=>x0 (
.op (x_add a48 (.p (.int .i64 1))) fun a54 =>
.fin .normal [a54,a49,a50,a51,a52,a53])) <|
.fin (.exit 2) [a40,a41,a42])) <| xv fun a55=>xv fun a56=>xv fun a57=>x0 (
.op (x_len a56) fun a58 =>
.op (x_gtr a58 (.p (.int .i64 0))) fun a59 =>
.cond a59 (.op (zak [(.int .i64 0),(.str []),(.str []), .nilslice, .nilslice, .nilslice, .nilslice, .nilslice] [(5,1,a56)]) fun a60 =>
.op (zaf 8 a57 a60) fun _ =>
.fin .ret [a57,(.p (.int .i64 13))]) <|
.fresh [11] [a59,a58,a56,a55,a56,a57] <|
.op (zad (.p (.func F_Q34)) [a55,(.p (.int .i64 0))]) fun a62 =>
.op (zak [(.int .i64 0),(.str []),(.str []), .nilslice, .nilslice, .nilslice, .nilslice, .nilslice] [(0,5,a62)]) fun a63 =>
.op (zaj (some 11) [(.int .i64 0),(.str []),(.str []), .nilslice, .nilslice, .nilslice, .nilslice, .nilslice]) fun a64 =>
.op (zaf 8 a64 a63) fun _ =>
.op (x_nil a55) fun a66 =>
.op (zaa 21 a66) fun a67 =>
.op (zab none a67) fun a68 =>
.op (x_len a68) fun a69 =>
.block 4 (.loop [(.p (.int .i64 0)),a56,a55,a68,a64,a57,a69] <| xv fun a70=>xv fun a71=>xv fun a72=>xv fun a73=>xv fun a74=>xv fun a75=>xv fun a76=>x0 (
.op (x_lss a70 a76) fun a77 =>
.cond a77 (.block 5 (.op (zac 1 a73 a70) fun a78 =>
.op (zab none a78) fun a79 =>
.op (x_nil a72) fun a80 =>
.op (zaa 14 a80) fun a81 =>
.op (zam 2 1 a81 (.p (.int .i64 0))) fun a82 =>
.op (zab none a82) fun a83 =>
.op (zac 6 a83 a70) fun a84 =>
.op (zaa 0 a84) fun a85 =>
.op (zab none a85) fun a86 =>
.op (x_not a86) fun a87 =>
.opg a87 true (x_mov a72) fun a88 =>
.opg a87 true (x_nil a88) fun a89 =>
.opg a87 true (zaa 14 a89) fun a90 =>
.opg a87 true (zam 2 1 a90 (.p (.int .i64 1))) fun a91 =>
.opg a87 true (zab none a91) fun a92 =>
.opg a87 true (x_mov a70) fun a93 =>
.opg a87 true (zac 6 a92 a93) fun a94 =>
.opg a87 true (zaa 0 a94) fun a95 =>
.opg a87 true (zab none a95) fun a96 =>
.opg a87 true (x_not a96) fun a97 =>
.op (zah a87 a97 (.p (.bool false))) fun a98 =>
.opg a98 true (x_mov a79) fun a99 =>
.opg a98 true (x_neq a99 (.p (.int .i64 1))) fun a100 =>
.op (zah a98 a100 (.p (.bool false))) fun a101 =>
.block 0 (.cond a101 (.op (zak [(.int .i64 0),(.int .i64 0),(.str [])] [(0,1,(.p (.int .i64 4))),(1,1,a70)]) fun a102 =>
.op (zag 3 1 [(.int .i64 0),(.int .i64 0),(.str [])] [(0,3,a102)]) fun a103 =>
.op (zal 3 (.const a71) (.const a103)) fun a104 =>
.fin .normal [a70,a104,a72,a73,a74,a75,a76]) <|
.fin .normal [a70,a71,a72,a73,a74,a75,a76]) <| xv fun a105=>xv fun a106=>xv fun a107=>xv fun a108=>xv fun a109=>xv fun a110=>xv fun a111=>x0 (
.fin .normal [a105,a106,a107,a108,a109,a110,a111])) <| xv fun a112=>xv fun a113=>xv fun a114=>xv fun a115=>xv fun a116=>xv fun a117=>xv fun a118=>x0 (
.op (x_add a112 (.p (.int .i64 1))) fun a119 =>
.fin .normal [a119,a113,a114,a115,a116,a117,a118])) <|
.fin (.exit 4) [a72,a74,a71,a75])) <| xv fun a120=>xv fun a121=>xv fun a122=>xv fun a123=>x0 (
.op (x_len a122) fun a124 =>
.op (x_gtr a124 (.p (.int .i64 0))) fun a125 =>
.cond a125 (.op (zak [(.int .i64 0),(.str []),(.str []), .nilslice, .nilslice, .nilslice, .nilslice, .nilslice] [(5,1,a122)]) fun a126 =>
.op (zaf 8 a123 a126) fun _ =>
.fin .ret [a123,(.p (.int .i64 13))]) <|
.op (zaa 0 a121) fun a128 =>
.op (zab (some 5) a128) fun a129 =>
.op (zad (.p (.func F_Q30)) [a129]) fun a130 =>
.op (x_not a130) fun a131 =>
.cond a131 (.op (zak [(.int .i64 0),(.str []),(.str []), .nilslice, .nilslice, .nilslice, .nilslice, .nilslice] []) fun a132 =>
.op (zaf 8 a123 a132) fun _ =>
.fin .ret [a123,(.p (.int .i64 2))]) <|
.fresh [14] [a131,a130,a129,a128,a125,a124,a122,a120,a121,a122,a123] <|
.op (zaj (some 14) [(.int .i64 0),(.int .i64 0)]) fun a134 =>
.op (zaa 0 a121) fun a135 =>
.op (zab (some 5) a135) fun a136 =>
.op (zad (.p (.func F_Q35)) [a120,(.p (.int .i64 0)),a136]) fun a137 =>
.op (zae a137 0) fun a138 =>
.op (zae a137 1) fun a139 =>
.op (zaa 6 a121) fun a140 =>
.op (zaf 1 a140 a138) fun _ =>
.op (zam 2 1 a134 (.p (.int .i64 0))) fun a142 =>
.op (zaf 1 a142 a139) fun _ =>
.op (zaa 0 a121) fun a144 =>
.op (zab (some 5) a144) fun a145 =>
.op (zad (.p (.func F_Q35)) [a120,(.p (.int .i64 1)),a145]) fun a146 =>
.op (zae a146 0) fun a147 =>
.op (zae a146 1) fun a148 =>
.op (zaa 7 a121) fun a149 =>
.op (zaf 1 a149 a147) fun _ =>
.op (zam 2 1 a134 (.p (.int .i64 1))) fun a151 =>
.op (zaf 1 a151 a148) fun _ =>
.op (zab (some 2) a134) fun a153 =>
.op (zak [(.int .i64 0),(.int .i64 0)] []) fun a154 =>
.op (x_eqv true ⟨true,[.int, .int]⟩ (.const a153) (.const a154)) fun a155 =>
.cond a155 (.op (zak [(.int .i64 0),(.str []),(.str []), .nilslice, .nilslice, .nilslice, .nilslice, .nilslice] []) fun a156 =>
.op (zaf 8 a123 a156) fun _ =>
.fin .ret [a123,(.p (.int .i64 2))]) <|
.op (zab (some 8) a121) fun a158 =>
.op (zaf 8 a123 a158) fun _ =>
.fin .ret [a123,(.p (.int .i64 0))]))))
noncomputable def znq:HFun:=⟨3,zzk,[.cell 6 (some 8), .tmp 7],true⟩
theorem ztt:HOK tr.look F_Q16 znq:=⟨i_Q16,(.sq .lf (.sq (.bk [4,5,3,6] (.sq .lf (.cj (.sq .lf .lf) (.sq .lf (.cj (.sq .lf .lf) .lf))))) (.sq .lf (.sq .lf (.sq (.sq .lf (.bk [8,9,6] (.lp [45,3,8,9,6,44] (.sq .lf (.sq (.cj .lf .lf) (.sq (.bk [45,3,8,9,6,44] (.sq .lf .lf)) .lf)))))) (.sq (.sq .lf (.cj (.sq .lf .lf) .lf)) (.sq .lf (.sq (.sq .lf (.bk [8,11,9,6] (.lp [68,9,8,66,11,6,67] (.sq .lf (.sq (.cj .lf .lf) (.sq (.bk [68,9,8,66,11,6,67] (.sq .lf (.sq .lf (.cd [68,9,8,66,11,6,67] .lf .lf)))) .lf)))))) (.sq (.sq .lf (.cj (.sq .lf .lf) .lf)) (.sq (.sq .lf (.cj (.sq .lf .lf) .lf)) (.sq .lf (.sq .lf (.sq .lf (.sq (.sq .lf (.cj (.sq .lf .lf) .lf)) (.sq .lf .lf))))))))))))))),[],look_Q16,rfl,rfl,rfl,rfl,rfl,by kernel_rfl⟩
noncomputable def zzl:List IVal→HC XF:=xv fun a0=>x0 (
.op (x_len a0) fun a1 =>
.block 1 (.loop [(.p (.int .i64 0)),(.p .nilslice),a0,a1] <| xv fun a2=>xv fun a3=>xv fun a4=>xv fun a5=>x0 (
.op (x_lss a2 a5) fun a6 =>
.cond a6 (.block 2 (.op (zac 1 a4 a2) fun a7 =>
.op (zab none a7) fun a8 =>
.op (x_lss a8 (.p (.int .i64 0))) fun a9 =>
.block 0 (.cond a9 (.op (x_sub a8 (.p (.int .i64 1048576))) fun a10 =>
.fin .normal [a3,a10,a2,a4,a5]) <|
.fin .normal [a3,a8,a2,a4,a5]) <| xv fun a11=>xv fun a12=>xv fun a13=>xv fun a14=>xv fun a15=>x0 (
.op (zag 1 1 [(.int .i64 0)] [(0,1,a12)]) fun a16 =>
.op (zal 1 (.const a11) (.const a16)) fun a17 =>
.fin .normal [a13,a17,a14,a15])) <| xv fun a18=>xv fun a19=>xv fun a20=>xv fun a21=>x0 (
.op (x_add a18 (.p (.int .i64 1))) fun a22 =>
.fin .normal [a22,a19,a20,a21])) <|
.fin (.exit 1) [a3])) <| xv fun a23=>x0 (
.fin .ret [a23]))
noncomputable def znr:HFun:=⟨1,zzl,[.tmp 2],true⟩
theorem ztu:HOK tr.look F_Q17 znr:=⟨i_Q17,(.sq .lf (.sq .lf (.sq (.sq .lf (.bk [3] (.lp [8,3,6,7] (.sq .lf (.sq (.cj .lf .lf) (.sq (.bk [8,3,6,7] (.sq .lf (.sq (.sq .lf (.cd [3,5,8,6,7] .lf .lf)) .lf))) .lf)))))) (.sq .lf .lf)))),[],look_Q17,rfl,rfl,rfl,rfl,rfl,by kernel_rfl⟩
noncomputable def zafb:List IVal→HC XF:=xv fun a0=>x0 (
.op (zcc) fun a1 =>
.op (x_len a0) fun a2 =>
.block 1 (.loop [(.p (.int .i64 0)),a1,a0,a2] <| xv fun a3=>xv fun a4=>xv fun a5=>xv fun a6=>x0 (
.op (x_lss a3 a6) fun a7 =>
.cond a7 (.block 2 (.op (zac 1 a5 a3) fun a8 =>
.op (zab none a8) fun a9 =>
.op (zby ⟨false,[.int]⟩ (.const a4) (.const a9) (.const (.p (.bool true)))) fun _ =>
.fin .normal [a3,a4,a5,a6]) <| xv fun a11=>xv fun a12=>xv fun a13=>xv fun a14=>x0 (
.op (x_add a11 (.p (.int .i64 1))) fun a15 =>
.fin .normal [a15,a12,a13,a14])) <|
.fin (.exit 1) [a4])) <| xv fun a16=>x0 (
.fin .ret [a16]))
noncomputable def ztv:HFun:=⟨1,zafb,[.tmp 2],false⟩
theorem zzm:HOK tr.look F_Q18 ztv:=⟨i_Q18,(.sq .lf (.sq .lf (.sq (.sq .lf (.bk [3] (.lp [9,3,7,8] (.sq .lf (.sq (.cj .lf .lf) (.sq (.bk [9,3,7,8] (.sq .lf .lf)) .lf)))))) (.sq .lf .lf)))),[],look_Q18,rfl,rfl,rfl,rfl,rfl,by kernel_rfl⟩
noncomputable def ztw:List IVal→HC XF:=xv fun a0=>xv fun a1=>xv fun a2=>xv fun a3=>x0 (
.op (zab none a1) fun a4 =>
.op (zas false (.p (.bool false)) ⟨false,[.int]⟩ (.const a4) (.const a0)) fun a5 =>
.opg a5 true (zab none a2) fun a6 =>
.opg a5 true (x_mov a0) fun a7 =>
.opg a5 true (zas false (.p (.bool false)) ⟨false,[.int]⟩ (.const a6) (.const a7)) fun a8 =>
.op (zah a5 a8 (.p (.bool false))) fun a9 =>
.opg a9 true (zab none a3) fun a10 =>
.opg a9 true (x_mov a0) fun a11 =>
.opg a9 true (zas false (.p (.bool false)) ⟨false,[.int]⟩ (.const a10) (.const a11)) fun a12 =>
.op (zah a9 a12 (.p (.bool false))) fun a13 =>
.fin .ret [a13])
noncomputable def zjf:HFun:=⟨4,ztw,[.tmp 5],false⟩
theorem zpb:HOK tr.look F_Q19 zjf:=⟨i_Q19,(.sq .lf (.sq .lf .lf)),[],look_Q19,rfl,rfl,rfl,rfl,rfl,by kernel_rfl⟩
noncomputable def zacn:List IVal→HC XF:=xv fun a0=>xv fun a1=>x0 (
.op (x_len a0) fun a2 =>
.block 1 (.loop [(.p (.int .i64 0)),(.p .nilslice),a1,a0,a2] <| xv fun a3=>xv fun a4=>xv fun a5=>xv fun a6=>xv fun a7=>x0 (
.op (x_lss a3 a7) fun a8 =>
.cond a8 (.block 2 (.op (zac 1 a6 a3) fun a9 =>
.op (zab none a9) fun a10 =>
.op (zad a5 [a10]) fun a11 =>
.block 0 (.cond a11 (.op (zag 1 1 [(.int .i64 0)] [(0,1,a10)]) fun a12 =>
.op (zal 1 (.const a4) (.const a12)) fun a13 =>
.fin .normal [a3,a13,a5,a6,a7]) <|
.fin .normal [a3,a4,a5,a6,a7]) <| xv fun a14=>xv fun a15=>xv fun a16=>xv fun a17=>xv fun a18=>x0 (
.fin .normal [a14,a15,a16,a17,a18])) <| xv fun a19=>xv fun a20=>xv fun a21=>xv fun a22=>xv fun a23=>x0 (
.op (x_add a19 (.p (.int .i64 1))) fun a24 =>
.fin .normal [a24,a20,a21,a22,a23])) <|
.fin (.exit 1) [a4])) <| xv fun a25=>x0 (
.fin .ret [a25]))
noncomputable def zqc:HFun:=⟨2,zacn,[.tmp 4],false⟩
theorem zvg:HOK tr.look F_Q20 zqc:=⟨i_Q20,(.sq .lf (.sq .lf (.sq (.sq .lf (.bk [5] (.lp [10,5,1,8,9] (.sq .lf (.sq (.cj .lf .lf) (.sq (.bk [10,5,1,8,9] (.sq .lf (.sq .lf (.cd [10,5,1,8,9] .lf .lf)))) .lf)))))) (.sq .lf .lf)))),[],look_Q20,rfl,rfl,rfl,rfl,rfl,by kernel_rfl⟩
noncomputable def zho:List IVal→HC XF:=xv fun a0=>xv fun a1=>x0 (
.op (x_len a0) fun a2 =>
.op (x_len a1) fun a3 =>
.op (x_neq a2 a3) fun a4 =>
.cond a4 (.fin .ret [(.p (.bool false))]) <|
.op (x_len a0) fun a5 =>
.block 1 (.loop [(.p (.int .i64 0)),a0,a1,a5] <| xv fun a6=>xv fun a7=>xv fun a8=>xv fun a9=>x0 (
.op (x_lss a6 a9) fun a10 =>
.cond a10 (.block 2 (.op (zac 1 a7 a6) fun a11 =>
.op (zab none a11) fun a12 =>
.op (zac 1 a8 a6) fun a13 =>
.op (zab none a13) fun a14 =>
.op (x_neq a12 a14) fun a15 =>
.cond a15 (.fin .ret [(.p (.bool false))]) <|
.fin .normal [a6,a7,a8,a9]) <| xv fun a16=>xv fun a17=>xv fun a18=>xv fun a19=>x0 (
.op (x_add a16 (.p (.int .i64 1))) fun a20 =>
.fin .normal [a20,a17,a18,a19])) <|
.fin (.exit 1) [])) <| x0 (
.fin .ret [(.p (.bool true))]))
noncomputable def zdd:HFun:=⟨2,zho,[.tmp 4],true⟩
theorem zgi:HOK tr.look F_Q21 zdd:=⟨i_Q21,(.sq .lf (.sq (.sq .lf (.cj (.sq .lf .lf) .lf)) (.sq (.sq .lf (.bk [] (.lp [13,0,1,12] (.sq .lf (.sq (.cj .lf .lf) (.sq (.bk [13,0,1,12] (.sq .lf (.sq .lf (.cj (.sq .lf .lf) .lf)))) .lf)))))) (.sq .lf .lf)))),[],look_Q21,rfl,rfl,rfl,rfl,rfl,by kernel_rfl⟩
noncomputable def zvh:List IVal→HC XF:=xv fun a0=>xv fun a1=>xv fun a2=>xv fun a3=>x0 (
.op (x_len a1) fun a4 =>
.block 1 (.loop [(.p (.int .i64 0)),a0,(.p .nilslice),a2,a3,a1,a4] <| xv fun a5=>xv fun a6=>xv fun a7=>xv fun a8=>xv fun a9=>xv fun a10=>xv fun a11=>x0 (
.op (x_lss a5 a11) fun a12 =>
.cond a12 (.block 2 (.op (zac 1 a10 a5) fun a13 =>
.op (zab none a13) fun a14 =>
.block 3 (.op (x_len a14) fun a15 =>
.op (x_eql a15 (.p (.int .i64 0))) fun a16 =>
.block 0 (.cond a16 (.op (zac 1 a8 a5) fun a17 =>
.op (zab none a17) fun a18 =>
.fin .normal [a7,a18,a5,a5,a6,a8,a9,a10,a11]) <|
.op (zac 1 a8 a5) fun a19 =>
.op (zab none a19) fun a20 =>
.op (x_len a20) fun a21 =>
.op (x_gtr a21 (.p (.int .i64 0))) fun a22 =>
.opg a22 true (x_mov a14) fun a23 =>
.opg a22 true (x_mov a8) fun a24 =>
.opg a22 true (x_mov a5) fun a25 =>
.opg a22 true (zac 1 a24 a25) fun a26 =>
.opg a22 true (zab none a26) fun a27 =>
.opg a22 true (x_mov a9) fun a28 =>
.opg a22 true (zad (.p (.func F_Q36)) [a23,a27,a28]) fun a29 =>
.opg a22 true (x_not a29) fun a30 =>
.op (zah a22 a30 (.p (.bool false))) fun a31 =>
.cond a31 (.fin .ret [(.p .nilslice),(.p (.bool false))]) <|
.fin .normal [a7,a14,a5,a5,a6,a8,a9,a10,a11]) <| xv fun a32=>xv fun a33=>xv fun a34=>xv fun a35=>xv fun a36=>xv fun a37=>xv fun a38=>xv fun a39=>xv fun a40=>x0 (
.fin .normal [a32,a33,a34,a35,a36,a37,a38,a39,a40])) <| xv fun a41=>xv fun a42=>xv fun a43=>xv fun a44=>xv fun a45=>xv fun a46=>xv fun a47=>xv fun a48=>xv fun a49=>x0 (
.op (zal 1 (.const a41) (.const a42)) fun a50 =>
.op (x_len a45) fun a51 =>
.op (x_lss a43 a51) fun a52 =>
.block 0 (.cond a52 (.op (zac 1 a45 a43) fun a53 =>
.op (zab none a53) fun a54 =>
.op (zag 1 1 [(.int .i64 0)] [(0,1,a54)]) fun a55 =>
.op (zal 1 (.const a50) (.const a55)) fun a56 =>
.fin .normal [a44,a45,a56,a46,a47,a48,a49]) <|
.fin .normal [a44,a45,a50,a46,a47,a48,a49]) <| xv fun a57=>xv fun a58=>xv fun a59=>xv fun a60=>xv fun a61=>xv fun a62=>xv fun a63=>x0 (
.fin .normal [a57,a58,a59,a60,a61,a62,a63]))) <| xv fun a64=>xv fun a65=>xv fun a66=>xv fun a67=>xv fun a68=>xv fun a69=>xv fun a70=>x0 (
.op (x_add a64 (.p (.int .i64 1))) fun a71 =>
.fin .normal [a71,a65,a66,a67,a68,a69,a70])) <|
.fin (.exit 1) [a7])) <| xv fun a72=>x0 (
.fin .ret [a72,(.p (.bool true))]))
noncomputable def zld:HFun:=⟨4,zvh,[.tmp 8, .tmp 9],false⟩
theorem zqr:HOK tr.look F_Q22 zld:=⟨i_Q22,(.sq .lf (.sq .lf (.sq (.sq .lf (.bk [10] (.lp [15,0,10,2,3,1,14] (.sq .lf (.sq (.cj .lf .lf) (.sq (.bk [15,0,10,2,3,1,14] (.sq .lf (.sq .lf (.sq (.bk [10,12,11,15,0,2,3,1,14] (.sq .lf (.cd [10,12,11,15,0,2,3,1,14] .lf (.sq .lf (.cj (.sq .lf .lf) .lf))))) (.sq .lf (.sq .lf (.cd [15,0,10,2,3,1,14] .lf .lf))))))) .lf)))))) (.sq .lf .lf)))),[],look_Q22,rfl,rfl,rfl,rfl,rfl,by kernel_rfl⟩
noncomputable def zaco:List IVal→HC XF:=xv fun a0=>xv fun a1=>xv fun a2=>x0 (
.op (zag 1 1 [.nilslice] [(0,1,(.p .nilslice))]) fun a3 =>
.op (x_len a0) fun a4 =>
.block 1 (.loop [(.p (.int .i64 0)),a3,a1,a2,a0,a4] <| xv fun a5=>xv fun a6=>xv fun a7=>xv fun a8=>xv fun a9=>xv fun a10=>x0 (
.op (x_lss a5 a10) fun a11 =>
.cond a11 (.block 2 (.op (zac 1 a9 a5) fun a12 =>
.op (zab none a12) fun a13 =>
.op (x_len a6) fun a14 =>
.op (x_sub a14 (.p (.int .i64 1))) fun a15 =>
.block 3 (.op (zad a8 [a13]) fun a16 =>
.block 0 (.cond a16 (.op (zag 1 1 [.nilslice] [(0,1,(.p .nilslice))]) fun a17 =>
.op (zal 1 (.const a6) (.const a17)) fun a18 =>
.fin .normal [a5,a18,a7,a8,a9,a10]) <|
.op (zas false (.p (.bool false)) ⟨false,[.int]⟩ (.const a7) (.const a13)) fun a19 =>
.op (x_not a19) fun a20 =>
.block 0 (.cond a20 (.op (zac 1 a6 a15) fun a21 =>
.op (zab none a21) fun a22 =>
.op (zag 1 1 [(.int .i64 0)] [(0,1,a13)]) fun a23 =>
.op (zal 1 (.const a22) (.const a23)) fun a24 =>
.op (zac 1 a6 a15) fun a25 =>
.op (zaf 1 a25 a24) fun _ =>
.fin .normal [a5,a6,a7,a8,a9,a10]) <|
.fin .normal [a5,a6,a7,a8,a9,a10]) <| xv fun a27=>xv fun a28=>xv fun a29=>xv fun a30=>xv fun a31=>xv fun a32=>x0 (
.fin .normal [a27,a28,a29,a30,a31,a32])) <| xv fun a33=>xv fun a34=>xv fun a35=>xv fun a36=>xv fun a37=>xv fun a38=>x0 (
.fin .normal [a33,a34,a35,a36,a37,a38])) <| xv fun a39=>xv fun a40=>xv fun a41=>xv fun a42=>xv fun a43=>xv fun a44=>x0 (
.fin .normal [a39,a40,a41,a42,a43,a44])) <| xv fun a45=>xv fun a46=>xv fun a47=>xv fun a48=>xv fun a49=>xv fun a50=>x0 (
.op (x_add a45 (.p (.int .i64 1))) fun a51 =>
.fin .normal [a51,a46,a47,a48,a49,a50])) <|
.fin (.exit 1) [a6])) <| xv fun a52=>x0 (
.fin .ret [a52]))
noncomputable def zqd:HFun:=⟨3,zaco,[.tmp 6],false⟩
theorem zvi:HOK tr.look F_Q23 zqd:=⟨i_Q23,(.sq .lf (.sq .lf (.sq (.sq .lf (.bk [7] (.lp [14,7,1,2,12,13] (.sq .lf (.sq (.cj .lf .lf) (.sq (.bk [14,7,1,2,12,13] (.sq .lf (.sq .lf (.bk [14,7,1,2,12,13] (.sq .lf (.cd [14,7,1,2,12,13] .lf (.sq .lf (.cd [14,7,1,2,12,13] .lf .lf)))))))) .lf)))))) (.sq .lf .lf)))),[],look_Q23,rfl,rfl,rfl,rfl,rfl,by kernel_rfl⟩
noncomputable def zacp:List IVal→HC XF:=xv fun a0=>x0 (
.fresh [1] [a0] <|
.op (x_box (some 1) 5 a0) fun a1 =>
.op (zaa 0 a1) fun a2 =>
.op (zab none a2) fun a3 =>
.op (x_eql a3 (.p (.int .i64 1))) fun a4 =>
.opg a4 true (zab (some 5) a1) fun a5 =>
.opg a4 true (zad (.p (.func F_Q43)) [a5]) fun a6 =>
.opg a4 true (x_leq a6 (.p (.int .i64 300))) fun a7 =>
.op (zah a4 a7 (.p (.bool false))) fun a8 =>
.opg a8 true (zab (some 5) a1) fun a9 =>
.opg a8 true (zad (.p (.func F_Q44)) [a9]) fun a10 =>
.opg a8 true (x_leq a10 (.p (.int .i64 60))) fun a11 =>
.op (zah a8 a11 (.p (.bool false))) fun a12 =>
.opg a12 true (zaa 1 a1) fun a13 =>
.opg a12 true (zab none a13) fun a14 =>
.opg a12 true (zaa 2 a1) fun a15 =>
.opg a12 true (zab none a15) fun a16 =>
.opg a12 true (zag 1 2 [(.str [])] [(0,1,a14),(1,1,a16)]) fun a17 =>
.opg a12 true (zad (.p (.func F_Q45)) [a17]) fun a18 =>
.op (zah a12 a18 (.p (.bool false))) fun a19 =>
.opg a19 true (zaa 3 a1) fun a20 =>
.opg a19 true (zab none a20) fun a21 =>
.opg a19 true (x_len a21) fun a22 =>
.opg a19 true (x_eql a22 (.p (.int .i64 0))) fun a23 =>
.op (zah a19 a23 (.p (.bool false))) fun a24 =>
.opg a24 true (zab (some 5) a1) fun a25 =>
.opg a24 true (zad (.p (.func F_Q46)) [a25]) fun a26 =>
.op (zah a24 a26 (.p (.bool false))) fun a27 =>
.fin .ret [a27])
noncomputable def zqe:HFun:=⟨1,zacp,[.tmp 2],true⟩
theorem zvj:HOK tr.look F_Q30 zqe:=⟨i_Q30,(.sq .lf (.sq .lf .lf)),[],look_Q30,rfl,rfl,rfl,rfl,rfl,by kernel_rfl⟩
noncomputable def zafc:List IVal→HC XF:=xv fun a0=>xv fun a1=>x0 (
.fresh [2,3] [a0,a1] <|
.op (x_box (some 2) 5 a0) fun a2 =>
.op (x_box (some 3) 5 a1) fun a3 =>
.op (zaa 0 a2) fun a4 =>
.op (zab none a4) fun a5 =>
.op (zaa 0 a3) fun a6 =>
.op (zab none a6) fun a7 =>
.op (x_neq a5 a7) fun a8 =>
.opg a8 false (zaa 1 a2) fun a9 =>
.opg a8 false (zab none a9) fun a10 =>
.opg a8 false (zaa 1 a3) fun a11 =>
.opg a8 false (zab none a11) fun a12 =>
.opg a8 false (x_neq a10 a12) fun a13 =>
.op (zah a8 (.p (.bool true)) a13) fun a14 =>
.opg a14 false (zaa 2 a2) fun a15 =>
.opg a14 false (zab none a15) fun a16 =>
.opg a14 false (zaa 2 a3) fun a17 =>
.opg a14 false (zab none a17) fun a18 =>
.opg a14 false (x_neq a16 a18) fun a19 =>
.op (zah a14 (.p (.bool true)) a19) fun a20 =>
.opg a20 false (zaa 3 a2) fun a21 =>
.opg a20 false (zab none a21) fun a22 =>
.opg a20 false (x_len a22) fun a23 =>
.opg a20 false (zaa 3 a3) fun a24 =>
.opg a20 false (zab none a24) fun a25 =>
.opg a20 false (x_len a25) fun a26 =>
.opg a20 false (x_neq a23 a26) fun a27 =>
.op (zah a20 (.p (.bool true)) a27) fun a28 =>
.opg a28 false (zaa 4 a2) fun a29 =>
.opg a28 false (zab none a29) fun a30 =>
.opg a28 false (x_len a30) fun a31 =>
.opg a28 false (zaa 4 a3) fun a32 =>
.opg a28 false (zab none a32) fun a33 =>
.opg a28 false (x_len a33) fun a34 =>
.opg a28 false (x_neq a31 a34) fun a35 =>
.op (zah a28 (.p (.bool true)) a35) fun a36 =>
.cond a36 (.fin .ret [(.p (.bool false))]) <|
.op (zaa 3 a2) fun a37 =>
.op (zab none a37) fun a38 =>
.op (x_len a38) fun a39 =>
.block 1 (.loop [(.p (.int .i64 0)),a3,a38,a2,a39] <| xv fun a40=>xv fun a41=>xv fun a42=>xv fun a43=>xv fun a44=>x0 (
.op (x_lss a40 a44) fun a45 =>
.cond a45 (.block 2 (.fresh [6] [a45,a40,a41,a42,a43,a44] <|
.op (zac 2 a42 a40) fun a46 =>
.op (zab (some 2) a46) fun a47 =>
.op (zaj (some 6) [(.str []),(.str [])]) fun a48 =>
.op (zaf 2 a48 a47) fun _ =>
.op (zab (some 2) a48) fun a50 =>
.op (zaa 3 a41) fun a51 =>
.op (zab none a51) fun a52 =>
.op (zac 2 a52 a40) fun a53 =>
.op (zab (some 2) a53) fun a54 =>
.op (x_eqv true ⟨true,[.str, .str]⟩ (.const a50) (.const a54)) fun a55 =>
.cond a55 (.fin .ret [(.p (.bool false))]) <|
.fin .normal [a40,a41,a42,a43,a44]) <| xv fun a56=>xv fun a57=>xv fun a58=>xv fun a59=>xv fun a60=>x0 (
.op (x_add a56 (.p (.int .i64 1))) fun a61 =>
.fin .normal [a61,a57,a58,a59,a60])) <|
.fin (.exit 1) [a43,a41])) <| xv fun a62=>xv fun a63=>x0 (
.op (zaa 4 a62) fun a64 =>
.op (zab none a64) fun a65 =>
.op (x_len a65) fun a66 =>
.block 3 (.loop [(.p (.int .i64 0)),a63,a65,a66] <| xv fun a67=>xv fun a68=>xv fun a69=>xv fun a70=>x0 (
.op (x_lss a67 a70) fun a71 =>
.cond a71 (.block 4 (.fresh [8] [a71,a67,a68,a69,a70] <|
.op (zac 5 a69 a67) fun a72 =>
.op (zab (some 5) a72) fun a73 =>
.op (zaj (some 8) [(.int .i64 0),(.str []),(.str []), .nilslice, .nilslice]) fun a74 =>
.op (zaf 5 a74 a73) fun _ =>
.op (zab (some 5) a74) fun a76 =>
.op (zaa 4 a68) fun a77 =>
.op (zab none a77) fun a78 =>
.op (zac 5 a78 a67) fun a79 =>
.op (zab (some 5) a79) fun a80 =>
.op (zad (.p (.func F_Q31)) [a76,a80]) fun a81 =>
.op (x_not a81) fun a82 =>
.cond a82 (.fin .ret [(.p (.bool false))]) <|
.fin .normal [a67,a68,a69,a70]) <| xv fun a83=>xv fun a84=>xv fun a85=>xv fun a86=>x0 (
.op (x_add a83 (.p (.int .i64 1))) fun a87 =>
.fin .normal [a87,a84,a85,a86])) <|
.fin (.exit 3) [])) <| x0 (
.fin .ret [(.p (.bool true))])))
noncomputable def ztx:HFun:=⟨2,zafc,[.tmp 4],true⟩
theorem zzn:HOK tr.look F_Q31 ztx:=⟨i_Q31,(.sq .lf (.sq (.sq .lf (.cj (.sq .lf .lf) .lf)) (.sq (.sq .lf (.bk [2,3] (.lp [49,3,47,2,48] (.sq .lf (.sq (.cj .lf .lf) (.sq (.bk [49,3,47,2,48] (.sq .lf (.sq .lf (.cj (.sq .lf .lf) .lf)))) .lf)))))) (.sq (.sq .lf (.bk [] (.lp [65,3,63,64] (.sq .lf (.sq (.cj .lf .lf) (.sq (.bk [65,3,63,64] (.sq .lf (.sq .lf (.cj (.sq .lf .lf) .lf)))) .lf)))))) (.sq .lf .lf))))),[],look_Q31,rfl,rfl,rfl,rfl,rfl,by kernel_rfl⟩
noncomputable def zzo:List IVal→HC XF:=xv fun a0=>xv fun a1=>xv fun a2=>x0 (
.fresh [3,4,5] [a0,a1,a2] <|
.op (x_box (some 3) 5 a0) fun a3 =>
.op (x_box (some 4) 5 a1) fun a4 =>
.op (x_box (some 5) 5 a2) fun a5 =>
.op (zab (some 5) a3) fun a6 =>
.op (zab (some 5) a4) fun a7 =>
.op (zab (some 5) a5) fun a8 =>
.op (zak [(.int .i64 0),(.str []),(.str []), .nilslice, .nilslice,(.int .i64 0),(.str []),(.str []), .nilslice, .nilslice] [(0,5,a7),(5,5,a8)]) fun a9 =>
.op (zcc) fun a10 =>
.op (zad (.p (.func F_Q47)) [a6]) fun a11 =>
.op (zak [.nilslice, .nilslice,(.int .i64 0),(.str []),(.str []), .nilslice, .nilslice,(.int .i64 0),(.str []),(.str []), .nilslice, .nilslice, .nilslice, .nilslice, .nilslice, .nilslice, .nilmap, .nilmap, .nilmap, .nilmap, .nilmap, .nilslice,(.int .i64 0), .nilslice, .nilslice] [(0,1,a11),(2,10,a9),(20,1,a10)]) fun a12 =>
.op (x_box none 25 a12) fun a13 =>
.chk (.load (some 5) (.const a4)) a7 <|
.chk (.load (some 5) (.const a5)) a8 <|
.chk (.mkMap) a10 <|
.op (x_nil a13) fun a14 =>
.op (zaa 0 a14) fun a15 =>
.op (zab none a15) fun a16 =>
.op (x_len a16) fun a17 =>
.block 1 (.loop [(.p (.int .i64 0)),a13,a3,a17] <| xv fun a18=>xv fun a19=>xv fun a20=>xv fun a21=>x0 (
.op (x_lss a18 a21) fun a22 =>
.cond a22 (.block 2 (.op (x_nil a19) fun a23 =>
.op (zaa 1 a23) fun a24 =>
.op (zab none a24) fun a25 =>
.op (zab (some 5) a20) fun a26 =>
.op (zad (.p (.func F_Q48)) [a26,a18]) fun a27 =>
.op (zag 1 1 [.nilslice] [(0,1,a27)]) fun a28 =>
.chk (.load none (.const a24)) a25 <|
.op (zal 1 (.const a25) (.const a28)) fun a29 =>
.op (x_nil a19) fun a30 =>
.op (zaa 1 a30) fun a31 =>
.op (zaf 1 a31 a29) fun _ =>
.fin .normal [a18,a19,a20,a21]) <| xv fun a33=>xv fun a34=>xv fun a35=>xv fun a36=>x0 (
.op (x_add a33 (.p (.int .i64 1))) fun a37 =>
.fin .normal [a37,a34,a35,a36])) <|
.fin (.exit 1) [a19,a20])) <| xv fun a38=>xv fun a39=>x0 (
.op (x_nil a38) fun a40 =>
.op (zaa 0 a40) fun a41 =>
.op (zab none a41) fun a42 =>
.op (x_len a42) fun a43 =>
.op (zdp 1 [(.int .i64 0)] (.const a43) (.const a43)) fun a44 =>
.op (x_nil a38) fun a45 =>
.op (zaa 21 a45) fun a46 =>
.op (zaf 1 a46 a44) fun _ =>
.op (x_nil a38) fun a48 =>
.op (zaa 2 a48) fun a49 =>
.op (zab (some 10) a49) fun a50 =>
.block 3 (.loop [(.p (.int .i64 0)),a38,a39,a50] <| xv fun a51=>xv fun a52=>xv fun a53=>xv fun a54=>x0 (
.op (x_lss a51 (.p (.int .i64 2))) fun a55 =>
.cond a55 (.block 4 (.fresh [10] [a55,a51,a52,a53,a54] <|
.op (zagz 2 5 (some 5) a54 a51) fun a56 =>
.op (zaj (some 10) [(.int .i64 0),(.str []),(.str []), .nilslice, .nilslice]) fun a57 =>
.op (zaf 5 a57 a56) fun _ =>
.op (zab (some 5) a53) fun a59 =>
.op (zab (some 5) a57) fun a60 =>
.op (zad (.p (.func F_Q49)) [a59,a60]) fun a61 =>
.op (zab (some 5) a57) fun a62 =>
.op (x_nil a52) fun a63 =>
.op (zaa 12 a63) fun a64 =>
.op (zad (.p (.func F_Q47)) [a62]) fun a65 =>
.op (zam 2 1 a64 a51) fun a66 =>
.op (zaf 1 a66 a65) fun _ =>
.op (zab (some 5) a53) fun a68 =>
.op (zab (some 5) a57) fun a69 =>
.op (x_nil a52) fun a70 =>
.op (zaa 14 a70) fun a71 =>
.op (zad (.p (.func F_Q50)) [a68,a69,a61]) fun a72 =>
.op (zae a72 0) fun a73 =>
.op (zae a72 1) fun _ =>
.op (zam 2 1 a71 a51) fun a75 =>
.op (zaf 1 a75 a73) fun _ =>
.op (zcc) fun a77 =>
.op (zcc) fun a78 =>
.op (x_nil a52) fun a79 =>
.op (zaa 16 a79) fun a80 =>
.op (zam 2 1 a80 a51) fun a81 =>
.op (x_nil a52) fun a82 =>
.op (zaa 18 a82) fun a83 =>
.op (zaf 1 a81 a77) fun _ =>
.op (zam 2 1 a83 a51) fun a85 =>
.chk (.mkMap) a78 <|
.op (zaf 1 a85 a78) fun _ =>
.op (x_len a61) fun a87 =>
.block 5 (.loop [(.p (.int .i64 0)),a52,a51,a61,a51,a53,a54,a87] <| xv fun a88=>xv fun a89=>xv fun a90=>xv fun a91=>xv fun a92=>xv fun a93=>xv fun a94=>xv fun a95=>x0 (
.op (x_lss a88 a95) fun a96 =>
.cond a96 (.block 6 (.fresh [13] [a96,a88,a89,a90,a91,a92,a93,a94,a95] <|
.op (zac 2 a91 a88) fun a97 =>
.op (zab (some 2) a97) fun a98 =>
.op (zaj (some 13) [(.int .i64 0),(.int .i64 0)]) fun a99 =>
.op (zaf 2 a99 a98) fun _ =>
.op (x_nil a89) fun a101 =>
.op (zaa 16 a101) fun a102 =>
.op (zam 2 1 a102 a90) fun a103 =>
.op (zab none a103) fun a104 =>
.op (zaa 0 a99) fun a105 =>
.op (zab none a105) fun a106 =>
.op (x_nil a89) fun a107 =>
.op (zaa 18 a107) fun a108 =>
.op (zam 2 1 a108 a90) fun a109 =>
.op (zab none a109) fun a110 =>
.op (zaa 1 a99) fun a111 =>
.op (zab none a111) fun a112 =>
.op (zaa 1 a99) fun a113 =>
.op (zab none a113) fun a114 =>
.op (zaa 0 a99) fun a115 =>
.op (zab none a115) fun a116 =>
.op (zkj (.p (.int .i64 0)) ⟨false,[.int]⟩ (.const a104) (.const a106)) fun a117 =>
.op (zae a117 1) fun a118 =>
.chk (.load none (.const a111)) a112 <|
.chk (.load none (.const a113)) a114 <|
.chk (.load none (.const a115)) a116 <|
.op (zoy (.const a104) (.const a118) (.const a114)) fun _ =>
.chk (.load none (.const a111)) a112 <|
.chk (.load none (.const a115)) a116 <|
.op (zkj (.p (.int .i64 0)) ⟨false,[.int]⟩ (.const a110) (.const a112)) fun a120 =>
.op (zae a120 1) fun a121 =>
.chk (.load none (.const a115)) a116 <|
.op (zoy (.const a110) (.const a121) (.const a116)) fun _ =>
.fin .normal [a88,a89,a90,a91,a92,a93,a94,a95]) <| xv fun a123=>xv fun a124=>xv fun a125=>xv fun a126=>xv fun a127=>xv fun a128=>xv fun a129=>xv fun a130=>x0 (
.op (x_add a123 (.p (.int .i64 1))) fun a131 =>
.fin .normal [a131,a124,a125,a126,a127,a128,a129,a130])) <|
.fin (.exit 5) [a92,a89,a93,a94])) <| xv fun a132=>xv fun a133=>xv fun a134=>xv fun a135=>x0 (
.fin .normal [a132,a133,a134,a135])) <| xv fun a136=>xv fun a137=>xv fun a138=>xv fun a139=>x0 (
.op (x_add a136 (.p (.int .i64 1))) fun a140 =>
.fin .normal [a140,a137,a138,a139])) <|
.fin (.exit 3) [a52])) <| xv fun a141=>x0 (
.fin .ret [a141])))
noncomputable def zns:HFun:=⟨3,zzo,[.tmp 6],false⟩
theorem zty:HOK tr.look F_Q32 zns:=⟨i_Q32,(.sq .lf (.sq .lf (.sq (.sq .lf (.bk [7,3] (.lp [27,7,3,26] (.sq .lf (.sq (.cj .lf .lf) (.sq (.bk [27,7,3,26] (.sq .lf .lf)) .lf)))))) (.sq .lf (.sq (.sq .lf (.bk [7] (.lp [56,7,3,55] (.sq .lf (.sq (.cj .lf .lf) (.sq (.bk [56,7,3,55] (.sq .lf (.sq .lf (.sq .lf (.sq .lf (.sq .lf (.sq .lf (.bk [56,7,3,55] (.lp [96,7,9,94,56,3,55,95] (.sq .lf (.sq (.cj .lf .lf) (.sq (.bk [96,7,9,94,56,3,55,95] (.sq .lf .lf)) .lf)))))))))))) .lf)))))) (.sq .lf .lf)))))),[],look_Q32,rfl,rfl,rfl,rfl,rfl,by kernel_rfl⟩
noncomputable def zhp:List IVal→HC XF:=xv fun a0=>xv fun a1=>xv fun a2=>x0 (
.fresh [4] [a0,a1,a2] <|
.op (x_box (some 4) 5 a1) fun a3 =>
.fresh [7,8] [(.p .nilslice),a3,a0,a1,a2] <|
.op (x_nil a0) fun a4 =>
.op (zaa 14 a4) fun a5 =>
.op (zam 2 1 a5 (.p (.int .i64 0))) fun a6 =>
.op (zab none a6) fun a7 =>
.op (zac 6 a7 a2) fun a8 =>
.op (zab (some 6) a8) fun a9 =>
.op (x_nil a0) fun a10 =>
.op (zaa 14 a10) fun a11 =>
.op (zam 2 1 a11 (.p (.int .i64 1))) fun a12 =>
.op (zab none a12) fun a13 =>
.op (zac 6 a13 a2) fun a14 =>
.op (zab (some 6) a14) fun a15 =>
.op (zaj (some 7) [(.bool false),(.bool false), .nilslice, .nilslice,(.int .i64 0), .nilslice]) fun a16 =>
.op (zaj (some 8) [(.bool false),(.bool false), .nilslice, .nilslice,(.int .i64 0), .nilslice]) fun a17 =>
.op (zaf 6 a16 a9) fun _ =>
.chk (.load none (.const a12)) a13 <|
.chk (.load (some 6) (.const a14)) a15 <|
.op (zaf 6 a17 a15) fun _ =>
.op (zaa 0 a16) fun a20 =>
.op (zab none a20) fun a21 =>
.opg a21 false (zaa 0 a17) fun a22 =>
.opg a21 false (zab none a22) fun a23 =>
.op (zah a21 (.p (.bool true)) a23) fun a24 =>
.cond a24 (.op (zab (some 5) a3) fun a25 =>
.op (x_nil a0) fun a26 =>
.op (zaa 14 a26) fun a27 =>
.op (zam 2 1 a27 (.p (.int .i64 0))) fun a28 =>
.op (zab none a28) fun a29 =>
.op (zad (.p (.func 51)) [a25,a29,a2]) fun a30 =>
.opg a30 false (zab (some 5) a3) fun a31 =>
.opg a30 false (x_mov a0) fun a32 =>
.opg a30 false (x_nil a32) fun a33 =>
.opg a30 false (zaa 14 a33) fun a34 =>
.opg a30 false (zam 2 1 a34 (.p (.int .i64 1))) fun a35 =>
.opg a30 false (zab none a35) fun a36 =>
.opg a30 false (x_mov a2) fun a37 =>
.opg a30 false (zad (.p (.func 51)) [a31,a36,a37]) fun a38 =>
.op (zah a30 (.p (.bool true)) a38) fun a39 =>
.cond a39 (.op (zak [(.int .i64 0),(.int .i64 0),(.str [])] [(0,1,(.p (.int .i64 3))),(1,1,a2)]) fun a40 =>
.op (zag 3 1 [(.int .i64 0),(.int .i64 0),(.str [])] [(0,3,a40)]) fun a41 =>
.fin .ret [a41]) <|
.fin .ret [(.p .nilslice)]) <|
.op (x_nil a0) fun a42 =>
.op (zaa 0 a42) fun a43 =>
.op (zab none a43) fun a44 =>
.op (zac 10 a44 a2) fun a45 =>
.op (zaa 0 a45) fun a46 =>
.op (zab none a46) fun a47 =>
.op (zaa 4 a16) fun a48 =>
.op (zab none a48) fun a49 =>
.op (x_neq a49 a47) fun a50 =>
.opg a50 true (zaa 4 a17) fun a51 =>
.opg a50 true (zab none a51) fun a52 =>
.opg a50 true (x_mov a47) fun a53 =>
.opg a50 true (x_neq a52 a53) fun a54 =>
.op (zah a50 a54 (.p (.bool false))) fun a55 =>
.opg a55 true (zaa 4 a16) fun a56 =>
.opg a55 true (zab none a56) fun a57 =>
.opg a55 true (zaa 4 a17) fun a58 =>
.opg a55 true (zab none a58) fun a59 =>
.opg a55 true (x_neq a57 a59) fun a60 =>
.opg a55 true (x_mov a60) fun a61 =>
.opg a61 false (zaa 4 a16) fun a62 =>
.opg a61 false (zab none a62) fun a63 =>
.opg a61 false (x_lss a63 (.p (.int .i64 0))) fun a64 =>
.opg a55 true (zah a61 (.p (.bool true)) a64) fun a65 =>
.op (zah a55 a65 (.p (.bool false))) fun a66 =>
.block 0 (.cond a66 (.op (zak [(.int .i64 0),(.int .i64 0),(.str [])] [(0,1,(.p (.int .i64 4))),(1,1,a2)]) fun a67 =>
.op (zag 3 1 [(.int .i64 0),(.int .i64 0),(.str [])] [(0,3,a67)]) fun a68 =>
.op (zal 3 (.const (.p .nilslice)) (.const a68)) fun a69 =>
.fin .normal [a16,a17,a69,a2,a0]) <|
.fin .normal [a16,a17,(.p .nilslice),a2,a0]) <| xv fun a70=>xv fun a71=>xv fun a72=>xv fun a73=>xv fun a74=>x0 (
.op (zaa 1 a70) fun a75 =>
.op (zab none a75) fun a76 =>
.opg a76 true (zaa 1 a71) fun a77 =>
.opg a76 true (zab none a77) fun a78 =>
.op (zah a76 a78 (.p (.bool false))) fun a79 =>
.opg a79 true (x_mov a74) fun a80 =>
.opg a79 true (x_mov a73) fun a81 =>
.opg a79 true (zad (.p (.func 52)) [a80,(.p (.int .i64 0)),a81]) fun a82 =>
.opg a79 true (x_mov a74) fun a83 =>
.opg a79 true (x_mov a73) fun a84 =>
.opg a79 true (zad (.p (.func 52)) [a83,(.p (.int .i64 1)),a84]) fun a85 =>
.opg a79 true (x_neq a82 a85) fun a86 =>
.op (zah a79 a86 (.p (.bool false))) fun a87 =>
.block 0 (.cond a87 (.op (zak [(.int .i64 0),(.int .i64 0),(.str [])] [(0,1,(.p (.int .i64 2))),(1,1,a73)]) fun a88 =>
.op (zag 3 1 [(.int .i64 0),(.int .i64 0),(.str [])] [(0,3,a88)]) fun a89 =>
.op (zal 3 (.const a72) (.const a89)) fun a90 =>
.fin .normal [a73,a90,a74]) <|
.fin .normal [a73,a72,a74]) <| xv fun a91=>xv fun a92=>xv fun a93=>x0 (
.op (zad (.p (.func F_Q53)) [a93,(.p (.int .i64 0)),a91]) fun a94 =>
.op (zad (.p (.func F_Q53)) [a93,(.p (.int .i64 1)),a91]) fun a95 =>
.block 1 (.op (x_not (.p (.bool true))) fun _ =>
.op (zzb (.const a94)) fun a97 =>
.op (zae a97 0) fun a98 =>
.block 0 (.cond a98 (.block 2 (.fresh [15] [a98,a97, .undef,a94,(.p .nilslice),a95,a94,a95,a91,a93,a94,a91,a93,a91,a92,a93] <|
.op (zrd (.const a97)) fun a99 =>
.op (zae a99 0) fun a100 =>
.op (zae a99 1) fun a101 =>
.op (zaj (some 15) [(.bool false),(.str [])]) fun a102 =>
.op (zaf 2 a102 a101) fun _ =>
.fresh [16] [a100,a102,a101,a100,a99,a98,a97, .undef,a94,(.p .nilslice),a95,a94,a95,a91,a93,a94,a91,a93,a91,a92,a93] <|
.op (zas true (.agg [(.p (.bool false)),(.p (.str []))]) ⟨false,[.str]⟩ (.const a95) (.const a100)) fun a104 =>
.op (zae a104 0) fun a105 =>
.op (zae a104 1) fun a106 =>
.op (zaj (some 16) [(.bool false),(.str [])]) fun a107 =>
.op (zaf 2 a107 a105) fun _ =>
.opg a106 true (zab (some 2) a102) fun a109 =>
.opg a106 true (zab (some 2) a107) fun a110 =>
.opg a106 true (x_eqv true ⟨true,[.bool, .str]⟩ (.const a109) (.const a110)) fun a111 =>
.op (zah a106 a111 (.p (.bool false))) fun a112 =>
.block 0 (.cond a112 (.op (zag 1 1 [(.str [])] [(0,1,a100)]) fun a113 =>
.op (zal 1 (.const (.p .nilslice)) (.const a113)) fun a114 =>
.fin .normal [a94,a114,a91,a92,a93]) <|
.fin .normal [a94,(.p .nilslice),a91,a92,a93]) <| xv fun a115=>xv fun a116=>xv fun a117=>xv fun a118=>xv fun a119=>x0 (
.fin .normal [a115,a116,a117,a118,a119])) <| xv fun a120=>xv fun a121=>xv fun a122=>xv fun a123=>xv fun a124=>x0 (
.op (zzc (.const a120)) fun _ =>
.fin .normal [a121,a122,a123,a124])) <|
.fin .normal [(.p .nilslice),a91,a92,a93]) <| xv fun a126=>xv fun a127=>xv fun a128=>xv fun a129=>x0 (
.fin (.exit 1) [a126,a127,a128,a129])) <| xv fun a130=>xv fun a131=>xv fun a132=>xv fun a133=>x0 (
.op (zad (.p (.func F_Q54)) [a130]) fun _ =>
.op (x_len a130) fun a135 =>
.block 3 (.loop [(.p (.int .i64 0)),a131,a132,a130,a133,a135] <| xv fun a136=>xv fun a137=>xv fun a138=>xv fun a139=>xv fun a140=>xv fun a141=>x0 (
.op (x_lss a136 a141) fun a142 =>
.cond a142 (.block 4 (.op (zac 1 a139 a136) fun a143 =>
.op (zab none a143) fun a144 =>
.op (zak [(.int .i64 0),(.int .i64 0),(.str [])] [(0,1,(.p (.int .i64 1))),(1,1,a137),(2,1,a144)]) fun a145 =>
.op (zag 3 1 [(.int .i64 0),(.int .i64 0),(.str [])] [(0,3,a145)]) fun a146 =>
.op (zal 3 (.const a138) (.const a146)) fun a147 =>
.fin .normal [a136,a137,a147,a139,a140,a141]) <| xv fun a148=>xv fun a149=>xv fun a150=>xv fun a151=>xv fun a152=>xv fun a153=>x0 (
.op (x_add a148 (.p (.int .i64 1))) fun a154 =>
.fin .normal [a154,a149,a150,a151,a152,a153])) <|
.fin (.exit 3) [a140,a138,a137])) <| xv fun a155=>xv fun a156=>xv fun a157=>x0 (
.op (zad (.p (.func F_Q55)) [a155,a157]) fun a158 =>
.op (zae a158 0) fun _ =>
.op (zae a158 1) fun a160 =>
.op (x_not a160) fun a161 =>
.block 0 (.cond a161 (.op (zak [(.int .i64 0),(.int .i64 0),(.str [])] [(0,1,(.p (.int .i64 5))),(1,1,a157)]) fun a162 =>
.op (zag 3 1 [(.int .i64 0),(.int .i64 0),(.str [])] [(0,3,a162)]) fun a163 =>
.op (zal 3 (.const a156) (.const a163)) fun a164 =>
.fin .normal [a164]) <|
.fin .normal [a156]) <| xv fun a165=>x0 (
.fin .ret [a165]))))))
noncomputable def zde:HFun:=⟨3,zhp,[.tmp 6],false⟩
theorem zgj:HOK tr.look F_Q33 zde:=⟨i_Q33,(.sq .lf (.sq .lf (.sq (.sq .lf (.cj (.sq (.sq .lf (.cj (.sq .lf .lf) .lf)) (.sq .lf .lf)) .lf)) (.sq .lf (.sq .lf (.sq (.sq .lf (.cd [7,8,9,2,0] .lf .lf)) (.sq (.sq .lf (.cd [2,9,0] .lf .lf)) (.sq .lf (.sq .lf (.sq (.sq .lf (.bk [13,2,9,0] (.sq .lf (.sq (.cd [13,2,9,0] (.sq (.bk [126,13,2,9,0] (.sq .lf (.sq .lf (.sq .lf (.cd [126,13,2,9,0] .lf .lf))))) .lf) .lf) (.sq .lf .lf))))) (.sq .lf (.sq (.sq .lf (.bk [0,9,2] (.lp [153,2,9,151,0,152] (.sq .lf (.sq (.cj .lf .lf) (.sq (.bk [153,2,9,151,0,152] (.sq .lf .lf)) .lf)))))) (.sq (.sq .lf (.sq .lf (.cd [9] .lf .lf))) (.sq .lf .lf)))))))))))))),[],look_Q33,rfl,rfl,rfl,rfl,rfl,by kernel_rfl⟩
noncomputable def zlz:List IVal→HC XF:=xv fun a0=>xv fun a1=>x0 (
.fresh [4] [a0,a1] <|
.op (zaj (some 4) [(.int .i64 0),(.str []),(.str []), .nilslice, .nilslice]) fun a2 =>
.op (x_nil a0) fun a3 =>
.op (zaa 0 a3) fun a4 =>
.op (zab none a4) fun a5 =>
.op (zac 10 a5 a1) fun a6 =>
.op (zaa 5 a6) fun a7 =>
.op (zab (some 5) a7) fun a8 =>
.op (zaj none [(.int .i64 0),(.str []),(.str []), .nilslice, .nilslice]) fun a9 =>
.op (zaf 5 a9 a8) fun _ =>
.block 1 (.loop [(.p (.int .i64 0)),a9,a1,a0,a2] <| xv fun a11=>xv fun a12=>xv fun a13=>xv fun a14=>xv fun a15=>x0 (
.op (x_lss a11 (.p (.int .i64 2))) fun a16 =>
.cond a16 (.block 2 (.op (x_nil a14) fun a17 =>
.op (zaa 23 a17) fun a18 =>
.op (zam 2 1 a18 a11) fun a19 =>
.op (zab none a19) fun a20 =>
.op (x_nil a14) fun a21 =>
.op (zaa 16 a21) fun a22 =>
.op (zam 2 1 a22 a11) fun a23 =>
.op (zab none a23) fun a24 =>
.op (zas false (.p (.int .i64 0)) ⟨false,[.int]⟩ (.const a24) (.const a13)) fun a25 =>
.op (x_nil a14) fun a26 =>
.op (zaa 22 a26) fun a27 =>
.op (zab none a27) fun a28 =>
.op (zak [(.int .i64 0),(.int .i64 0)] [(0,1,a25),(1,1,a28)]) fun a29 =>
.op (zag 2 1 [(.int .i64 0),(.int .i64 0)] [(0,2,a29)]) fun a30 =>
.op (x_nil a14) fun a31 =>
.op (zaa 23 a31) fun a32 =>
.op (zal 2 (.const a20) (.const a30)) fun a33 =>
.op (zam 2 1 a32 a11) fun a34 =>
.op (zaf 1 a34 a33) fun _ =>
.op (x_nil a14) fun a36 =>
.op (zaa 14 a36) fun a37 =>
.op (zam 2 1 a37 a11) fun a38 =>
.op (zab none a38) fun a39 =>
.op (zac 6 a39 a13) fun a40 =>
.op (zaa 1 a40) fun a41 =>
.op (zab none a41) fun a42 =>
.block 0 (.cond a42 (.op (zad (.p (.func 52)) [a14,a11,a13]) fun a43 =>
.op (zaa 2 a12) fun a44 =>
.op (zaf 1 a44 a43) fun _ =>
.fin .normal [a11,a12,a13,a14,a15]) <|
.fin .normal [a11,a12,a13,a14,a15]) <| xv fun a46=>xv fun a47=>xv fun a48=>xv fun a49=>xv fun a50=>x0 (
.fin .normal [a46,a47,a48,a49,a50])) <| xv fun a51=>xv fun a52=>xv fun a53=>xv fun a54=>xv fun a55=>x0 (
.op (x_add a51 (.p (.int .i64 1))) fun a56 =>
.fin .normal [a56,a52,a53,a54,a55])) <|
.fin (.exit 1) [a13,a14,a12,a15])) <| xv fun a57=>xv fun a58=>xv fun a59=>xv fun a60=>x0 (
.op (x_nil a58) fun a61 =>
.op (zaa 22 a61) fun a62 =>
.op (zab none a62) fun a63 =>
.op (x_add a63 (.p (.int .i64 1))) fun a64 =>
.op (x_nil a58) fun a65 =>
.op (zaa 22 a65) fun a66 =>
.op (zaf 1 a66 a64) fun _ =>
.op (x_nil a58) fun a68 =>
.op (zaa 21 a68) fun a69 =>
.op (zab none a69) fun a70 =>
.op (zac 1 a70 a57) fun a71 =>
.op (zab none a71) fun a72 =>
.op (x_add a72 (.p (.int .i64 1))) fun a73 =>
.op (zac 1 a70 a57) fun a74 =>
.op (zaf 1 a74 a73) fun _ =>
.op (zad (.p (.func F_Q56)) [a58,a57]) fun a76 =>
.op (zaa 3 a59) fun a77 =>
.op (zaf 1 a77 a76) fun _ =>
.op (zad (.p (.func F_Q55)) [a58,a57]) fun a79 =>
.op (zae a79 0) fun a80 =>
.op (zae a79 1) fun _ =>
.op (zad (.p (.func F_Q57)) [a58,a59,a80]) fun _ =>
.op (zab (some 5) a59) fun a83 =>
.op (zaf 5 a60 a83) fun _ =>
.fin .ret [a60]))
noncomputable def zfa:HFun:=⟨2,zlz,[.cell 4 (some 5)],false⟩
theorem zjg:HOK tr.look F_Q34 zfa:=⟨i_Q34,(.sq .lf (.sq .lf (.sq (.sq .lf (.bk [1,0,5,4] (.lp [17,5,1,0,4] (.sq .lf (.sq (.cj .lf .lf) (.sq (.bk [17,5,1,0,4] (.sq .lf (.sq .lf (.sq .lf (.cd [17,5,1,0,4] .lf .lf))))) .lf)))))) (.sq .lf (.sq .lf (.sq .lf (.sq .lf (.sq .lf (.sq .lf .lf))))))))),[],look_Q34,rfl,rfl,rfl,rfl,rfl,by kernel_rfl⟩
noncomputable def zjh:List IVal→HC XF:=xv fun a0=>xv fun a1=>xv fun a2=>x0 (
.fresh [5] [a0,a1,a2] <|
.op (x_box (some 5) 5 a2) fun a3 =>
.op (x_nil a0) fun a4 =>
.op (zaa 23 a4) fun a5 =>
.op (zam 2 1 a5 a1) fun a6 =>
.op (zab none a6) fun a7 =>
.op (zad (.p (.func F_Q58)) [a7,(.p (.func F_Q59))]) fun _ =>
.op (x_nil a0) fun a9 =>
.op (zaa 2 a9) fun a10 =>
.op (zam 2 5 a10 a1) fun a11 =>
.op (zab (some 5) a11) fun a12 =>
.op (zab (some 5) a3) fun a13 =>
.op (x_nil a0) fun a14 =>
.op (zaa 23 a14) fun a15 =>
.op (zam 2 1 a15 a1) fun a16 =>
.op (zab none a16) fun a17 =>
.op (zad (.p (.func F_Q61)) [a12,a13,a17]) fun a18 =>
.op (zae a18 0) fun a19 =>
.op (zae a18 1) fun a20 =>
.fin .ret [a19,a20])
noncomputable def zdq:HFun:=⟨3,zjh,[.tmp 6, .tmp 7],false⟩
theorem zhg:HOK tr.look F_Q35 zdq:=⟨i_Q35,(.sq .lf (.sq .lf (.sq .lf .lf))),[],look_Q35,rfl,rfl,rfl,rfl,rfl,by kernel_rfl⟩
noncomputable def zafd:List IVal→HC XF:=xv fun a0=>x0 (
.fresh [1] [a0] <|
.op (x_box (some 1) 5 a0) fun a1 =>
.op (zaa 4 a1) fun a2 =>
.op (zab none a2) fun a3 =>
.op (x_len a3) fun a4 =>
.block 1 (.loop [(.p (.int .i64 0)),(.p (.int .i64 1)),a3,a4] <| xv fun a5=>xv fun a6=>xv fun a7=>xv fun a8=>x0 (
.op (x_lss a5 a8) fun a9 =>
.cond a9 (.block 2 (.fresh [5] [a9,a5,a6,a7,a8] <|
.op (zac 5 a7 a5) fun a10 =>
.op (zab (some 5) a10) fun a11 =>
.op (zaj (some 5) [(.int .i64 0),(.str []),(.str []), .nilslice, .nilslice]) fun a12 =>
.op (zaf 5 a12 a11) fun _ =>
.op (zab (some 5) a12) fun a14 =>
.op (zad (.p (.func F_Q43)) [a14]) fun a15 =>
.op (x_add a6 a15) fun a16 =>
.fin .normal [a5,a16,a7,a8]) <| xv fun a17=>xv fun a18=>xv fun a19=>xv fun a20=>x0 (
.op (x_add a17 (.p (.int .i64 1))) fun a21 =>
.fin .normal [a21,a18,a19,a20])) <|
.fin (.exit 1) [a6])) <| xv fun a22=>x0 (
.fin .ret [a22]))
noncomputable def ztz:HFun:=⟨1,zafd,[.tmp 2],true⟩
theorem zzp:HOK tr.look F_Q43 ztz:=⟨i_Q43,(.sq .lf (.sq .lf (.sq (.sq .lf (.bk [3] (.lp [9,3,7,8] (.sq .lf (.sq (.cj .lf .lf) (.sq (.bk [9,3,7,8] (.sq .lf .lf)) .lf)))))) (.sq .lf .lf)))),[],look_Q43,rfl,rfl,rfl,rfl,rfl,by kernel_rfl⟩
noncomputable def zacq:List IVal→HC XF:=xv fun a0=>x0 (
.fresh [1] [a0] <|
.op (x_box (some 1) 5 a0) fun a1 =>
.op (zaa 4 a1) fun a2 =>
.op (zab none a2) fun a3 =>
.op (x_len a3) fun a4 =>
.block 1 (.loop [(.p (.int .i64 0)),(.p (.int .i64 0)),a3,a4] <| xv fun a5=>xv fun a6=>xv fun a7=>xv fun a8=>x0 (
.op (x_lss a5 a8) fun a9 =>
.cond a9 (.block 2 (.fresh [5] [a9,a5,a6,a7,a8] <|
.op (zac 5 a7 a5) fun a10 =>
.op (zab (some 5) a10) fun a11 =>
.op (zaj (some 5) [(.int .i64 0),(.str []),(.str []), .nilslice, .nilslice]) fun a12 =>
.op (zaf 5 a12 a11) fun _ =>
.op (zab (some 5) a12) fun a14 =>
.op (zad (.p (.func F_Q44)) [a14]) fun a15 =>
.op (zahd [(.const a6),(.const a15)]) fun a16 =>
.fin .normal [a5,a16,a7,a8]) <| xv fun a17=>xv fun a18=>xv fun a19=>xv fun a20=>x0 (
.op (x_add a17 (.p (.int .i64 1))) fun a21 =>
.fin .normal [a21,a18,a19,a20])) <|
.fin (.exit 1) [a6])) <| xv fun a22=>x0 (
.op (x_add a22 (.p (.int .i64 1))) fun a23 =>
.fin .ret [a23]))
noncomputable def zqf:HFun:=⟨1,zacq,[.tmp 2],true⟩
theorem zvk:HOK tr.look F_Q44 zqf:=⟨i_Q44,(.sq .lf (.sq .lf (.sq (.sq .lf (.bk [3] (.lp [9,3,7,8] (.sq .lf (.sq (.cj .lf .lf) (.sq (.bk [9,3,7,8] (.sq .lf .lf)) .lf)))))) (.sq .lf .lf)))),[],look_Q44,rfl,rfl,rfl,rfl,rfl,by kernel_rfl⟩
noncomputable def zacr:List IVal→HC XF:=xv fun a0=>x0 (
.op (x_len a0) fun a1 =>
.block 1 (.loop [(.p (.int .i64 0)),a0,a1] <| xv fun a2=>xv fun a3=>xv fun a4=>x0 (
.op (x_lss a2 a4) fun a5 =>
.cond a5 (.block 2 (.op (zac 1 a3 a2) fun a6 =>
.op (zab none a6) fun a7 =>
.op (x_neq a7 (.p (.str []))) fun a8 =>
.cond a8 (.fin .ret [(.p (.bool false))]) <|
.fin .normal [a2,a3,a4]) <| xv fun a9=>xv fun a10=>xv fun a11=>x0 (
.op (x_add a9 (.p (.int .i64 1))) fun a12 =>
.fin .normal [a12,a10,a11])) <|
.fin (.exit 1) [])) <| x0 (
.fin .ret [(.p (.bool true))]))
noncomputable def zqg:HFun:=⟨1,zacr,[.tmp 2],true⟩
theorem zvl:HOK tr.look F_Q45 zqg:=⟨i_Q45,(.sq .lf (.sq (.sq .lf (.bk [] (.lp [7,5,6] (.sq .lf (.sq (.cj .lf .lf) (.sq (.bk [7,5,6] (.sq .lf (.sq .lf (.cj (.sq .lf .lf) .lf)))) .lf)))))) (.sq .lf .lf))),[],look_Q45,rfl,rfl,rfl,rfl,rfl,by kernel_rfl⟩
noncomputable def zafe:List IVal→HC XF:=xv fun a0=>x0 (
.fresh [1] [a0] <|
.op (x_box (some 1) 5 a0) fun a1 =>
.op (zaa 4 a1) fun a2 =>
.op (zab none a2) fun a3 =>
.op (x_len a3) fun a4 =>
.block 1 (.loop [(.p (.int .i64 0)),a1,a3,a4] <| xv fun a5=>xv fun a6=>xv fun a7=>xv fun a8=>x0 (
.op (x_lss a5 a8) fun a9 =>
.cond a9 (.block 2 (.fresh [4] [a9,a5,a6,a7,a8] <|
.op (zac 5 a7 a5) fun a10 =>
.op (zab (some 5) a10) fun a11 =>
.op (zaj (some 4) [(.int .i64 0),(.str []),(.str []), .nilslice, .nilslice]) fun a12 =>
.op (zaf 5 a12 a11) fun _ =>
.op (zab (some 5) a12) fun a14 =>
.op (zad (.p (.func F_Q64)) [a14]) fun a15 =>
.op (x_not a15) fun a16 =>
.opg a16 false (zaa 0 a12) fun a17 =>
.opg a16 false (zab none a17) fun a18 =>
.opg a16 false (x_eql a18 (.p (.int .i64 5))) fun a19 =>
.opg a16 false (x_mov a19) fun a20 =>
.opg a20 true (zaa 0 a6) fun a21 =>
.opg a20 true (zab none a21) fun a22 =>
.opg a20 true (x_neq a22 (.p (.int .i64 1))) fun a23 =>
.opg a16 false (zah a20 a23 (.p (.bool false))) fun a24 =>
.op (zah a16 (.p (.bool true)) a24) fun a25 =>
.cond a25 (.fin .ret [(.p (.bool false))]) <|
.fin .normal [a5,a6,a7,a8]) <| xv fun a26=>xv fun a27=>xv fun a28=>xv fun a29=>x0 (
.op (x_add a26 (.p (.int .i64 1))) fun a30 =>
.fin .normal [a30,a27,a28,a29])) <|
.fin (.exit 1) [])) <| x0 (
.fin .ret [(.p (.bool true))]))
noncomputable def zua:HFun:=⟨1,zafe,[.tmp 2],true⟩
theorem zzq:HOK tr.look F_Q46 zua:=⟨i_Q46,(.sq .lf (.sq (.sq .lf (.bk [] (.lp [8,1,6,7] (.sq .lf (.sq (.cj .lf .lf) (.sq (.bk [8,1,6,7] (.sq .lf (.sq .lf (.cj (.sq .lf .lf) .lf)))) .lf)))))) (.sq .lf .lf))),[],look_Q46,rfl,rfl,rfl,rfl,rfl,by kernel_rfl⟩
noncomputable def zaff:List IVal→HC XF:=xv fun a0=>x0 (
.op (x_box none 5 a0) fun a1 =>
.op (zaj none [.nilslice]) fun a2 =>
.op (zhe 66 [(.const a2)]) fun a3 =>
.op (zad (.p (.func F_Q65)) [a1,a3]) fun _ =>
.op (zab none a2) fun a5 =>
.op (x_len a5) fun a6 =>
.op (x_sub a6 (.p (.int .i64 1))) fun a7 =>
.block 1 (.loop [a7,a2] <| xv fun a8=>xv fun a9=>x0 (
.op (x_gtr a8 (.p (.int .i64 0))) fun a10 =>
.cond a10 (.block 2 (.op (zab none a9) fun a11 =>
.op (zab none a9) fun a12 =>
.op (zac 10 a12 a8) fun a13 =>
.op (zaa 0 a13) fun a14 =>
.op (zab none a14) fun a15 =>
.op (zac 10 a11 a15) fun a16 =>
.op (x_nil a16) fun a17 =>
.op (zaa 1 a17) fun a18 =>
.op (zab none a18) fun a19 =>
.op (zab none a9) fun a20 =>
.op (zac 10 a20 a8) fun a21 =>
.op (zaa 1 a21) fun a22 =>
.op (zab none a22) fun a23 =>
.op (x_add a19 a23) fun a24 =>
.op (x_nil a16) fun a25 =>
.op (zaa 1 a25) fun a26 =>
.op (zaf 1 a26 a24) fun _ =>
.op (x_nil a16) fun a28 =>
.op (zaa 3 a28) fun a29 =>
.op (zab none a29) fun a30 =>
.op (zab none a9) fun a31 =>
.op (zac 10 a31 a8) fun a32 =>
.op (zaa 3 a32) fun a33 =>
.op (zab none a33) fun a34 =>
.op (x_add a34 (.p (.int .i64 1))) fun a35 =>
.op (zahd [(.const a30),(.const a35)]) fun a36 =>
.op (x_nil a16) fun a37 =>
.op (zaa 3 a37) fun a38 =>
.op (zaf 1 a38 a36) fun _ =>
.fin .normal [a8,a9]) <| xv fun a40=>xv fun a41=>x0 (
.op (x_sub a40 (.p (.int .i64 1))) fun a42 =>
.fin .normal [a42,a41])) <|
.fin (.exit 1) [a9])) <| xv fun a43=>x0 (
.op (zab none a43) fun a44 =>
.fin .ret [a44]))
noncomputable def zub:HFun:=⟨1,zaff,[.tmp 2],true⟩
theorem zzr:HOK tr.look F_Q47 zub:=⟨i_Q47,(.sq .lf (.sq .lf (.sq .lf (.sq (.sq .lf (.bk [3] (.lp [4,3] (.sq (.sq .lf (.cj .lf .lf)) (.sq (.bk [4,3] (.sq .lf (.sq .lf .lf))) .lf))))) (.sq .lf .lf))))),[],look_Q47,rfl,rfl,rfl,rfl,rfl,by kernel_rfl⟩
noncomputable def zacs:List IVal→HC XF:=xv fun a0=>xv fun a1=>x0 (
.fresh [2] [a0,a1] <|
.op (x_box (some 2) 5 a0) fun a2 =>
.op (zab (some 5) a2) fun a3 =>
.op (zad (.p (.func F_Q47)) [a3]) fun a4 =>
.op (x_lss a1 (.p (.int .i64 0))) fun a5 =>
.opg a5 false (x_mov a1) fun a6 =>
.opg a5 false (x_mov a4) fun a7 =>
.opg a5 false (x_len a7) fun a8 =>
.opg a5 false (x_geq a6 a8) fun a9 =>
.op (zah a5 (.p (.bool true)) a9) fun a10 =>
.cond a10 (.fin .ret [(.p .nilslice)]) <|
.op (zad (.p (.func F_Q68)) [a4,a1]) fun a11 =>
.fin .ret [a11])
noncomputable def zqh:HFun:=⟨2,zacs,[.tmp 4],true⟩
theorem zvm:HOK tr.look F_Q48 zqh:=⟨i_Q48,(.sq .lf (.sq .lf (.sq (.sq .lf (.cj (.sq .lf .lf) .lf)) (.sq .lf .lf)))),[],look_Q48,rfl,rfl,rfl,rfl,rfl,by kernel_rfl⟩
noncomputable def zle:List IVal→HC XF:=xv fun a0=>xv fun a1=>x0 (
.fresh [2,3] [a0,a1] <|
.op (x_box (some 2) 5 a0) fun a2 =>
.op (x_box (some 3) 5 a1) fun a3 =>
.op (zab (some 5) a2) fun a4 =>
.op (zad (.p (.func F_Q30)) [a4]) fun a5 =>
.op (x_not a5) fun a6 =>
.opg a6 false (zab (some 5) a3) fun a7 =>
.opg a6 false (zad (.p (.func F_Q30)) [a7]) fun a8 =>
.opg a6 false (x_not a8) fun a9 =>
.op (zah a6 (.p (.bool true)) a9) fun a10 =>
.cond a10 (.fin .ret []) <|
.op (zab (some 5) a2) fun a11 =>
.op (zab (some 5) a3) fun a12 =>
.op (zab (some 5) a2) fun a13 =>
.op (zab (some 5) a3) fun a14 =>
.op (zcc) fun a15 =>
.op (zcc) fun a16 =>
.op (zad (.p (.func F_Q47)) [a13]) fun a17 =>
.chk (.load (some 5) (.const a2)) a11 <|
.chk (.load (some 5) (.const a3)) a12 <|
.chk (.load (some 5) (.const a3)) a14 <|
.chk (.mkMap) a15 <|
.chk (.mkMap) a16 <|
.op (zad (.p (.func F_Q47)) [a14]) fun a18 =>
.op (zak [(.int .i64 0),(.str []),(.str []), .nilslice, .nilslice,(.int .i64 0),(.str []),(.str []), .nilslice, .nilslice, .nilslice, .nilslice, .nilslice, .nilslice, .nilmap, .nilmap] [(0,5,a11),(5,5,a12),(10,1,a17),(11,1,a18),(14,1,a15),(15,1,a16)]) fun a19 =>
.op (x_box none 16 a19) fun a20 =>
.chk (.load (some 5) (.const a2)) a11 <|
.chk (.load (some 5) (.const a3)) a12 <|
.chk (.mkMap) a15 <|
.chk (.mkMap) a16 <|
.op (x_nil a20) fun a21 =>
.op (zaa 10 a21) fun a22 =>
.op (zab none a22) fun a23 =>
.op (x_nil a20) fun a24 =>
.op (zaa 11 a24) fun a25 =>
.op (zab none a25) fun a26 =>
.op (zad (.p (.func F_Q69)) [a23]) fun a27 =>
.chk (.load none (.const a25)) a26 <|
.op (zad (.p (.func F_Q69)) [a26]) fun a28 =>
.op (zak [.nilslice, .nilslice] [(0,1,a27),(1,1,a28)]) fun a29 =>
.op (x_nil a20) fun a30 =>
.op (zaa 12 a30) fun a31 =>
.op (zaf 2 a31 a29) fun _ =>
.op (zab (some 5) a2) fun a33 =>
.op (zab (some 5) a3) fun a34 =>
.op (zad (.p (.func F_Q70)) [a33,a34,(.p (.int .i64 2))]) fun a35 =>
.op (x_len a35) fun a36 =>
.block 1 (.loop [(.p (.int .i64 0)),a20,a35,a2,a36] <| xv fun a37=>xv fun a38=>xv fun a39=>xv fun a40=>xv fun a41=>x0 (
.op (x_lss a37 a41) fun a42 =>
.cond a42 (.block 2 (.fresh [7] [a42,a37,a38,a39,a40,a41] <|
.op (zac 2 a39 a37) fun a43 =>
.op (zab (some 2) a43) fun a44 =>
.op (zaj (some 7) [(.int .i64 0),(.int .i64 0)]) fun a45 =>
.op (zaf 2 a45 a44) fun _ =>
.op (zaa 0 a45) fun a47 =>
.op (zab none a47) fun a48 =>
.op (zaa 1 a45) fun a49 =>
.op (zab none a49) fun a50 =>
.op (zad (.p (.func F_Q71)) [a38,a48,a50]) fun _ =>
.fin .normal [a37,a38,a39,a40,a41]) <| xv fun a52=>xv fun a53=>xv fun a54=>xv fun a55=>xv fun a56=>x0 (
.op (x_add a52 (.p (.int .i64 1))) fun a57 =>
.fin .normal [a57,a53,a54,a55,a56])) <|
.fin (.exit 1) [a40,a38])) <| xv fun a58=>xv fun a59=>x0 (
.op (zab (some 5) a58) fun a60 =>
.op (zad (.p (.func F_Q72)) [a60]) fun a61 =>
.op (x_len a61) fun a62 =>
.block 3 (.loop [(.p (.int .i64 0)),a59,a61,a62] <| xv fun a63=>xv fun a64=>xv fun a65=>xv fun a66=>x0 (
.op (x_lss a63 a66) fun a67 =>
.cond a67 (.block 4 (.op (zac 1 a65 a63) fun a68 =>
.op (zab none a68) fun a69 =>
.op (x_nil a64) fun a70 =>
.op (zaa 14 a70) fun a71 =>
.op (zab none a71) fun a72 =>
.op (zas true (.p (.int .i64 0)) ⟨false,[.int]⟩ (.const a72) (.const a69)) fun a73 =>
.op (zae a73 0) fun _ =>
.op (zae a73 1) fun a75 =>
.cond a75 (.fin (.exit 4) [a63,a64,a65,a66]) <|
.op (zad (.p (.func F_Q73)) [a64,a69]) fun a76 =>
.op (x_geq a76 (.p (.int .i64 0))) fun a77 =>
.block 0 (.cond a77 (.op (zad (.p (.func F_Q71)) [a64,a69,a76]) fun _ =>
.op (zad (.p (.func 74)) [a64,a69,a76]) fun _ =>
.fin .normal [a63,a64,a65,a66]) <|
.fin .normal [a63,a64,a65,a66]) <| xv fun a80=>xv fun a81=>xv fun a82=>xv fun a83=>x0 (
.fin .normal [a80,a81,a82,a83])) <| xv fun a84=>xv fun a85=>xv fun a86=>xv fun a87=>x0 (
.op (x_add a84 (.p (.int .i64 1))) fun a88 =>
.fin .normal [a88,a85,a86,a87])) <|
.fin (.exit 3) [a64])) <| xv fun a89=>x0 (
.op (zad (.p (.func F_Q75)) [a89,(.p (.int .i64 0)),(.p (.int .i64 0))]) fun a90 =>
.block 0 (.cond a90 (.op (zad (.p (.func F_Q71)) [a89,(.p (.int .i64 0)),(.p (.int .i64 0))]) fun _ =>
.fin .normal [a89]) <|
.fin .normal [a89]) <| xv fun a92=>x0 (
.op (x_nil a92) fun a93 =>
.op (zaa 10 a93) fun a94 =>
.op (zab none a94) fun a95 =>
.op (x_len a95) fun a96 =>
.block 5 (.loop [(.p (.int .i64 0)),a92,a96] <| xv fun a97=>xv fun a98=>xv fun a99=>x0 (
.op (x_lss a97 a99) fun a100 =>
.cond a100 (.block 6 (.op (x_nil a98) fun a101 =>
.op (zaa 14 a101) fun a102 =>
.op (zab none a102) fun a103 =>
.op (zas true (.p (.int .i64 0)) ⟨false,[.int]⟩ (.const a103) (.const a97)) fun a104 =>
.op (zae a104 0) fun a105 =>
.op (zae a104 1) fun a106 =>
.block 0 (.cond a106 (.op (zad (.p (.func F_Q76)) [a98,a97,a105]) fun _ =>
.fin .normal [a97,a98,a99]) <|
.fin .normal [a97,a98,a99]) <| xv fun a108=>xv fun a109=>xv fun a110=>x0 (
.fin .normal [a108,a109,a110])) <| xv fun a111=>xv fun a112=>xv fun a113=>x0 (
.op (x_add a111 (.p (.int .i64 1))) fun a114 =>
.fin .normal [a114,a112,a113])) <|
.fin (.exit 5) [a98])) <| xv fun a115=>x0 (
.op (x_nil a115) fun a116 =>
.op (zaa 14 a116) fun a117 =>
.op (zab none a117) fun a118 =>
.fin .normal [a118,(.p .nilslice)])))))
theorem zqs:zle=hpre i_Q49 (.sq .lf (.sq (.sq .lf (.cj (.sq .lf .lf) .lf)) (.sq .lf (.sq .lf (.sq (.sq .lf (.bk [2,5] (.lp [55,5,53,2,54] (.sq .lf (.sq (.cj .lf .lf) (.sq (.bk [55,5,53,2,54] (.sq .lf .lf)) .lf)))))) (.sq (.sq .lf (.bk [5] (.lp [69,5,67,68] (.sq .lf (.sq (.cj .lf .lf) (.sq (.bk [69,5,67,68] (.sq .lf (.sq (.sq .lf (.sq .lf (.cj .lf .lf))) (.sq .lf (.sq .lf (.cd [69,5,67,68] (.sq .lf .lf) .lf)))))) .lf)))))) (.sq (.sq .lf (.cd [5] .lf .lf)) (.sq (.sq .lf (.bk [5] (.lp [106,5,105] (.sq .lf (.sq (.cj .lf .lf) (.sq (.bk [106,5,105] (.sq .lf (.sq .lf (.sq .lf (.cd [106,5,105] .lf .lf))))) .lf)))))) (.sq .lf .lf))))))))) [127,16] []:=by kernel_rfl
noncomputable def zaim:List IVal→HC XF:=xv fun a0=>xv fun a1=>xv fun a2=>x0 (
.fresh [3,4] [a0,a1,a2] <|
.op (x_box (some 3) 5 a0) fun a3 =>
.op (x_box (some 4) 5 a1) fun a4 =>
.op (zab (some 5) a3) fun a5 =>
.op (zab (some 5) a4) fun a6 =>
.op (zad (.p (.func F_Q78)) [a5,a6,a2]) fun a7 =>
.op (x_not a7) fun a8 =>
.cond a8 (.fin .ret [(.p .nilslice),(.p (.int .i64 1))]) <|
.op (zab (some 5) a3) fun a9 =>
.op (zab (some 5) a4) fun a10 =>
.op (zad (.p (.func F_Q47)) [a9]) fun a11 =>
.chk (.load (some 5) (.const a4)) a10 <|
.op (zad (.p (.func F_Q47)) [a10]) fun a12 =>
.op (zcc) fun a13 =>
.op (zcc) fun a14 =>
.op (zaj none [.nilmap]) fun a15 =>
.op (zaf 1 a15 a14) fun _ =>
.op (x_len a2) fun a17 =>
.block 1 (.loop [(.p (.int .i64 0)),a13,a15,a2,a11,a12,a17] <| xv fun a18=>xv fun a19=>xv fun a20=>xv fun a21=>xv fun a22=>xv fun a23=>xv fun a24=>x0 (
.op (x_lss a18 a24) fun a25 =>
.cond a25 (.block 2 (.fresh [13] [a25,a18,a19,a20,a21,a22,a23,a24] <|
.op (zac 2 a21 a18) fun a26 =>
.op (zab (some 2) a26) fun a27 =>
.op (zaj (some 13) [(.int .i64 0),(.int .i64 0)]) fun a28 =>
.op (zaf 2 a28 a27) fun _ =>
.op (zaa 0 a28) fun a30 =>
.op (zab none a30) fun a31 =>
.op (zab none a20) fun a32 =>
.op (zaa 1 a28) fun a33 =>
.op (zab none a33) fun a34 =>
.op (zaa 1 a28) fun a35 =>
.op (zab none a35) fun a36 =>
.op (zaa 0 a28) fun a37 =>
.op (zab none a37) fun a38 =>
.op (zby ⟨false,[.int]⟩ (.const a19) (.const a31) (.const a36)) fun _ =>
.chk (.load none (.const a20)) a32 <|
.chk (.load none (.const a33)) a34 <|
.chk (.load none (.const a37)) a38 <|
.op (zby ⟨false,[.int]⟩ (.const a32) (.const a34) (.const a38)) fun _ =>
.fin .normal [a18,a19,a20,a21,a22,a23,a24]) <| xv fun a41=>xv fun a42=>xv fun a43=>xv fun a44=>xv fun a45=>xv fun a46=>xv fun a47=>x0 (
.op (x_add a41 (.p (.int .i64 1))) fun a48 =>
.fin .normal [a48,a42,a43,a44,a45,a46,a47])) <|
.fin (.exit 1) [a20,a22,a23,a19])) <| xv fun a49=>xv fun a50=>xv fun a51=>xv fun a52=>x0 (
.op (zhe 79 [(.const a49)]) fun a53 =>
.op (x_len a50) fun a54 =>
.op (zdp 6 [(.bool false),(.bool false), .nilslice, .nilslice,(.int .i64 0), .nilslice] (.const a54) (.const a54)) fun a55 =>
.op (x_len a50) fun a56 =>
.block 3 (.loop [(.p (.int .i64 0)),a55,a50,a51,a53,a52,a56] <| xv fun a57=>xv fun a58=>xv fun a59=>xv fun a60=>xv fun a61=>xv fun a62=>xv fun a63=>x0 (
.op (x_lss a57 a63) fun a64 =>
.cond a64 (.block 4 (.op (zas true (.p (.int .i64 0)) ⟨false,[.int]⟩ (.const a62) (.const a57)) fun a65 =>
.op (zae a65 0) fun a66 =>
.op (zae a65 1) fun a67 =>
.op (x_not a67) fun a68 =>
.cond a68 (.op (zac 6 a58 a57) fun a69 =>
.op (zaa 0 a69) fun a70 =>
.op (zaf 1 a70 (.p (.bool true))) fun _ =>
.fin (.exit 4) [a57,a58,a59,a60,a61,a62,a63]) <|
.op (zac 10 a59 a57) fun a72 =>
.op (zaa 5 a72) fun a73 =>
.op (zab (some 5) a73) fun a74 =>
.op (zac 10 a60 a66) fun a75 =>
.op (zaa 5 a75) fun a76 =>
.op (zab (some 5) a76) fun a77 =>
.op (zad (.p (.func F_Q80)) [a74,a77]) fun a78 =>
.op (zac 6 a58 a57) fun a79 =>
.op (zaf 6 a79 a78) fun _ =>
.op (zac 6 a58 a57) fun a81 =>
.op (zaa 4 a81) fun a82 =>
.op (zaf 1 a82 (.p (.int .i64 (-1)))) fun _ =>
.op (zac 10 a60 a66) fun a84 =>
.op (zaa 0 a84) fun a85 =>
.op (zab none a85) fun a86 =>
.op (x_geq a86 (.p (.int .i64 0))) fun a87 =>
.block 0 (.cond a87 (.op (zad a61 [a86]) fun a88 =>
.op (zac 6 a58 a57) fun a89 =>
.op (zaa 4 a89) fun a90 =>
.op (zaf 1 a90 a88) fun _ =>
.fin .normal [a60,a58,a57,a61,a57,a59,a62,a63,a66]) <|
.fin .normal [a60,a58,a57,a61,a57,a59,a62,a63,a66]) <| xv fun a92=>xv fun a93=>xv fun a94=>xv fun a95=>xv fun a96=>xv fun a97=>xv fun a98=>xv fun a99=>xv fun a100=>x0 (
.op (x_add a100 (.p (.int .i64 1))) fun a101 =>
.block 5 (.loop [a101,a92,a93,a94,a95,a96,a97,a98,a99,a100] <| xv fun a102=>xv fun a103=>xv fun a104=>xv fun a105=>xv fun a106=>xv fun a107=>xv fun a108=>xv fun a109=>xv fun a110=>xv fun a111=>x0 (
.op (zac 10 a103 a111) fun a112 =>
.op (zaa 1 a112) fun a113 =>
.op (zab none a113) fun a114 =>
.op (x_add a111 a114) fun a115 =>
.op (x_lss a102 a115) fun a116 =>
.cond a116 (.block 6 (.op (zac 6 a104 a105) fun a117 =>
.op (zaa 5 a117) fun a118 =>
.op (zab none a118) fun a119 =>
.op (zad a106 [a102]) fun a120 =>
.op (zag 1 1 [(.int .i64 0)] [(0,1,a120)]) fun a121 =>
.chk (.load none (.const a118)) a119 <|
.op (zal 1 (.const a119) (.const a121)) fun a122 =>
.op (zac 6 a104 a105) fun a123 =>
.op (zaa 5 a123) fun a124 =>
.op (zaf 1 a124 a122) fun _ =>
.fin .normal [a102,a103,a104,a105,a106,a107,a108,a109,a110,a111]) <| xv fun a126=>xv fun a127=>xv fun a128=>xv fun a129=>xv fun a130=>xv fun a131=>xv fun a132=>xv fun a133=>xv fun a134=>xv fun a135=>x0 (
.op (zac 10 a127 a126) fun a136 =>
.op (zaa 1 a136) fun a137 =>
.op (zab none a137) fun a138 =>
.op (x_add a126 a138) fun a139 =>
.fin .normal [a139,a127,a128,a129,a130,a131,a132,a133,a134,a135])) <|
.fin (.exit 5) [a107,a104,a108,a103,a106,a109,a110])) <| xv fun a140=>xv fun a141=>xv fun a142=>xv fun a143=>xv fun a144=>xv fun a145=>xv fun a146=>x0 (
.fin .normal [a140,a141,a142,a143,a144,a145,a146]))) <| xv fun a147=>xv fun a148=>xv fun a149=>xv fun a150=>xv fun a151=>xv fun a152=>xv fun a153=>x0 (
.op (x_add a147 (.p (.int .i64 1))) fun a154 =>
.fin .normal [a154,a148,a149,a150,a151,a152,a153])) <|
.fin (.exit 3) [a58])) <| xv fun a155=>x0 (
.fin .ret [a155,(.p (.int .i64 0))])))
noncomputable def zxi:HFun:=⟨3,zaim,[.tmp 6, .tmp 7],true⟩
theorem zact:HOK tr.look F_Q50 zxi:=⟨i_Q50,(.sq .lf (.sq (.sq .lf (.cj (.sq .lf .lf) .lf)) (.sq .lf (.sq .lf (.sq (.sq .lf (.bk [11,8,9,10] (.lp [34,10,11,32,8,9,33] (.sq .lf (.sq (.cj .lf .lf) (.sq (.bk [34,10,11,32,8,9,33] (.sq .lf .lf)) .lf)))))) (.sq .lf (.sq .lf (.sq (.sq .lf (.bk [15] (.lp [55,15,8,9,14,10,54] (.sq .lf (.sq (.cj .lf .lf) (.sq (.bk [55,15,8,9,14,10,54] (.sq .lf (.sq .lf (.sq (.sq .lf (.cj (.sq .lf .lf) .lf)) (.sq .lf (.sq .lf (.sq (.sq .lf (.sq .lf (.cd [9,15,16,14,55,8,10,54,17] .lf .lf))) (.sq .lf (.bk [55,15,8,9,14,10,54] (.lp [20,9,15,16,14,55,8,10,54,17] (.sq (.sq .lf (.cj .lf .lf)) (.sq (.bk [20,9,15,16,14,55,8,10,54,17] .lf) .lf)))))))))))) .lf)))))) (.sq .lf .lf))))))))),[],look_Q50,rfl,rfl,rfl,rfl,rfl,by kernel_rfl⟩
noncomputable def zkk:List IVal→HC XF:=xv fun a0=>xv fun a1=>xv fun a2=>x0 (
.op (zcc) fun a3 =>
.op (x_nil a0) fun a4 =>
.op (zaa 14 a4) fun a5 =>
.op (zam 2 1 a5 a1) fun a6 =>
.op (zab none a6) fun a7 =>
.op (zac 6 a7 a2) fun a8 =>
.op (zaa 2 a8) fun a9 =>
.op (zab none a9) fun a10 =>
.op (x_len a10) fun a11 =>
.block 1 (.loop [(.p (.int .i64 0)),a3,a10,a0,a1,a2,a11] <| xv fun a12=>xv fun a13=>xv fun a14=>xv fun a15=>xv fun a16=>xv fun a17=>xv fun a18=>x0 (
.op (x_lss a12 a18) fun a19 =>
.cond a19 (.block 2 (.fresh [9] [a19,a12,a13,a14,a15,a16,a17,a18] <|
.op (zac 2 a14 a12) fun a20 =>
.op (zab (some 2) a20) fun a21 =>
.op (zaj (some 9) [(.str []),(.str [])]) fun a22 =>
.op (zaf 2 a22 a21) fun _ =>
.op (zaa 0 a22) fun a24 =>
.op (zab none a24) fun a25 =>
.op (zaa 1 a22) fun a26 =>
.op (zab none a26) fun a27 =>
.op (zak [(.bool false),(.str [])] [(1,1,a27)]) fun a28 =>
.op (zby ⟨false,[.str]⟩ (.const a13) (.const a25) (.const a28)) fun _ =>
.fin .normal [a12,a13,a14,a15,a16,a17,a18]) <| xv fun a30=>xv fun a31=>xv fun a32=>xv fun a33=>xv fun a34=>xv fun a35=>xv fun a36=>x0 (
.op (x_add a30 (.p (.int .i64 1))) fun a37 =>
.fin .normal [a37,a31,a32,a33,a34,a35,a36])) <|
.fin (.exit 1) [a15,a16,a17,a13])) <| xv fun a38=>xv fun a39=>xv fun a40=>xv fun a41=>x0 (
.op (x_nil a38) fun a42 =>
.op (zaa 14 a42) fun a43 =>
.op (zam 2 1 a43 a39) fun a44 =>
.op (zab none a44) fun a45 =>
.op (zac 6 a45 a40) fun a46 =>
.op (zaa 3 a46) fun a47 =>
.op (zab none a47) fun a48 =>
.op (x_len a48) fun a49 =>
.block 3 (.loop [(.p (.int .i64 0)),a41,a48,a49] <| xv fun a50=>xv fun a51=>xv fun a52=>xv fun a53=>x0 (
.op (x_lss a50 a53) fun a54 =>
.cond a54 (.block 4 (.op (zac 1 a52 a50) fun a55 =>
.op (zab none a55) fun a56 =>
.op (zak [(.bool false),(.str [])] [(0,1,(.p (.bool true)))]) fun a57 =>
.op (zby ⟨false,[.str]⟩ (.const a51) (.const a56) (.const a57)) fun _ =>
.fin .normal [a50,a51,a52,a53]) <| xv fun a59=>xv fun a60=>xv fun a61=>xv fun a62=>x0 (
.op (x_add a59 (.p (.int .i64 1))) fun a63 =>
.fin .normal [a63,a60,a61,a62])) <|
.fin (.exit 3) [a51])) <| xv fun a64=>x0 (
.fin .ret [a64])))
noncomputable def zdy:HFun:=⟨3,zkk,[.tmp 6],false⟩
theorem zhq:HOK tr.look F_Q53 zdy:=⟨i_Q53,(.sq .lf (.sq .lf (.sq (.sq .lf (.bk [0,1,2,7] (.lp [24,7,22,0,1,2,23] (.sq .lf (.sq (.cj .lf .lf) (.sq (.bk [24,7,22,0,1,2,23] (.sq .lf .lf)) .lf)))))) (.sq (.sq .lf (.bk [7] (.lp [46,7,44,45] (.sq .lf (.sq (.cj .lf .lf) (.sq (.bk [46,7,44,45] (.sq .lf .lf)) .lf)))))) (.sq .lf .lf))))),[],look_Q53,rfl,rfl,rfl,rfl,rfl,by kernel_rfl⟩
noncomputable def zfb:List IVal→HC XF:=xv fun a0=>x0 (
.op (x_len a0) fun a1 =>
.op (zfp .u64 a1) fun a2 =>
.op (zad (.p (.func F_Q82)) [a2]) fun a3 =>
.op (zad (.p (.func F_Q81)) [a0,(.p (.int .i64 0)),a1,a3]) fun _ =>
.fin .ret [])
noncomputable def zbt:HFun:=⟨1,zfb,[],true⟩
theorem zdw:HOK tr.look F_Q54 zbt:=⟨i_Q54,(.sq .lf .lf),[],look_Q54,rfl,rfl,rfl,rfl,rfl,by kernel_rfl⟩
noncomputable def zma:List IVal→HC XF:=xv fun a0=>xv fun a1=>x0 (
.op (x_box none 1 a0) fun a2 =>
.op (zab none a2) fun a3 =>
.op (x_nil a3) fun a4 =>
.op (zaa 1 a4) fun a5 =>
.op (zab none a5) fun a6 =>
.op (zac 1 a6 a1) fun a7 =>
.op (zab none a7) fun a8 =>
.op (zab none a2) fun a9 =>
.op (x_nil a9) fun a10 =>
.op (zaa 14 a10) fun a11 =>
.op (zam 2 1 a11 (.p (.int .i64 0))) fun a12 =>
.op (zab none a12) fun a13 =>
.op (zac 6 a13 a1) fun a14 =>
.op (zaa 5 a14) fun a15 =>
.op (zab none a15) fun a16 =>
.op (zab none a2) fun a17 =>
.op (x_nil a17) fun a18 =>
.op (zaa 14 a18) fun a19 =>
.op (zam 2 1 a19 (.p (.int .i64 1))) fun a20 =>
.op (zab none a20) fun a21 =>
.op (zac 6 a21 a1) fun a22 =>
.op (zaa 5 a22) fun a23 =>
.op (zab none a23) fun a24 =>
.op (zhe 83 [(.const a2)]) fun a25 =>
.op (zad (.p (.func F_Q9)) [a8,a16,a24,a25]) fun a26 =>
.op (zae a26 0) fun a27 =>
.op (zae a26 1) fun a28 =>
.fin .ret [a27,a28])
noncomputable def zfc:HFun:=⟨2,zma,[.tmp 4, .tmp 5],false⟩
theorem zji:HOK tr.look F_Q55 zfc:=⟨i_Q55,(.sq .lf (.sq .lf .lf)),[],look_Q55,rfl,rfl,rfl,rfl,rfl,by kernel_rfl⟩
noncomputable def zkl:List IVal→HC XF:=xv fun a0=>xv fun a1=>x0 (
.op (zcc) fun a2 =>
.op (x_nil a0) fun a3 =>
.op (zaa 0 a3) fun a4 =>
.op (zab none a4) fun a5 =>
.op (zac 10 a5 a1) fun a6 =>
.op (zaa 5 a6) fun a7 =>
.op (zaa 3 a7) fun a8 =>
.op (zab none a8) fun a9 =>
.op (x_len a9) fun a10 =>
.block 1 (.loop [(.p (.int .i64 0)),a2,a9,a1,a0,a10] <| xv fun a11=>xv fun a12=>xv fun a13=>xv fun a14=>xv fun a15=>xv fun a16=>x0 (
.op (x_lss a11 a16) fun a17 =>
.cond a17 (.block 2 (.fresh [7] [a17,a11,a12,a13,a14,a15,a16] <|
.op (zac 2 a13 a11) fun a18 =>
.op (zab (some 2) a18) fun a19 =>
.op (zaj (some 7) [(.str []),(.str [])]) fun a20 =>
.op (zaf 2 a20 a19) fun _ =>
.op (zaa 0 a20) fun a22 =>
.op (zab none a22) fun a23 =>
.op (zaa 1 a20) fun a24 =>
.op (zab none a24) fun a25 =>
.op (zby ⟨false,[.str]⟩ (.const a12) (.const a23) (.const a25)) fun _ =>
.fin .normal [a11,a12,a13,a14,a15,a16]) <| xv fun a27=>xv fun a28=>xv fun a29=>xv fun a30=>xv fun a31=>xv fun a32=>x0 (
.op (x_add a27 (.p (.int .i64 1))) fun a33 =>
.fin .normal [a33,a28,a29,a30,a31,a32])) <|
.fin (.exit 1) [a12,a14,a15])) <| xv fun a34=>xv fun a35=>xv fun a36=>x0 (
.block 3 (.loop [(.p (.int .i64 0)),a34,a35,a36] <| xv fun a37=>xv fun a38=>xv fun a39=>xv fun a40=>x0 (
.op (x_lss a37 (.p (.int .i64 2))) fun a41 =>
.cond a41 (.block 4 (.op (zad (.p (.func F_Q53)) [a40,a37,a39]) fun a42 =>
.block 5 (.op (x_not (.p (.bool true))) fun _ =>
.op (zzb (.const a42)) fun a44 =>
.op (zae a44 0) fun a45 =>
.block 0 (.cond a45 (.block 6 (.fresh [10] [a45,a44, .undef,a42,a39,a37,a40,a37,a37,a41,a37,a38,a39,a40] <|
.op (zrd (.const a44)) fun a46 =>
.op (zae a46 0) fun a47 =>
.op (zae a46 1) fun a48 =>
.op (zaj (some 10) [(.bool false),(.str [])]) fun a49 =>
.op (zaf 2 a49 a48) fun _ =>
.op (zaa 1 a49) fun a51 =>
.op (zab none a51) fun a52 =>
.op (zby ⟨false,[.str]⟩ (.const a38) (.const a47) (.const a52)) fun _ =>
.op (zaa 0 a49) fun a54 =>
.op (zab none a54) fun a55 =>
.block 0 (.cond a55 (.op (x_del ⟨false,[.str]⟩ (.const a38) (.const a47)) fun _ =>
.fin .normal [a42,a37,a38,a39,a40]) <|
.fin .normal [a42,a37,a38,a39,a40]) <| xv fun a57=>xv fun a58=>xv fun a59=>xv fun a60=>xv fun a61=>x0 (
.fin .normal [a57,a58,a59,a60,a61])) <| xv fun a62=>xv fun a63=>xv fun a64=>xv fun a65=>xv fun a66=>x0 (
.op (zzc (.const a62)) fun _ =>
.fin .normal [a63,a64,a65,a66])) <|
.fin .normal [a37,a38,a39,a40]) <| xv fun a68=>xv fun a69=>xv fun a70=>xv fun a71=>x0 (
.fin (.exit 5) [a68,a69,a70,a71])) <| xv fun a72=>xv fun a73=>xv fun a74=>xv fun a75=>x0 (
.fin .normal [a72,a73,a74,a75])) <| xv fun a76=>xv fun a77=>xv fun a78=>xv fun a79=>x0 (
.op (x_add a76 (.p (.int .i64 1))) fun a80 =>
.fin .normal [a80,a77,a78,a79])) <|
.fin (.exit 3) [a38])) <| xv fun a81=>x0 (
.block 7 (.op (x_not (.p (.bool true))) fun _ =>
.op (zzb (.const a81)) fun a83 =>
.op (zae a83 0) fun a84 =>
.block 0 (.cond a84 (.block 8 (.op (zrd (.const a83)) fun a85 =>
.op (zae a85 0) fun a86 =>
.op (zae a85 1) fun a87 =>
.op (zak [(.str []),(.str [])] [(0,1,a86),(1,1,a87)]) fun a88 =>
.op (zag 2 1 [(.str []),(.str [])] [(0,2,a88)]) fun a89 =>
.op (zal 2 (.const (.p .nilslice)) (.const a89)) fun a90 =>
.fin .normal [a81,a90]) <| xv fun a91=>xv fun a92=>x0 (
.op (zzc (.const a91)) fun _ =>
.fin .normal [a92])) <|
.fin .normal [(.p .nilslice)]) <| xv fun a94=>x0 (
.fin (.exit 7) [a94])) <| xv fun a95=>x0 (
.op (zad (.p (.func F_Q87)) [a95,(.p (.func 88))]) fun _ =>
.fin .ret [a95]))))
noncomputable def zdz:HFun:=⟨2,zkl,[.tmp 4],false⟩
theorem zhr:HOK tr.look F_Q56 zdz:=⟨i_Q56,(.sq .lf (.sq .lf (.sq (.sq .lf (.bk [5,1,0] (.lp [25,5,23,1,0,24] (.sq .lf (.sq (.cj .lf .lf) (.sq (.bk [25,5,23,1,0,24] (.sq .lf .lf)) .lf)))))) (.sq (.sq .lf (.bk [5] (.lp [35,5,1,0] (.sq .lf (.sq (.cj .lf .lf) (.sq (.bk [35,5,1,0] (.sq .lf (.sq .lf (.bk [35,5,1,0] (.sq .lf (.sq (.cd [35,5,1,0] (.sq (.bk [41,35,5,1,0] (.sq .lf (.sq .lf (.sq .lf (.cd [41,35,5,1,0] .lf .lf))))) .lf) .lf) (.sq .lf .lf))))))) .lf)))))) (.sq .lf (.sq (.sq .lf (.bk [11] (.sq .lf (.sq (.cd [11] (.sq (.bk [57,11] (.sq .lf .lf)) .lf) .lf) (.sq .lf .lf))))) (.sq .lf (.sq .lf .lf)))))))),[],look_Q56,rfl,rfl,rfl,rfl,rfl,by kernel_rfl⟩
noncomputable def zmb:List IVal→HC XF:=xv fun a0=>xv fun a1=>xv fun a2=>x0 (
.op (x_len a2) fun a3 =>
.block 1 (.loop [(.p (.int .i64 0)),a1,a0,a2,a3] <| xv fun a4=>xv fun a5=>xv fun a6=>xv fun a7=>xv fun a8=>x0 (
.op (x_lss a4 a8) fun a9 =>
.cond a9 (.block 2 (.op (zac 1 a7 a4) fun a10 =>
.op (zab none a10) fun a11 =>
.block 3 (.op (x_lss a11 (.p (.int .i64 0))) fun a12 =>
.block 0 (.cond a12 (.block 0 (.both (.op (x_nil a5) fun a13 =>
.op (zaa 4 a13) fun a14 =>
.op (zab none a14) fun a15 =>
.op (x_len a15) fun a16 =>
.op (zag 5 1 [(.int .i64 0),(.str []),(.str []), .nilslice, .nilslice] [(0,5,(.agg [(.p (.int .i64 0)),(.p (.str [])),(.p (.str [])),(.p .nilslice),(.p .nilslice)]))]) fun a17 =>
.op (zad (.p (.func F_Q84)) [a11]) fun a18 =>
.chk (.load none (.const a14)) a15 <|
.chk (.buildSlice 5 1 [(.int .i64 0),(.str []),(.str []), .nilslice, .nilslice] [(0,5,(.const (.agg [(.p (.int .i64 0)),(.p (.str [])),(.p (.str [])),(.p .nilslice),(.p .nilslice)])))]) a17 <|
.op (zad (.p (.func F_Q90)) [a6,a18]) fun a19 =>
.chk (.load none (.const a14)) a15 <|
.chk (.buildSlice 5 1 [(.int .i64 0),(.str []),(.str []), .nilslice, .nilslice] [(0,5,(.const (.agg [(.p (.int .i64 0)),(.p (.str [])),(.p (.str [])),(.p .nilslice),(.p .nilslice)])))]) a17 <|
.op (zal 5 (.const a15) (.const a17)) fun a20 =>
.op (zac 5 a20 a16) fun a21 =>
.op (x_nil a5) fun a22 =>
.op (zaa 4 a22) fun a23 =>
.op (zaf 5 a21 a19) fun a24 =>
.op (zaf 1 a23 a20) fun a25 =>
.fin .normal [a5,a13,a14,a15,a6,a11,a18,a19,a16,a17,a20,a21,a24,a22,a23,a25]) (.op (x_nil a5) fun a26 =>
.op (zaa 4 a26) fun a27 =>
.op (zab none a27) fun a28 =>
.op (x_len a28) fun a29 =>
.op (zag 5 1 [(.int .i64 0),(.str []),(.str []), .nilslice, .nilslice] [(0,5,(.agg [(.p (.int .i64 0)),(.p (.str [])),(.p (.str [])),(.p .nilslice),(.p .nilslice)]))]) fun a30 =>
.op (zad (.p (.func F_Q84)) [a11]) fun a31 =>
.chk (.load none (.const a27)) a28 <|
.chk (.buildSlice 5 1 [(.int .i64 0),(.str []),(.str []), .nilslice, .nilslice] [(0,5,(.const (.agg [(.p (.int .i64 0)),(.p (.str [])),(.p (.str [])),(.p .nilslice),(.p .nilslice)])))]) a30 <|
.op (zad (.p (.func F_Q90)) [a6,a31]) fun a32 =>
.chk (.load none (.const a27)) a28 <|
.chk (.buildSlice 5 1 [(.int .i64 0),(.str []),(.str []), .nilslice, .nilslice] [(0,5,(.const (.agg [(.p (.int .i64 0)),(.p (.str [])),(.p (.str [])),(.p .nilslice),(.p .nilslice)])))]) a30 <|
.op (zal 5 (.const a28) (.const a30)) fun a33 =>
.op (zac 5 a33 a29) fun a34 =>
.op (x_nil a5) fun a35 =>
.op (zaa 4 a35) fun a36 =>
.op (zaf 1 a36 a33) fun a37 =>
.op (zaf 5 a34 a32) fun a38 =>
.fin .normal [a5,a26,a27,a28,a6,a11,a31,a32,a29,a30,a33,a34,a38,a35,a36,a37]) fun z=>.fin .normal z) <| xv fun _=>xv fun _=>xv fun _=>xv fun _=>xv fun _=>xv fun _=>xv fun _=>xv fun _=>xv fun _=>xv fun _=>xv fun _=>xv fun _=>xv fun _=>xv fun _=>xv fun _=>xv fun _=>x0 (
.fin .normal [a4,a5,a6,a7,a8])) <|
.op (x_nil a6) fun a55 =>
.op (zaa 14 a55) fun a56 =>
.op (zam 2 1 a56 (.p (.int .i64 0))) fun a57 =>
.op (zab none a57) fun a58 =>
.op (zac 6 a58 a11) fun a59 =>
.op (zaa 0 a59) fun a60 =>
.op (zab none a60) fun a61 =>
.op (x_not a61) fun a62 =>
.opg a62 true (x_mov a6) fun a63 =>
.opg a62 true (x_nil a63) fun a64 =>
.opg a62 true (zaa 14 a64) fun a65 =>
.opg a62 true (zam 2 1 a65 (.p (.int .i64 1))) fun a66 =>
.opg a62 true (zab none a66) fun a67 =>
.opg a62 true (x_mov a11) fun a68 =>
.opg a62 true (zac 6 a67 a68) fun a69 =>
.opg a62 true (zaa 0 a69) fun a70 =>
.opg a62 true (zab none a70) fun a71 =>
.opg a62 true (x_not a71) fun a72 =>
.op (zah a62 a72 (.p (.bool false))) fun a73 =>
.opg a73 true (x_mov a6) fun a74 =>
.opg a73 true (x_nil a74) fun a75 =>
.opg a73 true (zaa 21 a75) fun a76 =>
.opg a73 true (zab none a76) fun a77 =>
.opg a73 true (x_mov a11) fun a78 =>
.opg a73 true (zac 1 a77 a78) fun a79 =>
.opg a73 true (zab none a79) fun a80 =>
.opg a73 true (x_lss a80 (.p (.int .i64 2))) fun a81 =>
.op (zah a73 a81 (.p (.bool false))) fun a82 =>
.block 0 (.cond a82 (.block 0 (.both (.op (x_nil a5) fun a83 =>
.op (zaa 4 a83) fun a84 =>
.op (zab none a84) fun a85 =>
.op (x_len a85) fun a86 =>
.op (zag 5 1 [(.int .i64 0),(.str []),(.str []), .nilslice, .nilslice] [(0,5,(.agg [(.p (.int .i64 0)),(.p (.str [])),(.p (.str [])),(.p .nilslice),(.p .nilslice)]))]) fun a87 =>
.op (zad (.p (.func F_Q34)) [a6,a11]) fun a88 =>
.chk (.load none (.const a84)) a85 <|
.chk (.buildSlice 5 1 [(.int .i64 0),(.str []),(.str []), .nilslice, .nilslice] [(0,5,(.const (.agg [(.p (.int .i64 0)),(.p (.str [])),(.p (.str [])),(.p .nilslice),(.p .nilslice)])))]) a87 <|
.op (zal 5 (.const a85) (.const a87)) fun a89 =>
.op (zac 5 a89 a86) fun a90 =>
.op (x_nil a5) fun a91 =>
.op (zaa 4 a91) fun a92 =>
.op (zaf 5 a90 a88) fun a93 =>
.op (zaf 1 a92 a89) fun a94 =>
.fin .normal [a5,a83,a84,a85,a6,a11,a88,a86,a87,a89,a90,a93,a91,a92,a94]) (.op (x_nil a5) fun a95 =>
.op (zaa 4 a95) fun a96 =>
.op (zab none a96) fun a97 =>
.op (x_len a97) fun a98 =>
.op (zag 5 1 [(.int .i64 0),(.str []),(.str []), .nilslice, .nilslice] [(0,5,(.agg [(.p (.int .i64 0)),(.p (.str [])),(.p (.str [])),(.p .nilslice),(.p .nilslice)]))]) fun a99 =>
.op (zad (.p (.func F_Q34)) [a6,a11]) fun a100 =>
.chk (.load none (.const a96)) a97 <|
.chk (.buildSlice 5 1 [(.int .i64 0),(.str []),(.str []), .nilslice, .nilslice] [(0,5,(.const (.agg [(.p (.int .i64 0)),(.p (.str [])),(.p (.str [])),(.p .nilslice),(.p .nilslice)])))]) a99 <|
.op (zal 5 (.const a97) (.const a99)) fun a101 =>
.op (zac 5 a101 a98) fun a102 =>
.op (x_nil a5) fun a103 =>
.op (zaa 4 a103) fun a104 =>
.op (zaf 1 a104 a101) fun a105 =>
.op (zaf 5 a102 a100) fun a106 =>
.fin .normal [a5,a95,a96,a97,a6,a11,a100,a98,a99,a101,a102,a106,a103,a104,a105]) fun z=>.fin .normal z) <| xv fun _=>xv fun _=>xv fun _=>xv fun _=>xv fun _=>xv fun _=>xv fun _=>xv fun _=>xv fun _=>xv fun _=>xv fun _=>xv fun _=>xv fun _=>xv fun _=>xv fun _=>x0 (
.fin .normal [a4,a5,a6,a7,a8])) <|
.fin .normal [a4,a5,a6,a7,a8]) <| xv fun a122=>xv fun a123=>xv fun a124=>xv fun a125=>xv fun a126=>x0 (
.fin .normal [a122,a123,a124,a125,a126])) <| xv fun a127=>xv fun a128=>xv fun a129=>xv fun a130=>xv fun a131=>x0 (
.fin .normal [a127,a128,a129,a130,a131])) <| xv fun a132=>xv fun a133=>xv fun a134=>xv fun a135=>xv fun a136=>x0 (
.fin .normal [a132,a133,a134,a135,a136])) <| xv fun a137=>xv fun a138=>xv fun a139=>xv fun a140=>xv fun a141=>x0 (
.op (x_add a137 (.p (.int .i64 1))) fun a142 =>
.fin .normal [a142,a138,a139,a140,a141])) <|
.fin (.exit 1) [])) <| x0 (
.fin .ret []))
noncomputable def zfd:HFun:=⟨3,zmb,[],false⟩
theorem zjj:HOK tr.look F_Q57 zfd:=⟨i_Q57,(.sq .lf (.bk [] (.lp [10,1,0,8,9] (.sq .lf (.sq (.cj .lf .lf) (.sq (.bk [10,1,0,8,9] (.sq .lf (.bk [10,1,0,8,9] (.sq .lf (.cd [10,1,0,8,9] .lf (.sq .lf (.cd [10,1,0,8,9] .lf .lf))))))) .lf)))))),[],look_Q57,rfl,rfl,rfl,rfl,rfl,by kernel_rfl⟩
noncomputable def zhh:List IVal→HC XF:=xv fun a0=>xv fun a1=>x0 (
.fresh [2,3] [a0,a1] <|
.op (x_box (some 2) 2 a0) fun a2 =>
.op (x_box (some 3) 2 a1) fun a3 =>
.op (zaa 0 a2) fun a4 =>
.op (zab none a4) fun a5 =>
.op (zaa 0 a3) fun a6 =>
.op (zab none a6) fun a7 =>
.op (zad (.p (.func F_Q60)) [a5,a7]) fun a8 =>
.fin .ret [a8])
noncomputable def zcz:HFun:=⟨2,zhh,[.tmp 4],true⟩
theorem zfw:HOK tr.look F_Q59 zcz:=⟨i_Q59,(.sq .lf (.sq .lf .lf)),[],look_Q59,rfl,rfl,rfl,rfl,rfl,by kernel_rfl⟩
noncomputable def zpc:List IVal→HC XF:=xv fun a0=>xv fun a1=>x0 (
.op (zad (.p (.func F_Q92)) [a0]) fun a2 =>
.op (zad (.p (.func F_Q92)) [a1]) fun a3 =>
.cond a2 (.cond a3 (.fin .ret [(.p (.int .i64 0))]) <|
.fin .ret [(.p (.int .i64 (-1)))]) <|
.cond a3 (.fin .ret [(.p (.int .i64 1))]) <|
.op (x_lss a0 a1) fun a4 =>
.cond a4 (.fin .ret [(.p (.int .i64 (-1)))]) <|
.op (x_gtr a0 a1) fun a5 =>
.cond a5 (.fin .ret [(.p (.int .i64 1))]) <|
.fin .ret [(.p (.int .i64 0))])
noncomputable def zgk:HFun:=⟨2,zpc,[.tmp 4],true⟩
theorem zmc:HOK tr.look F_Q60 zgk:=⟨i_Q60,(.sq .lf (.sq .lf (.sq .lf (.sq (.sq .lf (.cj (.sq (.sq .lf (.cj (.sq .lf .lf) .lf)) (.sq .lf .lf)) .lf)) (.sq (.sq .lf (.cj (.sq .lf .lf) .lf)) (.sq (.sq .lf (.cj (.sq .lf .lf) .lf)) (.sq (.sq .lf (.cj (.sq .lf .lf) .lf)) (.sq .lf .lf)))))))),[],look_Q60,rfl,rfl,rfl,rfl,rfl,by kernel_rfl⟩
noncomputable def zzs:List IVal→HC XF:=xv fun a0=>xv fun a1=>xv fun a2=>x0 (
.fresh [3,4] [a0,a1,a2] <|
.op (x_box (some 3) 5 a0) fun a3 =>
.op (x_box (some 4) 5 a1) fun a4 =>
.op (zab (some 5) a3) fun a5 =>
.op (zab (some 5) a4) fun a6 =>
.op (zad (.p (.func F_Q78)) [a5,a6,a2]) fun a7 =>
.op (x_not a7) fun a8 =>
.cond a8 (.fin .ret [(.p .nilslice),(.p (.int .i64 1))]) <|
.op (zab (some 5) a3) fun a9 =>
.op (zad (.p (.func F_Q47)) [a9]) fun a10 =>
.op (zab (some 5) a4) fun a11 =>
.op (zad (.p (.func F_Q47)) [a11]) fun a12 =>
.op (zcc) fun a13 =>
.op (x_len a10) fun a14 =>
.op (zak [.nilptr, .nilslice, .nilmap,(.int .i64 0), .nilslice,(.bool false)] [(1,1,a12),(2,1,a13),(3,1,a14)]) fun a15 =>
.op (x_box none 6 a15) fun a16 =>
.op (zab (some 5) a3) fun a17 =>
.op (zad (.p (.func F_Q93)) [a17]) fun a18 =>
.op (zae a18 0) fun a19 =>
.op (zae a18 1) fun _ =>
.op (x_nil a16) fun a21 =>
.op (zaa 0 a21) fun a22 =>
.op (zaf 1 a22 a19) fun _ =>
.op (x_len a10) fun a24 =>
.op (zdp 1 [(.bool false)] (.const a24) (.const a24)) fun a25 =>
.op (x_len a25) fun a26 =>
.op (zdp 1 [(.bool false)] (.const a26) (.const a26)) fun a27 =>
.op (zamd 1 (.const a27) (.const a25)) fun _ =>
.op (x_len a2) fun a29 =>
.block 1 (.loop [(.p (.int .i64 0)),a25,a10,a27,a16,a2,a3,a29] <| xv fun a30=>xv fun a31=>xv fun a32=>xv fun a33=>xv fun a34=>xv fun a35=>xv fun a36=>xv fun a37=>x0 (
.op (x_lss a30 a37) fun a38 =>
.cond a38 (.block 2 (.fresh [13] [a38,a30,a31,a32,a33,a34,a35,a36,a37] <|
.op (zac 2 a35 a30) fun a39 =>
.op (zab (some 2) a39) fun a40 =>
.op (zaj (some 13) [(.int .i64 0),(.int .i64 0)]) fun a41 =>
.op (zaf 2 a41 a40) fun _ =>
.op (x_nil a34) fun a43 =>
.op (zaa 2 a43) fun a44 =>
.op (zab none a44) fun a45 =>
.op (zaa 1 a41) fun a46 =>
.op (zab none a46) fun a47 =>
.op (zaa 0 a41) fun a48 =>
.op (zab none a48) fun a49 =>
.op (zby ⟨false,[.int]⟩ (.const a45) (.const a47) (.const a49)) fun _ =>
.op (zaa 0 a41) fun a51 =>
.op (zab none a51) fun a52 =>
.op (zac 1 a33 a52) fun a53 =>
.op (zaf 1 a53 (.p (.bool true))) fun _ =>
.op (zaa 0 a41) fun a55 =>
.op (zab none a55) fun a56 =>
.block 3 (.loop [a56,a32,a31,a30,a33,a34,a35,a36,a37] <| xv fun a57=>xv fun a58=>xv fun a59=>xv fun a60=>xv fun a61=>xv fun a62=>xv fun a63=>xv fun a64=>xv fun a65=>x0 (
.op (x_geq a57 (.p (.int .i64 0))) fun a66 =>
.cond a66 (.block 4 (.op (zac 1 a59 a57) fun a67 =>
.op (zaf 1 a67 (.p (.bool true))) fun _ =>
.fin .normal [a57,a58,a59,a60,a61,a62,a63,a64,a65]) <| xv fun a69=>xv fun a70=>xv fun a71=>xv fun a72=>xv fun a73=>xv fun a74=>xv fun a75=>xv fun a76=>xv fun a77=>x0 (
.op (zac 10 a70 a69) fun a78 =>
.op (zaa 0 a78) fun a79 =>
.op (zab none a79) fun a80 =>
.fin .normal [a80,a70,a71,a72,a73,a74,a75,a76,a77])) <|
.fin (.exit 3) [a60,a59,a58,a61,a62,a63,a64,a65])) <| xv fun a81=>xv fun a82=>xv fun a83=>xv fun a84=>xv fun a85=>xv fun a86=>xv fun a87=>xv fun a88=>x0 (
.fin .normal [a81,a82,a83,a84,a85,a86,a87,a88])) <| xv fun a89=>xv fun a90=>xv fun a91=>xv fun a92=>xv fun a93=>xv fun a94=>xv fun a95=>xv fun a96=>x0 (
.op (x_add a89 (.p (.int .i64 1))) fun a97 =>
.fin .normal [a97,a90,a91,a92,a93,a94,a95,a96])) <|
.fin (.exit 1) [a36,a34,a31,a33])) <| xv fun a98=>xv fun a99=>xv fun a100=>xv fun a101=>x0 (
.op (zab (some 5) a98) fun a102 =>
.op (zad (.p (.func F_Q72)) [a102]) fun a103 =>
.op (x_len a103) fun a104 =>
.block 5 (.loop [(.p (.int .i64 0)),a99,a100,a103,a103,a101,a104] <| xv fun a105=>xv fun a106=>xv fun a107=>xv fun a108=>xv fun a109=>xv fun a110=>xv fun a111=>x0 (
.op (x_lss a105 a111) fun a112 =>
.cond a112 (.block 6 (.op (zac 1 a108 a105) fun a113 =>
.op (zab none a113) fun a114 =>
.op (zac 1 a107 a114) fun a115 =>
.op (zab none a115) fun a116 =>
.op (x_not a116) fun a117 =>
.block 0 (.cond a117 (.op (zak [(.int .i64 0),(.int .i64 0),(.int .i64 0),(.int .i64 0),(.int .i64 0),(.str []),(.str [])] [(0,1,(.p (.int .i64 2))),(1,1,a114)]) fun a118 =>
.op (zad (.p (.func F_Q94)) [a106,a118]) fun _ =>
.fin .normal [a105,a106,a107,a108,a109,a110,a111]) <|
.fin .normal [a105,a106,a107,a108,a109,a110,a111]) <| xv fun a120=>xv fun a121=>xv fun a122=>xv fun a123=>xv fun a124=>xv fun a125=>xv fun a126=>x0 (
.fin .normal [a120,a121,a122,a123,a124,a125,a126])) <| xv fun a127=>xv fun a128=>xv fun a129=>xv fun a130=>xv fun a131=>xv fun a132=>xv fun a133=>x0 (
.op (x_add a127 (.p (.int .i64 1))) fun a134 =>
.fin .normal [a134,a128,a129,a130,a131,a132,a133])) <|
.fin (.exit 5) [a106,a109,a110,a107])) <| xv fun a135=>xv fun a136=>xv fun a137=>xv fun a138=>x0 (
.block 7 (.loop [(.p (.int .i64 1)),a135,a136,a137,a138] <| xv fun a139=>xv fun a140=>xv fun a141=>xv fun a142=>xv fun a143=>x0 (
.op (x_nil a140) fun a144 =>
.op (zaa 1 a144) fun a145 =>
.op (zab none a145) fun a146 =>
.op (x_len a146) fun a147 =>
.op (x_lss a139 a147) fun a148 =>
.opg a148 true (x_mov a140) fun a149 =>
.opg a148 true (x_nil a149) fun a150 =>
.opg a148 true (zaa 5 a150) fun a151 =>
.opg a148 true (zab none a151) fun a152 =>
.opg a148 true (x_not a152) fun a153 =>
.op (zah a148 a153 (.p (.bool false))) fun a154 =>
.cond a154 (.block 8 (.op (zad (.p (.func F_Q95)) [a140,a139]) fun _ =>
.fin .normal [a139,a140,a141,a142,a143]) <| xv fun a156=>xv fun a157=>xv fun a158=>xv fun a159=>xv fun a160=>x0 (
.op (x_add a156 (.p (.int .i64 1))) fun a161 =>
.fin .normal [a161,a157,a158,a159,a160])) <|
.fin (.exit 7) [a141,a140,a142,a143])) <| xv fun a162=>xv fun a163=>xv fun a164=>xv fun a165=>x0 (
.op (x_len a162) fun a166 =>
.block 9 (.loop [(.p (.int .i64 0)),a163,a164,a165,a162,a166] <| xv fun a167=>xv fun a168=>xv fun a169=>xv fun a170=>xv fun a171=>xv fun a172=>x0 (
.op (x_lss a167 a172) fun a173 =>
.cond a173 (.block 10 (.op (zac 1 a171 a167) fun a174 =>
.op (zab none a174) fun a175 =>
.op (zac 1 a170 a175) fun a176 =>
.op (zab none a176) fun a177 =>
.opg a177 true (x_mov a169) fun a178 =>
.opg a177 true (x_mov a175) fun a179 =>
.opg a177 true (zac 1 a178 a179) fun a180 =>
.opg a177 true (zab none a180) fun a181 =>
.opg a177 true (x_not a181) fun a182 =>
.op (zah a177 a182 (.p (.bool false))) fun a183 =>
.block 0 (.cond a183 (.op (zak [(.int .i64 0),(.int .i64 0),(.int .i64 0),(.int .i64 0),(.int .i64 0),(.str []),(.str [])] [(0,1,(.p (.int .i64 2))),(1,1,a175)]) fun a184 =>
.op (zad (.p (.func F_Q94)) [a168,a184]) fun _ =>
.fin .normal [a167,a168,a169,a170,a171,a172]) <|
.fin .normal [a167,a168,a169,a170,a171,a172]) <| xv fun a186=>xv fun a187=>xv fun a188=>xv fun a189=>xv fun a190=>xv fun a191=>x0 (
.fin .normal [a186,a187,a188,a189,a190,a191])) <| xv fun a192=>xv fun a193=>xv fun a194=>xv fun a195=>xv fun a196=>xv fun a197=>x0 (
.op (x_add a192 (.p (.int .i64 1))) fun a198 =>
.fin .normal [a198,a193,a194,a195,a196,a197])) <|
.fin (.exit 9) [a168])) <| xv fun a199=>x0 (
.op (x_nil a199) fun a200 =>
.op (zaa 5 a200) fun a201 =>
.op (zab none a201) fun a202 =>
.cond a202 (.fin .ret [(.p .nilslice),(.p (.int .i64 2))]) <|
.op (x_nil a199) fun a203 =>
.op (zaa 4 a203) fun a204 =>
.op (zab none a204) fun a205 =>
.fin .ret [a205,(.p (.int .i64 0))])))))
noncomputable def znt:HFun:=⟨3,zzs,[.tmp 6, .tmp 7],true⟩
theorem zuc:HOK tr.look F_Q61 znt:=⟨i_Q61,(.sq .lf (.sq (.sq .lf (.cj (.sq .lf .lf) .lf)) (.sq .lf (.sq .lf (.sq .lf (.sq .lf (.sq .lf (.sq .lf (.sq (.sq .lf (.bk [3,9,10,11] (.lp [54,10,8,11,9,52,3,53] (.sq .lf (.sq (.cj .lf .lf) (.sq (.bk [54,10,8,11,9,52,3,53] (.sq .lf (.sq .lf (.sq .lf (.sq .lf (.bk [54,10,8,11,9,52,3,53] (.lp [14,8,10,54,11,9,52,3,53] (.sq (.sq .lf (.cj .lf .lf)) (.sq (.bk [14,8,10,54,11,9,52,3,53] .lf) .lf))))))))) .lf)))))) (.sq .lf (.sq (.sq .lf (.bk [9,15,11,10] (.lp [87,9,10,85,15,11,86] (.sq .lf (.sq (.cj .lf .lf) (.sq (.bk [87,9,10,85,15,11,86] (.sq .lf (.sq .lf (.cd [87,9,10,85,15,11,86] .lf .lf)))) .lf)))))) (.sq (.sq .lf (.bk [15,9,11,10] (.lp [18,9,15,11,10] (.sq (.sq .lf (.cj .lf .lf)) (.sq (.bk [18,9,15,11,10] .lf) .lf))))) (.sq (.sq .lf (.bk [9] (.lp [122,9,11,10,120,121] (.sq .lf (.sq (.cj .lf .lf) (.sq (.bk [122,9,11,10,120,121] (.sq .lf (.sq .lf (.cd [122,9,11,10,120,121] .lf .lf)))) .lf)))))) (.sq (.sq .lf (.cj (.sq .lf .lf) .lf)) (.sq .lf .lf))))))))))))))),[],look_Q61,rfl,rfl,rfl,rfl,rfl,by kernel_rfl⟩
noncomputable def zafg:List IVal→HC XF:=xv fun a0=>x0 (
.fresh [1] [a0] <|
.op (x_box (some 1) 5 a0) fun a1 =>
.op (zaa 0 a1) fun a2 =>
.op (zab none a2) fun a3 =>
.op (x_eql a3 (.p (.int .i64 2))) fun a4 =>
.cond a4 (.op (zaa 1 a1) fun a5 =>
.op (zab none a5) fun a6 =>
.op (zad (.p (.func 96)) [a6]) fun a7 =>
.opg a7 true (zaa 2 a1) fun a8 =>
.opg a7 true (zab none a8) fun a9 =>
.opg a7 true (x_eql a9 (.p (.str []))) fun a10 =>
.op (zah a7 a10 (.p (.bool false))) fun a11 =>
.opg a11 true (zaa 3 a1) fun a12 =>
.opg a11 true (zab none a12) fun a13 =>
.opg a11 true (zad (.p (.func 97)) [a13]) fun a14 =>
.op (zah a11 a14 (.p (.bool false))) fun a15 =>
.opg a15 true (zab (some 5) a1) fun a16 =>
.opg a15 true (zad (.p (.func F_Q46)) [a16]) fun a17 =>
.op (zah a15 a17 (.p (.bool false))) fun a18 =>
.fin .ret [a18]) <|
.op (zaa 3 a1) fun a19 =>
.op (zab none a19) fun a20 =>
.op (x_len a20) fun a21 =>
.op (x_gtr a21 (.p (.int .i64 0))) fun a22 =>
.opg a22 false (zaa 4 a1) fun a23 =>
.opg a22 false (zab none a23) fun a24 =>
.opg a22 false (x_len a24) fun a25 =>
.opg a22 false (x_gtr a25 (.p (.int .i64 0))) fun a26 =>
.op (zah a22 (.p (.bool true)) a26) fun a27 =>
.cond a27 (.fin .ret [(.p (.bool false))]) <|
.op (zaa 0 a1) fun a28 =>
.op (zab none a28) fun a29 =>
.block 1 (.op (x_eql a29 (.p (.int .i64 3))) fun a30 =>
.cond a30 (.op (zaa 1 a1) fun a31 =>
.op (zab none a31) fun a32 =>
.op (x_eql a32 (.p (.str []))) fun a33 =>
.opg a33 true (zaa 2 a1) fun a34 =>
.opg a33 true (zab none a34) fun a35 =>
.opg a33 true (x_neq a35 (.p (.str []))) fun a36 =>
.op (zah a33 a36 (.p (.bool false))) fun a37 =>
.opg a37 true (zaa 2 a1) fun a38 =>
.opg a37 true (zab none a38) fun a39 =>
.opg a37 true (zki a39) fun a40 =>
.opg a37 true (x_leq a40 (.p (.int .i64 4096))) fun a41 =>
.op (zah a37 a41 (.p (.bool false))) fun a42 =>
.fin .ret [a42]) <|
.op (x_eql a29 (.p (.int .i64 4))) fun a43 =>
.cond a43 (.op (zaa 1 a1) fun a44 =>
.op (zab none a44) fun a45 =>
.op (x_eql a45 (.p (.str []))) fun a46 =>
.opg a46 true (zaa 2 a1) fun a47 =>
.opg a46 true (zab none a47) fun a48 =>
.opg a46 true (zki a48) fun a49 =>
.opg a46 true (x_leq a49 (.p (.int .i64 4096))) fun a50 =>
.op (zah a46 a50 (.p (.bool false))) fun a51 =>
.fin .ret [a51]) <|
.op (x_eql a29 (.p (.int .i64 5))) fun a52 =>
.cond a52 (.op (zaa 2 a1) fun a53 =>
.op (zab none a53) fun a54 =>
.op (x_eql a54 (.p (.str []))) fun a55 =>
.opg a55 true (zaa 1 a1) fun a56 =>
.opg a55 true (zab none a56) fun a57 =>
.opg a55 true (zki a57) fun a58 =>
.opg a55 true (x_leq a58 (.p (.int .i64 32))) fun a59 =>
.op (zah a55 a59 (.p (.bool false))) fun a60 =>
.fin .ret [a60]) <|
.fin .normal []) <| x0 (
.fin .ret [(.p (.bool false))]))
noncomputable def zud:HFun:=⟨1,zafg,[.tmp 2],true⟩
theorem zzt:HOK tr.look F_Q64 zud:=⟨i_Q64,(.sq .lf (.sq (.sq .lf (.cj (.sq .lf .lf) .lf)) (.sq (.sq .lf (.cj (.sq .lf .lf) .lf)) (.sq (.sq .lf (.bk [] (.sq .lf (.cj (.sq .lf .lf) (.sq .lf (.cj (.sq .lf .lf) (.sq .lf (.cj (.sq .lf .lf) .lf)))))))) (.sq .lf .lf))))),[],look_Q64,rfl,rfl,rfl,rfl,rfl,by kernel_rfl⟩
noncomputable def zafh:List IVal→HC XF:=xv fun a0=>xv fun a1=>x0 (
.op (zak [.nilptr,(.int .i64 0),(.int .i64 0),(.int .i64 0)] [(0,1,a0),(1,1,(.p (.int .i64 (-1))))]) fun a2 =>
.op (zag 4 1 [.nilptr,(.int .i64 0),(.int .i64 0),(.int .i64 0)] [(0,4,a2)]) fun a3 =>
.block 1 (.loop [(.p (.int .i64 0)),a1,a3] <| xv fun a4=>xv fun a5=>xv fun a6=>x0 (
.op (x_len a6) fun a7 =>
.op (x_gtr a7 (.p (.int .i64 0))) fun a8 =>
.cond a8 (.block 2 (.fresh [6] [a8,a7,a6,a4,a5,a6] <|
.op (x_len a6) fun a9 =>
.op (x_sub a9 (.p (.int .i64 1))) fun a10 =>
.op (zac 4 a6 a10) fun a11 =>
.op (zab (some 4) a11) fun a12 =>
.op (zaj (some 6) [.nilptr,(.int .i64 0),(.int .i64 0),(.int .i64 0)]) fun a13 =>
.op (zaf 4 a13 a12) fun _ =>
.op (x_len a6) fun a15 =>
.op (x_sub a15 (.p (.int .i64 1))) fun a16 =>
.op (zjd 4 a6 none (some a16)) fun a17 =>
.op (zab (some 4) a13) fun a18 =>
.op (zad a5 [a4,a18]) fun a19 =>
.op (x_not a19) fun a20 =>
.cond a20 (.fin (.exit 1) []) <|
.op (zaa 0 a13) fun a21 =>
.op (zab none a21) fun a22 =>
.op (x_nil a22) fun a23 =>
.op (zaa 4 a23) fun a24 =>
.op (zab none a24) fun a25 =>
.op (x_len a25) fun a26 =>
.op (x_sub a26 (.p (.int .i64 1))) fun a27 =>
.block 3 (.loop [a27,a17,a13,a4,a5] <| xv fun a28=>xv fun a29=>xv fun a30=>xv fun a31=>xv fun a32=>x0 (
.op (x_geq a28 (.p (.int .i64 0))) fun a33 =>
.cond a33 (.block 4 (.op (zaa 0 a30) fun a34 =>
.op (zab none a34) fun a35 =>
.op (x_nil a35) fun a36 =>
.op (zaa 4 a36) fun a37 =>
.op (zab none a37) fun a38 =>
.op (zac 5 a38 a28) fun a39 =>
.op (zaa 2 a30) fun a40 =>
.op (zab none a40) fun a41 =>
.op (x_add a41 (.p (.int .i64 1))) fun a42 =>
.op (zak [.nilptr,(.int .i64 0),(.int .i64 0),(.int .i64 0)] [(0,1,a39),(1,1,a31),(2,1,a42),(3,1,a28)]) fun a43 =>
.op (zag 4 1 [.nilptr,(.int .i64 0),(.int .i64 0),(.int .i64 0)] [(0,4,a43)]) fun a44 =>
.op (zal 4 (.const a29) (.const a44)) fun a45 =>
.fin .normal [a28,a45,a30,a31,a32]) <| xv fun a46=>xv fun a47=>xv fun a48=>xv fun a49=>xv fun a50=>x0 (
.op (x_sub a46 (.p (.int .i64 1))) fun a51 =>
.fin .normal [a51,a47,a48,a49,a50])) <|
.fin (.exit 3) [a31,a32,a29])) <| xv fun a52=>xv fun a53=>xv fun a54=>x0 (
.op (x_add a52 (.p (.int .i64 1))) fun a55 =>
.fin .normal [a55,a53,a54])) <| xv fun a56=>xv fun a57=>xv fun a58=>x0 (
.fin .normal [a56,a57,a58])) <|
.fin (.exit 1) [])) <| x0 (
.fin .ret []))
noncomputable def zue:HFun:=⟨2,zafh,[],false⟩
theorem zzu:HOK tr.look F_Q65 zue:=⟨i_Q65,(.sq .lf (.sq .lf (.sq .lf (.bk [] (.lp [5,1,4] (.sq (.sq .lf (.cj .lf .lf)) (.bk [5,1,4] (.sq .lf (.sq .lf (.sq (.sq .lf (.cj .lf .lf)) (.sq (.sq .lf (.bk [5,1,4] (.lp [7,4,6,5,1] (.sq (.sq .lf (.cj .lf .lf)) (.sq (.bk [7,4,6,5,1] .lf) .lf))))) .lf))))))))))),[],look_Q65,rfl,rfl,rfl,rfl,rfl,by kernel_rfl⟩
noncomputable def zzv:List IVal→HC XF:=xv fun a0=>xv fun a1=>xv fun a2=>x0 (
.fresh [4] [a0,a1,a2] <|
.op (x_box (some 4) 4 a1) fun a3 =>
.fresh [6] [(.p (.bool false)),a3,a0,a1,a2] <|
.op (zaa 0 a3) fun a4 =>
.op (zab none a4) fun a5 =>
.op (x_nil a5) fun a6 =>
.op (zab (some 5) a6) fun a7 =>
.op (zaj (some 6) [(.int .i64 0),(.str []),(.str []), .nilslice, .nilslice]) fun a8 =>
.op (zaf 5 a8 a7) fun _ =>
.op (zaa 4 a8) fun a10 =>
.op (zaf 1 a10 (.p .nilslice)) fun _ =>
.op (zaa 3 a8) fun a12 =>
.op (zab none a12) fun a13 =>
.op (zad (.p (.func F_Q67)) [a13]) fun a14 =>
.op (zaa 3 a8) fun a15 =>
.op (zaf 1 a15 a14) fun _ =>
.op (zab none a2) fun a17 =>
.op (zaa 1 a3) fun a18 =>
.op (zab none a18) fun a19 =>
.op (zaa 2 a3) fun a20 =>
.op (zab none a20) fun a21 =>
.op (zaa 3 a3) fun a22 =>
.op (zab none a22) fun a23 =>
.op (zab (some 5) a8) fun a24 =>
.op (zak [(.int .i64 0),(.int .i64 0),(.int .i64 0),(.int .i64 0),(.int .i64 0),(.int .i64 0),(.str []),(.str []), .nilslice, .nilslice] [(0,1,a19),(1,1,(.p (.int .i64 1))),(2,1,a21),(3,1,(.p (.int .i64 1))),(4,1,a23),(5,5,a24)]) fun a25 =>
.op (zag 10 1 [(.int .i64 0),(.int .i64 0),(.int .i64 0),(.int .i64 0),(.int .i64 0),(.int .i64 0),(.str []),(.str []), .nilslice, .nilslice] [(0,10,a25)]) fun a26 =>
.op (zal 10 (.const a17) (.const a26)) fun a27 =>
.op (zaf 1 a2 a27) fun _ =>
.fin .ret [(.p (.bool true))])
noncomputable def znu:HFun:=⟨3,zzv,[.tmp 5],false⟩
theorem zuf:HOK tr.look F_Q66 znu:=⟨i_Q66,(.sq .lf (.sq .lf (.sq .lf (.sq .lf (.sq .lf (.sq .lf .lf)))))),[],look_Q66,rfl,rfl,rfl,rfl,rfl,by kernel_rfl⟩
noncomputable def zda:List IVal→HC XF:=xv fun a0=>x0 (
.op (zarr false (.const a0) (.const (.p .nilslice))) fun a1 =>
.cond a1 (.fin .ret [(.p .nilslice)]) <|
.op (zag 2 0 [(.str []),(.str [])] []) fun a2 =>
.op (zal 2 (.const a2) (.const a0)) fun a3 =>
.fin .ret [a3])
noncomputable def zbf:HFun:=⟨1,zda,[.tmp 2],false⟩
theorem zcp:HOK tr.look F_Q67 zbf:=⟨i_Q67,(.sq .lf (.sq (.sq .lf (.cj (.sq .lf .lf) .lf)) (.sq .lf .lf))),[],look_Q67,rfl,rfl,rfl,rfl,rfl,by kernel_rfl⟩
noncomputable def zacu:List IVal→HC XF:=xv fun a0=>xv fun a1=>x0 (
.op (x_add a1 (.p (.int .i64 1))) fun a2 =>
.block 1 (.loop [a2,a0,(.p .nilslice),a1] <| xv fun a3=>xv fun a4=>xv fun a5=>xv fun a6=>x0 (
.op (zac 10 a4 a6) fun a7 =>
.op (zaa 1 a7) fun a8 =>
.op (zab none a8) fun a9 =>
.op (x_add a6 a9) fun a10 =>
.op (x_lss a3 a10) fun a11 =>
.cond a11 (.block 2 (.op (zag 1 1 [(.int .i64 0)] [(0,1,a3)]) fun a12 =>
.op (zal 1 (.const a5) (.const a12)) fun a13 =>
.fin .normal [a3,a4,a13,a6]) <| xv fun a14=>xv fun a15=>xv fun a16=>xv fun a17=>x0 (
.op (zac 10 a15 a14) fun a18 =>
.op (zaa 1 a18) fun a19 =>
.op (zab none a19) fun a20 =>
.op (x_add a14 a20) fun a21 =>
.fin .normal [a21,a15,a16,a17])) <|
.fin (.exit 1) [a5])) <| xv fun a22=>x0 (
.fin .ret [a22]))
noncomputable def zqi:HFun:=⟨2,zacu,[.tmp 4],true⟩
theorem zvn:HOK tr.look F_Q68 zqi:=⟨i_Q68,(.sq .lf (.sq .lf (.sq (.sq .lf (.bk [5] (.lp [6,0,5,1] (.sq (.sq .lf (.cj .lf .lf)) (.sq (.bk [6,0,5,1] .lf) .lf))))) (.sq .lf .lf)))),[],look_Q68,rfl,rfl,rfl,rfl,rfl,by kernel_rfl⟩
noncomputable def zacv:List IVal→HC XF:=xv fun a0=>x0 (
.op (x_len a0) fun a1 =>
.op (zdp 1 [.nilslice] (.const a1) (.const a1)) fun a2 =>
.op (x_len a0) fun a3 =>
.block 1 (.loop [(.p (.int .i64 0)),a2,a0,a3] <| xv fun a4=>xv fun a5=>xv fun a6=>xv fun a7=>x0 (
.op (x_lss a4 a7) fun a8 =>
.cond a8 (.block 2 (.fresh [5] [a8,a4,a5,a6,a7] <|
.op (zac 10 a6 a4) fun a9 =>
.op (zab (some 10) a9) fun a10 =>
.op (zaj (some 5) [(.int .i64 0),(.int .i64 0),(.int .i64 0),(.int .i64 0),(.int .i64 0),(.int .i64 0),(.str []),(.str []), .nilslice, .nilslice]) fun a11 =>
.op (zaf 10 a11 a10) fun _ =>
.op (zaa 0 a11) fun a13 =>
.op (zab none a13) fun a14 =>
.op (x_geq a14 (.p (.int .i64 0))) fun a15 =>
.block 0 (.cond a15 (.op (zaa 0 a11) fun a16 =>
.op (zab none a16) fun a17 =>
.op (zaa 0 a11) fun a18 =>
.op (zab none a18) fun a19 =>
.op (zac 1 a5 a19) fun a20 =>
.op (zab none a20) fun a21 =>
.op (zag 1 1 [(.int .i64 0)] [(0,1,a4)]) fun a22 =>
.op (zal 1 (.const a21) (.const a22)) fun a23 =>
.op (zac 1 a5 a17) fun a24 =>
.chk (.load none (.const a16)) a17 <|
.op (zaf 1 a24 a23) fun _ =>
.fin .normal [a4,a5,a6,a7]) <|
.fin .normal [a4,a5,a6,a7]) <| xv fun a26=>xv fun a27=>xv fun a28=>xv fun a29=>x0 (
.fin .normal [a26,a27,a28,a29])) <| xv fun a30=>xv fun a31=>xv fun a32=>xv fun a33=>x0 (
.op (x_add a30 (.p (.int .i64 1))) fun a34 =>
.fin .normal [a34,a31,a32,a33])) <|
.fin (.exit 1) [a5])) <| xv fun a35=>x0 (
.fin .ret [a35]))
noncomputable def zqj:HFun:=⟨1,zacv,[.tmp 2],true⟩
theorem zvo:HOK tr.look F_Q69 zqj:=⟨i_Q69,(.sq .lf (.sq .lf (.sq (.sq .lf (.bk [3] (.lp [11,3,9,10] (.sq .lf (.sq (.cj .lf .lf) (.sq (.bk [11,3,9,10] (.sq .lf (.sq .lf (.cd [11,3,9,10] .lf .lf)))) .lf)))))) (.sq .lf .lf)))),[],look_Q69,rfl,rfl,rfl,rfl,rfl,by kernel_rfl⟩
noncomputable def zug:List IVal→HC XF:=xv fun a0=>xv fun a1=>xv fun a2=>x0 (
.fresh [3,4] [a0,a1,a2] <|
.op (x_box (some 3) 5 a0) fun a3 =>
.op (x_box (some 4) 5 a1) fun a4 =>
.op (zab (some 5) a3) fun a5 =>
.op (zad (.p (.func F_Q30)) [a5]) fun a6 =>
.op (x_not a6) fun a7 =>
.opg a7 false (zab (some 5) a4) fun a8 =>
.opg a7 false (zad (.p (.func F_Q30)) [a8]) fun a9 =>
.opg a7 false (x_not a9) fun a10 =>
.op (zah a7 (.p (.bool true)) a10) fun a11 =>
.cond a11 (.fin .ret [(.p .nilslice)]) <|
.op (zab (some 5) a3) fun a12 =>
.op (zab (some 5) a4) fun a13 =>
.op (zaj none [.nilptr]) fun a14 =>
.op (zaj none [.nilptr]) fun a15 =>
.op (zad (.p (.func F_Q98)) [a12]) fun a16 =>
.chk (.load (some 5) (.const a4)) a13 <|
.chk (.alloc none [.nilptr]) a14 <|
.chk (.alloc none [.nilptr]) a15 <|
.op (zad (.p (.func F_Q98)) [a13]) fun a17 =>
.chk (.alloc none [.nilptr]) a14 <|
.chk (.alloc none [.nilptr]) a15 <|
.op (zaf 1 a14 a16) fun _ =>
.op (zaf 1 a15 a17) fun _ =>
.op (zaj none [.nilslice]) fun a20 =>
.op (zhe 99 [(.const a14),(.const a20),(.const a15)]) fun a21 =>
.op (zab (some 5) a3) fun a22 =>
.op (zab (some 5) a4) fun a23 =>
.op (zad (.p (.func F_Q31)) [a22,a23]) fun a24 =>
.cond a24 (.op (zad a21 [(.p (.int .i64 0)),(.p (.int .i64 0))]) fun _ =>
.op (zab none a20) fun a26 =>
.fin .ret [a26]) <|
.op (zcc) fun a27 =>
.block 1 (.loop [(.p (.int .i64 1)),a15,a27,a14,a21,a20,a2] <| xv fun a28=>xv fun a29=>xv fun a30=>xv fun a31=>xv fun a32=>xv fun a33=>xv fun a34=>x0 (
.op (zab none a29) fun a35 =>
.op (x_nil a35) fun a36 =>
.op (zaa 5 a36) fun a37 =>
.op (zab none a37) fun a38 =>
.op (x_len a38) fun a39 =>
.op (x_lss a28 a39) fun a40 =>
.cond a40 (.block 2 (.op (zab none a29) fun a41 =>
.op (x_nil a41) fun a42 =>
.op (zaa 6 a42) fun a43 =>
.op (zab none a43) fun a44 =>
.op (zac 2 a44 a28) fun a45 =>
.op (zab (some 2) a45) fun a46 =>
.op (zag 1 1 [(.int .i64 0)] [(0,1,a28)]) fun a47 =>
.op (zkj (.p .nilslice) ⟨true,[.int, .int]⟩ (.const a30) (.const a46)) fun a48 =>
.op (zae a48 0) fun a49 =>
.op (zal 1 (.const a49) (.const a47)) fun a50 =>
.op (zae a48 1) fun a51 =>
.op (zoy (.const a30) (.const a51) (.const a50)) fun _ =>
.fin .normal [a28,a29,a30,a31,a32,a33,a34]) <| xv fun a53=>xv fun a54=>xv fun a55=>xv fun a56=>xv fun a57=>xv fun a58=>xv fun a59=>x0 (
.op (x_add a53 (.p (.int .i64 1))) fun a60 =>
.fin .normal [a60,a54,a55,a56,a57,a58,a59])) <|
.fin (.exit 1) [a31,a29,a32,a30,a33,a34])) <| xv fun a61=>xv fun a62=>xv fun a63=>xv fun a64=>xv fun a65=>xv fun a66=>x0 (
.op (zab none a61) fun a67 =>
.op (x_nil a67) fun a68 =>
.op (zaa 5 a68) fun a69 =>
.op (zab none a69) fun a70 =>
.op (zac 10 a70 (.p (.int .i64 0))) fun a71 =>
.op (zaa 3 a71) fun a72 =>
.op (zab none a72) fun a73 =>
.op (zab none a62) fun a74 =>
.op (x_nil a74) fun a75 =>
.op (zaa 5 a75) fun a76 =>
.op (zab none a76) fun a77 =>
.op (zac 10 a77 (.p (.int .i64 0))) fun a78 =>
.op (zaa 3 a78) fun a79 =>
.op (zab none a79) fun a80 =>
.op (zars [(.const a73),(.const a80)]) fun a81 =>
.block 3 (.loop [a81,a61,a62,a63,a64,a65,a66] <| xv fun a82=>xv fun a83=>xv fun a84=>xv fun a85=>xv fun a86=>xv fun a87=>xv fun a88=>x0 (
.op (zahd [(.const (.p (.int .i64 1))),(.const a88)]) fun a89 =>
.op (x_geq a82 a89) fun a90 =>
.cond a90 (.block 4 (.block 5 (.loop [(.p (.int .i64 1)),a86,a85,a84,a83,a82,a87,a88] <| xv fun a91=>xv fun a92=>xv fun a93=>xv fun a94=>xv fun a95=>xv fun a96=>xv fun a97=>xv fun a98=>x0 (
.op (zab none a95) fun a99 =>
.op (x_nil a99) fun a100 =>
.op (zaa 5 a100) fun a101 =>
.op (zab none a101) fun a102 =>
.op (x_len a102) fun a103 =>
.op (x_lss a91 a103) fun a104 =>
.cond a104 (.block 6 (.op (zab none a95) fun a105 =>
.op (x_nil a105) fun a106 =>
.op (zaa 7 a106) fun a107 =>
.op (zab none a107) fun a108 =>
.op (zac 1 a108 a91) fun a109 =>
.op (zab none a109) fun a110 =>
.opg a110 false (zab none a95) fun a111 =>
.opg a110 false (x_nil a111) fun a112 =>
.opg a110 false (zaa 5 a112) fun a113 =>
.opg a110 false (zab none a113) fun a114 =>
.opg a110 false (x_mov a91) fun a115 =>
.opg a110 false (zac 10 a114 a115) fun a116 =>
.opg a110 false (zaa 3 a116) fun a117 =>
.opg a110 false (zab none a117) fun a118 =>
.opg a110 false (x_mov a96) fun a119 =>
.opg a110 false (x_neq a118 a119) fun a120 =>
.op (zah a110 (.p (.bool true)) a120) fun a121 =>
.cond a121 (.fin (.exit 6) [a91,a92,a93,a94,a95,a96,a97,a98]) <|
.fresh [15] [a121,a120,a119,a118,a117,a116,a115,a114,a113,a112,a111,a110,a110,a109,a91,a108,a107,a106,a105,a104,a103,a102,a101,a100,a99,a91,a91,a92,a93,a94,a95,a96,a97,a98] <|
.op (zab none a95) fun a122 =>
.op (zad (.p (.func 100)) [a122,a91]) fun a123 =>
.op (zaj (some 15) [(.int .i64 0),(.str []),(.str []), .nilslice, .nilslice]) fun a124 =>
.op (zaf 5 a124 a123) fun _ =>
.op (zab none a95) fun a126 =>
.op (x_nil a126) fun a127 =>
.op (zaa 6 a127) fun a128 =>
.op (zab none a128) fun a129 =>
.op (zac 2 a129 a91) fun a130 =>
.op (zab (some 2) a130) fun a131 =>
.op (zas false (.p .nilslice) ⟨true,[.int, .int]⟩ (.const a92) (.const a131)) fun a132 =>
.op (x_len a132) fun a133 =>
.block 7 (.loop [a98,a97,a96,a95,a94,a93,a92,a91,(.p (.int .i64 0)),a124,a132,a133] <| xv fun a134=>xv fun a135=>xv fun a136=>xv fun a137=>xv fun a138=>xv fun a139=>xv fun a140=>xv fun a141=>xv fun a142=>xv fun a143=>xv fun a144=>xv fun a145=>x0 (
.op (x_lss a142 a145) fun a146 =>
.cond a146 (.block 8 (.op (zac 1 a144 a142) fun a147 =>
.op (zab none a147) fun a148 =>
.op (zab none a138) fun a149 =>
.op (x_nil a149) fun a150 =>
.op (zaa 7 a150) fun a151 =>
.op (zab none a151) fun a152 =>
.op (zac 1 a152 a148) fun a153 =>
.op (zab none a153) fun a154 =>
.op (x_not a154) fun a155 =>
.opg a155 true (zab none a138) fun a156 =>
.opg a155 true (x_nil a156) fun a157 =>
.opg a155 true (zaa 6 a157) fun a158 =>
.opg a155 true (zab none a158) fun a159 =>
.opg a155 true (x_mov a148) fun a160 =>
.opg a155 true (zac 2 a159 a160) fun a161 =>
.opg a155 true (zab (some 2) a161) fun a162 =>
.opg a155 true (zab none a137) fun a163 =>
.opg a155 true (x_nil a163) fun a164 =>
.opg a155 true (zaa 6 a164) fun a165 =>
.opg a155 true (zab none a165) fun a166 =>
.opg a155 true (x_mov a141) fun a167 =>
.opg a155 true (zac 2 a166 a167) fun a168 =>
.opg a155 true (zab (some 2) a168) fun a169 =>
.opg a155 true (x_eqv false ⟨true,[.int, .int]⟩ (.const a162) (.const a169)) fun a170 =>
.op (zah a155 a170 (.p (.bool false))) fun a171 =>
.opg a171 true (zab (some 5) a143) fun a172 =>
.opg a171 true (zab none a138) fun a173 =>
.opg a171 true (x_mov a148) fun a174 =>
.opg a171 true (zad (.p (.func 100)) [a173,a174]) fun a175 =>
.chkg a171 true (.load (some 5) (.const a143)) a172 <|
.opg a171 true (zad (.p (.func F_Q31)) [a172,a175]) fun a176 =>
.op (zah a171 a176 (.p (.bool false))) fun a177 =>
.cond a177 (.op (zad a139 [a141,a148]) fun _ =>
.fin (.exit 7) [a141,a140,a139,a138,a137,a136,a135,a134]) <|
.fin .normal [a142,a134,a135,a136,a137,a138,a139,a140,a141,a143,a144,a145]) <| xv fun a179=>xv fun a180=>xv fun a181=>xv fun a182=>xv fun a183=>xv fun a184=>xv fun a185=>xv fun a186=>xv fun a187=>xv fun a188=>xv fun a189=>xv fun a190=>x0 (
.op (x_add a179 (.p (.int .i64 1))) fun a191 =>
.fin .normal [a180,a181,a182,a183,a184,a185,a186,a187,a191,a188,a189,a190])) <|
.fin (.exit 7) [a141,a140,a139,a138,a137,a136,a135,a134])) <| xv fun a192=>xv fun a193=>xv fun a194=>xv fun a195=>xv fun a196=>xv fun a197=>xv fun a198=>xv fun a199=>x0 (
.fin .normal [a192,a193,a194,a195,a196,a197,a198,a199])) <| xv fun a200=>xv fun a201=>xv fun a202=>xv fun a203=>xv fun a204=>xv fun a205=>xv fun a206=>xv fun a207=>x0 (
.op (x_add a200 (.p (.int .i64 1))) fun a208 =>
.fin .normal [a208,a201,a202,a203,a204,a205,a206,a207])) <|
.fin (.exit 5) [a96,a95,a94,a93,a92,a97,a98])) <| xv fun a209=>xv fun a210=>xv fun a211=>xv fun a212=>xv fun a213=>xv fun a214=>xv fun a215=>x0 (
.fin .normal [a209,a210,a211,a212,a213,a214,a215])) <| xv fun a216=>xv fun a217=>xv fun a218=>xv fun a219=>xv fun a220=>xv fun a221=>xv fun a222=>x0 (
.op (x_sub a216 (.p (.int .i64 1))) fun a223 =>
.fin .normal [a223,a217,a218,a219,a220,a221,a222])) <|
.fin (.exit 3) [a87])) <| xv fun a224=>x0 (
.op (zab none a224) fun a225 =>
.op (zad (.p (.func F_Q58)) [a225,(.p (.func F_Q101))]) fun _ =>
.op (zab none a224) fun a227 =>
.fin .ret [a227])))
noncomputable def zjk:HFun:=⟨3,zug,[.tmp 6],true⟩
theorem zpd:HOK tr.look F_Q70 zjk:=⟨i_Q70,(.sq .lf (.sq (.sq .lf (.cj (.sq .lf .lf) .lf)) (.sq .lf (.sq .lf (.sq .lf (.sq (.sq .lf (.cj (.sq .lf (.sq .lf .lf)) .lf)) (.sq .lf (.sq (.sq .lf (.bk [7,8,10,11,9,2] (.lp [12,8,11,7,10,9,2] (.sq (.sq .lf (.cj .lf .lf)) (.sq (.bk [12,8,11,7,10,9,2] .lf) .lf))))) (.sq (.sq .lf (.bk [9] (.lp [13,7,8,10,11,9,2] (.sq (.sq .lf (.cj .lf .lf)) (.sq (.bk [13,7,8,10,11,9,2] (.sq .lf (.bk [13,7,8,10,11,9,2] (.lp [14,11,10,8,7,13,9,2] (.sq (.sq .lf (.cj .lf .lf)) (.sq (.bk [14,11,10,8,7,13,9,2] (.sq (.sq .lf (.cj .lf .lf)) (.sq .lf (.sq .lf (.bk [14,11,10,8,7,13,9,2] (.lp [2,9,13,7,8,10,11,14,123,15,121,122] (.sq .lf (.sq (.cj .lf .lf) (.sq (.bk [123,2,9,13,7,8,10,11,14,15,121,122] (.sq .lf (.sq .lf (.cj (.sq .lf .lf) .lf)))) .lf))))))))) .lf)))))) .lf))))) (.sq .lf (.sq .lf .lf))))))))))),[],look_Q70,rfl,rfl,rfl,rfl,rfl,by kernel_rfl⟩
noncomputable def zkm:List IVal→HC XF:=xv fun a0=>xv fun a1=>xv fun a2=>x0 (
.op (x_nil a0) fun a3 =>
.op (zaa 14 a3) fun a4 =>
.op (zab none a4) fun a5 =>
.op (x_nil a0) fun a6 =>
.op (zaa 15 a6) fun a7 =>
.op (zab none a7) fun a8 =>
.op (zkj (.p (.int .i64 0)) ⟨false,[.int]⟩ (.const a5) (.const a1)) fun a9 =>
.op (zae a9 1) fun a10 =>
.op (zoy (.const a5) (.const a10) (.const a2)) fun _ =>
.op (zkj (.p (.int .i64 0)) ⟨false,[.int]⟩ (.const a8) (.const a2)) fun a12 =>
.op (zae a12 1) fun a13 =>
.op (zoy (.const a8) (.const a13) (.const a1)) fun _ =>
.fin .ret [])
noncomputable def zea:HFun:=⟨3,zkm,[],false⟩
theorem zhs:HOK tr.look F_Q71 zea:=⟨i_Q71, .lf,[],look_Q71,rfl,rfl,rfl,rfl,rfl,by kernel_rfl⟩
noncomputable def zafi:List IVal→HC XF:=xv fun a0=>x0 (
.fresh [1] [a0] <|
.op (x_box (some 1) 5 a0) fun a1 =>
.op (zab (some 5) a1) fun a2 =>
.op (zad (.p (.func F_Q47)) [a2]) fun a3 =>
.op (x_len a3) fun a4 =>
.op (x_add a4 (.p (.int .i64 1))) fun a5 =>
.block 1 (.loop [a3,(.p .nilslice),(.p .nilslice),(.p (.int .i64 0)),a5] <| xv fun a6=>xv fun a7=>xv fun a8=>xv fun a9=>xv fun a10=>x0 (
.op (x_lss a9 a10) fun a11 =>
.cond a11 (.block 2 (.block 3 (.loop [a10,a7,a6,a9,a9,a8] <| xv fun a12=>xv fun a13=>xv fun a14=>xv fun a15=>xv fun a16=>xv fun a17=>x0 (
.op (x_len a17) fun a18 =>
.op (x_gtr a18 (.p (.int .i64 0))) fun a19 =>
.cond a19 (.block 4 (.op (x_len a17) fun a20 =>
.op (x_sub a20 (.p (.int .i64 1))) fun a21 =>
.op (zac 1 a17 a21) fun a22 =>
.op (zab none a22) fun a23 =>
.op (zac 10 a14 a23) fun a24 =>
.op (zaa 1 a24) fun a25 =>
.op (zab none a25) fun a26 =>
.op (x_add a23 a26) fun a27 =>
.op (x_lss a16 a27) fun a28 =>
.cond a28 (.fin (.exit 3) [a17,a16,a15,a14,a13,a12]) <|
.op (zag 1 1 [(.int .i64 0)] [(0,1,a23)]) fun a29 =>
.op (zal 1 (.const a13) (.const a29)) fun a30 =>
.op (x_len a17) fun a31 =>
.op (x_sub a31 (.p (.int .i64 1))) fun a32 =>
.op (zjd 1 a17 none (some a32)) fun a33 =>
.fin .normal [a12,a30,a14,a15,a16,a33]) <| xv fun a34=>xv fun a35=>xv fun a36=>xv fun a37=>xv fun a38=>xv fun a39=>x0 (
.fin .normal [a34,a35,a36,a37,a38,a39])) <|
.fin (.exit 3) [a17,a16,a15,a14,a13,a12])) <| xv fun a40=>xv fun a41=>xv fun a42=>xv fun a43=>xv fun a44=>xv fun a45=>x0 (
.op (zag 1 1 [(.int .i64 0)] [(0,1,a41)]) fun a46 =>
.op (zal 1 (.const a40) (.const a46)) fun a47 =>
.fin .normal [a42,a43,a44,a47,a45])) <| xv fun a48=>xv fun a49=>xv fun a50=>xv fun a51=>xv fun a52=>x0 (
.op (x_add a48 (.p (.int .i64 1))) fun a53 =>
.fin .normal [a49,a50,a51,a53,a52])) <|
.fin (.exit 1) [a7])) <| xv fun a54=>x0 (
.fin .ret [a54]))
noncomputable def zuh:HFun:=⟨1,zafi,[.tmp 2],true⟩
theorem zzw:HOK tr.look F_Q72 zuh:=⟨i_Q72,(.sq .lf (.sq .lf (.sq .lf (.sq (.sq .lf (.bk [4] (.lp [3,4,5,13,12] (.sq .lf (.sq (.cj .lf .lf) (.sq (.bk [13,3,4,5,12] (.sq .lf (.sq (.bk [5,6,13,3,4,12] (.lp [12,4,3,13,6,5] (.sq (.sq .lf (.cj .lf .lf)) (.bk [12,4,3,13,6,5] (.sq .lf (.sq (.sq .lf (.cj .lf .lf)) (.sq .lf .lf))))))) .lf))) .lf)))))) (.sq .lf .lf))))),[],look_Q72,rfl,rfl,rfl,rfl,rfl,by kernel_rfl⟩
noncomputable def zkn:List IVal→HC XF:=xv fun a0=>xv fun a1=>x0 (
.op (x_box none 1 a0) fun a2 =>
.op (x_box none 1 a1) fun a3 =>
.op (zab none a2) fun a4 =>
.op (zab none a3) fun a5 =>
.op (zad (.p (.func F_Q102)) [a4,a5]) fun a6 =>
.op (zhe 103 [(.const a2),(.const a3)]) fun a7 =>
.op (zab none a2) fun a8 =>
.op (x_nil a8) fun a9 =>
.op (zaa 11 a9) fun a10 =>
.op (zab none a10) fun a11 =>
.op (x_len a11) fun a12 =>
.block 1 (.loop [(.p (.int .i64 0)),a7,a6,(.p (.int .i64 (-1))),a2,a3,a12] <| xv fun a13=>xv fun a14=>xv fun a15=>xv fun a16=>xv fun a17=>xv fun a18=>xv fun a19=>x0 (
.op (x_lss a13 a19) fun a20 =>
.cond a20 (.block 2 (.op (zas false (.p (.int .i64 0)) ⟨false,[.int]⟩ (.const a15) (.const a13)) fun a21 =>
.op (x_eql a21 (.p (.int .i64 0))) fun a22 =>
.opg a22 false (zab none a17) fun a23 =>
.opg a22 false (zab none a18) fun a24 =>
.opg a22 false (x_mov a13) fun a25 =>
.opg a22 false (zad (.p (.func F_Q75)) [a23,a24,a25]) fun a26 =>
.opg a22 false (x_not a26) fun a27 =>
.op (zah a22 (.p (.bool true)) a27) fun a28 =>
.opg a28 false (zab none a17) fun a29 =>
.opg a28 false (x_nil a29) fun a30 =>
.opg a28 false (zaa 10 a30) fun a31 =>
.opg a28 false (zab none a31) fun a32 =>
.opg a28 false (zab none a18) fun a33 =>
.opg a28 false (zac 10 a32 a33) fun a34 =>
.opg a28 false (zab (some 10) a34) fun a35 =>
.opg a28 false (zab none a17) fun a36 =>
.opg a28 false (x_nil a36) fun a37 =>
.opg a28 false (zaa 11 a37) fun a38 =>
.opg a28 false (zab none a38) fun a39 =>
.opg a28 false (x_mov a13) fun a40 =>
.opg a28 false (zac 10 a39 a40) fun a41 =>
.opg a28 false (zab (some 10) a41) fun a42 =>
.opg a28 false (zad (.p (.func F_Q104)) [a35]) fun a43 =>
.chkg a28 false (.load none (.const a17)) a36 <|
.chkg a28 false (.load none (.const a38)) a39 <|
.chkg a28 false (.load (some 10) (.const a41)) a42 <|
.opg a28 false (zad (.p (.func F_Q104)) [a42]) fun a44 =>
.opg a28 false (x_eqv true ⟨true,[.int, .str]⟩ (.const a43) (.const a44)) fun a45 =>
.op (zah a28 (.p (.bool true)) a45) fun a46 =>
.cond a46 (.fin (.exit 2) [a13,a14,a15,a16,a17,a18,a19]) <|
.op (x_lss a16 (.p (.int .i64 0))) fun a47 =>
.opg a47 false (x_mov a15) fun a48 =>
.opg a47 false (x_mov a13) fun a49 =>
.opg a47 false (zas false (.p (.int .i64 0)) ⟨false,[.int]⟩ (.const a48) (.const a49)) fun a50 =>
.opg a47 false (x_mov a14) fun a51 =>
.opg a47 false (x_mov a13) fun a52 =>
.opg a47 false (x_mov a15) fun a53 =>
.opg a47 false (x_mov a16) fun a54 =>
.opg a47 false (zas false (.p (.int .i64 0)) ⟨false,[.int]⟩ (.const a53) (.const a54)) fun a55 =>
.opg a47 false (x_mov a14) fun a56 =>
.opg a47 false (x_mov a16) fun a57 =>
.opg a47 false (zad a51 [a52]) fun a58 =>
.chkg a47 false (.lookup false (.p (.int .i64 0)) ⟨false,[.int]⟩ (.const a48) (.const a49)) a50 <|
.chkg a47 false (.lookup false (.p (.int .i64 0)) ⟨false,[.int]⟩ (.const a53) (.const a54)) a55 <|
.opg a47 false (zad a56 [a57]) fun a59 =>
.chkg a47 false (.lookup false (.p (.int .i64 0)) ⟨false,[.int]⟩ (.const a48) (.const a49)) a50 <|
.chkg a47 false (.lookup false (.p (.int .i64 0)) ⟨false,[.int]⟩ (.const a53) (.const a54)) a55 <|
.opg a47 false (zad (.p (.func 105)) [a50,a58,a55,a59]) fun a60 =>
.opg a47 false (x_gtr a60 (.p (.int .i64 0))) fun a61 =>
.op (zah a47 (.p (.bool true)) a61) fun a62 =>
.block 0 (.cond a62 (.fin .normal [a13,a14,a15,a13,a17,a18,a19]) <|
.fin .normal [a13,a14,a15,a16,a17,a18,a19]) <| xv fun a63=>xv fun a64=>xv fun a65=>xv fun a66=>xv fun a67=>xv fun a68=>xv fun a69=>x0 (
.fin .normal [a63,a64,a65,a66,a67,a68,a69])) <| xv fun a70=>xv fun a71=>xv fun a72=>xv fun a73=>xv fun a74=>xv fun a75=>xv fun a76=>x0 (
.op (x_add a70 (.p (.int .i64 1))) fun a77 =>
.fin .normal [a77,a71,a72,a73,a74,a75,a76])) <|
.fin (.exit 1) [a14,a15,a16])) <| xv fun a78=>xv fun a79=>xv fun a80=>x0 (
.op (x_lss a80 (.p (.int .i64 0))) fun a81 =>
.opg a81 false (x_mov a79) fun a82 =>
.opg a81 false (x_mov a80) fun a83 =>
.opg a81 false (zas false (.p (.int .i64 0)) ⟨false,[.int]⟩ (.const a82) (.const a83)) fun a84 =>
.opg a81 false (x_mov a78) fun a85 =>
.opg a81 false (x_mov a80) fun a86 =>
.opg a81 false (zad a85 [a86]) fun a87 =>
.chkg a81 false (.lookup false (.p (.int .i64 0)) ⟨false,[.int]⟩ (.const a82) (.const a83)) a84 <|
.opg a81 false (zad (.p (.func 106)) [a84,a87]) fun a88 =>
.opg a81 false (x_not a88) fun a89 =>
.op (zah a81 (.p (.bool true)) a89) fun a90 =>
.cond a90 (.fin .ret [(.p (.int .i64 (-1)))]) <|
.fin .ret [a80]))
noncomputable def zeb:HFun:=⟨2,zkn,[.tmp 4],false⟩
theorem zht:HOK tr.look F_Q73 zeb:=⟨i_Q73,(.sq .lf (.sq .lf (.sq .lf (.sq .lf (.sq (.sq .lf (.bk [6,5,7] (.lp [18,6,5,7,2,3,17] (.sq .lf (.sq (.cj .lf .lf) (.sq (.bk [18,6,5,7,2,3,17] (.sq .lf (.sq (.sq .lf (.cj .lf .lf)) (.sq .lf (.cd [18,6,5,7,2,3,17] .lf .lf))))) .lf)))))) (.sq (.sq .lf (.cj (.sq .lf .lf) .lf)) (.sq .lf .lf))))))),[],look_Q73,rfl,rfl,rfl,rfl,rfl,by kernel_rfl⟩
noncomputable def zko:List IVal→HC XF:=xv fun a0=>xv fun a1=>xv fun a2=>x0 (
.op (x_nil a0) fun a3 =>
.op (zaa 14 a3) fun a4 =>
.op (zab none a4) fun a5 =>
.op (zas true (.p (.int .i64 0)) ⟨false,[.int]⟩ (.const a5) (.const a1)) fun a6 =>
.op (zae a6 0) fun _ =>
.op (zae a6 1) fun a8 =>
.op (x_nil a0) fun a9 =>
.op (zaa 15 a9) fun a10 =>
.op (zab none a10) fun a11 =>
.op (zas true (.p (.int .i64 0)) ⟨false,[.int]⟩ (.const a11) (.const a2)) fun a12 =>
.op (zae a12 0) fun _ =>
.op (zae a12 1) fun a14 =>
.op (x_not a8) fun a15 =>
.opg a15 true (x_mov a14) fun a16 =>
.opg a15 true (x_not a16) fun a17 =>
.op (zah a15 a17 (.p (.bool false))) fun a18 =>
.fin .ret [a18])
noncomputable def zec:HFun:=⟨3,zko,[.tmp 6],false⟩
theorem zhu:HOK tr.look F_Q75 zec:=⟨i_Q75,(.sq .lf (.sq .lf (.sq .lf (.sq .lf .lf)))),[],look_Q75,rfl,rfl,rfl,rfl,rfl,by kernel_rfl⟩
noncomputable def zkp:List IVal→HC XF:=xv fun a0=>xv fun a1=>xv fun a2=>x0 (
.op (x_nil a0) fun a3 =>
.op (zaa 12 a3) fun a4 =>
.op (zam 2 1 a4 (.p (.int .i64 0))) fun a5 =>
.op (zab none a5) fun a6 =>
.op (zac 1 a6 a1) fun a7 =>
.op (zab none a7) fun a8 =>
.op (x_len a8) fun a9 =>
.block 1 (.loop [a0,(.p (.int .i64 0)),a2,a8,a9] <| xv fun a10=>xv fun a11=>xv fun a12=>xv fun a13=>xv fun a14=>x0 (
.op (x_lss a11 a14) fun a15 =>
.cond a15 (.block 2 (.op (zac 1 a13 a11) fun a16 =>
.op (zab none a16) fun a17 =>
.op (x_nil a10) fun a18 =>
.op (zaa 12 a18) fun a19 =>
.op (zam 2 1 a19 (.p (.int .i64 1))) fun a20 =>
.op (zab none a20) fun a21 =>
.op (zac 1 a21 a12) fun a22 =>
.op (zab none a22) fun a23 =>
.op (x_len a23) fun a24 =>
.block 3 (.loop [a14,a13,a12,a10,a11,a17,(.p (.int .i64 0)),a23,a24] <| xv fun a25=>xv fun a26=>xv fun a27=>xv fun a28=>xv fun a29=>xv fun a30=>xv fun a31=>xv fun a32=>xv fun a33=>x0 (
.op (x_lss a31 a33) fun a34 =>
.cond a34 (.block 4 (.op (zac 1 a32 a31) fun a35 =>
.op (zab none a35) fun a36 =>
.op (zad (.p (.func F_Q75)) [a28,a30,a36]) fun a37 =>
.opg a37 true (x_mov a28) fun a38 =>
.opg a37 true (x_nil a38) fun a39 =>
.opg a37 true (zaa 10 a39) fun a40 =>
.opg a37 true (zab none a40) fun a41 =>
.opg a37 true (x_mov a30) fun a42 =>
.opg a37 true (zac 10 a41 a42) fun a43 =>
.opg a37 true (zab (some 10) a43) fun a44 =>
.opg a37 true (x_mov a28) fun a45 =>
.opg a37 true (x_nil a45) fun a46 =>
.opg a37 true (zaa 11 a46) fun a47 =>
.opg a37 true (zab none a47) fun a48 =>
.opg a37 true (x_mov a36) fun a49 =>
.opg a37 true (zac 10 a48 a49) fun a50 =>
.opg a37 true (zab (some 10) a50) fun a51 =>
.opg a37 true (zad (.p (.func F_Q104)) [a44]) fun a52 =>
.chkg a37 true (.load none (.const a47)) a48 <|
.chkg a37 true (.load (some 10) (.const a50)) a51 <|
.opg a37 true (zad (.p (.func F_Q104)) [a51]) fun a53 =>
.opg a37 true (x_eqv false ⟨true,[.int, .str]⟩ (.const a52) (.const a53)) fun a54 =>
.op (zah a37 a54 (.p (.bool false))) fun a55 =>
.cond a55 (.op (zad (.p (.func F_Q71)) [a28,a30,a36]) fun _ =>
.fin (.exit 3) [a29,a28,a27,a26,a25]) <|
.fin .normal [a31,a25,a26,a27,a28,a29,a30,a32,a33]) <| xv fun a57=>xv fun a58=>xv fun a59=>xv fun a60=>xv fun a61=>xv fun a62=>xv fun a63=>xv fun a64=>xv fun a65=>x0 (
.op (x_add a57 (.p (.int .i64 1))) fun a66 =>
.fin .normal [a58,a59,a60,a61,a62,a63,a66,a64,a65])) <|
.fin (.exit 3) [a29,a28,a27,a26,a25])) <| xv fun a67=>xv fun a68=>xv fun a69=>xv fun a70=>xv fun a71=>x0 (
.fin .normal [a67,a68,a69,a70,a71])) <| xv fun a72=>xv fun a73=>xv fun a74=>xv fun a75=>xv fun a76=>x0 (
.op (x_add a72 (.p (.int .i64 1))) fun a77 =>
.fin .normal [a73,a77,a74,a75,a76])) <|
.fin (.exit 1) [])) <| x0 (
.fin .ret []))
noncomputable def zed:HFun:=⟨3,zkp,[],false⟩
theorem zhv:HOK tr.look F_Q76 zed:=⟨i_Q76,(.sq .lf (.bk [] (.lp [0,19,2,17,18] (.sq .lf (.sq (.cj .lf .lf) (.sq (.bk [19,0,2,17,18] (.sq .lf (.sq .lf (.bk [19,0,2,17,18] (.lp [18,17,2,0,19,7,32,30,31] (.sq .lf (.sq (.cj .lf .lf) (.sq (.bk [32,18,17,2,0,19,7,30,31] (.sq .lf (.sq .lf (.cj (.sq .lf .lf) .lf)))) .lf)))))))) .lf)))))),[],look_Q76,rfl,rfl,rfl,rfl,rfl,by kernel_rfl⟩
noncomputable def zzx:List IVal→HC XF:=xv fun a0=>xv fun a1=>xv fun a2=>x0 (
.fresh [3,4] [a0,a1,a2] <|
.op (x_box (some 3) 5 a0) fun a3 =>
.op (x_box (some 4) 5 a1) fun a4 =>
.op (zab (some 5) a3) fun a5 =>
.op (zad (.p (.func F_Q30)) [a5]) fun a6 =>
.op (x_not a6) fun a7 =>
.opg a7 false (zab (some 5) a4) fun a8 =>
.opg a7 false (zad (.p (.func F_Q30)) [a8]) fun a9 =>
.opg a7 false (x_not a9) fun a10 =>
.op (zah a7 (.p (.bool true)) a10) fun a11 =>
.opg a11 false (x_mov a2) fun a12 =>
.opg a11 false (x_len a12) fun a13 =>
.opg a11 false (x_eql a13 (.p (.int .i64 0))) fun a14 =>
.op (zah a11 (.p (.bool true)) a14) fun a15 =>
.opg a15 false (x_mov a2) fun a16 =>
.opg a15 false (zac 2 a16 (.p (.int .i64 0))) fun a17 =>
.opg a15 false (zab (some 2) a17) fun a18 =>
.opg a15 false (zak [(.int .i64 0),(.int .i64 0)] []) fun a19 =>
.opg a15 false (x_eqv true ⟨true,[.int, .int]⟩ (.const a18) (.const a19)) fun a20 =>
.op (zah a15 (.p (.bool true)) a20) fun a21 =>
.cond a21 (.fin .ret [(.p (.bool false))]) <|
.op (zab (some 5) a3) fun a22 =>
.op (zab (some 5) a4) fun a23 =>
.op (zad (.p (.func F_Q47)) [a22]) fun a24 =>
.chk (.load (some 5) (.const a4)) a23 <|
.op (zad (.p (.func F_Q47)) [a23]) fun a25 =>
.op (zcc) fun a26 =>
.op (x_len a2) fun a27 =>
.block 1 (.loop [a26,(.p (.int .i64 0)),(.p (.int .i64 (-1))),a24,a25,a2,a27] <| xv fun a28=>xv fun a29=>xv fun a30=>xv fun a31=>xv fun a32=>xv fun a33=>xv fun a34=>x0 (
.op (x_lss a29 a34) fun a35 =>
.cond a35 (.block 2 (.fresh [12] [a35,a28,a29,a30,a31,a32,a33,a34] <|
.op (zac 2 a33 a29) fun a36 =>
.op (zab (some 2) a36) fun a37 =>
.op (zaj (some 12) [(.int .i64 0),(.int .i64 0)]) fun a38 =>
.op (zaf 2 a38 a37) fun _ =>
.op (zaa 0 a38) fun a40 =>
.op (zab none a40) fun a41 =>
.op (x_leq a41 a30) fun a42 =>
.opg a42 false (zaa 0 a38) fun a43 =>
.opg a42 false (zab none a43) fun a44 =>
.opg a42 false (x_mov a31) fun a45 =>
.opg a42 false (x_len a45) fun a46 =>
.opg a42 false (x_geq a44 a46) fun a47 =>
.op (zah a42 (.p (.bool true)) a47) fun a48 =>
.opg a48 false (zaa 1 a38) fun a49 =>
.opg a48 false (zab none a49) fun a50 =>
.opg a48 false (x_lss a50 (.p (.int .i64 0))) fun a51 =>
.op (zah a48 (.p (.bool true)) a51) fun a52 =>
.opg a52 false (zaa 1 a38) fun a53 =>
.opg a52 false (zab none a53) fun a54 =>
.opg a52 false (x_mov a32) fun a55 =>
.opg a52 false (x_len a55) fun a56 =>
.opg a52 false (x_geq a54 a56) fun a57 =>
.op (zah a52 (.p (.bool true)) a57) fun a58 =>
.opg a58 false (x_mov a28) fun a59 =>
.opg a58 false (zaa 1 a38) fun a60 =>
.opg a58 false (zab none a60) fun a61 =>
.opg a58 false (zas false (.p (.bool false)) ⟨false,[.int]⟩ (.const a59) (.const a61)) fun a62 =>
.op (zah a58 (.p (.bool true)) a62) fun a63 =>
.opg a63 false (x_mov a31) fun a64 =>
.opg a63 false (zaa 0 a38) fun a65 =>
.opg a63 false (zab none a65) fun a66 =>
.opg a63 false (zac 10 a64 a66) fun a67 =>
.opg a63 false (zab (some 10) a67) fun a68 =>
.opg a63 false (x_mov a32) fun a69 =>
.opg a63 false (zaa 1 a38) fun a70 =>
.opg a63 false (zab none a70) fun a71 =>
.opg a63 false (zac 10 a69 a71) fun a72 =>
.opg a63 false (zab (some 10) a72) fun a73 =>
.opg a63 false (zad (.p (.func F_Q104)) [a68]) fun a74 =>
.chkg a63 false (.load none (.const a70)) a71 <|
.chkg a63 false (.load (some 10) (.const a72)) a73 <|
.opg a63 false (zad (.p (.func F_Q104)) [a73]) fun a75 =>
.opg a63 false (x_eqv true ⟨true,[.int, .str]⟩ (.const a74) (.const a75)) fun a76 =>
.op (zah a63 (.p (.bool true)) a76) fun a77 =>
.cond a77 (.fin .ret [(.p (.bool false))]) <|
.op (zaa 0 a38) fun a78 =>
.op (zab none a78) fun a79 =>
.op (zaa 1 a38) fun a80 =>
.op (zab none a80) fun a81 =>
.op (zby ⟨false,[.int]⟩ (.const a28) (.const a81) (.const (.p (.bool true)))) fun _ =>
.fin .normal [a29,a28,a79,a31,a32,a33,a34]) <| xv fun a83=>xv fun a84=>xv fun a85=>xv fun a86=>xv fun a87=>xv fun a88=>xv fun a89=>x0 (
.op (x_add a83 (.p (.int .i64 1))) fun a90 =>
.fin .normal [a84,a90,a85,a86,a87,a88,a89])) <|
.fin (.exit 1) [])) <| x0 (
.fin .ret [(.p (.bool true))]))
noncomputable def znv:HFun:=⟨3,zzx,[.tmp 6],true⟩
theorem zui:HOK tr.look F_Q78 znv:=⟨i_Q78,(.sq .lf (.sq (.sq .lf (.cj (.sq .lf .lf) .lf)) (.sq .lf (.sq .lf (.sq .lf (.sq (.sq .lf (.bk [] (.lp [10,40,9,7,8,38,39] (.sq .lf (.sq (.cj .lf .lf) (.sq (.bk [40,10,9,7,8,38,39] (.sq .lf (.sq (.sq .lf (.cj (.sq .lf .lf) .lf)) (.sq .lf .lf)))) .lf)))))) (.sq .lf .lf))))))),[],look_Q78,rfl,rfl,rfl,rfl,rfl,by kernel_rfl⟩
noncomputable def zacw:List IVal→HC XF:=xv fun a0=>xv fun a1=>x0 (
.op (zab none a1) fun a2 =>
.op (zas true (.p (.int .i64 0)) ⟨false,[.int]⟩ (.const a2) (.const a0)) fun a3 =>
.op (zae a3 0) fun a4 =>
.op (zae a3 1) fun a5 =>
.cond a5 (.fin .ret [a4]) <|
.op (x_sub (.p (.int .i64 (-2))) a0) fun a6 =>
.fin .ret [a6])
noncomputable def zqk:HFun:=⟨2,zacw,[.tmp 3],false⟩
theorem zvp:HOK tr.look F_Q79 zqk:=⟨i_Q79,(.sq .lf (.sq (.sq .lf (.sq .lf (.cj (.sq .lf .lf) .lf))) (.sq .lf .lf))),[],look_Q79,rfl,rfl,rfl,rfl,rfl,by kernel_rfl⟩
noncomputable def zuj:List IVal→HC XF:=xv fun a0=>xv fun a1=>x0 (
.fresh [2,3,4] [a0,a1] <|
.op (x_box (some 2) 5 a0) fun a2 =>
.op (x_box (some 3) 5 a1) fun a3 =>
.op (zaj (some 4) [(.bool false),(.bool false), .nilslice, .nilslice,(.int .i64 0), .nilslice]) fun a4 =>
.fresh [5] [a4,a3,a2,a0,a1] <|
.op (zaa 2 a2) fun a5 =>
.op (zab none a5) fun a6 =>
.op (zaa 2 a3) fun a7 =>
.op (zab none a7) fun a8 =>
.op (x_neq a6 a8) fun a9 =>
.op (zak [(.bool false),(.bool false), .nilslice, .nilslice,(.int .i64 0), .nilslice] [(1,1,a9)]) fun a10 =>
.op (zaj (some 5) [(.bool false),(.bool false), .nilslice, .nilslice,(.int .i64 0), .nilslice]) fun a11 =>
.op (zaf 6 a11 a10) fun _ =>
.op (zaa 3 a3) fun a13 =>
.op (zab none a13) fun a14 =>
.op (x_len a14) fun a15 =>
.block 1 (.loop [(.p (.int .i64 0)),a11,a2,a14,a3,a4,a15] <| xv fun a16=>xv fun a17=>xv fun a18=>xv fun a19=>xv fun a20=>xv fun a21=>xv fun a22=>x0 (
.op (x_lss a16 a22) fun a23 =>
.cond a23 (.block 2 (.fresh [7] [a23,a16,a17,a18,a19,a20,a21,a22] <|
.op (zac 2 a19 a16) fun a24 =>
.op (zab (some 2) a24) fun a25 =>
.op (zaj (some 7) [(.str []),(.str [])]) fun a26 =>
.op (zaf 2 a26 a25) fun _ =>
.op (zab (some 5) a18) fun a28 =>
.op (zaa 0 a26) fun a29 =>
.op (zab none a29) fun a30 =>
.op (zad (.p (.func 108)) [a28,a30]) fun a31 =>
.op (zae a31 0) fun a32 =>
.op (zae a31 1) fun a33 =>
.op (x_not a33) fun a34 =>
.opg a34 false (x_mov a32) fun a35 =>
.opg a34 false (zaa 1 a26) fun a36 =>
.opg a34 false (zab none a36) fun a37 =>
.opg a34 false (x_neq a35 a37) fun a38 =>
.op (zah a34 (.p (.bool true)) a38) fun a39 =>
.block 0 (.cond a39 (.op (zaa 2 a17) fun a40 =>
.op (zab none a40) fun a41 =>
.op (zab (some 2) a26) fun a42 =>
.op (zag 2 1 [(.str []),(.str [])] [(0,2,a42)]) fun a43 =>
.op (zal 2 (.const a41) (.const a43)) fun a44 =>
.op (zaa 2 a17) fun a45 =>
.op (zaf 1 a45 a44) fun _ =>
.fin .normal [a16,a17,a18,a19,a20,a21,a22]) <|
.fin .normal [a16,a17,a18,a19,a20,a21,a22]) <| xv fun a47=>xv fun a48=>xv fun a49=>xv fun a50=>xv fun a51=>xv fun a52=>xv fun a53=>x0 (
.fin .normal [a47,a48,a49,a50,a51,a52,a53])) <| xv fun a54=>xv fun a55=>xv fun a56=>xv fun a57=>xv fun a58=>xv fun a59=>xv fun a60=>x0 (
.op (x_add a54 (.p (.int .i64 1))) fun a61 =>
.fin .normal [a61,a55,a56,a57,a58,a59,a60])) <|
.fin (.exit 1) [a18,a17,a20,a21])) <| xv fun a62=>xv fun a63=>xv fun a64=>xv fun a65=>x0 (
.op (zaa 3 a62) fun a66 =>
.op (zab none a66) fun a67 =>
.op (x_len a67) fun a68 =>
.block 3 (.loop [(.p (.int .i64 0)),a63,a64,a67,a65,a68] <| xv fun a69=>xv fun a70=>xv fun a71=>xv fun a72=>xv fun a73=>xv fun a74=>x0 (
.op (x_lss a69 a74) fun a75 =>
.cond a75 (.block 4 (.fresh [11] [a75,a69,a70,a71,a72,a73,a74] <|
.op (zac 2 a72 a69) fun a76 =>
.op (zab (some 2) a76) fun a77 =>
.op (zaj (some 11) [(.str []),(.str [])]) fun a78 =>
.op (zaf 2 a78 a77) fun _ =>
.op (zab (some 5) a71) fun a80 =>
.op (zaa 0 a78) fun a81 =>
.op (zab none a81) fun a82 =>
.op (zad (.p (.func 108)) [a80,a82]) fun a83 =>
.op (zae a83 0) fun _ =>
.op (zae a83 1) fun a85 =>
.op (x_not a85) fun a86 =>
.block 0 (.cond a86 (.op (zaa 3 a70) fun a87 =>
.op (zab none a87) fun a88 =>
.op (zaa 0 a78) fun a89 =>
.op (zab none a89) fun a90 =>
.op (zag 1 1 [(.str [])] [(0,1,a90)]) fun a91 =>
.op (zal 1 (.const a88) (.const a91)) fun a92 =>
.op (zaa 3 a70) fun a93 =>
.op (zaf 1 a93 a92) fun _ =>
.fin .normal [a69,a70,a71,a72,a73,a74]) <|
.fin .normal [a69,a70,a71,a72,a73,a74]) <| xv fun a95=>xv fun a96=>xv fun a97=>xv fun a98=>xv fun a99=>xv fun a100=>x0 (
.fin .normal [a95,a96,a97,a98,a99,a100])) <| xv fun a101=>xv fun a102=>xv fun a103=>xv fun a104=>xv fun a105=>xv fun a106=>x0 (
.op (x_add a101 (.p (.int .i64 1))) fun a107 =>
.fin .normal [a107,a102,a103,a104,a105,a106])) <|
.fin (.exit 3) [a70,a73])) <| xv fun a108=>xv fun a109=>x0 (
.op (zab (some 6) a108) fun a110 =>
.op (zaf 6 a109 a110) fun _ =>
.fin .ret [a109])))
noncomputable def zjl:HFun:=⟨2,zuj,[.cell 4 (some 6)],true⟩
theorem zpe:HOK tr.look F_Q80 zjl:=⟨i_Q80,(.sq .lf (.sq .lf (.sq (.sq .lf (.bk [2,5,3,4] (.lp [23,5,2,21,3,4,22] (.sq .lf (.sq (.cj .lf .lf) (.sq (.bk [23,5,2,21,3,4,22] (.sq .lf (.sq .lf (.sq .lf (.cd [23,5,2,21,3,4,22] .lf .lf))))) .lf)))))) (.sq (.sq .lf (.bk [5,4] (.lp [52,5,3,50,4,51] (.sq .lf (.sq (.cj .lf .lf) (.sq (.bk [52,5,3,50,4,51] (.sq .lf (.sq .lf (.sq .lf (.cd [52,5,3,50,4,51] .lf .lf))))) .lf)))))) (.sq .lf .lf))))),[],look_Q80,rfl,rfl,rfl,rfl,rfl,by kernel_rfl⟩
noncomputable def zdr:List IVal→HC XF:=xv fun a0=>xv fun a1=>xv fun a2=>xv fun a3=>x0 (
.block 1 (.loop [a2,a1,a0,(.p (.bool true)),(.p (.bool true)),a3] <| xv fun a4=>xv fun a5=>xv fun a6=>xv fun a7=>xv fun a8=>xv fun a9=>x0 (
.block 2 (.op (x_sub a4 a5) fun a10 =>
.op (x_leq a10 (.p (.int .i64 12))) fun a11 =>
.cond a11 (.op (zad (.p (.func F_Q109)) [a6,a5,a4]) fun _ =>
.fin .ret []) <|
.op (x_eql a9 (.p (.int .i64 0))) fun a13 =>
.cond a13 (.op (zad (.p (.func 110)) [a6,a5,a4]) fun _ =>
.fin .ret []) <|
.op (x_not a8) fun a15 =>
.block 0 (.cond a15 (.op (zad (.p (.func 111)) [a6,a5,a4]) fun _ =>
.op (x_sub a9 (.p (.int .i64 1))) fun a17 =>
.fin .normal [a17,a8,a7,a6,a4,a5,a10]) <|
.fin .normal [a9,a8,a7,a6,a4,a5,a10]) <| xv fun a18=>xv fun a19=>xv fun a20=>xv fun a21=>xv fun a22=>xv fun a23=>xv fun a24=>x0 (
.op (zad (.p (.func 112)) [a21,a23,a22]) fun a25 =>
.op (zae a25 0) fun a26 =>
.op (zae a25 1) fun a27 =>
.op (x_eql a27 (.p (.int .i64 2))) fun a28 =>
.block 0 (.cond a28 (.op (zad (.p (.func 113)) [a21,a23,a22]) fun _ =>
.op (x_sub a22 (.p (.int .i64 1))) fun a30 =>
.op (x_sub a26 a23) fun a31 =>
.op (x_sub a30 a31) fun a32 =>
.fin .normal [(.p (.int .i64 1)),a18,a19,a20,a21,a22,a32,a23,a24]) <|
.fin .normal [a27,a18,a19,a20,a21,a22,a26,a23,a24]) <| xv fun a33=>xv fun a34=>xv fun a35=>xv fun a36=>xv fun a37=>xv fun a38=>xv fun a39=>xv fun a40=>xv fun a41=>x0 (
.opg a35 true (x_mov a36) fun a42 =>
.op (zah a35 a42 (.p (.bool false))) fun a43 =>
.opg a43 true (x_mov a33) fun a44 =>
.opg a43 true (x_eql a44 (.p (.int .i64 1))) fun a45 =>
.op (zah a43 a45 (.p (.bool false))) fun a46 =>
.block 0 (.cond a46 (.op (zad (.p (.func 114)) [a37,a40,a38]) fun a47 =>
.cond a47 (.fin .ret []) <|
.fin .normal [a41,a40,a39,a38,a37,a36,a35,a34]) <|
.fin .normal [a41,a40,a39,a38,a37,a36,a35,a34]) <| xv fun a48=>xv fun a49=>xv fun a50=>xv fun a51=>xv fun a52=>xv fun a53=>xv fun a54=>xv fun a55=>x0 (
.op (x_gtr a49 (.p (.int .i64 0))) fun a56 =>
.opg a56 true (x_mov a52) fun a57 =>
.opg a56 true (x_mov a49) fun a58 =>
.opg a56 true (x_sub a58 (.p (.int .i64 1))) fun a59 =>
.opg a56 true (zac 1 a57 a59) fun a60 =>
.opg a56 true (zab none a60) fun a61 =>
.opg a56 true (x_mov a52) fun a62 =>
.opg a56 true (x_mov a50) fun a63 =>
.opg a56 true (zac 1 a62 a63) fun a64 =>
.opg a56 true (zab none a64) fun a65 =>
.opg a56 true (zad (.p (.func 115)) [a61,a65]) fun a66 =>
.opg a56 true (x_not a66) fun a67 =>
.op (zah a56 a67 (.p (.bool false))) fun a68 =>
.cond a68 (.op (zad (.p (.func 116)) [a52,a49,a51,a50]) fun a69 =>
.fin (.exit 2) [a51,a69,a52,a53,a54,a55]) <|
.op (zad (.p (.func 117)) [a52,a49,a51,a50]) fun a70 =>
.op (zae a70 0) fun a71 =>
.op (zae a70 1) fun a72 =>
.op (x_sub a71 a49) fun a73 =>
.op (x_sub a51 a71) fun a74 =>
.op (xgen .quo a48 (.p (.int .i64 8))) fun a75 =>
.op (x_lss a73 a74) fun a76 =>
.block 0 (.cond a76 (.op (x_geq a73 a75) fun a77 =>
.op (zad (.p (.func F_Q81)) [a52,a49,a71,a55]) fun _ =>
.op (x_add a71 (.p (.int .i64 1))) fun a79 =>
.fin .normal [a51,a79,a52,a72,a77,a55]) <|
.op (x_geq a74 a75) fun a80 =>
.op (x_add a71 (.p (.int .i64 1))) fun a81 =>
.op (zad (.p (.func F_Q81)) [a52,a81,a51,a55]) fun _ =>
.fin .normal [a71,a49,a52,a72,a80,a55]) <| xv fun a83=>xv fun a84=>xv fun a85=>xv fun a86=>xv fun a87=>xv fun a88=>x0 (
.fin .normal [a83,a84,a85,a86,a87,a88]))))) <| xv fun a89=>xv fun a90=>xv fun a91=>xv fun a92=>xv fun a93=>xv fun a94=>x0 (
.fin .normal [a89,a90,a91,a92,a93,a94]))) <| x0 (
.fin .ret []))
noncomputable def zbl:HFun:=⟨4,zdr,[],true⟩
theorem zdb:HOK tr.look F_Q81 zbl:=⟨i_Q81,(.sq .lf (.sq .lf (.bk [] (.lp [2,1,0,9,8,3] (.bk [2,1,0,9,8,3] (.sq .lf (.sq (.sq .lf (.cj (.sq .lf .lf) .lf)) (.sq (.sq .lf (.cj (.sq .lf .lf) .lf)) (.sq (.sq .lf (.cd [3,8,9,0,2,1,10] (.sq .lf .lf) .lf)) (.sq .lf (.sq (.sq .lf (.cd [12,3,8,9,0,2,11,1,10] (.sq .lf (.sq .lf .lf)) .lf)) (.sq (.sq .lf (.cd [10,1,11,2,0,9,8,3] (.sq .lf (.cj .lf .lf)) .lf)) (.sq (.sq .lf (.cj (.sq .lf (.sq .lf .lf)) .lf)) (.sq .lf (.sq .lf (.sq .lf (.sq .lf (.sq .lf (.cd [2,1,0,9,8,3] (.sq .lf (.sq .lf .lf)) (.sq .lf (.sq .lf .lf))))))))))))))))))))),[],look_Q81,rfl,rfl,rfl,rfl,rfl,by kernel_rfl⟩
noncomputable def zuk:List IVal→HC XF:=xv fun a0=>x0 (
.cond (.p (.bool false)) (.op (zfp .u32 a0) fun a1 =>
.op (zad (.p (.func 118)) [a1]) fun a2 =>
.fin .ret [a2]) <|
.op (zad (.p (.func F_Q119)) [a0]) fun a3 =>
.fin .ret [a3])
noncomputable def zjm:HFun:=⟨1,zuk,[.tmp 2],true⟩
theorem zpf:HOK tr.look F_Q82 zjm:=⟨i_Q82,(.sq .lf (.sq (.cj (.sq .lf .lf) .lf) (.sq .lf .lf))),[],look_Q82,rfl,rfl,rfl,rfl,rfl,by kernel_rfl⟩
noncomputable def zain:List IVal→HC XF:=xv fun a0=>x0 (
.fresh [2] [a0] <|
.op (zaj (some 2) [(.int .i64 0),(.int .i64 0)]) fun a1 =>
.op (x_lss a0 (.p (.int .i64 (-1048576)))) fun a2 =>
.cond a2 (.op (x_sub (.p (.int .i64 (-2))) a0) fun a3 =>
.op (x_sub a3 (.p (.int .i64 1048576))) fun a4 =>
.op (zak [(.int .i64 0),(.int .i64 0)] [(0,1,(.p (.int .i64 1))),(1,1,a4)]) fun a5 =>
.op (zaf 2 a1 a5) fun _ =>
.fin .ret [a1]) <|
.op (x_sub (.p (.int .i64 (-2))) a0) fun a7 =>
.op (zak [(.int .i64 0),(.int .i64 0)] [(0,1,(.p (.int .i64 0))),(1,1,a7)]) fun a8 =>
.op (zaf 2 a1 a8) fun _ =>
.fin .ret [a1])
noncomputable def zxj:HFun:=⟨1,zain,[.cell 2 (some 2)],true⟩
theorem zacx:HOK tr.look F_Q84 zxj:=⟨i_Q84,(.sq .lf (.sq (.sq .lf (.cj (.sq .lf .lf) .lf)) (.sq .lf .lf))),[],look_Q84,rfl,rfl,rfl,rfl,rfl,by kernel_rfl⟩
noncomputable def zcm:List IVal→HC XF:=xv fun a0=>xv fun a1=>x0 (
.op (x_len a0) fun a2 =>
.op (zfp .u64 a2) fun a3 =>
.op (zad (.p (.func F_Q82)) [a3]) fun a4 =>
.op (zad (.p (.func F_Q121)) [a0,(.p (.int .i64 0)),a2,a4,a1]) fun _ =>
.fin .ret [])
noncomputable def zbc:HFun:=⟨2,zcm,[],false⟩
theorem zce:HOK tr.look F_Q87 zbc:=⟨i_Q87,(.sq .lf .lf),[],look_Q87,rfl,rfl,rfl,rfl,rfl,by kernel_rfl⟩
noncomputable def znw:List IVal→HC XF:=xv fun a0=>xv fun a1=>x0 (
.fresh [3,4] [a0,a1] <|
.op (x_box (some 3) 2 a1) fun a2 =>
.op (zaj (some 4) [(.int .i64 0),(.str []),(.str []), .nilslice, .nilslice]) fun a3 =>
.op (zaa 0 a2) fun a4 =>
.op (zab none a4) fun a5 =>
.op (x_nil a0) fun a6 =>
.op (zaa 12 a6) fun a7 =>
.op (zam 2 1 a7 a5) fun a8 =>
.op (zab none a8) fun a9 =>
.op (zaa 1 a2) fun a10 =>
.op (zab none a10) fun a11 =>
.op (zac 10 a9 a11) fun a12 =>
.op (zaa 5 a12) fun a13 =>
.op (zab (some 5) a13) fun a14 =>
.op (zaj none [(.int .i64 0),(.str []),(.str []), .nilslice, .nilslice]) fun a15 =>
.op (zaf 5 a15 a14) fun _ =>
.op (zaa 0 a2) fun a17 =>
.op (zab none a17) fun a18 =>
.op (zaa 0 a2) fun a19 =>
.op (zab none a19) fun a20 =>
.op (x_nil a0) fun a21 =>
.op (zaa 23 a21) fun a22 =>
.op (zam 2 1 a22 a20) fun a23 =>
.op (zab none a23) fun a24 =>
.op (zaa 1 a2) fun a25 =>
.op (zab none a25) fun a26 =>
.op (x_nil a0) fun a27 =>
.op (zaa 22 a27) fun a28 =>
.op (zab none a28) fun a29 =>
.op (zak [(.int .i64 0),(.int .i64 0)] [(0,1,a26),(1,1,a29)]) fun a30 =>
.op (zag 2 1 [(.int .i64 0),(.int .i64 0)] [(0,2,a30)]) fun a31 =>
.op (x_nil a0) fun a32 =>
.op (zaa 23 a32) fun a33 =>
.op (zal 2 (.const a24) (.const a31)) fun a34 =>
.op (zam 2 1 a33 a18) fun a35 =>
.chk (.load none (.const a17)) a18 <|
.op (zaf 1 a35 a34) fun _ =>
.fresh [6] [a35,a33,a32,a34,a31,a30,a29,a28,a27,a0,a26,a25,a24,a23,a22,a21,a20,a19,a0,a18,a17,a0,a15,a14,a13,a12,a11,a10,a9,a8,a7,a6,a5,a4,a0,a3,a2,a0,a1] <|
.op (x_nil a0) fun a37 =>
.op (zaa 20 a37) fun a38 =>
.op (zab none a38) fun a39 =>
.op (zab (some 2) a2) fun a40 =>
.op (zas false (.agg [(.p (.int .i64 0)),(.p (.int .i64 0))]) ⟨true,[.int, .int]⟩ (.const a39) (.const a40)) fun a41 =>
.op (zaj (some 6) [(.int .i64 0),(.int .i64 0)]) fun a42 =>
.op (zaf 2 a42 a41) fun _ =>
.op (zab (some 2) a42) fun a44 =>
.op (zak [(.int .i64 0),(.int .i64 0)] []) fun a45 =>
.op (x_eqv true ⟨true,[.int, .int]⟩ (.const a44) (.const a45)) fun a46 =>
.block 0 (.cond a46 (.op (zaa 0 a42) fun a47 =>
.op (zab none a47) fun a48 =>
.op (zaa 0 a42) fun a49 =>
.op (zab none a49) fun a50 =>
.op (x_nil a0) fun a51 =>
.op (zaa 23 a51) fun a52 =>
.op (zam 2 1 a52 a50) fun a53 =>
.op (zab none a53) fun a54 =>
.op (zaa 1 a42) fun a55 =>
.op (zab none a55) fun a56 =>
.op (x_nil a0) fun a57 =>
.op (zaa 22 a57) fun a58 =>
.op (zab none a58) fun a59 =>
.op (zak [(.int .i64 0),(.int .i64 0)] [(0,1,a56),(1,1,a59)]) fun a60 =>
.op (zag 2 1 [(.int .i64 0),(.int .i64 0)] [(0,2,a60)]) fun a61 =>
.op (x_nil a0) fun a62 =>
.op (zaa 23 a62) fun a63 =>
.op (zal 2 (.const a54) (.const a61)) fun a64 =>
.op (zam 2 1 a63 a48) fun a65 =>
.chk (.load none (.const a47)) a48 <|
.op (zaf 1 a65 a64) fun _ =>
.fin .normal [a0,a2,a15,a3]) <|
.fin .normal [a0,a2,a15,a3]) <| xv fun a67=>xv fun a68=>xv fun a69=>xv fun a70=>x0 (
.op (x_nil a67) fun a71 =>
.op (zaa 22 a71) fun a72 =>
.op (zab none a72) fun a73 =>
.op (x_add a73 (.p (.int .i64 1))) fun a74 =>
.op (x_nil a67) fun a75 =>
.op (zaa 22 a75) fun a76 =>
.op (zaf 1 a76 a74) fun _ =>
.op (zaa 1 a68) fun a78 =>
.op (zab none a78) fun a79 =>
.op (x_add a79 (.p (.int .i64 1))) fun a80 =>
.block 1 (.loop [a80,a67,a68,(.p .nilslice),a69,a70] <| xv fun a81=>xv fun a82=>xv fun a83=>xv fun a84=>xv fun a85=>xv fun a86=>x0 (
.op (zaa 1 a83) fun a87 =>
.op (zab none a87) fun a88 =>
.op (zaa 0 a83) fun a89 =>
.op (zab none a89) fun a90 =>
.op (x_nil a82) fun a91 =>
.op (zaa 12 a91) fun a92 =>
.op (zam 2 1 a92 a90) fun a93 =>
.op (zab none a93) fun a94 =>
.op (zaa 1 a83) fun a95 =>
.op (zab none a95) fun a96 =>
.op (zac 10 a94 a96) fun a97 =>
.op (zaa 1 a97) fun a98 =>
.op (zab none a98) fun a99 =>
.op (x_add a88 a99) fun a100 =>
.op (x_lss a81 a100) fun a101 =>
.cond a101 (.block 2 (.op (zaa 0 a83) fun a102 =>
.op (zab none a102) fun a103 =>
.op (x_nil a82) fun a104 =>
.op (zaa 18 a104) fun a105 =>
.op (zam 2 1 a105 a103) fun a106 =>
.op (zab none a106) fun a107 =>
.op (zas true (.p (.int .i64 0)) ⟨false,[.int]⟩ (.const a107) (.const a81)) fun a108 =>
.op (zae a108 0) fun a109 =>
.op (zae a108 1) fun a110 =>
.op (x_not a110) fun a111 =>
.block 0 (.cond a111 (.op (x_sub (.p (.int .i64 (-2))) a81) fun a112 =>
.op (zaa 0 a83) fun a113 =>
.op (zab none a113) fun a114 =>
.op (x_mul (.p (.int .i64 1048576)) a114) fun a115 =>
.op (x_sub a112 a115) fun a116 =>
.fin .normal [a84,a116,a81,a82,a83,a85,a86]) <|
.fin .normal [a84,a109,a81,a82,a83,a85,a86]) <| xv fun a117=>xv fun a118=>xv fun a119=>xv fun a120=>xv fun a121=>xv fun a122=>xv fun a123=>x0 (
.op (zag 1 1 [(.int .i64 0)] [(0,1,a118)]) fun a124 =>
.op (zal 1 (.const a117) (.const a124)) fun a125 =>
.fin .normal [a119,a120,a121,a125,a122,a123])) <| xv fun a126=>xv fun a127=>xv fun a128=>xv fun a129=>xv fun a130=>xv fun a131=>x0 (
.op (zaa 0 a128) fun a132 =>
.op (zab none a132) fun a133 =>
.op (x_nil a127) fun a134 =>
.op (zaa 12 a134) fun a135 =>
.op (zam 2 1 a135 a133) fun a136 =>
.op (zab none a136) fun a137 =>
.op (zac 10 a137 a126) fun a138 =>
.op (zaa 1 a138) fun a139 =>
.op (zab none a139) fun a140 =>
.op (x_add a126 a140) fun a141 =>
.fin .normal [a141,a127,a128,a129,a130,a131])) <|
.fin (.exit 1) [a82,a84,a85,a86])) <| xv fun a142=>xv fun a143=>xv fun a144=>xv fun a145=>x0 (
.op (zad (.p (.func F_Q57)) [a142,a144,a143]) fun _ =>
.op (zab (some 5) a144) fun a147 =>
.op (zaf 5 a145 a147) fun _ =>
.fin .ret [a145])))
noncomputable def zfq:HFun:=⟨2,znw,[.cell 4 (some 5)],false⟩
theorem zkq:HOK tr.look F_Q90 zfq:=⟨i_Q90,(.sq .lf (.sq .lf (.sq .lf (.sq (.sq .lf (.sq .lf (.cd [0,3,5,4] .lf .lf))) (.sq .lf (.sq .lf (.sq (.sq .lf (.bk [0,7,5,4] (.lp [8,0,3,7,5,4] (.sq (.sq .lf (.cj .lf .lf)) (.sq (.bk [8,0,3,7,5,4] (.sq .lf (.sq (.sq .lf (.cd [7,9,8,0,3,5,4] .lf .lf)) .lf))) .lf))))) (.sq .lf (.sq .lf .lf))))))))),[],look_Q90,rfl,rfl,rfl,rfl,rfl,by kernel_rfl⟩
noncomputable def zul:List IVal→HC XF:=xv fun a0=>x0 (
.op (x_neq a0 a0) fun a1 =>
.fin .ret [a1])
noncomputable def zjn:HFun:=⟨1,zul,[.tmp 2],true⟩
theorem zpg:HOK tr.look F_Q92 zjn:=⟨i_Q92,(.sq .lf (.sq .lf .lf)),[],look_Q92,rfl,rfl,rfl,rfl,rfl,by kernel_rfl⟩
noncomputable def zamk:List IVal→HC XF:=xv fun a0=>x0 (
.fresh [1] [a0] <|
.op (x_box (some 1) 5 a0) fun a1 =>
.op (zab (some 5) a1) fun a2 =>
.op (zad (.p (.func F_Q30)) [a2]) fun a3 =>
.op (x_not a3) fun a4 =>
.cond a4 (.fin .ret [(.p .nilptr),(.p (.int .i64 1))]) <|
.op (zcc) fun a5 =>
.op (zak [.nilslice, .nilmap] [(1,1,a5)]) fun a6 =>
.op (x_box none 2 a6) fun a7 =>
.op (zab (some 5) a1) fun a8 =>
.op (zad (.p (.func F_Q131)) [a7,a8,(.p (.int .i64 (-1)))]) fun _ =>
.fin .ret [a7,(.p (.int .i64 0))])
noncomputable def zacy:HFun:=⟨1,zamk,[.tmp 2, .tmp 3],false⟩
theorem zafj:HOK tr.look F_Q93 zacy:=⟨i_Q93,(.sq .lf (.sq (.sq .lf (.cj (.sq .lf .lf) .lf)) (.sq .lf (.sq .lf (.sq .lf .lf))))),[],look_Q93,rfl,rfl,rfl,rfl,rfl,by kernel_rfl⟩
noncomputable def zmd:List IVal→HC XF:=xv fun a0=>xv fun a1=>x0 (
.fresh [3] [a0,a1] <|
.op (x_box (some 3) 7 a1) fun a2 =>
.op (x_nil a0) fun a3 =>
.op (zaa 5 a3) fun a4 =>
.op (zab none a4) fun a5 =>
.cond a5 (.fin .ret []) <|
.op (zaa 0 a2) fun a6 =>
.op (zab none a6) fun a7 =>
.block 1 (.op (x_eql a7 (.p (.int .i64 1))) fun a8 =>
.block 0 (.cond a8 (.op (x_nil a0) fun a9 =>
.op (zaa 0 a9) fun a10 =>
.op (zab none a10) fun a11 =>
.op (zaa 1 a2) fun a12 =>
.op (zab none a12) fun a13 =>
.op (zaa 2 a2) fun a14 =>
.op (zab none a14) fun a15 =>
.op (zaa 3 a2) fun a16 =>
.op (zab none a16) fun a17 =>
.op (zaa 4 a2) fun a18 =>
.op (zab none a18) fun a19 =>
.op (zaa 5 a2) fun a20 =>
.op (zab none a20) fun a21 =>
.op (zaa 6 a2) fun a22 =>
.op (zab none a22) fun a23 =>
.op (zak [(.int .i64 0),(.str []),(.str []), .nilslice, .nilslice] [(0,1,a19),(1,1,a21),(2,1,a23)]) fun a24 =>
.op (zad (.p (.func F_Q132)) [a11,a13,a15,a17,a24]) fun a25 =>
.fin .normal [a2,a25,a0]) <|
.op (x_eql a7 (.p (.int .i64 2))) fun a26 =>
.block 0 (.cond a26 (.op (x_nil a0) fun a27 =>
.op (zaa 0 a27) fun a28 =>
.op (zab none a28) fun a29 =>
.op (zaa 1 a2) fun a30 =>
.op (zab none a30) fun a31 =>
.op (zad (.p (.func 133)) [a29,a31]) fun a32 =>
.fin .normal [a2,a32,a0]) <|
.op (x_eql a7 (.p (.int .i64 3))) fun a33 =>
.block 0 (.cond a33 (.op (x_nil a0) fun a34 =>
.op (zaa 0 a34) fun a35 =>
.op (zab none a35) fun a36 =>
.op (zaa 1 a2) fun a37 =>
.op (zab none a37) fun a38 =>
.op (zaa 2 a2) fun a39 =>
.op (zab none a39) fun a40 =>
.op (zaa 3 a2) fun a41 =>
.op (zab none a41) fun a42 =>
.op (zad (.p (.func 134)) [a36,a38,a40,a42]) fun a43 =>
.fin .normal [a2,a43,a0]) <|
.op (x_eql a7 (.p (.int .i64 4))) fun a44 =>
.block 0 (.cond a44 (.op (x_nil a0) fun a45 =>
.op (zaa 0 a45) fun a46 =>
.op (zab none a46) fun a47 =>
.op (zaa 1 a2) fun a48 =>
.op (zab none a48) fun a49 =>
.op (zaa 5 a2) fun a50 =>
.op (zab none a50) fun a51 =>
.op (zaa 6 a2) fun a52 =>
.op (zab none a52) fun a53 =>
.op (zad (.p (.func 135)) [a47,a49,a51,a53]) fun a54 =>
.fin .normal [a2,a54,a0]) <|
.op (x_eql a7 (.p (.int .i64 5))) fun a55 =>
.block 0 (.cond a55 (.op (x_nil a0) fun a56 =>
.op (zaa 0 a56) fun a57 =>
.op (zab none a57) fun a58 =>
.op (zaa 1 a2) fun a59 =>
.op (zab none a59) fun a60 =>
.op (zaa 5 a2) fun a61 =>
.op (zab none a61) fun a62 =>
.op (zad (.p (.func 136)) [a58,a60,a62]) fun a63 =>
.fin .normal [a2,a63,a0]) <|
.op (x_eql a7 (.p (.int .i64 6))) fun a64 =>
.block 0 (.cond a64 (.op (x_nil a0) fun a65 =>
.op (zaa 0 a65) fun a66 =>
.op (zab none a66) fun a67 =>
.op (zaa 1 a2) fun a68 =>
.op (zab none a68) fun a69 =>
.op (zaa 6 a2) fun a70 =>
.op (zab none a70) fun a71 =>
.op (zad (.p (.func 137)) [a67,a69,a71]) fun a72 =>
.fin .normal [a2,a72,a0]) <|
.fin .normal [a2,(.p (.int .i64 15)),a0]) <| xv fun a73=>xv fun a74=>xv fun a75=>x0 (
.fin .normal [a73,a74,a75])) <| xv fun a76=>xv fun a77=>xv fun a78=>x0 (
.fin .normal [a76,a77,a78])) <| xv fun a79=>xv fun a80=>xv fun a81=>x0 (
.fin .normal [a79,a80,a81])) <| xv fun a82=>xv fun a83=>xv fun a84=>x0 (
.fin .normal [a82,a83,a84])) <| xv fun a85=>xv fun a86=>xv fun a87=>x0 (
.fin .normal [a85,a86,a87])) <| xv fun a88=>xv fun a89=>xv fun a90=>x0 (
.fin .normal [a88,a89,a90])) <| xv fun a91=>xv fun a92=>xv fun a93=>x0 (
.op (x_nil a93) fun a94 =>
.op (zaa 4 a94) fun a95 =>
.op (zab none a95) fun a96 =>
.op (x_nil a93) fun a97 =>
.op (zaa 4 a97) fun a98 =>
.op (zab none a98) fun a99 =>
.op (x_len a99) fun a100 =>
.op (x_nil a93) fun a101 =>
.op (zaa 4 a101) fun a102 =>
.op (zab none a102) fun a103 =>
.op (x_len a103) fun a104 =>
.op (zart 7 (.const a96) (.const a100) (.const a104)) fun a105 =>
.op (zab (some 7) a91) fun a106 =>
.op (zag 7 1 [(.int .i64 0),(.int .i64 0),(.int .i64 0),(.int .i64 0),(.int .i64 0),(.str []),(.str [])] [(0,7,a106)]) fun a107 =>
.op (zal 7 (.const a105) (.const a107)) fun a108 =>
.op (x_nil a93) fun a109 =>
.op (zaa 4 a109) fun a110 =>
.op (zaf 1 a110 a108) fun _ =>
.op (x_neq a92 (.p (.int .i64 0))) fun a112 =>
.opg a112 false (x_mov a93) fun a113 =>
.opg a112 false (x_nil a113) fun a114 =>
.opg a112 false (zaa 4 a114) fun a115 =>
.opg a112 false (zab none a115) fun a116 =>
.opg a112 false (x_len a116) fun a117 =>
.opg a112 false (x_gtr a117 (.p (.int .i64 1500))) fun a118 =>
.op (zah a112 (.p (.bool true)) a118) fun a119 =>
.op (x_nil a93) fun a120 =>
.op (zaa 5 a120) fun a121 =>
.op (zaf 1 a121 a119) fun _ =>
.fin .ret []))
noncomputable def zfe:HFun:=⟨2,zmd,[],false⟩
theorem zjo:HOK tr.look F_Q94 zfe:=⟨i_Q94,(.sq .lf (.sq (.sq .lf (.cj .lf .lf)) (.sq .lf (.sq (.sq .lf (.bk [3,4,0] (.sq .lf (.cd [3,4,0] .lf (.sq .lf (.cd [3,4,0] .lf (.sq .lf (.cd [3,4,0] .lf (.sq .lf (.cd [3,4,0] .lf (.sq .lf (.cd [3,4,0] .lf (.sq .lf (.cd [3,4,0] .lf .lf)))))))))))))) (.sq .lf .lf))))),[],look_Q94,rfl,rfl,rfl,rfl,rfl,by kernel_rfl⟩
noncomputable def zme:List IVal→HC XF:=xv fun a0=>xv fun a1=>x0 (
.fresh [4] [a0,a1] <|
.op (x_nil a0) fun a2 =>
.op (zaa 1 a2) fun a3 =>
.op (zab none a3) fun a4 =>
.op (zac 10 a4 a1) fun a5 =>
.op (zab (some 10) a5) fun a6 =>
.op (zaj (some 4) [(.int .i64 0),(.int .i64 0),(.int .i64 0),(.int .i64 0),(.int .i64 0),(.int .i64 0),(.str []),(.str []), .nilslice, .nilslice]) fun a7 =>
.op (zaf 10 a7 a6) fun _ =>
.op (x_nil a0) fun a9 =>
.op (zaa 2 a9) fun a10 =>
.op (zab none a10) fun a11 =>
.op (zaa 0 a7) fun a12 =>
.op (zab none a12) fun a13 =>
.op (zas false (.p (.int .i64 0)) ⟨false,[.int]⟩ (.const a11) (.const a13)) fun a14 =>
.op (x_nil a0) fun a15 =>
.op (zaa 2 a15) fun a16 =>
.op (zab none a16) fun a17 =>
.op (zas true (.p (.int .i64 0)) ⟨false,[.int]⟩ (.const a17) (.const a1)) fun a18 =>
.op (zae a18 0) fun a19 =>
.op (zae a18 1) fun a20 =>
.block 1 (.op (x_not a20) fun a21 =>
.block 0 (.cond a21 (.op (x_nil a0) fun a22 =>
.op (zaa 3 a22) fun a23 =>
.op (zab none a23) fun a24 =>
.op (x_nil a0) fun a25 =>
.op (zaa 3 a25) fun a26 =>
.op (zab none a26) fun a27 =>
.op (x_add a27 (.p (.int .i64 1))) fun a28 =>
.op (x_nil a0) fun a29 =>
.op (zaa 3 a29) fun a30 =>
.op (zaf 1 a30 a28) fun _ =>
.op (x_nil a0) fun a32 =>
.op (zaa 2 a32) fun a33 =>
.op (zab none a33) fun a34 =>
.op (zby ⟨false,[.int]⟩ (.const a34) (.const a1) (.const a24)) fun _ =>
.op (zaa 4 a7) fun a36 =>
.op (zab none a36) fun a37 =>
.op (zaa 5 a7) fun a38 =>
.op (zaa 0 a38) fun a39 =>
.op (zab none a39) fun a40 =>
.op (zaa 5 a7) fun a41 =>
.op (zaa 1 a41) fun a42 =>
.op (zab none a42) fun a43 =>
.op (zaa 5 a7) fun a44 =>
.op (zaa 2 a44) fun a45 =>
.op (zab none a45) fun a46 =>
.op (zak [(.int .i64 0),(.int .i64 0),(.int .i64 0),(.int .i64 0),(.int .i64 0),(.str []),(.str [])] [(0,1,(.p (.int .i64 1))),(1,1,a24),(2,1,a14),(3,1,a37),(4,1,a40),(5,1,a43),(6,1,a46)]) fun a47 =>
.op (zad (.p (.func F_Q94)) [a0,a47]) fun _ =>
.fin .normal [a24,a0,a7]) <|
.op (x_nil a0) fun a49 =>
.op (zaa 0 a49) fun a50 =>
.op (zab none a50) fun a51 =>
.op (zad (.p (.func F_Q138)) [a51,a19]) fun a52 =>
.op (x_neq a52 a14) fun a53 =>
.opg a53 false (x_mov a0) fun a54 =>
.opg a53 false (x_nil a54) fun a55 =>
.opg a53 false (zaa 0 a55) fun a56 =>
.opg a53 false (zab none a56) fun a57 =>
.opg a53 false (x_mov a19) fun a58 =>
.opg a53 false (zaa 4 a7) fun a59 =>
.opg a53 false (zab none a59) fun a60 =>
.opg a53 false (zad (.p (.func F_Q139)) [a57,a58]) fun a61 =>
.opg a53 false (x_neq a61 a60) fun a62 =>
.op (zah a53 (.p (.bool true)) a62) fun a63 =>
.chkg a53 false (.load none (.const a59)) a60 <|
.block 0 (.cond a63 (.op (zaa 4 a7) fun a64 =>
.op (zab none a64) fun a65 =>
.op (zak [(.int .i64 0),(.int .i64 0),(.int .i64 0),(.int .i64 0),(.int .i64 0),(.str []),(.str [])] [(0,1,(.p (.int .i64 3))),(1,1,a19),(2,1,a14),(3,1,a65)]) fun a66 =>
.op (zad (.p (.func F_Q94)) [a0,a66]) fun _ =>
.fin .normal [a19,a0,a7]) <|
.fin .normal [a19,a0,a7]) <| xv fun a68=>xv fun a69=>xv fun a70=>x0 (
.fin .normal [a68,a69,a70])) <| xv fun a71=>xv fun a72=>xv fun a73=>x0 (
.fin .normal [a71,a72,a73])) <| xv fun a74=>xv fun a75=>xv fun a76=>x0 (
.fresh [8] [a74,a75,a76] <|
.op (x_nil a75) fun a77 =>
.op (zaa 0 a77) fun a78 =>
.op (zab none a78) fun a79 =>
.op (zad (.p (.func F_Q140)) [a79,a74]) fun a80 =>
.op (zae a80 0) fun a81 =>
.op (zae a80 1) fun _ =>
.op (zaj (some 8) [(.int .i64 0),(.str []),(.str []), .nilslice, .nilslice]) fun a83 =>
.op (zaf 5 a83 a81) fun _ =>
.op (zaa 5 a76) fun a85 =>
.op (zaa 2 a85) fun a86 =>
.op (zab none a86) fun a87 =>
.op (zaa 2 a83) fun a88 =>
.op (zab none a88) fun a89 =>
.op (x_neq a87 a89) fun a90 =>
.block 0 (.cond a90 (.op (zaa 5 a76) fun a91 =>
.op (zaa 2 a91) fun a92 =>
.op (zab none a92) fun a93 =>
.op (zak [(.int .i64 0),(.int .i64 0),(.int .i64 0),(.int .i64 0),(.int .i64 0),(.str []),(.str [])] [(0,1,(.p (.int .i64 6))),(1,1,a74),(6,1,a93)]) fun a94 =>
.op (zad (.p (.func F_Q94)) [a75,a94]) fun _ =>
.fin .normal [a74,a75,a76,a83]) <|
.fin .normal [a74,a75,a76,a83]) <| xv fun a96=>xv fun a97=>xv fun a98=>xv fun a99=>x0 (
.op (zaa 3 a99) fun a100 =>
.op (zab none a100) fun a101 =>
.op (x_len a101) fun a102 =>
.block 2 (.loop [(.p (.int .i64 0)),a96,a97,a98,a101,a99,a102] <| xv fun a103=>xv fun a104=>xv fun a105=>xv fun a106=>xv fun a107=>xv fun a108=>xv fun a109=>x0 (
.op (x_lss a103 a109) fun a110 =>
.cond a110 (.block 3 (.fresh [11] [a110,a103,a104,a105,a106,a107,a108,a109] <|
.op (zac 2 a107 a103) fun a111 =>
.op (zab (some 2) a111) fun a112 =>
.op (zaj (some 11) [(.str []),(.str [])]) fun a113 =>
.op (zaf 2 a113 a112) fun _ =>
.op (zaa 5 a106) fun a115 =>
.op (zab (some 5) a115) fun a116 =>
.op (zaa 0 a113) fun a117 =>
.op (zab none a117) fun a118 =>
.op (zad (.p (.func 108)) [a116,a118]) fun a119 =>
.op (zae a119 0) fun _ =>
.op (zae a119 1) fun a121 =>
.op (x_not a121) fun a122 =>
.block 0 (.cond a122 (.op (zaa 0 a113) fun a123 =>
.op (zab none a123) fun a124 =>
.op (zak [(.int .i64 0),(.int .i64 0),(.int .i64 0),(.int .i64 0),(.int .i64 0),(.str []),(.str [])] [(0,1,(.p (.int .i64 5))),(1,1,a104),(5,1,a124)]) fun a125 =>
.op (zad (.p (.func F_Q94)) [a105,a125]) fun _ =>
.fin .normal [a103,a104,a105,a106,a107,a108,a109]) <|
.fin .normal [a103,a104,a105,a106,a107,a108,a109]) <| xv fun a127=>xv fun a128=>xv fun a129=>xv fun a130=>xv fun a131=>xv fun a132=>xv fun a133=>x0 (
.fin .normal [a127,a128,a129,a130,a131,a132,a133])) <| xv fun a134=>xv fun a135=>xv fun a136=>xv fun a137=>xv fun a138=>xv fun a139=>xv fun a140=>x0 (
.op (x_add a134 (.p (.int .i64 1))) fun a141 =>
.fin .normal [a141,a135,a136,a137,a138,a139,a140])) <|
.fin (.exit 2) [a106,a104,a105,a108])) <| xv fun a142=>xv fun a143=>xv fun a144=>xv fun a145=>x0 (
.op (zaa 5 a142) fun a146 =>
.op (zaa 3 a146) fun a147 =>
.op (zab none a147) fun a148 =>
.op (x_len a148) fun a149 =>
.block 4 (.loop [(.p (.int .i64 0)),a143,a144,a145,a148,a149] <| xv fun a150=>xv fun a151=>xv fun a152=>xv fun a153=>xv fun a154=>xv fun a155=>x0 (
.op (x_lss a150 a155) fun a156 =>
.cond a156 (.block 5 (.fresh [15] [a156,a150,a151,a152,a153,a154,a155] <|
.op (zac 2 a154 a150) fun a157 =>
.op (zab (some 2) a157) fun a158 =>
.op (zaj (some 15) [(.str []),(.str [])]) fun a159 =>
.op (zaf 2 a159 a158) fun _ =>
.op (zab (some 5) a153) fun a161 =>
.op (zaa 0 a159) fun a162 =>
.op (zab none a162) fun a163 =>
.op (zad (.p (.func 108)) [a161,a163]) fun a164 =>
.op (zae a164 0) fun a165 =>
.op (zae a164 1) fun a166 =>
.op (x_not a166) fun a167 =>
.opg a167 false (x_mov a165) fun a168 =>
.opg a167 false (zaa 1 a159) fun a169 =>
.opg a167 false (zab none a169) fun a170 =>
.opg a167 false (x_neq a168 a170) fun a171 =>
.op (zah a167 (.p (.bool true)) a171) fun a172 =>
.block 0 (.cond a172 (.op (zaa 0 a159) fun a173 =>
.op (zab none a173) fun a174 =>
.op (zaa 1 a159) fun a175 =>
.op (zab none a175) fun a176 =>
.op (zak [(.int .i64 0),(.int .i64 0),(.int .i64 0),(.int .i64 0),(.int .i64 0),(.str []),(.str [])] [(0,1,(.p (.int .i64 4))),(1,1,a151),(5,1,a174),(6,1,a176)]) fun a177 =>
.op (zad (.p (.func F_Q94)) [a152,a177]) fun _ =>
.fin .normal [a150,a151,a152,a153,a154,a155]) <|
.fin .normal [a150,a151,a152,a153,a154,a155]) <| xv fun a179=>xv fun a180=>xv fun a181=>xv fun a182=>xv fun a183=>xv fun a184=>x0 (
.fin .normal [a179,a180,a181,a182,a183,a184])) <| xv fun a185=>xv fun a186=>xv fun a187=>xv fun a188=>xv fun a189=>xv fun a190=>x0 (
.op (x_add a185 (.p (.int .i64 1))) fun a191 =>
.fin .normal [a191,a186,a187,a188,a189,a190])) <|
.fin (.exit 4) [])) <| x0 (
.fin .ret [])))))
noncomputable def zff:HFun:=⟨2,zme,[],false⟩
theorem zjp:HOK tr.look F_Q95 zff:=⟨i_Q95,(.sq .lf (.sq .lf (.sq .lf (.sq (.bk [6,0,4] (.sq .lf (.cd [6,0,4] (.sq .lf (.sq .lf (.sq .lf .lf))) (.sq .lf (.cd [6,0,4] .lf .lf))))) (.sq .lf (.sq (.sq .lf (.cd [6,0,4,8] .lf .lf)) (.sq (.sq .lf (.bk [4,6,0,8] (.lp [129,6,0,4,127,8,128] (.sq .lf (.sq (.cj .lf .lf) (.sq (.bk [129,6,0,4,127,8,128] (.sq .lf (.sq .lf (.sq .lf (.cd [129,6,0,4,127,8,128] .lf .lf))))) .lf)))))) (.sq .lf (.bk [] (.lp [154,6,0,8,152,153] (.sq .lf (.sq (.cj .lf .lf) (.sq (.bk [154,6,0,8,152,153] (.sq .lf (.sq .lf (.sq .lf (.cd [154,6,0,8,152,153] .lf .lf))))) .lf))))))))))))),[],look_Q95,rfl,rfl,rfl,rfl,rfl,by kernel_rfl⟩
noncomputable def zacz:List IVal→HC XF:=xv fun a0=>x0 (
.fresh [1] [a0] <|
.op (x_box (some 1) 5 a0) fun a1 =>
.op (zab (some 5) a1) fun a2 =>
.op (zab (some 5) a1) fun a3 =>
.op (zad (.p (.func F_Q47)) [a3]) fun a4 =>
.op (zak [(.int .i64 0),(.str []),(.str []), .nilslice, .nilslice, .nilslice, .nilslice, .nilslice] [(0,5,a2),(5,1,a4)]) fun a5 =>
.op (x_box none 8 a5) fun a6 =>
.chk (.load (some 5) (.const a1)) a2 <|
.op (zab (some 5) a1) fun a7 =>
.op (zad (.p (.func F_Q141)) [a7]) fun a8 =>
.op (x_len a8) fun a9 =>
.block 1 (.loop [(.p (.int .i64 0)),a6,a8,a9] <| xv fun a10=>xv fun a11=>xv fun a12=>xv fun a13=>x0 (
.op (x_lss a10 a13) fun a14 =>
.cond a14 (.block 2 (.op (zac 1 a12 a10) fun a15 =>
.op (zab none a15) fun a16 =>
.op (x_nil a11) fun a17 =>
.op (zaa 6 a17) fun a18 =>
.op (zab none a18) fun a19 =>
.op (x_nil a11) fun a20 =>
.op (zaa 5 a20) fun a21 =>
.op (zab none a21) fun a22 =>
.op (zac 10 a22 a10) fun a23 =>
.op (zaa 1 a23) fun a24 =>
.op (zab none a24) fun a25 =>
.op (zfp .u64 a25) fun a26 =>
.op (xgen .shl a26 (.p (.int .u64 32))) fun a27 =>
.op (x_nil a11) fun a28 =>
.op (zaa 5 a28) fun a29 =>
.op (zab none a29) fun a30 =>
.op (zac 10 a30 a10) fun a31 =>
.op (zaa 3 a31) fun a32 =>
.op (zab none a32) fun a33 =>
.op (zfp .u64 a33) fun a34 =>
.op (x_or a27 a34) fun a35 =>
.op (zak [(.int .u64 0),(.int .u64 0)] [(0,1,a16),(1,1,a35)]) fun a36 =>
.op (zag 2 1 [(.int .u64 0),(.int .u64 0)] [(0,2,a36)]) fun a37 =>
.op (zal 2 (.const a19) (.const a37)) fun a38 =>
.op (x_nil a11) fun a39 =>
.op (zaa 6 a39) fun a40 =>
.op (zaf 1 a40 a38) fun _ =>
.fin .normal [a10,a11,a12,a13]) <| xv fun a42=>xv fun a43=>xv fun a44=>xv fun a45=>x0 (
.op (x_add a42 (.p (.int .i64 1))) fun a46 =>
.fin .normal [a46,a43,a44,a45])) <|
.fin (.exit 1) [a11])) <| xv fun a47=>x0 (
.op (x_nil a47) fun a48 =>
.op (zaa 5 a48) fun a49 =>
.op (zab none a49) fun a50 =>
.op (x_len a50) fun a51 =>
.op (zdp 1 [(.bool false)] (.const a51) (.const a51)) fun a52 =>
.op (x_nil a47) fun a53 =>
.op (zaa 7 a53) fun a54 =>
.op (zaf 1 a54 a52) fun _ =>
.fin .ret [a47]))
noncomputable def zql:HFun:=⟨1,zacz,[.tmp 2],false⟩
theorem zvq:HOK tr.look F_Q98 zql:=⟨i_Q98,(.sq .lf (.sq .lf (.sq (.sq .lf (.bk [3] (.lp [14,3,12,13] (.sq .lf (.sq (.cj .lf .lf) (.sq (.bk [14,3,12,13] (.sq .lf .lf)) .lf)))))) (.sq .lf (.sq .lf .lf))))),[],look_Q98,rfl,rfl,rfl,rfl,rfl,by kernel_rfl⟩
noncomputable def zph:List IVal→HC XF:=xv fun a0=>xv fun a1=>xv fun a2=>xv fun a3=>xv fun a4=>x0 (
.op (zab none a2) fun a5 =>
.op (x_nil a5) fun a6 =>
.op (zaa 5 a6) fun a7 =>
.op (zab none a7) fun a8 =>
.op (zac 10 a8 a0) fun a9 =>
.op (zaa 1 a9) fun a10 =>
.op (zab none a10) fun a11 =>
.block 1 (.loop [(.p (.int .i64 0)),a2,a0,a4,a1,a3,a11] <| xv fun a12=>xv fun a13=>xv fun a14=>xv fun a15=>xv fun a16=>xv fun a17=>xv fun a18=>x0 (
.op (x_lss a12 a18) fun a19 =>
.cond a19 (.block 2 (.op (zab none a17) fun a20 =>
.op (x_add a14 a12) fun a21 =>
.op (x_add a16 a12) fun a22 =>
.op (zak [(.int .i64 0),(.int .i64 0)] [(0,1,a21),(1,1,a22)]) fun a23 =>
.op (zag 2 1 [(.int .i64 0),(.int .i64 0)] [(0,2,a23)]) fun a24 =>
.op (zal 2 (.const a20) (.const a24)) fun a25 =>
.op (zaf 1 a17 a25) fun _ =>
.op (zab none a13) fun a27 =>
.op (x_nil a27) fun a28 =>
.op (zaa 7 a28) fun a29 =>
.op (zab none a29) fun a30 =>
.op (x_add a14 a12) fun a31 =>
.op (zab none a15) fun a32 =>
.op (x_nil a32) fun a33 =>
.op (zaa 7 a33) fun a34 =>
.op (zab none a34) fun a35 =>
.op (x_add a16 a12) fun a36 =>
.op (zac 1 a30 a31) fun a37 =>
.op (zaf 1 a37 (.p (.bool true))) fun _ =>
.op (zac 1 a35 a36) fun a39 =>
.op (zaf 1 a39 (.p (.bool true))) fun _ =>
.fin .normal [a12,a13,a14,a15,a16,a17,a18]) <| xv fun a41=>xv fun a42=>xv fun a43=>xv fun a44=>xv fun a45=>xv fun a46=>xv fun a47=>x0 (
.op (x_add a41 (.p (.int .i64 1))) fun a48 =>
.fin .normal [a48,a42,a43,a44,a45,a46,a47])) <|
.fin (.exit 1) [])) <| x0 (
.fin .ret []))
noncomputable def zgl:HFun:=⟨5,zph,[],false⟩
theorem zmf:HOK tr.look F_Q99 zgl:=⟨i_Q99,(.sq .lf (.bk [] (.lp [16,2,0,4,1,3,15] (.sq .lf (.sq (.cj .lf .lf) (.sq (.bk [16,2,0,4,1,3,15] (.sq .lf (.sq .lf .lf))) .lf)))))),[],look_Q99,rfl,rfl,rfl,rfl,rfl,by kernel_rfl⟩
noncomputable def zhw:List IVal→HC XF:=xv fun a0=>xv fun a1=>x0 (
.op (zcc) fun a2 =>
.op (x_add a1 (.p (.int .i64 1))) fun a3 =>
.block 1 (.loop [a3,a0,a2,a1] <| xv fun a4=>xv fun a5=>xv fun a6=>xv fun a7=>x0 (
.op (x_nil a5) fun a8 =>
.op (zaa 10 a8) fun a9 =>
.op (zab none a9) fun a10 =>
.op (zac 10 a10 a7) fun a11 =>
.op (zaa 1 a11) fun a12 =>
.op (zab none a12) fun a13 =>
.op (x_add a7 a13) fun a14 =>
.op (x_lss a4 a14) fun a15 =>
.cond a15 (.block 2 (.op (x_nil a5) fun a16 =>
.op (zaa 14 a16) fun a17 =>
.op (zab none a17) fun a18 =>
.op (zas true (.p (.int .i64 0)) ⟨false,[.int]⟩ (.const a18) (.const a4)) fun a19 =>
.op (zae a19 0) fun a20 =>
.op (zae a19 1) fun a21 =>
.op (x_not a21) fun a22 =>
.cond a22 (.fin (.exit 2) [a4,a5,a6,a7]) <|
.op (x_nil a5) fun a23 =>
.op (zaa 11 a23) fun a24 =>
.op (zab none a24) fun a25 =>
.op (zac 10 a25 a20) fun a26 =>
.op (zaa 0 a26) fun a27 =>
.op (zab none a27) fun a28 =>
.block 3 (.loop [a28,a5,a6,a4,a7] <| xv fun a29=>xv fun a30=>xv fun a31=>xv fun a32=>xv fun a33=>x0 (
.op (x_geq a29 (.p (.int .i64 0))) fun a34 =>
.cond a34 (.block 4 (.op (zas false (.p (.int .i64 0)) ⟨false,[.int]⟩ (.const a31) (.const a29)) fun a35 =>
.op (x_add a35 (.p (.int .i64 1))) fun a36 =>
.op (zby ⟨false,[.int]⟩ (.const a31) (.const a29) (.const a36)) fun _ =>
.fin .normal [a29,a30,a31,a32,a33]) <| xv fun a38=>xv fun a39=>xv fun a40=>xv fun a41=>xv fun a42=>x0 (
.op (x_nil a39) fun a43 =>
.op (zaa 11 a43) fun a44 =>
.op (zab none a44) fun a45 =>
.op (zac 10 a45 a38) fun a46 =>
.op (zaa 0 a46) fun a47 =>
.op (zab none a47) fun a48 =>
.fin .normal [a48,a39,a40,a41,a42])) <|
.fin (.exit 3) [a32,a30,a31,a33])) <| xv fun a49=>xv fun a50=>xv fun a51=>xv fun a52=>x0 (
.fin .normal [a49,a50,a51,a52])) <| xv fun a53=>xv fun a54=>xv fun a55=>xv fun a56=>x0 (
.op (x_add a53 (.p (.int .i64 1))) fun a57 =>
.fin .normal [a57,a54,a55,a56])) <|
.fin (.exit 1) [a6])) <| xv fun a58=>x0 (
.fin .ret [a58]))
noncomputable def zdf:HFun:=⟨2,zhw,[.tmp 4],false⟩
theorem zgm:HOK tr.look F_Q102 zdf:=⟨i_Q102,(.sq .lf (.sq .lf (.sq (.sq .lf (.bk [5] (.lp [6,0,5,1] (.sq (.sq .lf (.cj .lf .lf)) (.sq (.bk [6,0,5,1] (.sq .lf (.sq (.sq .lf (.cj .lf .lf)) (.sq .lf (.bk [6,0,5,1] (.lp [9,0,5,6,1] (.sq (.sq .lf (.cj .lf .lf)) (.sq (.bk [9,0,5,6,1] .lf) .lf)))))))) .lf))))) (.sq .lf .lf)))),[],look_Q102,rfl,rfl,rfl,rfl,rfl,by kernel_rfl⟩
noncomputable def zaio:List IVal→HC XF:=xv fun a0=>x0 (
.fresh [1,2] [a0] <|
.op (x_box (some 1) 10 a0) fun a1 =>
.op (zaj (some 2) [(.int .i64 0),(.str [])]) fun a2 =>
.op (zaa 5 a1) fun a3 =>
.op (zaa 0 a3) fun a4 =>
.op (zab none a4) fun a5 =>
.op (zaa 5 a1) fun a6 =>
.op (zaa 1 a6) fun a7 =>
.op (zab none a7) fun a8 =>
.op (zak [(.int .i64 0),(.str [])] [(0,1,a5),(1,1,a8)]) fun a9 =>
.op (zaf 2 a2 a9) fun _ =>
.fin .ret [a2])
noncomputable def zxk:HFun:=⟨1,zaio,[.cell 2 (some 2)],true⟩
theorem zada:HOK tr.look F_Q104 zxk:=⟨i_Q104,(.sq .lf (.sq .lf .lf)),[],look_Q104,rfl,rfl,rfl,rfl,rfl,by kernel_rfl⟩
noncomputable def zci:List IVal→HC XF:=xv fun a0=>xv fun a1=>xv fun a2=>x0 (
.op (x_add a1 (.p (.int .i64 1))) fun a3 =>
.block 1 (.loop [a1,a3,a0,a2] <| xv fun a4=>xv fun a5=>xv fun a6=>xv fun a7=>x0 (
.op (x_lss a5 a7) fun a8 =>
.cond a8 (.block 2 (.block 3 (.loop [a5,a6,a5,a4,a7] <| xv fun a9=>xv fun a10=>xv fun a11=>xv fun a12=>xv fun a13=>x0 (
.op (x_gtr a9 a12) fun a14 =>
.opg a14 true (x_mov a10) fun a15 =>
.opg a14 true (x_mov a9) fun a16 =>
.opg a14 true (zac 1 a15 a16) fun a17 =>
.opg a14 true (zab none a17) fun a18 =>
.opg a14 true (x_mov a10) fun a19 =>
.opg a14 true (x_mov a9) fun a20 =>
.opg a14 true (x_sub a20 (.p (.int .i64 1))) fun a21 =>
.opg a14 true (zac 1 a19 a21) fun a22 =>
.opg a14 true (zab none a22) fun a23 =>
.opg a14 true (zad (.p (.func 115)) [a18,a23]) fun a24 =>
.op (zah a14 a24 (.p (.bool false))) fun a25 =>
.cond a25 (.block 4 (.op (x_sub a9 (.p (.int .i64 1))) fun a26 =>
.op (x_sub a9 (.p (.int .i64 1))) fun a27 =>
.op (zac 1 a10 a27) fun a28 =>
.op (zab none a28) fun a29 =>
.op (zac 1 a10 a9) fun a30 =>
.op (zab none a30) fun a31 =>
.op (zac 1 a10 a9) fun a32 =>
.op (zaf 1 a32 a29) fun _ =>
.op (zac 1 a10 a26) fun a34 =>
.op (zaf 1 a34 a31) fun _ =>
.fin .normal [a9,a10,a11,a12,a13]) <| xv fun a36=>xv fun a37=>xv fun a38=>xv fun a39=>xv fun a40=>x0 (
.op (x_sub a36 (.p (.int .i64 1))) fun a41 =>
.fin .normal [a41,a37,a38,a39,a40])) <|
.fin (.exit 3) [a11,a12,a10,a13])) <| xv fun a42=>xv fun a43=>xv fun a44=>xv fun a45=>x0 (
.fin .normal [a42,a43,a44,a45])) <| xv fun a46=>xv fun a47=>xv fun a48=>xv fun a49=>x0 (
.op (x_add a46 (.p (.int .i64 1))) fun a50 =>
.fin .normal [a47,a50,a48,a49])) <|
.fin (.exit 1) [])) <| x0 (
.fin .ret []))
noncomputable def zbb:HFun:=⟨3,zci,[],true⟩
theorem zbz:HOK tr.look F_Q109 zbb:=⟨i_Q109,(.sq .lf (.bk [] (.lp [1,6,0,2] (.sq (.sq .lf (.cj .lf .lf)) (.sq (.bk [6,1,0,2] (.sq .lf (.bk [6,1,0,2] (.lp [7,0,6,1,2] (.sq (.sq .lf (.cj .lf .lf)) (.sq (.bk [7,0,6,1,2] .lf) .lf)))))) .lf))))),[],look_Q109,rfl,rfl,rfl,rfl,rfl,by kernel_rfl⟩
noncomputable def zpi:List IVal→HC XF:=xv fun a0=>x0 (
.op (x_geq a0 (.p (.int .u64 4294967296))) fun a1 =>
.block 0 (.cond a1 (.op (xgen .shr a0 (.p (.int .u64 32))) fun a2 =>
.fin .normal [a2,(.p (.int .i64 32))]) <|
.fin .normal [a0,(.p (.int .i64 0))]) <| xv fun a3=>xv fun a4=>x0 (
.op (x_geq a3 (.p (.int .u64 65536))) fun a5 =>
.block 0 (.cond a5 (.op (xgen .shr a3 (.p (.int .u64 16))) fun a6 =>
.op (x_add a4 (.p (.int .i64 16))) fun a7 =>
.fin .normal [a6,a7]) <|
.fin .normal [a3,a4]) <| xv fun a8=>xv fun a9=>x0 (
.op (x_geq a8 (.p (.int .u64 256))) fun a10 =>
.block 0 (.cond a10 (.op (xgen .shr a8 (.p (.int .u64 8))) fun a11 =>
.op (x_add a9 (.p (.int .i64 8))) fun a12 =>
.fin .normal [a12,a11]) <|
.fin .normal [a9,a8]) <| xv fun a13=>xv fun a14=>x0 (
.op (zfp .u8 a14) fun a15 =>
.op (zaha (.p (.str [0,1,2,2,3,3,3,3,4,4,4,4,4,4,4,4,5,5,5,5,5,5,5,5,5,5,5,5,5,5,5,5,6,6,6,6,6,6,6,6,6,6,6,6,6,6,6,6,6,6,6,6,6,6,6,6,6,6,6,6,6,6,6,6,7,7,7,7,7,7,7,7,7,7,7,7,7,7,7,7,7,7,7,7,7,7,7,7,7,7,7,7,7,7,7,7,7,7,7,7,7,7,7,7,7,7,7,7,7,7,7,7,7,7,7,7,7,7,7,7,7,7,7,7,7,7,7,7,8,8,8,8,8,8,8,8,8,8,8,8,8,8,8,8,8,8,8,8,8,8,8,8,8,8,8,8,8,8,8,8,8,8,8,8,8,8,8,8,8,8,8,8,8,8,8,8,8,8,8,8,8,8,8,8,8,8,8,8,8,8,8,8,8,8,8,8,8,8,8,8,8,8,8,8,8,8,8,8,8,8,8,8,8,8,8,8,8,8,8,8,8,8,8,8,8,8,8,8,8,8,8,8,8,8,8,8,8,8,8,8,8,8,8,8,8,8,8,8,8,8,8,8,8,8,8,8])) a15) fun a16 =>
.op (zfp .i64 a16) fun a17 =>
.op (x_add a13 a17) fun a18 =>
.fin .ret [a18]))))
noncomputable def zgn:HFun:=⟨1,zpi,[.tmp 2],true⟩
theorem zmg:HOK tr.look F_Q119 zgn:=⟨i_Q119,(.sq .lf (.sq (.sq .lf (.cd [0,2] (.sq .lf .lf) .lf)) (.sq (.sq .lf (.cd [0,2] (.sq .lf .lf) .lf)) (.sq (.sq .lf (.cd [2,0] (.sq .lf .lf) .lf)) (.sq .lf .lf))))),[],look_Q119,rfl,rfl,rfl,rfl,rfl,by kernel_rfl⟩
noncomputable def zdc:List IVal→HC XF:=xv fun a0=>xv fun a1=>xv fun a2=>xv fun a3=>xv fun a4=>x0 (
.block 1 (.loop [a4,a2,a1,a0,(.p (.bool true)),(.p (.bool true)),a3] <| xv fun a5=>xv fun a6=>xv fun a7=>xv fun a8=>xv fun a9=>xv fun a10=>xv fun a11=>x0 (
.block 2 (.op (x_sub a6 a7) fun a12 =>
.op (x_leq a12 (.p (.int .i64 12))) fun a13 =>
.cond a13 (.op (zad (.p (.func F_Q150)) [a8,a7,a6,a5]) fun _ =>
.fin .ret []) <|
.op (x_eql a11 (.p (.int .i64 0))) fun a15 =>
.cond a15 (.op (zad (.p (.func 151)) [a8,a7,a6,a5]) fun _ =>
.fin .ret []) <|
.op (x_not a10) fun a17 =>
.block 0 (.cond a17 (.op (zad (.p (.func 152)) [a8,a7,a6,a5]) fun _ =>
.op (x_sub a11 (.p (.int .i64 1))) fun a19 =>
.fin .normal [a19,a10,a9,a8,a6,a5,a7,a12]) <|
.fin .normal [a11,a10,a9,a8,a6,a5,a7,a12]) <| xv fun a20=>xv fun a21=>xv fun a22=>xv fun a23=>xv fun a24=>xv fun a25=>xv fun a26=>xv fun a27=>x0 (
.op (zad (.p (.func 153)) [a23,a26,a24,a25]) fun a28 =>
.op (zae a28 0) fun a29 =>
.op (zae a28 1) fun a30 =>
.op (x_eql a30 (.p (.int .i64 2))) fun a31 =>
.block 0 (.cond a31 (.op (zad (.p (.func 154)) [a23,a26,a24,a25]) fun _ =>
.op (x_sub a24 (.p (.int .i64 1))) fun a33 =>
.op (x_sub a29 a26) fun a34 =>
.op (x_sub a33 a34) fun a35 =>
.fin .normal [(.p (.int .i64 1)),a20,a21,a22,a23,a24,a25,a35,a26,a27]) <|
.fin .normal [a30,a20,a21,a22,a23,a24,a25,a29,a26,a27]) <| xv fun a36=>xv fun a37=>xv fun a38=>xv fun a39=>xv fun a40=>xv fun a41=>xv fun a42=>xv fun a43=>xv fun a44=>xv fun a45=>x0 (
.opg a38 true (x_mov a39) fun a46 =>
.op (zah a38 a46 (.p (.bool false))) fun a47 =>
.opg a47 true (x_mov a36) fun a48 =>
.opg a47 true (x_eql a48 (.p (.int .i64 1))) fun a49 =>
.op (zah a47 a49 (.p (.bool false))) fun a50 =>
.block 0 (.cond a50 (.op (zad (.p (.func 155)) [a40,a44,a41,a42]) fun a51 =>
.cond a51 (.fin .ret []) <|
.fin .normal [a45,a44,a43,a42,a41,a40,a39,a38,a37]) <|
.fin .normal [a45,a44,a43,a42,a41,a40,a39,a38,a37]) <| xv fun a52=>xv fun a53=>xv fun a54=>xv fun a55=>xv fun a56=>xv fun a57=>xv fun a58=>xv fun a59=>xv fun a60=>x0 (
.op (x_gtr a53 (.p (.int .i64 0))) fun a61 =>
.opg a61 true (x_mov a55) fun a62 =>
.opg a61 true (x_mov a57) fun a63 =>
.opg a61 true (x_mov a53) fun a64 =>
.opg a61 true (x_sub a64 (.p (.int .i64 1))) fun a65 =>
.opg a61 true (zac 2 a63 a65) fun a66 =>
.opg a61 true (zab (some 2) a66) fun a67 =>
.opg a61 true (x_mov a57) fun a68 =>
.opg a61 true (x_mov a54) fun a69 =>
.opg a61 true (zac 2 a68 a69) fun a70 =>
.opg a61 true (zab (some 2) a70) fun a71 =>
.opg a61 true (zad a62 [a67,a71]) fun a72 =>
.opg a61 true (x_lss a72 (.p (.int .i64 0))) fun a73 =>
.opg a61 true (x_not a73) fun a74 =>
.op (zah a61 a74 (.p (.bool false))) fun a75 =>
.cond a75 (.op (zad (.p (.func 156)) [a57,a53,a56,a54,a55]) fun a76 =>
.fin (.exit 2) [a55,a56,a76,a57,a58,a59,a60]) <|
.op (zad (.p (.func 157)) [a57,a53,a56,a54,a55]) fun a77 =>
.op (zae a77 0) fun a78 =>
.op (zae a77 1) fun a79 =>
.op (x_sub a78 a53) fun a80 =>
.op (x_sub a56 a78) fun a81 =>
.op (xgen .quo a52 (.p (.int .i64 8))) fun a82 =>
.op (x_lss a80 a81) fun a83 =>
.block 0 (.cond a83 (.op (x_geq a80 a82) fun a84 =>
.op (zad (.p (.func F_Q121)) [a57,a53,a78,a60,a55]) fun _ =>
.op (x_add a78 (.p (.int .i64 1))) fun a86 =>
.fin .normal [a55,a56,a86,a57,a79,a84,a60]) <|
.op (x_geq a81 a82) fun a87 =>
.op (x_add a78 (.p (.int .i64 1))) fun a88 =>
.op (zad (.p (.func F_Q121)) [a57,a88,a56,a60,a55]) fun _ =>
.fin .normal [a55,a78,a53,a57,a79,a87,a60]) <| xv fun a90=>xv fun a91=>xv fun a92=>xv fun a93=>xv fun a94=>xv fun a95=>xv fun a96=>x0 (
.fin .normal [a90,a91,a92,a93,a94,a95,a96]))))) <| xv fun a97=>xv fun a98=>xv fun a99=>xv fun a100=>xv fun a101=>xv fun a102=>xv fun a103=>x0 (
.fin .normal [a97,a98,a99,a100,a101,a102,a103]))) <| x0 (
.fin .ret []))
noncomputable def zbg:HFun:=⟨5,zdc,[],false⟩
theorem zcq:HOK tr.look F_Q121 zbg:=⟨i_Q121,(.sq .lf (.sq .lf (.bk [] (.lp [4,2,1,0,11,10,3] (.bk [4,2,1,0,11,10,3] (.sq .lf (.sq (.sq .lf (.cj (.sq .lf .lf) .lf)) (.sq (.sq .lf (.cj (.sq .lf .lf) .lf)) (.sq (.sq .lf (.cd [3,10,11,0,2,4,1,12] (.sq .lf .lf) .lf)) (.sq .lf (.sq (.sq .lf (.cd [14,3,10,11,0,2,4,13,1,12] (.sq .lf (.sq .lf .lf)) .lf)) (.sq (.sq .lf (.cd [12,1,13,4,2,0,11,10,3] (.sq .lf (.cj .lf .lf)) .lf)) (.sq (.sq .lf (.cj (.sq .lf (.sq .lf .lf)) .lf)) (.sq .lf (.sq .lf (.sq .lf (.sq .lf (.sq .lf (.cd [4,2,1,0,11,10,3] (.sq .lf (.sq .lf .lf)) (.sq .lf (.sq .lf .lf))))))))))))))))))))),[],look_Q121,rfl,rfl,rfl,rfl,rfl,by kernel_rfl⟩
noncomputable def zzy:List IVal→HC XF:=xv fun a0=>xv fun a1=>xv fun a2=>x0 (
.fresh [4] [a0,a1,a2] <|
.op (x_box (some 4) 5 a1) fun a3 =>
.op (x_nil a0) fun a4 =>
.op (zaa 0 a4) fun a5 =>
.op (zab none a5) fun a6 =>
.op (x_len a6) fun a7 =>
.op (zab (some 5) a3) fun a8 =>
.op (zad (.p (.func F_Q161)) [a0,a7,a2,a8]) fun _ =>
.op (zaa 4 a3) fun a10 =>
.op (zab none a10) fun a11 =>
.op (x_len a11) fun a12 =>
.block 1 (.loop [(.p (.int .i64 0)),a0,a7,a11,a12] <| xv fun a13=>xv fun a14=>xv fun a15=>xv fun a16=>xv fun a17=>x0 (
.op (x_lss a13 a17) fun a18 =>
.cond a18 (.block 2 (.fresh [9] [a18,a13,a14,a15,a16,a17] <|
.op (zac 5 a16 a13) fun a19 =>
.op (zab (some 5) a19) fun a20 =>
.op (zaj (some 9) [(.int .i64 0),(.str []),(.str []), .nilslice, .nilslice]) fun a21 =>
.op (zaf 5 a21 a20) fun _ =>
.op (zab (some 5) a21) fun a23 =>
.op (zad (.p (.func F_Q131)) [a14,a23,a15]) fun a24 =>
.op (x_nil a14) fun a25 =>
.op (zaa 0 a25) fun a26 =>
.op (zab none a26) fun a27 =>
.op (x_nil a14) fun a28 =>
.op (zaa 0 a28) fun a29 =>
.op (zab none a29) fun a30 =>
.op (zac 8 a30 a15) fun a31 =>
.op (zaa 7 a31) fun a32 =>
.op (zab none a32) fun a33 =>
.op (zag 1 1 [(.int .i64 0)] [(0,1,a24)]) fun a34 =>
.op (zal 1 (.const a33) (.const a34)) fun a35 =>
.op (zac 8 a27 a15) fun a36 =>
.op (zaa 7 a36) fun a37 =>
.chk (.load none (.const a26)) a27 <|
.op (zaf 1 a37 a35) fun _ =>
.fin .normal [a13,a14,a15,a16,a17]) <| xv fun a39=>xv fun a40=>xv fun a41=>xv fun a42=>xv fun a43=>x0 (
.op (x_add a39 (.p (.int .i64 1))) fun a44 =>
.fin .normal [a44,a40,a41,a42,a43])) <|
.fin (.exit 1) [a15])) <| xv fun a45=>x0 (
.fin .ret [a45]))
noncomputable def znx:HFun:=⟨3,zzy,[.tmp 6],false⟩
theorem zum:HOK tr.look F_Q131 znx:=⟨i_Q131,(.sq .lf (.sq .lf (.sq .lf (.sq (.sq .lf (.bk [7] (.lp [24,0,7,22,23] (.sq .lf (.sq (.cj .lf .lf) (.sq (.bk [24,0,7,22,23] (.sq .lf (.sq .lf .lf))) .lf)))))) (.sq .lf .lf))))),[],look_Q131,rfl,rfl,rfl,rfl,rfl,by kernel_rfl⟩
noncomputable def zqt:List IVal→HC XF:=xv fun a0=>xv fun a1=>xv fun a2=>xv fun a3=>xv fun a4=>x0 (
.fresh [9] [a0,a1,a2,a3,a4] <|
.op (x_box (some 9) 5 a4) fun a5 =>
.op (zad (.p (.func F_Q162)) [a0,a2]) fun a6 =>
.block 1 (.op (zad (.p (.func F_Q163)) [a0,a1]) fun a7 =>
.opg a7 false (x_mov a1) fun a8 =>
.opg a7 false (x_lss a8 (.p (.int .i64 1))) fun a9 =>
.op (zah a7 (.p (.bool true)) a9) fun a10 =>
.opg a10 false (x_mov a1) fun a11 =>
.opg a10 false (x_gtr a11 (.p (.int .i64 1048576))) fun a12 =>
.op (zah a10 (.p (.bool true)) a12) fun a13 =>
.block 0 (.cond a13 (.fin .normal [a13,a6,a5,a0,a2,a3,a1]) <|
.op (zaa 4 a5) fun a14 =>
.op (zab none a14) fun a15 =>
.op (x_len a15) fun a16 =>
.op (x_gtr a16 (.p (.int .i64 0))) fun a17 =>
.opg a17 false (zaa 3 a5) fun a18 =>
.opg a17 false (zab none a18) fun a19 =>
.opg a17 false (x_len a19) fun a20 =>
.opg a17 false (x_gtr a20 (.p (.int .i64 0))) fun a21 =>
.op (zah a17 (.p (.bool true)) a21) fun a22 =>
.opg a22 false (zab (some 5) a5) fun a23 =>
.opg a22 false (zag 5 1 [(.int .i64 0),(.str []),(.str []), .nilslice, .nilslice] [(0,5,a23)]) fun a24 =>
.opg a22 false (zak [(.int .i64 0),(.str []),(.str []), .nilslice, .nilslice] [(0,1,(.p (.int .i64 1))),(4,1,a24)]) fun a25 =>
.opg a22 false (zad (.p (.func F_Q30)) [a25]) fun a26 =>
.opg a22 false (x_not a26) fun a27 =>
.op (zah a22 (.p (.bool true)) a27) fun a28 =>
.fin .normal [a28,a6,a5,a0,a2,a3,a1]) <| xv fun a29=>xv fun a30=>xv fun a31=>xv fun a32=>xv fun a33=>xv fun a34=>xv fun a35=>x0 (
.cond a29 (.fin .ret [(.p (.int .i64 1))]) <|
.op (x_nil a32) fun a36 =>
.op (zaa 0 a36) fun a37 =>
.op (zab none a37) fun a38 =>
.op (x_len a38) fun a39 =>
.op (x_geq a39 (.p (.int .i64 300))) fun a40 =>
.cond a40 (.fin .ret [(.p (.int .i64 2))]) <|
.op (zox false (.const a30) (.const (.p .nilptr))) fun a41 =>
.cond a41 (.fin .ret [(.p (.int .i64 3))]) <|
.op (zaa 0 a31) fun a42 =>
.op (zab none a42) fun a43 =>
.op (zad (.p (.func F_Q164)) [a30,a43]) fun a44 =>
.op (x_not a44) fun a45 =>
.cond a45 (.fin .ret [(.p (.int .i64 4))]) <|
.op (x_lss a34 (.p (.int .i64 0))) fun a46 =>
.opg a46 false (x_mov a34) fun a47 =>
.opg a46 false (x_mov a30) fun a48 =>
.opg a46 false (x_nil a48) fun a49 =>
.opg a46 false (zaa 7 a49) fun a50 =>
.opg a46 false (zab none a50) fun a51 =>
.opg a46 false (x_len a51) fun a52 =>
.opg a46 false (x_gtr a47 a52) fun a53 =>
.op (zah a46 (.p (.bool true)) a53) fun a54 =>
.cond a54 (.fin .ret [(.p (.int .i64 5))]) <|
.op (zad (.p (.func F_Q165)) [a32,a33]) fun a55 =>
.op (x_geq a55 (.p (.int .i64 60))) fun a56 =>
.cond a56 (.fin .ret [(.p (.int .i64 2))]) <|
.fin .normal [a31,a32,a33,a34,a35])) <| xv fun a57=>xv fun a58=>xv fun a59=>xv fun a60=>xv fun a61=>x0 (
.op (zab (some 5) a57) fun a62 =>
.op (zad (.p (.func F_Q161)) [a58,a61,a59,a62]) fun _ =>
.op (zad (.p (.func F_Q162)) [a58,a59]) fun a64 =>
.op (x_nil a64) fun a65 =>
.op (zaa 7 a65) fun a66 =>
.op (zab none a66) fun a67 =>
.op (zag 1 1 [(.int .i64 0)] [(0,1,a61)]) fun a68 =>
.op (zad (.p (.func F_Q166)) [a67,a60,a68]) fun a69 =>
.op (x_nil a64) fun a70 =>
.op (zaa 7 a70) fun a71 =>
.op (zaf 1 a71 a69) fun _ =>
.fin .ret [(.p (.int .i64 0))]))
noncomputable def zhl:HFun:=⟨5,zqt,[.tmp 10],false⟩
theorem zny:HOK tr.look F_Q132 zhl:=⟨i_Q132,(.sq .lf (.sq .lf (.sq (.bk [9,0,2,3,1] (.sq (.sq .lf (.cd [15,11,9,0,2,3,1] .lf .lf)) (.cj (.sq .lf .lf) (.sq .lf (.cj (.sq .lf .lf) (.sq .lf (.cj (.sq .lf .lf) (.sq .lf (.cj (.sq .lf .lf) (.sq .lf (.cj (.sq .lf .lf) (.sq .lf (.cj (.sq .lf .lf) .lf))))))))))))) (.sq .lf (.sq .lf (.sq .lf (.sq .lf .lf))))))),[],look_Q132,rfl,rfl,rfl,rfl,rfl,by kernel_rfl⟩
noncomputable def zqu:List IVal→HC XF:=xv fun a0=>xv fun a1=>x0 (
.op (zad (.p (.func F_Q162)) [a0,a1]) fun a2 =>
.op (zox false (.const a2) (.const (.p .nilptr))) fun a3 =>
.cond a3 (.fin .ret [(.p (.int .i64 (-1)))]) <|
.op (x_nil a2) fun a4 =>
.op (zaa 1 a4) fun a5 =>
.op (zab none a5) fun a6 =>
.fin .ret [a6])
noncomputable def zhm:HFun:=⟨2,zqu,[.tmp 4],false⟩
theorem znz:HOK tr.look F_Q138 zhm:=⟨i_Q138,(.sq .lf (.sq .lf (.sq (.sq .lf (.cj (.sq .lf .lf) .lf)) (.sq .lf .lf)))),[],look_Q138,rfl,rfl,rfl,rfl,rfl,by kernel_rfl⟩
noncomputable def zun:List IVal→HC XF:=xv fun a0=>xv fun a1=>x0 (
.op (zad (.p (.func F_Q138)) [a0,a1]) fun a2 =>
.op (zad (.p (.func F_Q162)) [a0,a2]) fun a3 =>
.op (zox false (.const a3) (.const (.p .nilptr))) fun a4 =>
.cond a4 (.fin .ret [(.p (.int .i64 (-1)))]) <|
.op (x_nil a3) fun a5 =>
.op (zaa 7 a5) fun a6 =>
.op (zab none a6) fun a7 =>
.op (zad (.p (.func F_Q172)) [a7,a1]) fun a8 =>
.fin .ret [a8])
noncomputable def zjq:HFun:=⟨2,zun,[.tmp 4],false⟩
theorem zpj:HOK tr.look F_Q139 zjq:=⟨i_Q139,(.sq .lf (.sq .lf (.sq (.sq .lf (.cj (.sq .lf .lf) .lf)) (.sq .lf .lf)))),[],look_Q139,rfl,rfl,rfl,rfl,rfl,by kernel_rfl⟩
noncomputable def zvr:List IVal→HC XF:=xv fun a0=>xv fun a1=>x0 (
.fresh [4] [a0,a1] <|
.op (zaj (some 4) [(.int .i64 0),(.str []),(.str []), .nilslice, .nilslice]) fun a2 =>
.op (zad (.p (.func F_Q162)) [a0,a1]) fun a3 =>
.op (zox false (.const a3) (.const (.p .nilptr))) fun a4 =>
.cond a4 (.op (zak [(.int .i64 0),(.str []),(.str []), .nilslice, .nilslice] []) fun a5 =>
.op (zaf 5 a2 a5) fun _ =>
.fin .ret [a2,(.p (.bool false))]) <|
.fresh [7] [a4,a3,a3,a3,a1,a0,(.p (.bool false)),a2,a0,a1] <|
.op (x_nil a3) fun a7 =>
.op (zaa 2 a7) fun a8 =>
.op (zab (some 5) a8) fun a9 =>
.op (zaj (some 7) [(.int .i64 0),(.str []),(.str []), .nilslice, .nilslice]) fun a10 =>
.op (zaf 5 a10 a9) fun _ =>
.op (zaa 3 a10) fun a12 =>
.op (zab none a12) fun a13 =>
.op (zad (.p (.func F_Q67)) [a13]) fun a14 =>
.op (zaa 3 a10) fun a15 =>
.op (zaf 1 a15 a14) fun _ =>
.op (zab (some 5) a10) fun a17 =>
.op (zaf 5 a2 a17) fun _ =>
.fin .ret [a2,(.p (.bool true))])
noncomputable def zlf:HFun:=⟨2,zvr,[.cell 4 (some 5), .tmp 5],false⟩
theorem zqv:HOK tr.look F_Q140 zlf:=⟨i_Q140,(.sq .lf (.sq .lf (.sq (.sq .lf (.cj (.sq .lf .lf) .lf)) (.sq .lf (.sq .lf (.sq .lf .lf)))))),[],look_Q140,rfl,rfl,rfl,rfl,rfl,by kernel_rfl⟩
noncomputable def zaip:List IVal→HC XF:=xv fun a0=>x0 (
.fresh [1] [a0] <|
.op (x_box (some 1) 5 a0) fun a1 =>
.op (zab (some 5) a1) fun a2 =>
.op (zad (.p (.func F_Q47)) [a2]) fun a3 =>
.op (x_len a3) fun a4 =>
.op (zdp 1 [(.int .u64 0)] (.const a4) (.const a4)) fun a5 =>
.op (x_len a3) fun a6 =>
.op (x_sub a6 (.p (.int .i64 1))) fun a7 =>
.block 1 (.loop [a7,a5,a3] <| xv fun a8=>xv fun a9=>xv fun a10=>x0 (
.op (x_geq a8 (.p (.int .i64 0))) fun a11 =>
.cond a11 (.block 2 (.op (x_add a8 (.p (.int .i64 1))) fun a12 =>
.block 3 (.loop [a12,a10,a9,(.p .nilslice),a8] <| xv fun a13=>xv fun a14=>xv fun a15=>xv fun a16=>xv fun a17=>x0 (
.op (zac 10 a14 a17) fun a18 =>
.op (zaa 1 a18) fun a19 =>
.op (zab none a19) fun a20 =>
.op (x_add a17 a20) fun a21 =>
.op (x_lss a13 a21) fun a22 =>
.cond a22 (.block 4 (.op (zac 1 a15 a13) fun a23 =>
.op (zab none a23) fun a24 =>
.op (zag 1 1 [(.int .u64 0)] [(0,1,a24)]) fun a25 =>
.op (zal 1 (.const a16) (.const a25)) fun a26 =>
.fin .normal [a13,a14,a15,a26,a17]) <| xv fun a27=>xv fun a28=>xv fun a29=>xv fun a30=>xv fun a31=>x0 (
.op (zac 10 a28 a27) fun a32 =>
.op (zaa 1 a32) fun a33 =>
.op (zab none a33) fun a34 =>
.op (x_add a27 a34) fun a35 =>
.fin .normal [a35,a28,a29,a30,a31])) <|
.fin (.exit 3) [a16,a17,a15,a14])) <| xv fun a36=>xv fun a37=>xv fun a38=>xv fun a39=>x0 (
.op (zac 10 a39 a37) fun a40 =>
.op (zaa 5 a40) fun a41 =>
.op (zab (some 5) a41) fun a42 =>
.op (zad (.p (.func F_Q173)) [a42,a36]) fun a43 =>
.op (zac 1 a38 a37) fun a44 =>
.op (zaf 1 a44 a43) fun _ =>
.fin .normal [a37,a38,a39])) <| xv fun a46=>xv fun a47=>xv fun a48=>x0 (
.op (x_sub a46 (.p (.int .i64 1))) fun a49 =>
.fin .normal [a49,a47,a48])) <|
.fin (.exit 1) [a9])) <| xv fun a50=>x0 (
.fin .ret [a50]))
noncomputable def zxl:HFun:=⟨1,zaip,[.tmp 2],true⟩
theorem zadb:HOK tr.look F_Q141 zxl:=⟨i_Q141,(.sq .lf (.sq .lf (.sq .lf (.sq (.sq .lf (.bk [4] (.lp [5,4,3] (.sq (.sq .lf (.cj .lf .lf)) (.sq (.bk [5,4,3] (.sq .lf (.sq (.sq .lf (.bk [6,5,4,3] (.lp [7,3,4,6,5] (.sq (.sq .lf (.cj .lf .lf)) (.sq (.bk [7,3,4,6,5] .lf) .lf))))) .lf))) .lf))))) (.sq .lf .lf))))),[],look_Q141,rfl,rfl,rfl,rfl,rfl,by kernel_rfl⟩
noncomputable def zca:List IVal→HC XF:=xv fun a0=>xv fun a1=>xv fun a2=>xv fun a3=>x0 (
.op (x_add a1 (.p (.int .i64 1))) fun a4 =>
.block 1 (.loop [a3,a1,a4,a0,a2] <| xv fun a5=>xv fun a6=>xv fun a7=>xv fun a8=>xv fun a9=>x0 (
.op (x_lss a7 a9) fun a10 =>
.cond a10 (.block 2 (.block 3 (.loop [a7,a8,a7,a5,a6,a9] <| xv fun a11=>xv fun a12=>xv fun a13=>xv fun a14=>xv fun a15=>xv fun a16=>x0 (
.op (x_gtr a11 a15) fun a17 =>
.opg a17 true (x_mov a14) fun a18 =>
.opg a17 true (x_mov a12) fun a19 =>
.opg a17 true (x_mov a11) fun a20 =>
.opg a17 true (zac 2 a19 a20) fun a21 =>
.opg a17 true (zab (some 2) a21) fun a22 =>
.opg a17 true (x_mov a12) fun a23 =>
.opg a17 true (x_mov a11) fun a24 =>
.opg a17 true (x_sub a24 (.p (.int .i64 1))) fun a25 =>
.opg a17 true (zac 2 a23 a25) fun a26 =>
.opg a17 true (zab (some 2) a26) fun a27 =>
.opg a17 true (zad a18 [a22,a27]) fun a28 =>
.opg a17 true (x_lss a28 (.p (.int .i64 0))) fun a29 =>
.op (zah a17 a29 (.p (.bool false))) fun a30 =>
.cond a30 (.block 4 (.op (x_sub a11 (.p (.int .i64 1))) fun a31 =>
.op (x_sub a11 (.p (.int .i64 1))) fun a32 =>
.op (zac 2 a12 a32) fun a33 =>
.op (zab (some 2) a33) fun a34 =>
.op (zac 2 a12 a11) fun a35 =>
.op (zab (some 2) a35) fun a36 =>
.op (zac 2 a12 a11) fun a37 =>
.op (zaf 2 a37 a34) fun _ =>
.op (zac 2 a12 a31) fun a39 =>
.op (zaf 2 a39 a36) fun _ =>
.fin .normal [a11,a12,a13,a14,a15,a16]) <| xv fun a41=>xv fun a42=>xv fun a43=>xv fun a44=>xv fun a45=>xv fun a46=>x0 (
.op (x_sub a41 (.p (.int .i64 1))) fun a47 =>
.fin .normal [a47,a42,a43,a44,a45,a46])) <|
.fin (.exit 3) [a13,a14,a15,a12,a16])) <| xv fun a48=>xv fun a49=>xv fun a50=>xv fun a51=>xv fun a52=>x0 (
.fin .normal [a48,a49,a50,a51,a52])) <| xv fun a53=>xv fun a54=>xv fun a55=>xv fun a56=>xv fun a57=>x0 (
.op (x_add a53 (.p (.int .i64 1))) fun a58 =>
.fin .normal [a54,a55,a58,a56,a57])) <|
.fin (.exit 1) [])) <| x0 (
.fin .ret []))
noncomputable def zaw:HFun:=⟨4,zca,[],false⟩
theorem zbp:HOK tr.look F_Q150 zaw:=⟨i_Q150,(.sq .lf (.bk [] (.lp [3,1,8,0,2] (.sq (.sq .lf (.cj .lf .lf)) (.sq (.bk [8,3,1,0,2] (.sq .lf (.bk [8,3,1,0,2] (.lp [9,0,8,3,1,2] (.sq (.sq .lf (.cj .lf .lf)) (.sq (.bk [9,0,8,3,1,2] .lf) .lf)))))) .lf))))),[],look_Q150,rfl,rfl,rfl,rfl,rfl,by kernel_rfl⟩
noncomputable def zzz:List IVal→HC XF:=xv fun a0=>xv fun a1=>xv fun a2=>xv fun a3=>x0 (
.fresh [7] [a0,a1,a2,a3] <|
.op (x_box (some 7) 5 a3) fun a4 =>
.op (zaa 4 a4) fun a5 =>
.op (zaf 1 a5 (.p .nilslice)) fun _ =>
.op (zaa 3 a4) fun a7 =>
.op (zab none a7) fun a8 =>
.op (zad (.p (.func F_Q67)) [a8]) fun a9 =>
.op (zaa 3 a4) fun a10 =>
.op (zaf 1 a10 a9) fun _ =>
.op (x_nil a0) fun a12 =>
.op (zaa 1 a12) fun a13 =>
.op (zab none a13) fun a14 =>
.op (x_nil a0) fun a15 =>
.op (zaa 0 a15) fun a16 =>
.op (zab none a16) fun a17 =>
.op (x_len a17) fun a18 =>
.op (zby ⟨false,[.int]⟩ (.const a14) (.const a1) (.const a18)) fun _ =>
.op (x_nil a0) fun a20 =>
.op (zaa 0 a20) fun a21 =>
.op (zab none a21) fun a22 =>
.op (zab (some 5) a4) fun a23 =>
.op (zak [(.int .i64 0),(.int .i64 0),(.int .i64 0),(.str []),(.str []), .nilslice, .nilslice, .nilslice] [(0,1,a1),(1,1,a2),(2,5,a23)]) fun a24 =>
.op (zag 8 1 [(.int .i64 0),(.int .i64 0),(.int .i64 0),(.str []),(.str []), .nilslice, .nilslice, .nilslice] [(0,8,a24)]) fun a25 =>
.op (zal 8 (.const a22) (.const a25)) fun a26 =>
.op (x_nil a0) fun a27 =>
.op (zaa 0 a27) fun a28 =>
.op (zaf 1 a28 a26) fun _ =>
.fin .ret [])
noncomputable def zoa:HFun:=⟨4,zzz,[],false⟩
theorem zuo:HOK tr.look F_Q161 zoa:=⟨i_Q161,(.sq .lf (.sq .lf (.sq .lf (.sq .lf .lf)))),[],look_Q161,rfl,rfl,rfl,rfl,rfl,by kernel_rfl⟩
noncomputable def zvs:List IVal→HC XF:=xv fun a0=>xv fun a1=>x0 (
.op (x_nil a0) fun a2 =>
.op (zaa 1 a2) fun a3 =>
.op (zab none a3) fun a4 =>
.op (zas true (.p (.int .i64 0)) ⟨false,[.int]⟩ (.const a4) (.const a1)) fun a5 =>
.op (zae a5 0) fun a6 =>
.op (zae a5 1) fun a7 =>
.op (x_not a7) fun a8 =>
.cond a8 (.fin .ret [(.p .nilptr)]) <|
.op (x_nil a0) fun a9 =>
.op (zaa 0 a9) fun a10 =>
.op (zab none a10) fun a11 =>
.op (zac 8 a11 a6) fun a12 =>
.fin .ret [a12])
noncomputable def zlg:HFun:=⟨2,zvs,[.tmp 4],false⟩
theorem zqw:HOK tr.look F_Q162 zlg:=⟨i_Q162,(.sq .lf (.sq .lf (.sq (.sq .lf (.cj (.sq .lf .lf) .lf)) (.sq .lf .lf)))),[],look_Q162,rfl,rfl,rfl,rfl,rfl,by kernel_rfl⟩
noncomputable def zaaa:List IVal→HC XF:=xv fun a0=>xv fun a1=>x0 (
.op (zad (.p (.func F_Q162)) [a0,a1]) fun a2 =>
.op (zox true (.const a2) (.const (.p .nilptr))) fun a3 =>
.fin .ret [a3])
noncomputable def zob:HFun:=⟨2,zaaa,[.tmp 4],false⟩
theorem zuq:HOK tr.look F_Q163 zob:=⟨i_Q163,(.sq .lf (.sq .lf .lf)),[],look_Q163,rfl,rfl,rfl,rfl,rfl,by kernel_rfl⟩
noncomputable def zqx:List IVal→HC XF:=xv fun a0=>xv fun a1=>x0 (
.op (x_nil a0) fun a2 =>
.op (zaa 2 a2) fun a3 =>
.op (zaa 0 a3) fun a4 =>
.op (zab none a4) fun a5 =>
.op (x_eql a5 (.p (.int .i64 1))) fun a6 =>
.opg a6 false (x_mov a0) fun a7 =>
.opg a6 false (x_nil a7) fun a8 =>
.opg a6 false (zaa 2 a8) fun a9 =>
.opg a6 false (zaa 0 a9) fun a10 =>
.opg a6 false (zab none a10) fun a11 =>
.opg a6 false (x_eql a11 (.p (.int .i64 2))) fun a12 =>
.opg a6 false (x_mov a12) fun a13 =>
.opg a13 true (x_mov a1) fun a14 =>
.opg a13 true (x_neq a14 (.p (.int .i64 5))) fun a15 =>
.opg a6 false (zah a13 a15 (.p (.bool false))) fun a16 =>
.op (zah a6 (.p (.bool true)) a16) fun a17 =>
.fin .ret [a17])
noncomputable def zhn:HFun:=⟨2,zqx,[.tmp 4],false⟩
theorem zoc:HOK tr.look F_Q164 zhn:=⟨i_Q164,(.sq .lf (.sq .lf .lf)),[],look_Q164,rfl,rfl,rfl,rfl,rfl,by kernel_rfl⟩
noncomputable def zur:List IVal→HC XF:=xv fun a0=>xv fun a1=>x0 (
.block 1 (.loop [a1,a0,(.p (.int .i64 0))] <| xv fun a2=>xv fun a3=>xv fun a4=>x0 (
.op (zad (.p (.func F_Q163)) [a3,a2]) fun a5 =>
.cond a5 (.block 2 (.op (x_add a4 (.p (.int .i64 1))) fun a6 =>
.op (zad (.p (.func F_Q138)) [a3,a2]) fun a7 =>
.fin .normal [a7,a3,a6]) <| xv fun a8=>xv fun a9=>xv fun a10=>x0 (
.fin .normal [a8,a9,a10])) <|
.fin (.exit 1) [a4])) <| xv fun a11=>x0 (
.fin .ret [a11]))
noncomputable def zjr:HFun:=⟨2,zur,[.tmp 4],false⟩
theorem zpk:HOK tr.look F_Q165 zjr:=⟨i_Q165,(.sq .lf (.sq .lf (.sq (.bk [5] (.lp [1,0,5] (.sq (.sq .lf (.cj .lf .lf)) (.bk [1,0,5] (.sq .lf .lf))))) (.sq .lf .lf)))),[],look_Q165,rfl,rfl,rfl,rfl,rfl,by kernel_rfl⟩
noncomputable def zhx:List IVal→HC XF:=xv fun a0=>xv fun a1=>x0 (
.op (x_len a0) fun a2 =>
.block 1 (.loop [(.p (.int .i64 0)),a0,a1,a2] <| xv fun a3=>xv fun a4=>xv fun a5=>xv fun a6=>x0 (
.op (x_lss a3 a6) fun a7 =>
.cond a7 (.block 2 (.op (zac 1 a4 a3) fun a8 =>
.op (zab none a8) fun a9 =>
.op (x_eql a5 a9) fun a10 =>
.cond a10 (.fin .ret [a3]) <|
.fin .normal [a3,a4,a5,a6]) <| xv fun a11=>xv fun a12=>xv fun a13=>xv fun a14=>x0 (
.op (x_add a11 (.p (.int .i64 1))) fun a15 =>
.fin .normal [a15,a12,a13,a14])) <|
.fin (.exit 1) [])) <| x0 (
.fin .ret [(.p (.int .i64 (-1)))]))
noncomputable def zdg:HFun:=⟨2,zhx,[.tmp 4],true⟩
theorem zgo:HOK tr.look F_Q172 zdg:=⟨i_Q172,(.sq .lf (.sq (.sq .lf (.bk [] (.lp [8,0,1,7] (.sq .lf (.sq (.cj .lf .lf) (.sq (.bk [8,0,1,7] (.sq .lf (.sq .lf (.cj (.sq .lf .lf) .lf)))) .lf)))))) (.sq .lf .lf))),[],look_Q172,rfl,rfl,rfl,rfl,rfl,by kernel_rfl⟩
noncomputable def zafk:List IVal→HC XF:=xv fun a0=>xv fun a1=>x0 (
.fresh [2] [a0,a1] <|
.op (x_box (some 2) 5 a0) fun a2 =>
.op (zaa 0 a2) fun a3 =>
.op (zab none a3) fun a4 =>
.op (zfp .u64 a4) fun a5 =>
.op (zaa 1 a2) fun a6 =>
.op (zab none a6) fun a7 =>
.op (zad (.p (.func F_Q198)) [a7]) fun a8 =>
.op (zad (.p (.func F_Q197)) [a5,a8]) fun a9 =>
.op (zaa 2 a2) fun a10 =>
.op (zab none a10) fun a11 =>
.op (zad (.p (.func F_Q198)) [a11]) fun a12 =>
.op (zad (.p (.func F_Q197)) [a9,a12]) fun a13 =>
.op (zaa 3 a2) fun a14 =>
.op (zab none a14) fun a15 =>
.op (x_len a15) fun a16 =>
.op (zfp .u64 a16) fun a17 =>
.op (zad (.p (.func F_Q197)) [a13,a17]) fun a18 =>
.op (zaa 3 a2) fun a19 =>
.op (zab none a19) fun a20 =>
.op (x_len a20) fun a21 =>
.block 1 (.loop [(.p (.int .i64 0)),a18,a20,a1,a21] <| xv fun a22=>xv fun a23=>xv fun a24=>xv fun a25=>xv fun a26=>x0 (
.op (x_lss a22 a26) fun a27 =>
.cond a27 (.block 2 (.fresh [7] [a27,a22,a23,a24,a25,a26] <|
.op (zac 2 a24 a22) fun a28 =>
.op (zab (some 2) a28) fun a29 =>
.op (zaj (some 7) [(.str []),(.str [])]) fun a30 =>
.op (zaf 2 a30 a29) fun _ =>
.op (zaa 0 a30) fun a32 =>
.op (zab none a32) fun a33 =>
.op (zad (.p (.func F_Q198)) [a33]) fun a34 =>
.op (zad (.p (.func F_Q197)) [a23,a34]) fun a35 =>
.op (zaa 1 a30) fun a36 =>
.op (zab none a36) fun a37 =>
.op (zad (.p (.func F_Q198)) [a37]) fun a38 =>
.op (zad (.p (.func F_Q197)) [a35,a38]) fun a39 =>
.fin .normal [a22,a39,a24,a25,a26]) <| xv fun a40=>xv fun a41=>xv fun a42=>xv fun a43=>xv fun a44=>x0 (
.op (x_add a40 (.p (.int .i64 1))) fun a45 =>
.fin .normal [a45,a41,a42,a43,a44])) <|
.fin (.exit 1) [a23,a25])) <| xv fun a46=>xv fun a47=>x0 (
.op (x_len a47) fun a48 =>
.op (zfp .u64 a48) fun a49 =>
.op (zad (.p (.func F_Q197)) [a46,a49]) fun a50 =>
.op (x_len a47) fun a51 =>
.block 3 (.loop [(.p (.int .i64 0)),a50,a47,a51] <| xv fun a52=>xv fun a53=>xv fun a54=>xv fun a55=>x0 (
.op (x_lss a52 a55) fun a56 =>
.cond a56 (.block 4 (.op (zac 1 a54 a52) fun a57 =>
.op (zab none a57) fun a58 =>
.op (zad (.p (.func F_Q197)) [a53,a58]) fun a59 =>
.fin .normal [a52,a59,a54,a55]) <| xv fun a60=>xv fun a61=>xv fun a62=>xv fun a63=>x0 (
.op (x_add a60 (.p (.int .i64 1))) fun a64 =>
.fin .normal [a64,a61,a62,a63])) <|
.fin (.exit 3) [a53])) <| xv fun a65=>x0 (
.fin .ret [a65])))
noncomputable def zus:HFun:=⟨2,zafk,[.tmp 4],true⟩
theorem zaab:HOK tr.look F_Q173 zus:=⟨i_Q173,(.sq .lf (.sq .lf (.sq .lf (.sq .lf (.sq .lf (.sq (.sq .lf (.bk [5,1] (.lp [32,5,30,1,31] (.sq .lf (.sq (.cj .lf .lf) (.sq (.bk [32,5,30,1,31] (.sq .lf (.sq .lf .lf))) .lf)))))) (.sq .lf (.sq (.sq .lf (.bk [5] (.lp [54,5,52,53] (.sq .lf (.sq (.cj .lf .lf) (.sq (.bk [54,5,52,53] (.sq .lf .lf)) .lf)))))) (.sq .lf .lf))))))))),[],look_Q173,rfl,rfl,rfl,rfl,rfl,by kernel_rfl⟩
noncomputable def zaiq:List IVal→HC XF:=xv fun a0=>xv fun a1=>x0 (
.op (x_xor a0 a1) fun a2 =>
.op (x_mul a2 (.p (.int .u64 11400714819323198485))) fun a3 =>
.op (xgen .shr a3 (.p (.int .u64 29))) fun a4 =>
.op (x_xor a3 a4) fun a5 =>
.op (zad (.p (.func F_Q204)) [a5,(.p (.int .i64 31))]) fun a6 =>
.fin .ret [a6])
noncomputable def zxm:HFun:=⟨2,zaiq,[.tmp 4],true⟩
theorem zadc:HOK tr.look F_Q197 zxm:=⟨i_Q197,(.sq .lf (.sq .lf (.sq .lf .lf))),[],look_Q197,rfl,rfl,rfl,rfl,rfl,by kernel_rfl⟩
noncomputable def zafl:List IVal→HC XF:=xv fun a0=>x0 (
.op (zki a0) fun a1 =>
.op (zfp .u64 a1) fun a2 =>
.block 1 (.loop [(.p (.int .i64 0)),a2,a0] <| xv fun a3=>xv fun a4=>xv fun a5=>x0 (
.op (zki a5) fun a6 =>
.op (x_lss a3 a6) fun a7 =>
.cond a7 (.block 2 (.op (zahe [(.int .u8 0),(.int .u8 0),(.int .u8 0),(.int .u8 0),(.int .u8 0),(.int .u8 0),(.int .u8 0),(.int .u8 0)] 1) fun a8 =>
.op (zwy 8 1 (.const a8) none none) fun a9 =>
.op (zwx a5 (some a3) none) fun a10 =>
.op (zamd 1 (.const a9) (.const a10)) fun _ =>
.op (zab (some 8) a8) fun a12 =>
.op (zad (.p (.func F_Q205)) [a12]) fun a13 =>
.op (zad (.p (.func F_Q197)) [a4,a13]) fun a14 =>
.fin .normal [a3,a14,a5]) <| xv fun a15=>xv fun a16=>xv fun a17=>x0 (
.op (x_add a15 (.p (.int .i64 8))) fun a18 =>
.fin .normal [a18,a16,a17])) <|
.fin (.exit 1) [a4])) <| xv fun a19=>x0 (
.fin .ret [a19]))
noncomputable def zut:HFun:=⟨1,zafl,[.tmp 2],true⟩
theorem zaac:HOK tr.look F_Q198 zut:=⟨i_Q198,(.sq .lf (.sq .lf (.sq (.sq .lf (.bk [3] (.lp [4,3,0] (.sq (.sq .lf (.cj .lf .lf)) (.sq (.bk [4,3,0] (.sq .lf (.sq .lf .lf))) .lf))))) (.sq .lf .lf)))),[],look_Q198,rfl,rfl,rfl,rfl,rfl,by kernel_rfl⟩
noncomputable def zafm:List IVal→HC XF:=xv fun a0=>xv fun a1=>x0 (
.op (zfp .u64 a1) fun a2 =>
.op (x_and a2 (.p (.int .u64 63))) fun a3 =>
.op (xgen .shl a0 a3) fun a4 =>
.op (x_sub (.p (.int .u64 64)) a3) fun a5 =>
.op (xgen .shr a0 a5) fun a6 =>
.op (x_or a4 a6) fun a7 =>
.fin .ret [a7])
noncomputable def zuu:HFun:=⟨2,zafm,[.tmp 4],true⟩
theorem zaad:HOK tr.look F_Q204 zuu:=⟨i_Q204,(.sq .lf (.sq .lf (.sq .lf .lf))),[],look_Q204,rfl,rfl,rfl,rfl,rfl,by kernel_rfl⟩
noncomputable def zaml:List IVal→HC XF:=xv fun a0=>x0 (
.fresh [1] [a0] <|
.op (x_box (some 1) 8 a0) fun a1 =>
.block 1 (.loop [(.p (.int .i64 0)),a1,(.p (.int .u64 0))] <| xv fun a2=>xv fun a3=>xv fun a4=>x0 (
.op (x_lss a2 (.p (.int .i64 8))) fun a5 =>
.cond a5 (.block 2 (.op (zam 8 1 a3 a2) fun a6 =>
.op (zab none a6) fun a7 =>
.op (zfp .u64 a7) fun a8 =>
.op (x_mul (.p (.int .i64 8)) a2) fun a9 =>
.op (xgen .shl a8 a9) fun a10 =>
.op (x_or a4 a10) fun a11 =>
.fin .normal [a2,a3,a11]) <| xv fun a12=>xv fun a13=>xv fun a14=>x0 (
.op (x_add a12 (.p (.int .i64 1))) fun a15 =>
.fin .normal [a15,a13,a14])) <|
.fin (.exit 1) [a4])) <| xv fun a16=>x0 (
.fin .ret [a16]))
noncomputable def zadd:HFun:=⟨1,zaml,[.tmp 2],true⟩
theorem zafn:HOK tr.look F_Q205 zadd:=⟨i_Q205,(.sq .lf (.sq .lf (.sq (.sq .lf (.bk [3] (.lp [5,1,3] (.sq .lf (.sq (.cj .lf .lf) (.sq (.bk [5,1,3] (.sq .lf .lf)) .lf)))))) (.sq .lf .lf)))),[],look_Q205,rfl,rfl,rfl,rfl,rfl,by kernel_rfl⟩
noncomputable def ht:HTr:=(.node 72 (.node 46 (.node 23 (.node 18 (.node 13 (.node 9 (.one F_Q5 znn) (.one F_Q9 zno)) (.node 16 (.one F_Q13 zhk) (.node 17 (.one F_Q16 znq) (.one F_Q17 znr)))) (.node 20 (.node 19 (.one F_Q18 ztv) (.one F_Q19 zjf)) (.node 21 (.one F_Q20 zqc) (.node 22 (.one F_Q21 zdd) (.one F_Q22 zld))))) (.node 34 (.node 31 (.node 30 (.one F_Q23 zqd) (.one F_Q30 zqe)) (.node 32 (.one F_Q31 ztx) (.node 33 (.one F_Q32 zns) (.one F_Q33 zde)))) (.node 43 (.node 35 (.one F_Q34 zfa) (.one F_Q35 zdq)) (.node 44 (.one F_Q43 ztz) (.node 45 (.one F_Q44 zqf) (.one F_Q45 zqg)))))) (.node 60 (.node 54 (.node 48 (.node 47 (.one F_Q46 zua) (.one F_Q47 zub)) (.node 50 (.one F_Q48 zqh) (.node 53 (.one F_Q50 zxi) (.one F_Q53 zdy)))) (.node 56 (.node 55 (.one F_Q54 zbt) (.one F_Q55 zfc)) (.node 57 (.one F_Q56 zdz) (.node 59 (.one F_Q57 zfd) (.one F_Q59 zcz))))) (.node 67 (.node 64 (.node 61 (.one F_Q60 zgk) (.one F_Q61 znt)) (.node 65 (.one F_Q64 zud) (.node 66 (.one F_Q65 zue) (.one F_Q66 znu)))) (.node 69 (.node 68 (.one F_Q67 zbf) (.one F_Q68 zqi)) (.node 70 (.one F_Q69 zqj) (.node 71 (.one F_Q70 zjk) (.one F_Q71 zea))))))) (.node 109 (.node 87 (.node 79 (.node 75 (.node 73 (.one F_Q72 zuh) (.one F_Q73 zeb)) (.node 76 (.one F_Q75 zec) (.node 78 (.one F_Q76 zed) (.one F_Q78 znv)))) (.node 81 (.node 80 (.one F_Q79 zqk) (.one F_Q80 zjl)) (.node 82 (.one F_Q81 zbl) (.node 84 (.one F_Q82 zjm) (.one F_Q84 zxj))))) (.node 95 (.node 92 (.node 90 (.one F_Q87 zbc) (.one F_Q90 zfq)) (.node 93 (.one F_Q92 zjn) (.node 94 (.one F_Q93 zacy) (.one F_Q94 zfe)))) (.node 99 (.node 98 (.one F_Q95 zff) (.one F_Q98 zql)) (.node 102 (.one F_Q99 zgl) (.node 104 (.one F_Q102 zdf) (.one F_Q104 zxk)))))) (.node 161 (.node 138 (.node 121 (.node 119 (.one F_Q109 zbb) (.one F_Q119 zgn)) (.node 131 (.one F_Q121 zbg) (.node 132 (.one F_Q131 znx) (.one F_Q132 zhl)))) (.node 140 (.node 139 (.one F_Q138 zhm) (.one F_Q139 zjq)) (.node 141 (.one F_Q140 zlf) (.node 150 (.one F_Q141 zxl) (.one F_Q150 zaw))))) (.node 172 (.node 163 (.node 162 (.one F_Q161 zoa) (.one F_Q162 zlg)) (.node 164 (.one F_Q163 zob) (.node 165 (.one F_Q164 zhn) (.one F_Q165 zjr)))) (.node 198 (.node 173 (.one F_Q172 zdg) (.node 197 (.one F_Q173 zus) (.one F_Q197 zxm))) (.node 204 (.one F_Q198 zut) (.node 205 (.one F_Q204 zuu) (.one F_Q205 zadd))))))))
theorem ht_ok:ht.all (HOK tr.look):=⟨⟨⟨⟨⟨⟨ztr,zts⟩,⟨znp,⟨ztt,ztu⟩⟩⟩,⟨⟨zzm,zpb⟩,⟨zvg,⟨zgi,zqr⟩⟩⟩⟩,⟨⟨⟨zvi,zvj⟩,⟨zzn,⟨zty,zgj⟩⟩⟩,⟨⟨zjg,zhg⟩,⟨zzp,⟨zvk,zvl⟩⟩⟩⟩⟩,⟨⟨⟨⟨zzq,zzr⟩,⟨zvm,⟨zact,zhq⟩⟩⟩,⟨⟨zdw,zji⟩,⟨zhr,⟨zjj,zfw⟩⟩⟩⟩,⟨⟨⟨zmc,zuc⟩,⟨zzt,⟨zzu,zuf⟩⟩⟩,⟨⟨zcp,zvn⟩,⟨zvo,⟨zpd,zhs⟩⟩⟩⟩⟩⟩,⟨⟨⟨⟨⟨zzw,zht⟩,⟨zhu,⟨zhv,zui⟩⟩⟩,⟨⟨zvp,zpe⟩,⟨zdb,⟨zpf,zacx⟩⟩⟩⟩,⟨⟨⟨zce,zkq⟩,⟨zpg,⟨zafj,zjo⟩⟩⟩,⟨⟨zjp,zvq⟩,⟨zmf,⟨zgm,zada⟩⟩⟩⟩⟩,⟨⟨⟨⟨zbz,zmg⟩,⟨zcq,⟨zum,zny⟩⟩⟩,⟨⟨znz,zpj⟩,⟨zqv,⟨zadb,zbp⟩⟩⟩⟩,⟨⟨⟨zuo,zqw⟩,⟨zuq,⟨zoc,zpk⟩⟩⟩,⟨⟨zgo,⟨zaab,zadc⟩⟩,⟨zaac,⟨zaad,zafn⟩⟩⟩⟩⟩⟩⟩
end Go.Ideal
