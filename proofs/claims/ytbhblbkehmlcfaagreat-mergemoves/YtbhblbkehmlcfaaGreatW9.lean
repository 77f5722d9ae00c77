/-
  THE FUNCTIONS OF THIS SEAT, OVER LEAN's OWN VARIABLES: printed by a program of the prover's own out of the ideal program.
-/
import Derived.Test.YtbhblbkehmlcfaaGreatW6
import Derived.Test.YtbhblbkehmlcfaaGreatW8
namespace Go.Ideal
open Go Go.Proofs
set_option maxRecDepth 100000
noncomputable def zdl:FOr→Nat→(List IVal→SC)→List IVal→SC:=fun F _ kr=>sxv fun a0=>sxv fun a1=>sxv fun a2=>sx0 (fun m =>
zad (.p (.func F_Q7)) [a0,(.p (.int .i64 5))] F m fun a3 m =>
y_add (.p (.int .i64 3)) a3 F m fun a4 m =>
yfresh [a4,a4,a3,a0,(.p (.bool false)),a0,a1,a2] [8] m fun m =>
zad (.p (.func F_Q12)) [a4] F m fun a5 m =>
zah (some 8) [(.int .i64 0),(.str []),(.str []), .nilslice, .nilslice] F m fun a6 m =>
zae 5 a6 a5 F m fun _ m =>
y_sub a4 (.p (.int .i64 1)) F m fun a8 m =>
zad (.p (.func F_Q7)) [a1,a8] F m fun a9 m =>
y_sub a4 (.p (.int .i64 1)) F m fun a10 m =>
zad (.p (.func F_Q7)) [a2,a10] F m fun a11 m =>
yfresh [a11,a9,a11,a10,a4,a2,a9,a8,a4,a1,a6,a5,a4,a4,a4,a3,a0,(.p (.bool false)),a0,a1,a2] [11,12,13] m fun m =>
zab (some 5) a6 F m fun a12 m =>
zab (some 5) a6 F m fun a13 m =>
zab (some 5) a6 F m fun a14 m =>
zah (some 11) [(.int .i64 0),(.str []),(.str []), .nilslice, .nilslice] F m fun a15 m =>
zah (some 12) [(.int .i64 0),(.str []),(.str []), .nilslice, .nilslice] F m fun a16 m =>
zah (some 13) [(.int .i64 0),(.str []),(.str []), .nilslice, .nilslice] F m fun a17 m =>
zad (.p (.func F_Q8)) [a12] F m fun a18 m =>
yck F m (.load (some 5) (.const a6)) a13 <|
yck F m (.load (some 5) (.const a6)) a14 <|
yck F m (.alloc (some 11) [(.int .i64 0),(.str []),(.str []), .nilslice, .nilslice]) a15 <|
yck F m (.alloc (some 12) [(.int .i64 0),(.str []),(.str []), .nilslice, .nilslice]) a16 <|
yck F m (.alloc (some 13) [(.int .i64 0),(.str []),(.str []), .nilslice, .nilslice]) a17 <|
zad (.p (.func F_Q8)) [a13] F m fun a19 m =>
yck F m (.load (some 5) (.const a6)) a14 <|
yck F m (.alloc (some 11) [(.int .i64 0),(.str []),(.str []), .nilslice, .nilslice]) a15 <|
yck F m (.alloc (some 12) [(.int .i64 0),(.str []),(.str []), .nilslice, .nilslice]) a16 <|
yck F m (.alloc (some 13) [(.int .i64 0),(.str []),(.str []), .nilslice, .nilslice]) a17 <|
zad (.p (.func F_Q8)) [a14] F m fun a20 m =>
yck F m (.alloc (some 11) [(.int .i64 0),(.str []),(.str []), .nilslice, .nilslice]) a15 <|
yck F m (.alloc (some 12) [(.int .i64 0),(.str []),(.str []), .nilslice, .nilslice]) a16 <|
yck F m (.alloc (some 13) [(.int .i64 0),(.str []),(.str []), .nilslice, .nilslice]) a17 <|
zae 5 a15 a18 F m fun _ m =>
zae 5 a16 a19 F m fun _ m =>
zae 5 a17 a20 F m fun _ m =>
zaa 4 a15 F m fun a24 m =>
zab none a24 F m fun a25 m =>
zaa 4 a15 F m fun a26 m =>
zab none a26 F m fun a27 m =>
y_add a9 (.p (.int .i64 1)) F m fun a28 m =>
zaa 4 a15 F m fun a29 m =>
zab none a29 F m fun a30 m =>
y_add a9 (.p (.int .i64 1)) F m fun a31 m =>
zac 5 a30 a31 F m fun a32 m =>
zab (some 5) a32 F m fun a33 m =>
zaa 4 a15 F m fun a34 m =>
zab none a34 F m fun a35 m =>
zac 5 a35 a9 F m fun a36 m =>
zab (some 5) a36 F m fun a37 m =>
zac 5 a25 a9 F m fun a38 m =>
zae 5 a38 a33 F m fun _ m =>
zac 5 a27 a28 F m fun a40 m =>
yck F m (.load none (.const a26)) a27 <|
zae 5 a40 a37 F m fun _ m =>
zaa 4 a16 F m fun a42 m =>
zab none a42 F m fun a43 m =>
zac 5 a43 a11 F m fun a44 m =>
zaa 4 a44 F m fun a45 m =>
zab none a45 F m fun a46 m =>
zac 5 a46 (.p (.int .i64 0)) F m fun a47 m =>
zaa 2 a47 F m fun a48 m =>
zae 1 a48 (.p (.str [117])) F m fun _ m =>
zaa 4 a17 F m fun a50 m =>
zab none a50 F m fun a51 m =>
zaa 4 a17 F m fun a52 m =>
zab none a52 F m fun a53 m =>
y_add a11 (.p (.int .i64 1)) F m fun a54 m =>
zaa 4 a17 F m fun a55 m =>
zab none a55 F m fun a56 m =>
y_add a11 (.p (.int .i64 1)) F m fun a57 m =>
zac 5 a56 a57 F m fun a58 m =>
zab (some 5) a58 F m fun a59 m =>
zaa 4 a17 F m fun a60 m =>
zab none a60 F m fun a61 m =>
zac 5 a61 a11 F m fun a62 m =>
zab (some 5) a62 F m fun a63 m =>
zac 5 a51 a11 F m fun a64 m =>
zae 5 a64 a59 F m fun _ m =>
zac 5 a53 a54 F m fun a66 m =>
yck F m (.load none (.const a52)) a53 <|
zae 5 a66 a63 F m fun _ m =>
yfresh [a66,a64,a63,a62,a11,a61,a60,a59,a58,a57,a11,a56,a55,a54,a11,a53,a52,a11,a51,a50,a48,a47,a46,a45,a44,a11,a43,a42,a40,a38,a37,a36,a9,a35,a34,a33,a32,a31,a9,a30,a29,a28,a9,a27,a26,a9,a25,a24,a17,a16,a15,a20,a14,a19,a13,a18,a12,a11,a9,a11,a10,a4,a2,a9,a8,a4,a1,a6,a5,a4,a4,a4,a3,a0,(.p (.bool false)),a0,a1,a2] [14] m fun m =>
zab (some 5) a6 F m fun a68 m =>
zab (some 5) a15 F m fun a69 m =>
zab (some 5) a16 F m fun a70 m =>
zad (.p (.func F_Q9)) [a68,a69,a70] F m fun a71 m =>
zaf a71 0 F m fun a72 m =>
zaf a71 1 F m fun a73 m =>
zah (some 14) [(.int .i64 0),(.str []),(.str []), .nilslice, .nilslice, .nilslice, .nilslice, .nilslice] F m fun a74 m =>
zae 8 a74 a72 F m fun _ m =>
yfresh [a73,a74,a73,a72,a71,a71,a70,a69,a68,a66,a64,a63,a62,a11,a61,a60,a59,a58,a57,a11,a56,a55,a54,a11,a53,a52,a11,a51,a50,a48,a47,a46,a45,a44,a11,a43,a42,a40,a38,a37,a36,a9,a35,a34,a33,a32,a31,a9,a30,a29,a28,a9,a27,a26,a9,a25,a24,a17,a16,a15,a20,a14,a19,a13,a18,a12,a11,a9,a11,a10,a4,a2,a9,a8,a4,a1,a6,a5,a4,a4,a4,a3,a0,(.p (.bool false)),a0,a1,a2] [16] m fun m =>
zab (some 5) a6 F m fun a76 m =>
zab (some 5) a15 F m fun a77 m =>
zab (some 5) a17 F m fun a78 m =>
zad (.p (.func F_Q9)) [a76,a77,a78] F m fun a79 m =>
zaf a79 0 F m fun a80 m =>
zaf a79 1 F m fun a81 m =>
zah (some 16) [(.int .i64 0),(.str []),(.str []), .nilslice, .nilslice, .nilslice, .nilslice, .nilslice] F m fun a82 m =>
zae 8 a82 a80 F m fun _ m =>
yfresh [a81,a82,a81,a80,a79,a79,a78,a77,a76,a73,a74,a73,a72,a71,a71,a70,a69,a68,a66,a64,a63,a62,a11,a61,a60,a59,a58,a57,a11,a56,a55,a54,a11,a53,a52,a11,a51,a50,a48,a47,a46,a45,a44,a11,a43,a42,a40,a38,a37,a36,a9,a35,a34,a33,a32,a31,a9,a30,a29,a28,a9,a27,a26,a9,a25,a24,a17,a16,a15,a20,a14,a19,a13,a18,a12,a11,a9,a11,a10,a4,a2,a9,a8,a4,a1,a6,a5,a4,a4,a4,a3,a0,(.p (.bool false)),a0,a1,a2] [18] m fun m =>
zab (some 5) a16 F m fun a84 m =>
zad (.p (.func F_Q8)) [a84] F m fun a85 m =>
zah (some 18) [(.int .i64 0),(.str []),(.str []), .nilslice, .nilslice] F m fun a86 m =>
zae 5 a86 a85 F m fun _ m =>
zaa 4 a86 F m fun a88 m =>
zab none a88 F m fun a89 m =>
zaa 4 a86 F m fun a90 m =>
zab none a90 F m fun a91 m =>
y_add a9 (.p (.int .i64 1)) F m fun a92 m =>
zaa 4 a86 F m fun a93 m =>
zab none a93 F m fun a94 m =>
y_add a9 (.p (.int .i64 1)) F m fun a95 m =>
zac 5 a94 a95 F m fun a96 m =>
zab (some 5) a96 F m fun a97 m =>
zaa 4 a86 F m fun a98 m =>
zab none a98 F m fun a99 m =>
zac 5 a99 a9 F m fun a100 m =>
zab (some 5) a100 F m fun a101 m =>
zac 5 a89 a9 F m fun a102 m =>
zae 5 a102 a97 F m fun _ m =>
zac 5 a91 a92 F m fun a104 m =>
yck F m (.load none (.const a90)) a91 <|
zae 5 a104 a101 F m fun _ m =>
y_neq a73 (.p (.int .i64 0)) F m fun a106 m =>
ygd a106 false (zaa 0 a74) F m fun a107 m =>
ygd a106 false (zab (some 5) a107) F m fun a108 m =>
ygd a106 false (zab (some 5) a86) F m fun a109 m =>
ygd a106 false (zad (.p (.func F_Q10)) [a108,a109]) F m fun a110 m =>
ygd a106 false (y_not a110) F m fun a111 m =>
zai a106 (.p (.bool true)) a111 F m fun a112 m =>
ycond a112 (kr [(.p (.bool false))] m) <|
y_eql a9 a11 F m fun a113 m =>
ycond a113 (y_eql a81 (.p (.int .i64 0)) F m fun a114 m =>
ygd a114 true (zaa 0 a82) F m fun a115 m =>
ygd a114 true (zab (some 5) a115) F m fun a116 m =>
ygd a114 true (zab (some 5) a15) F m fun a117 m =>
ygd a114 true (zad (.p (.func F_Q10)) [a116,a117]) F m fun a118 m =>
zai a114 a118 (.p (.bool false)) F m fun a119 m =>
ygd a119 true (zad (.p (.func F_Q11)) []) F m fun a120 m =>
zai a119 a120 (.p (.bool false)) F m fun a121 m =>
kr [a121] m) <|
y_eql a81 (.p (.int .i64 13)) F m fun a122 m =>
ygd a122 true (zaa 5 a82) F m fun a123 m =>
ygd a122 true (zab none a123) F m fun a124 m =>
ygd a122 true (y_len a124) F m fun a125 m =>
ygd a122 true (y_eql a125 (.p (.int .i64 1))) F m fun a126 m =>
zai a122 a126 (.p (.bool false)) F m fun a127 m =>
ygd a127 true (zaa 5 a82) F m fun a128 m =>
ygd a127 true (zab none a128) F m fun a129 m =>
ygd a127 true (zac 3 a129 (.p (.int .i64 0))) F m fun a130 m =>
ygd a127 true (zab (some 3) a130) F m fun a131 m =>
ygd a127 true (zak [(.int .i64 0),(.int .i64 0),(.str [])] [(0,1,(.p (.int .i64 5)))]) F m fun a132 m =>
ygd a127 true (yv (x_eqv false ⟨true,[.int, .int, .str]⟩ (.const a131) (.const a132))) F m fun a133 m =>
zai a127 a133 (.p (.bool false)) F m fun a134 m =>
ygd a134 true (zad (.p (.func F_Q11)) []) F m fun a135 m =>
zai a134 a135 (.p (.bool false)) F m fun a136 m =>
kr [a136] m)
noncomputable def zbh:SFun:=⟨3,zdl,[.tmp 6],true,false⟩
theorem zev:SFOK tr.look F_Q6 zbh:=⟨i_Q6,(.sq .lf (.sq .lf (.sq .lf (.sq .lf (.sq .lf (.sq .lf (.sq .lf (.sq .lf (.sq .lf (.sq .lf (.sq .lf (.sq .lf (.sq (.sq .lf (.cj (.sq .lf .lf) .lf)) (.sq (.sq .lf (.cj (.sq .lf .lf) .lf)) (.sq .lf .lf))))))))))))))),[],look_Q6,rfl,rfl,rfl,rfl,rfl,by kernel_rfl⟩
noncomputable def zadq:FOr→Nat→(List IVal→SC)→List IVal→SC:=fun F _ kr=>sxv fun a0=>sxv fun a1=>sx0 (fun m =>
yv (xgen .rem a0 a1) F m fun a2 m =>
y_lss a2 (.p (.int .i64 0)) F m fun a3 m =>
tblk (sxv fun a5=>sx0 (fun m =>
kr [a5] m)) fun j4 =>
ycond a3 (y_add a2 a1 F m fun a6 m =>
j4 [a6] m) <|
j4 [a2] m)
noncomputable def zps:SFun:=⟨2,zadq,[.tmp 4],true,false⟩
theorem zxc:SFOK tr.look F_Q7 zps:=⟨i_Q7,(.sq .lf (.sq .lf (.sq (.sq .lf (.cd [5] .lf .lf)) (.sq .lf .lf)))),[],look_Q7,rfl,rfl,rfl,rfl,rfl,by kernel_rfl⟩
noncomputable def zahb:FOr→Nat→(List IVal→SC)→List IVal→SC:=fun F L kr=>sxv fun a0=>sx0 (fun m =>
yfresh [a0] [1,2] m fun m =>
y_box (some 1) 5 a0 F m fun a1 m =>
zah (some 2) [(.int .i64 0),(.str []),(.str []), .nilslice, .nilslice] F m fun a2 m =>
yfresh [a2,a1,a0] [3] m fun m =>
zaa 0 a1 F m fun a3 m =>
zab none a3 F m fun a4 m =>
zaa 1 a1 F m fun a5 m =>
zab none a5 F m fun a6 m =>
zaa 2 a1 F m fun a7 m =>
zab none a7 F m fun a8 m =>
zaa 3 a1 F m fun a9 m =>
zab none a9 F m fun a10 m =>
zah (some 3) [(.int .i64 0),(.str []),(.str []), .nilslice, .nilslice] F m fun a11 m =>
zad (.p (.func F_Q14)) [a10] F m fun a12 m =>
zak [(.int .i64 0),(.str []),(.str []), .nilslice, .nilslice] [(0,1,a4),(1,1,a6),(2,1,a8),(3,1,a12)] F m fun a13 m =>
yck F m (.load none (.const a3)) a4 <|
yck F m (.load none (.const a5)) a6 <|
yck F m (.load none (.const a7)) a8 <|
yck F m (.alloc (some 3) [(.int .i64 0),(.str []),(.str []), .nilslice, .nilslice]) a11 <|
zae 5 a11 a13 F m fun _ m =>
tblk (sxv fun a16=>sxv fun a17=>sx0 (fun m =>
zab (some 5) a16 F m fun a18 m =>
zae 5 a17 a18 F m fun _ m =>
kr [a17] m)) fun j15 =>
tloop (fun j20=>sxv fun a21=>sxv fun a22=>sxv fun a23=>sxv fun a24=>sx0 (fun m =>
zaa 4 a23 F m fun a25 m =>
zab none a25 F m fun a26 m =>
y_len a26 F m fun a27 m =>
y_lss a21 a27 F m fun a28 m =>
ycond a28 (tblk (sxv fun a30=>sxv fun a31=>sxv fun a32=>sxv fun a33=>sx0 (fun m =>
y_add a30 (.p (.int .i64 1)) F m fun a34 m =>
j20 [a34,a31,a32,a33] m)) fun j29 =>
zaa 4 a22 F m fun a35 m =>
zab none a35 F m fun a36 m =>
zaa 4 a23 F m fun a37 m =>
zab none a37 F m fun a38 m =>
zac 5 a38 a21 F m fun a39 m =>
zab (some 5) a39 F m fun a40 m =>
zad (.p (.func F_Q8)) [a40] F m fun a41 m =>
zag 5 1 [(.int .i64 0),(.str []),(.str []), .nilslice, .nilslice] [(0,5,a41)] F m fun a42 m =>
yck F m (.load none (.const a35)) a36 <|
zam 5 a36 a42 F m fun a43 m =>
zaa 4 a22 F m fun a44 m =>
zae 1 a44 a43 F m fun _ m =>
j29 [a21,a22,a23,a24] m) <|
j15 [a22,a24] m)) L [(.p (.int .i64 0)),a11,a1,a2] m)
noncomputable def ztd:SFun:=⟨1,zahb,[.cell 2 (some 5)],false,false⟩
theorem zzb:SFOK tr.look F_Q8 ztd:=⟨i_Q8,(.sq .lf (.sq .lf (.sq (.sq .lf (.bk [3,2] (.lp [4,3,1,2] (.sq (.sq .lf (.cj .lf .lf)) (.sq (.bk [4,3,1,2] .lf) .lf))))) (.sq .lf .lf)))),[],look_Q8,rfl,rfl,rfl,rfl,rfl,by kernel_rfl⟩
noncomputable def zadr:FOr→Nat→(List IVal→SC)→List IVal→SC:=fun F L kr=>sxv fun a0=>sxv fun a1=>sxv fun a2=>sx0 (fun m =>
yfresh [a0,a1,a2] [3,4,5,6] m fun m =>
y_box (some 3) 5 a0 F m fun a3 m =>
y_box (some 4) 5 a1 F m fun a4 m =>
y_box (some 5) 5 a2 F m fun a5 m =>
zah (some 6) [(.int .i64 0),(.str []),(.str []), .nilslice, .nilslice, .nilslice, .nilslice, .nilslice] F m fun a6 m =>
tblk (sxv fun a8=>sxv fun a9=>sxv fun a10=>sxv fun a11=>sx0 (fun m =>
zab (some 5) a10 F m fun a12 m =>
zab (some 5) a8 F m fun a13 m =>
zab (some 5) a9 F m fun a14 m =>
zad (.p (.func F_Q16)) [a12,a13,a14] F m fun a15 m =>
y_nil a15 F m fun a16 m =>
zaa 0 a16 F m fun a17 m =>
zab none a17 F m fun a18 m =>
y_len a18 F m fun a19 m =>
tblk (sxv fun a21=>sxv fun a22=>sxv fun a23=>sx0 (fun m =>
y_len a22 F m fun a24 m =>
y_gtr a24 (.p (.int .i64 0)) F m fun a25 m =>
ycond a25 (zak [(.int .i64 0),(.str []),(.str []), .nilslice, .nilslice, .nilslice, .nilslice, .nilslice] [(5,1,a22)] F m fun a26 m =>
zae 8 a23 a26 F m fun _ m =>
kr [a23,(.p (.int .i64 13))] m) <|
yfresh [a25,a24,a22,a21,a22,a23] [11] m fun m =>
zad (.p (.func F_Q18)) [a21,(.p (.int .i64 0))] F m fun a28 m =>
zak [(.int .i64 0),(.str []),(.str []), .nilslice, .nilslice, .nilslice, .nilslice, .nilslice] [(0,5,a28)] F m fun a29 m =>
zah (some 11) [(.int .i64 0),(.str []),(.str []), .nilslice, .nilslice, .nilslice, .nilslice, .nilslice] F m fun a30 m =>
zae 8 a30 a29 F m fun _ m =>
y_nil a21 F m fun a32 m =>
zaa 21 a32 F m fun a33 m =>
zab none a33 F m fun a34 m =>
y_len a34 F m fun a35 m =>
tblk (sxv fun a37=>sxv fun a38=>sxv fun a39=>sxv fun a40=>sx0 (fun m =>
y_len a39 F m fun a41 m =>
y_gtr a41 (.p (.int .i64 0)) F m fun a42 m =>
ycond a42 (zak [(.int .i64 0),(.str []),(.str []), .nilslice, .nilslice, .nilslice, .nilslice, .nilslice] [(5,1,a39)] F m fun a43 m =>
zae 8 a40 a43 F m fun _ m =>
kr [a40,(.p (.int .i64 13))] m) <|
zaa 0 a38 F m fun a45 m =>
zab (some 5) a45 F m fun a46 m =>
zad (.p (.func F_Q15)) [a46] F m fun a47 m =>
y_not a47 F m fun a48 m =>
ycond a48 (zak [(.int .i64 0),(.str []),(.str []), .nilslice, .nilslice, .nilslice, .nilslice, .nilslice] [] F m fun a49 m =>
zae 8 a40 a49 F m fun _ m =>
kr [a40,(.p (.int .i64 2))] m) <|
yfresh [a48,a47,a46,a45,a42,a41,a39,a37,a38,a39,a40] [14] m fun m =>
zah (some 14) [(.int .i64 0),(.int .i64 0)] F m fun a51 m =>
zaa 0 a38 F m fun a52 m =>
zab (some 5) a52 F m fun a53 m =>
zad (.p (.func F_Q19)) [a37,(.p (.int .i64 0)),a53] F m fun a54 m =>
zaf a54 0 F m fun a55 m =>
zaf a54 1 F m fun a56 m =>
zaa 6 a38 F m fun a57 m =>
zae 1 a57 a55 F m fun _ m =>
zaj 2 1 a51 (.p (.int .i64 0)) F m fun a59 m =>
zae 1 a59 a56 F m fun _ m =>
zaa 0 a38 F m fun a61 m =>
zab (some 5) a61 F m fun a62 m =>
zad (.p (.func F_Q19)) [a37,(.p (.int .i64 1)),a62] F m fun a63 m =>
zaf a63 0 F m fun a64 m =>
zaf a63 1 F m fun a65 m =>
zaa 7 a38 F m fun a66 m =>
zae 1 a66 a64 F m fun _ m =>
zaj 2 1 a51 (.p (.int .i64 1)) F m fun a68 m =>
zae 1 a68 a65 F m fun _ m =>
zab (some 2) a51 F m fun a70 m =>
zak [(.int .i64 0),(.int .i64 0)] [] F m fun a71 m =>
yv (x_eqv true ⟨true,[.int, .int]⟩ (.const a70) (.const a71)) F m fun a72 m =>
ycond a72 (zak [(.int .i64 0),(.str []),(.str []), .nilslice, .nilslice, .nilslice, .nilslice, .nilslice] [] F m fun a73 m =>
zae 8 a40 a73 F m fun _ m =>
kr [a40,(.p (.int .i64 2))] m) <|
zab (some 8) a38 F m fun a75 m =>
zae 8 a40 a75 F m fun _ m =>
kr [a40,(.p (.int .i64 0))] m)) fun j36 =>
tloop (fun j77=>sxv fun a78=>sxv fun a79=>sxv fun a80=>sxv fun a81=>sxv fun a82=>sxv fun a83=>sxv fun a84=>sx0 (fun m =>
y_lss a78 a84 F m fun a85 m =>
ycond a85 (tblk (sxv fun a87=>sxv fun a88=>sxv fun a89=>sxv fun a90=>sxv fun a91=>sxv fun a92=>sxv fun a93=>sx0 (fun m =>
y_add a87 (.p (.int .i64 1)) F m fun a94 m =>
j77 [a94,a88,a89,a90,a91,a92,a93] m)) fun j86 =>
zac 1 a81 a78 F m fun a95 m =>
zab none a95 F m fun a96 m =>
y_nil a80 F m fun a97 m =>
zaa 14 a97 F m fun a98 m =>
zaj 2 1 a98 (.p (.int .i64 0)) F m fun a99 m =>
zab none a99 F m fun a100 m =>
zac 6 a100 a78 F m fun a101 m =>
zaa 0 a101 F m fun a102 m =>
zab none a102 F m fun a103 m =>
y_not a103 F m fun a104 m =>
ygd a104 true (yv (x_mov a80)) F m fun a105 m =>
ygd a104 true (y_nil a105) F m fun a106 m =>
ygd a104 true (zaa 14 a106) F m fun a107 m =>
ygd a104 true (zaj 2 1 a107 (.p (.int .i64 1))) F m fun a108 m =>
ygd a104 true (zab none a108) F m fun a109 m =>
ygd a104 true (yv (x_mov a78)) F m fun a110 m =>
ygd a104 true (zac 6 a109 a110) F m fun a111 m =>
ygd a104 true (zaa 0 a111) F m fun a112 m =>
ygd a104 true (zab none a112) F m fun a113 m =>
ygd a104 true (y_not a113) F m fun a114 m =>
zai a104 a114 (.p (.bool false)) F m fun a115 m =>
ygd a115 true (yv (x_mov a96)) F m fun a116 m =>
ygd a115 true (y_neq a116 (.p (.int .i64 1))) F m fun a117 m =>
zai a115 a117 (.p (.bool false)) F m fun a118 m =>
tblk (sxv fun a120=>sxv fun a121=>sxv fun a122=>sxv fun a123=>sxv fun a124=>sxv fun a125=>sxv fun a126=>sx0 (fun m =>
j86 [a120,a121,a122,a123,a124,a125,a126] m)) fun j119 =>
ycond a118 (zak [(.int .i64 0),(.int .i64 0),(.str [])] [(0,1,(.p (.int .i64 4))),(1,1,a78)] F m fun a127 m =>
zag 3 1 [(.int .i64 0),(.int .i64 0),(.str [])] [(0,3,a127)] F m fun a128 m =>
zam 3 a79 a128 F m fun a129 m =>
j119 [a78,a129,a80,a81,a82,a83,a84] m) <|
j119 [a78,a79,a80,a81,a82,a83,a84] m) <|
j36 [a80,a82,a79,a83] m)) L [(.p (.int .i64 0)),a22,a21,a34,a30,a23,a35] m)) fun j20 =>
tloop (fun j130=>sxv fun a131=>sxv fun a132=>sxv fun a133=>sxv fun a134=>sxv fun a135=>sxv fun a136=>sx0 (fun m =>
y_lss a131 a136 F m fun a137 m =>
ycond a137 (tblk (sxv fun a139=>sxv fun a140=>sxv fun a141=>sxv fun a142=>sxv fun a143=>sxv fun a144=>sx0 (fun m =>
y_add a139 (.p (.int .i64 1)) F m fun a145 m =>
j130 [a145,a140,a141,a142,a143,a144] m)) fun j138 =>
zab (some 5) a132 F m fun a146 m =>
zad (.p (.func F_Q17)) [a133,a146,a131] F m fun a147 m =>
zam 3 a134 a147 F m fun a148 m =>
j138 [a131,a132,a133,a148,a135,a136] m) <|
j20 [a133,a134,a135] m)) L [(.p (.int .i64 0)),a10,a15,(.p .nilslice),a11,a19] m)) fun j7 =>
zab (some 5) a3 F m fun a149 m =>
zad (.p (.func F_Q15)) [a149] F m fun a150 m =>
y_not a150 F m fun a151 m =>
ygd a151 false (zab (some 5) a4) F m fun a152 m =>
ygd a151 false (zad (.p (.func F_Q15)) [a152]) F m fun a153 m =>
ygd a151 false (y_not a153) F m fun a154 m =>
zai a151 (.p (.bool true)) a154 F m fun a155 m =>
ygd a155 false (zab (some 5) a5) F m fun a156 m =>
ygd a155 false (zad (.p (.func F_Q15)) [a156]) F m fun a157 m =>
ygd a155 false (y_not a157) F m fun a158 m =>
zai a155 (.p (.bool true)) a158 F m fun a159 m =>
ycond a159 (zak [(.int .i64 0),(.str []),(.str []), .nilslice, .nilslice, .nilslice, .nilslice, .nilslice] [] F m fun a160 m =>
zae 8 a6 a160 F m fun _ m =>
kr [a6,(.p (.int .i64 1))] m) <|
zab (some 5) a4 F m fun a162 m =>
zab (some 5) a5 F m fun a163 m =>
zad (.p (.func F_Q10)) [a162,a163] F m fun a164 m =>
ycond a164 (zab (some 5) a4 F m fun a165 m =>
zak [(.int .i64 0),(.str []),(.str []), .nilslice, .nilslice, .nilslice, .nilslice, .nilslice] [(0,5,a165)] F m fun a166 m =>
zae 8 a6 a166 F m fun _ m =>
kr [a6,(.p (.int .i64 0))] m) <|
j7 [a4,a5,a3,a6] m)
noncomputable def zpt:SFun:=⟨3,zadr,[.cell 6 (some 8), .tmp 7],true,false⟩
theorem zxd:SFOK tr.look F_Q9 zpt:=⟨i_Q9,(.sq .lf (.sq (.bk [4,5,3,6] (.sq .lf (.cj (.sq .lf .lf) (.sq .lf (.cj (.sq .lf .lf) .lf))))) (.sq .lf (.sq .lf (.sq (.sq .lf (.bk [8,9,6] (.lp [45,3,8,9,6,44] (.sq .lf (.sq (.cj .lf .lf) (.sq (.bk [45,3,8,9,6,44] (.sq .lf .lf)) .lf)))))) (.sq (.sq .lf (.cj (.sq .lf .lf) .lf)) (.sq .lf (.sq (.sq .lf (.bk [8,11,9,6] (.lp [68,9,8,66,11,6,67] (.sq .lf (.sq (.cj .lf .lf) (.sq (.bk [68,9,8,66,11,6,67] (.sq .lf (.sq .lf (.cd [68,9,8,66,11,6,67] .lf .lf)))) .lf)))))) (.sq (.sq .lf (.cj (.sq .lf .lf) .lf)) (.sq (.sq .lf (.cj (.sq .lf .lf) .lf)) (.sq .lf (.sq .lf (.sq .lf (.sq (.sq .lf (.cj (.sq .lf .lf) .lf)) (.sq .lf .lf))))))))))))))),[],look_Q9,rfl,rfl,rfl,rfl,rfl,by kernel_rfl⟩
noncomputable def zake:FOr→Nat→(List IVal→SC)→List IVal→SC:=fun F L kr=>sxv fun a0=>sxv fun a1=>sx0 (fun m =>
yfresh [a0,a1] [2,3] m fun m =>
y_box (some 2) 5 a0 F m fun a2 m =>
y_box (some 3) 5 a1 F m fun a3 m =>
zaa 0 a2 F m fun a4 m =>
zab none a4 F m fun a5 m =>
zaa 0 a3 F m fun a6 m =>
zab none a6 F m fun a7 m =>
y_neq a5 a7 F m fun a8 m =>
ygd a8 false (zaa 1 a2) F m fun a9 m =>
ygd a8 false (zab none a9) F m fun a10 m =>
ygd a8 false (zaa 1 a3) F m fun a11 m =>
ygd a8 false (zab none a11) F m fun a12 m =>
ygd a8 false (y_neq a10 a12) F m fun a13 m =>
zai a8 (.p (.bool true)) a13 F m fun a14 m =>
ygd a14 false (zaa 2 a2) F m fun a15 m =>
ygd a14 false (zab none a15) F m fun a16 m =>
ygd a14 false (zaa 2 a3) F m fun a17 m =>
ygd a14 false (zab none a17) F m fun a18 m =>
ygd a14 false (y_neq a16 a18) F m fun a19 m =>
zai a14 (.p (.bool true)) a19 F m fun a20 m =>
ygd a20 false (zaa 3 a2) F m fun a21 m =>
ygd a20 false (zab none a21) F m fun a22 m =>
ygd a20 false (y_len a22) F m fun a23 m =>
ygd a20 false (zaa 3 a3) F m fun a24 m =>
ygd a20 false (zab none a24) F m fun a25 m =>
ygd a20 false (y_len a25) F m fun a26 m =>
ygd a20 false (y_neq a23 a26) F m fun a27 m =>
zai a20 (.p (.bool true)) a27 F m fun a28 m =>
ygd a28 false (zaa 4 a2) F m fun a29 m =>
ygd a28 false (zab none a29) F m fun a30 m =>
ygd a28 false (y_len a30) F m fun a31 m =>
ygd a28 false (zaa 4 a3) F m fun a32 m =>
ygd a28 false (zab none a32) F m fun a33 m =>
ygd a28 false (y_len a33) F m fun a34 m =>
ygd a28 false (y_neq a31 a34) F m fun a35 m =>
zai a28 (.p (.bool true)) a35 F m fun a36 m =>
ycond a36 (kr [(.p (.bool false))] m) <|
zaa 3 a2 F m fun a37 m =>
zab none a37 F m fun a38 m =>
y_len a38 F m fun a39 m =>
tblk (sxv fun a41=>sxv fun a42=>sx0 (fun m =>
zaa 4 a41 F m fun a43 m =>
zab none a43 F m fun a44 m =>
y_len a44 F m fun a45 m =>
tblk (sx0 (fun m =>
kr [(.p (.bool true))] m)) fun j46 =>
tloop (fun j47=>sxv fun a48=>sxv fun a49=>sxv fun a50=>sxv fun a51=>sx0 (fun m =>
y_lss a48 a51 F m fun a52 m =>
ycond a52 (tblk (sxv fun a54=>sxv fun a55=>sxv fun a56=>sxv fun a57=>sx0 (fun m =>
y_add a54 (.p (.int .i64 1)) F m fun a58 m =>
j47 [a58,a55,a56,a57] m)) fun j53 =>
yfresh [a52,a48,a49,a50,a51] [8] m fun m =>
zac 5 a50 a48 F m fun a59 m =>
zab (some 5) a59 F m fun a60 m =>
zah (some 8) [(.int .i64 0),(.str []),(.str []), .nilslice, .nilslice] F m fun a61 m =>
zae 5 a61 a60 F m fun _ m =>
zab (some 5) a61 F m fun a63 m =>
zaa 4 a49 F m fun a64 m =>
zab none a64 F m fun a65 m =>
zac 5 a65 a48 F m fun a66 m =>
zab (some 5) a66 F m fun a67 m =>
zad (.p (.func F_Q10)) [a63,a67] F m fun a68 m =>
y_not a68 F m fun a69 m =>
ycond a69 (kr [(.p (.bool false))] m) <|
j53 [a48,a49,a50,a51] m) <|
j46 [] m)) L [(.p (.int .i64 0)),a42,a44,a45] m)) fun j40 =>
tloop (fun j70=>sxv fun a71=>sxv fun a72=>sxv fun a73=>sxv fun a74=>sxv fun a75=>sx0 (fun m =>
y_lss a71 a75 F m fun a76 m =>
ycond a76 (tblk (sxv fun a78=>sxv fun a79=>sxv fun a80=>sxv fun a81=>sxv fun a82=>sx0 (fun m =>
y_add a78 (.p (.int .i64 1)) F m fun a83 m =>
j70 [a83,a79,a80,a81,a82] m)) fun j77 =>
yfresh [a76,a71,a72,a73,a74,a75] [6] m fun m =>
zac 2 a73 a71 F m fun a84 m =>
zab (some 2) a84 F m fun a85 m =>
zah (some 6) [(.str []),(.str [])] F m fun a86 m =>
zae 2 a86 a85 F m fun _ m =>
zab (some 2) a86 F m fun a88 m =>
zaa 3 a72 F m fun a89 m =>
zab none a89 F m fun a90 m =>
zac 2 a90 a71 F m fun a91 m =>
zab (some 2) a91 F m fun a92 m =>
yv (x_eqv true ⟨true,[.str, .str]⟩ (.const a88) (.const a92)) F m fun a93 m =>
ycond a93 (kr [(.p (.bool false))] m) <|
j77 [a71,a72,a73,a74,a75] m) <|
j40 [a74,a72] m)) L [(.p (.int .i64 0)),a3,a38,a2,a39] m)
noncomputable def zxe:SFun:=⟨2,zake,[.tmp 4],true,true⟩
theorem zads:SFOK tr.look F_Q10 zxe:=⟨i_Q10,(.sq .lf (.sq (.sq .lf (.cj (.sq .lf .lf) .lf)) (.sq (.sq .lf (.bk [2,3] (.lp [49,3,47,2,48] (.sq .lf (.sq (.cj .lf .lf) (.sq (.bk [49,3,47,2,48] (.sq .lf (.sq .lf (.cj (.sq .lf .lf) .lf)))) .lf)))))) (.sq (.sq .lf (.bk [] (.lp [65,3,63,64] (.sq .lf (.sq (.cj .lf .lf) (.sq (.bk [65,3,63,64] (.sq .lf (.sq .lf (.cj (.sq .lf .lf) .lf)))) .lf)))))) (.sq .lf .lf))))),[],look_Q10,rfl,rfl,rfl,rfl,rfl,by kernel_rfl⟩
noncomputable def zadt:FOr→Nat→(List IVal→SC)→List IVal→SC:=fun F _ kr=>sx0 (fun m =>
zag 1 2 [(.int .i64 0)] [(0,1,(.p (.int .i64 1))),(1,1,(.p (.int .i64 2)))] F m fun a0 m =>
zag 1 3 [(.int .i64 0)] [(0,1,(.p (.int .i64 1))),(1,1,(.p (.int .i64 (-2)))),(2,1,(.p (.int .i64 2)))] F m fun a1 m =>
zag 1 2 [(.int .i64 0)] [(0,1,(.p (.int .i64 1))),(1,1,(.p (.int .i64 2)))] F m fun a2 m =>
zad (.p (.func F_Q20)) [a0,a1,a2,(.p (.func 21))] F m fun a3 m =>
zaf a3 0 F m fun a4 m =>
zaf a3 1 F m fun a5 m =>
yfresh [a5,a4,a5,a4,a3,a3,a2,a1,a0,(.p (.bool false))] [3] m fun m =>
zak [(.int .i64 0),(.str []),(.str []), .nilslice, .nilslice] [(0,1,(.p (.int .i64 1)))] F m fun a6 m =>
zak [(.int .i64 0),(.str []),(.str []), .nilslice, .nilslice] [(0,1,(.p (.int .i64 1)))] F m fun a7 m =>
zak [(.int .i64 0),(.str []),(.str []), .nilslice, .nilslice] [(0,1,(.p (.int .i64 3))),(2,1,(.p (.str [97])))] F m fun a8 m =>
zag 5 1 [(.int .i64 0),(.str []),(.str []), .nilslice, .nilslice] [(0,5,a8)] F m fun a9 m =>
zak [(.int .i64 0),(.str []),(.str []), .nilslice, .nilslice] [(0,1,(.p (.int .i64 1))),(4,1,a9)] F m fun a10 m =>
zad (.p (.func F_Q9)) [a6,a7,a10] F m fun a11 m =>
zaf a11 0 F m fun a12 m =>
zaf a11 1 F m fun a13 m =>
zah (some 3) [(.int .i64 0),(.str []),(.str []), .nilslice, .nilslice, .nilslice, .nilslice, .nilslice] F m fun a14 m =>
zae 8 a14 a12 F m fun _ m =>
ygd a5 true (yv (x_mov a4)) F m fun a16 m =>
ygd a5 true (zag 1 3 [(.int .i64 0)] [(0,1,(.p (.int .i64 1))),(1,1,(.p (.int .i64 (-2)))),(2,1,(.p (.int .i64 2)))]) F m fun a17 m =>
ygd a5 true (zad (.p (.func F_Q22)) [a16,a17]) F m fun a18 m =>
zai a5 a18 (.p (.bool false)) F m fun a19 m =>
ygd a19 true (yv (x_mov a13)) F m fun a20 m =>
ygd a19 true (y_eql a20 (.p (.int .i64 0))) F m fun a21 m =>
zai a19 a21 (.p (.bool false)) F m fun a22 m =>
ygd a22 true (zaa 0 a14) F m fun a23 m =>
ygd a22 true (zaa 4 a23) F m fun a24 m =>
ygd a22 true (zab none a24) F m fun a25 m =>
ygd a22 true (y_len a25) F m fun a26 m =>
ygd a22 true (y_eql a26 (.p (.int .i64 1))) F m fun a27 m =>
zai a22 a27 (.p (.bool false)) F m fun a28 m =>
ygd a28 true (zaa 5 a14) F m fun a29 m =>
ygd a28 true (zab none a29) F m fun a30 m =>
ygd a28 true (y_len a30) F m fun a31 m =>
ygd a28 true (y_eql a31 (.p (.int .i64 0))) F m fun a32 m =>
zai a28 a32 (.p (.bool false)) F m fun a33 m =>
kr [a33] m)
noncomputable def zpu:SFun:=⟨0,zadt,[.tmp 0],true,true⟩
theorem zxf:SFOK tr.look F_Q11 zpu:=⟨i_Q11,(.sq .lf (.sq .lf (.sq .lf (.sq .lf .lf)))),[],look_Q11,rfl,rfl,rfl,rfl,rfl,by kernel_rfl⟩
noncomputable def zakf:FOr→Nat→(List IVal→SC)→List IVal→SC:=fun F L kr=>sxv fun a0=>sx0 (fun m =>
yfresh [a0] [2] m fun m =>
zah (some 2) [(.int .i64 0),(.str []),(.str []), .nilslice, .nilslice] F m fun a1 m =>
yfresh [a1,a0] [3] m fun m =>
zak [(.int .i64 0),(.str []),(.str []), .nilslice, .nilslice] [(0,1,(.p (.int .i64 1)))] F m fun a2 m =>
zah (some 3) [(.int .i64 0),(.str []),(.str []), .nilslice, .nilslice] F m fun a3 m =>
zae 5 a3 a2 F m fun _ m =>
tblk (sxv fun a6=>sxv fun a7=>sx0 (fun m =>
zab (some 5) a6 F m fun a8 m =>
zae 5 a7 a8 F m fun _ m =>
kr [a7] m)) fun j5 =>
tloop (fun j10=>sxv fun a11=>sxv fun a12=>sxv fun a13=>sxv fun a14=>sx0 (fun m =>
y_lss a11 a14 F m fun a15 m =>
ycond a15 (tblk (sxv fun a17=>sxv fun a18=>sxv fun a19=>sxv fun a20=>sx0 (fun m =>
y_add a17 (.p (.int .i64 1)) F m fun a21 m =>
j10 [a21,a18,a19,a20] m)) fun j16 =>
zaa 4 a12 F m fun a22 m =>
zab none a22 F m fun a23 m =>
y_add a11 (.p (.int .i64 1)) F m fun a24 m =>
yv (zma (.p (.str [97,98,99,100,101,102,103,104])) (some a11) (some a24)) F m fun a25 m =>
zak [(.int .i64 0),(.str []),(.str []), .nilslice, .nilslice] [(0,1,(.p (.int .i64 3))),(2,1,(.p (.str [116])))] F m fun a26 m =>
zag 5 1 [(.int .i64 0),(.str []),(.str []), .nilslice, .nilslice] [(0,5,a26)] F m fun a27 m =>
zak [(.int .i64 0),(.str []),(.str []), .nilslice, .nilslice] [(0,1,(.p (.int .i64 2))),(1,1,a25),(4,1,a27)] F m fun a28 m =>
zag 5 1 [(.int .i64 0),(.str []),(.str []), .nilslice, .nilslice] [(0,5,a28)] F m fun a29 m =>
zam 5 a23 a29 F m fun a30 m =>
zaa 4 a12 F m fun a31 m =>
zae 1 a31 a30 F m fun _ m =>
j16 [a11,a12,a13,a14] m) <|
j5 [a12,a13] m)) L [(.p (.int .i64 0)),a3,a1,a0] m)
noncomputable def zxg:SFun:=⟨1,zakf,[.cell 2 (some 5)],false,false⟩
theorem zadu:SFOK tr.look F_Q12 zxg:=⟨i_Q12,(.sq .lf (.sq .lf (.sq (.sq .lf (.bk [3,2] (.lp [4,3,2,0] (.sq (.sq .lf (.cj .lf .lf)) (.sq (.bk [4,3,2,0] .lf) .lf))))) (.sq .lf .lf)))),[],look_Q12,rfl,rfl,rfl,rfl,rfl,by kernel_rfl⟩
noncomputable def zadv:FOr→Nat→(List IVal→SC)→List IVal→SC:=fun F _ kr=>sxv fun a0=>sx0 (fun m =>
zam 2 (.p .nilslice) a0 F m fun a1 m =>
kr [a1] m)
noncomputable def zpv:SFun:=⟨1,zadv,[.tmp 2],true,false⟩
theorem zxh:SFOK tr.look F_Q14 zpv:=⟨i_Q14,(.sq .lf (.sq .lf .lf)),[],look_Q14,rfl,rfl,rfl,rfl,rfl,by kernel_rfl⟩
noncomputable def zahc:FOr→Nat→(List IVal→SC)→List IVal→SC:=fun F _ kr=>sxv fun a0=>sx0 (fun m =>
yfresh [a0] [1] m fun m =>
y_box (some 1) 5 a0 F m fun a1 m =>
zaa 0 a1 F m fun a2 m =>
zab none a2 F m fun a3 m =>
y_eql a3 (.p (.int .i64 1)) F m fun a4 m =>
ygd a4 true (zab (some 5) a1) F m fun a5 m =>
ygd a4 true (zad (.p (.func F_Q23)) [a5]) F m fun a6 m =>
ygd a4 true (y_leq a6 (.p (.int .i64 300))) F m fun a7 m =>
zai a4 a7 (.p (.bool false)) F m fun a8 m =>
ygd a8 true (zab (some 5) a1) F m fun a9 m =>
ygd a8 true (zad (.p (.func F_Q24)) [a9]) F m fun a10 m =>
ygd a8 true (y_leq a10 (.p (.int .i64 60))) F m fun a11 m =>
zai a8 a11 (.p (.bool false)) F m fun a12 m =>
ygd a12 true (zaa 1 a1) F m fun a13 m =>
ygd a12 true (zab none a13) F m fun a14 m =>
ygd a12 true (zaa 2 a1) F m fun a15 m =>
ygd a12 true (zab none a15) F m fun a16 m =>
ygd a12 true (zag 1 2 [(.str [])] [(0,1,a14),(1,1,a16)]) F m fun a17 m =>
ygd a12 true (zad (.p (.func F_Q25)) [a17]) F m fun a18 m =>
zai a12 a18 (.p (.bool false)) F m fun a19 m =>
ygd a19 true (zaa 3 a1) F m fun a20 m =>
ygd a19 true (zab none a20) F m fun a21 m =>
ygd a19 true (y_len a21) F m fun a22 m =>
ygd a19 true (y_eql a22 (.p (.int .i64 0))) F m fun a23 m =>
zai a19 a23 (.p (.bool false)) F m fun a24 m =>
ygd a24 true (zab (some 5) a1) F m fun a25 m =>
ygd a24 true (zad (.p (.func F_Q26)) [a25]) F m fun a26 m =>
zai a24 a26 (.p (.bool false)) F m fun a27 m =>
kr [a27] m)
noncomputable def zte:SFun:=⟨1,zahc,[.tmp 2],true,true⟩
theorem zzc:SFOK tr.look F_Q15 zte:=⟨i_Q15,(.sq .lf (.sq .lf .lf)),[],look_Q15,rfl,rfl,rfl,rfl,rfl,by kernel_rfl⟩
noncomputable def zadw:FOr→Nat→(List IVal→SC)→List IVal→SC:=fun F L kr=>sxv fun a0=>sxv fun a1=>sxv fun a2=>sx0 (fun m =>
yfresh [a0,a1,a2] [3,4,5] m fun m =>
y_box (some 3) 5 a0 F m fun a3 m =>
y_box (some 4) 5 a1 F m fun a4 m =>
y_box (some 5) 5 a2 F m fun a5 m =>
zab (some 5) a3 F m fun a6 m =>
zab (some 5) a4 F m fun a7 m =>
zab (some 5) a5 F m fun a8 m =>
zak [(.int .i64 0),(.str []),(.str []), .nilslice, .nilslice,(.int .i64 0),(.str []),(.str []), .nilslice, .nilslice] [(0,5,a7),(5,5,a8)] F m fun a9 m =>
zbw F m fun a10 m =>
zad (.p (.func F_Q27)) [a6] F m fun a11 m =>
zak [.nilslice, .nilslice,(.int .i64 0),(.str []),(.str []), .nilslice, .nilslice,(.int .i64 0),(.str []),(.str []), .nilslice, .nilslice, .nilslice, .nilslice, .nilslice, .nilslice, .nilmap, .nilmap, .nilmap, .nilmap, .nilmap, .nilslice,(.int .i64 0), .nilslice, .nilslice] [(0,1,a11),(2,10,a9),(20,1,a10)] F m fun a12 m =>
y_box none 25 a12 F m fun a13 m =>
yck F m (.load (some 5) (.const a4)) a7 <|
yck F m (.load (some 5) (.const a5)) a8 <|
yck F m (.mkMap) a10 <|
y_nil a13 F m fun a14 m =>
zaa 0 a14 F m fun a15 m =>
zab none a15 F m fun a16 m =>
y_len a16 F m fun a17 m =>
tblk (sxv fun a19=>sxv fun a20=>sx0 (fun m =>
y_nil a19 F m fun a21 m =>
zaa 0 a21 F m fun a22 m =>
zab none a22 F m fun a23 m =>
y_len a23 F m fun a24 m =>
zco 1 [(.int .i64 0)] a24 a24 F m fun a25 m =>
y_nil a19 F m fun a26 m =>
zaa 21 a26 F m fun a27 m =>
zae 1 a27 a25 F m fun _ m =>
y_nil a19 F m fun a29 m =>
zaa 2 a29 F m fun a30 m =>
zab (some 10) a30 F m fun a31 m =>
tblk (sxv fun a33=>sx0 (fun m =>
kr [a33] m)) fun j32 =>
tloop (fun j34=>sxv fun a35=>sxv fun a36=>sxv fun a37=>sxv fun a38=>sx0 (fun m =>
y_lss a35 (.p (.int .i64 2)) F m fun a39 m =>
ycond a39 (tblk (sxv fun a41=>sxv fun a42=>sxv fun a43=>sxv fun a44=>sx0 (fun m =>
y_add a41 (.p (.int .i64 1)) F m fun a45 m =>
j34 [a45,a42,a43,a44] m)) fun j40 =>
yfresh [a39,a35,a36,a37,a38] [10] m fun m =>
yv (zacz 2 5 (some 5) a38 a35) F m fun a46 m =>
zah (some 10) [(.int .i64 0),(.str []),(.str []), .nilslice, .nilslice] F m fun a47 m =>
zae 5 a47 a46 F m fun _ m =>
zab (some 5) a37 F m fun a49 m =>
zab (some 5) a47 F m fun a50 m =>
zad (.p (.func F_Q29)) [a49,a50] F m fun a51 m =>
zab (some 5) a47 F m fun a52 m =>
y_nil a36 F m fun a53 m =>
zaa 12 a53 F m fun a54 m =>
zad (.p (.func F_Q27)) [a52] F m fun a55 m =>
zaj 2 1 a54 a35 F m fun a56 m =>
zae 1 a56 a55 F m fun _ m =>
zab (some 5) a37 F m fun a58 m =>
zab (some 5) a47 F m fun a59 m =>
y_nil a36 F m fun a60 m =>
zaa 14 a60 F m fun a61 m =>
zad (.p (.func F_Q30)) [a58,a59,a51] F m fun a62 m =>
zaf a62 0 F m fun a63 m =>
zaf a62 1 F m fun _ m =>
zaj 2 1 a61 a35 F m fun a65 m =>
zae 1 a65 a63 F m fun _ m =>
zbw F m fun a67 m =>
zbw F m fun a68 m =>
y_nil a36 F m fun a69 m =>
zaa 16 a69 F m fun a70 m =>
zaj 2 1 a70 a35 F m fun a71 m =>
y_nil a36 F m fun a72 m =>
zaa 18 a72 F m fun a73 m =>
zae 1 a71 a67 F m fun _ m =>
zaj 2 1 a73 a35 F m fun a75 m =>
yck F m (.mkMap) a68 <|
zae 1 a75 a68 F m fun _ m =>
y_len a51 F m fun a77 m =>
tblk (sxv fun a79=>sxv fun a80=>sxv fun a81=>sxv fun a82=>sx0 (fun m =>
j40 [a79,a80,a81,a82] m)) fun j78 =>
tloop (fun j83=>sxv fun a84=>sxv fun a85=>sxv fun a86=>sxv fun a87=>sxv fun a88=>sxv fun a89=>sxv fun a90=>sxv fun a91=>sx0 (fun m =>
y_lss a84 a91 F m fun a92 m =>
ycond a92 (tblk (sxv fun a94=>sxv fun a95=>sxv fun a96=>sxv fun a97=>sxv fun a98=>sxv fun a99=>sxv fun a100=>sxv fun a101=>sx0 (fun m =>
y_add a94 (.p (.int .i64 1)) F m fun a102 m =>
j83 [a102,a95,a96,a97,a98,a99,a100,a101] m)) fun j93 =>
yfresh [a92,a84,a85,a86,a87,a88,a89,a90,a91] [13] m fun m =>
zac 2 a87 a84 F m fun a103 m =>
zab (some 2) a103 F m fun a104 m =>
zah (some 13) [(.int .i64 0),(.int .i64 0)] F m fun a105 m =>
zae 2 a105 a104 F m fun _ m =>
y_nil a85 F m fun a107 m =>
zaa 16 a107 F m fun a108 m =>
zaj 2 1 a108 a86 F m fun a109 m =>
zab none a109 F m fun a110 m =>
zaa 0 a105 F m fun a111 m =>
zab none a111 F m fun a112 m =>
y_nil a85 F m fun a113 m =>
zaa 18 a113 F m fun a114 m =>
zaj 2 1 a114 a86 F m fun a115 m =>
zab none a115 F m fun a116 m =>
zaa 1 a105 F m fun a117 m =>
zab none a117 F m fun a118 m =>
zaa 1 a105 F m fun a119 m =>
zab none a119 F m fun a120 m =>
zaa 0 a105 F m fun a121 m =>
zab none a121 F m fun a122 m =>
zgs (.p (.int .i64 0)) ⟨false,[.int]⟩ a110 a112 F m fun a123 m =>
zaf a123 1 F m fun a124 m =>
yck F m (.load none (.const a117)) a118 <|
yck F m (.load none (.const a119)) a120 <|
yck F m (.load none (.const a121)) a122 <|
zkp a110 a124 a120 F m fun _ m =>
yck F m (.load none (.const a117)) a118 <|
yck F m (.load none (.const a121)) a122 <|
zgs (.p (.int .i64 0)) ⟨false,[.int]⟩ a116 a118 F m fun a126 m =>
zaf a126 1 F m fun a127 m =>
yck F m (.load none (.const a121)) a122 <|
zkp a116 a127 a122 F m fun _ m =>
j93 [a84,a85,a86,a87,a88,a89,a90,a91] m) <|
j78 [a88,a85,a89,a90] m)) L [(.p (.int .i64 0)),a36,a35,a51,a35,a37,a38,a77] m) <|
j32 [a36] m)) L [(.p (.int .i64 0)),a19,a20,a31] m)) fun j18 =>
tloop (fun j129=>sxv fun a130=>sxv fun a131=>sxv fun a132=>sxv fun a133=>sx0 (fun m =>
y_lss a130 a133 F m fun a134 m =>
ycond a134 (tblk (sxv fun a136=>sxv fun a137=>sxv fun a138=>sxv fun a139=>sx0 (fun m =>
y_add a136 (.p (.int .i64 1)) F m fun a140 m =>
j129 [a140,a137,a138,a139] m)) fun j135 =>
y_nil a131 F m fun a141 m =>
zaa 1 a141 F m fun a142 m =>
zab none a142 F m fun a143 m =>
zab (some 5) a132 F m fun a144 m =>
zad (.p (.func F_Q28)) [a144,a130] F m fun a145 m =>
zag 1 1 [.nilslice] [(0,1,a145)] F m fun a146 m =>
yck F m (.load none (.const a142)) a143 <|
zam 1 a143 a146 F m fun a147 m =>
y_nil a131 F m fun a148 m =>
zaa 1 a148 F m fun a149 m =>
zae 1 a149 a147 F m fun _ m =>
j135 [a130,a131,a132,a133] m) <|
j18 [a131,a132] m)) L [(.p (.int .i64 0)),a13,a3,a17] m)
noncomputable def zpw:SFun:=⟨3,zadw,[.tmp 6],false,false⟩
theorem zxi:SFOK tr.look F_Q16 zpw:=⟨i_Q16,(.sq .lf (.sq .lf (.sq (.sq .lf (.bk [7,3] (.lp [27,7,3,26] (.sq .lf (.sq (.cj .lf .lf) (.sq (.bk [27,7,3,26] (.sq .lf .lf)) .lf)))))) (.sq .lf (.sq (.sq .lf (.bk [7] (.lp [56,7,3,55] (.sq .lf (.sq (.cj .lf .lf) (.sq (.bk [56,7,3,55] (.sq .lf (.sq .lf (.sq .lf (.sq .lf (.sq .lf (.sq .lf (.bk [56,7,3,55] (.lp [96,7,9,94,56,3,55,95] (.sq .lf (.sq (.cj .lf .lf) (.sq (.bk [96,7,9,94,56,3,55,95] (.sq .lf .lf)) .lf)))))))))))) .lf)))))) (.sq .lf .lf)))))),[],look_Q16,rfl,rfl,rfl,rfl,rfl,by kernel_rfl⟩
noncomputable def zja:FOr→Nat→(List IVal→SC)→List IVal→SC:=fun F L kr=>sxv fun a0=>sxv fun a1=>sxv fun a2=>sx0 (fun m =>
yfresh [a0,a1,a2] [4] m fun m =>
y_box (some 4) 5 a1 F m fun a3 m =>
yfresh [(.p .nilslice),a3,a0,a1,a2] [7,8] m fun m =>
y_nil a0 F m fun a4 m =>
zaa 14 a4 F m fun a5 m =>
zaj 2 1 a5 (.p (.int .i64 0)) F m fun a6 m =>
zab none a6 F m fun a7 m =>
zac 6 a7 a2 F m fun a8 m =>
zab (some 6) a8 F m fun a9 m =>
y_nil a0 F m fun a10 m =>
zaa 14 a10 F m fun a11 m =>
zaj 2 1 a11 (.p (.int .i64 1)) F m fun a12 m =>
zab none a12 F m fun a13 m =>
zac 6 a13 a2 F m fun a14 m =>
zab (some 6) a14 F m fun a15 m =>
zah (some 7) [(.bool false),(.bool false), .nilslice, .nilslice,(.int .i64 0), .nilslice] F m fun a16 m =>
zah (some 8) [(.bool false),(.bool false), .nilslice, .nilslice,(.int .i64 0), .nilslice] F m fun a17 m =>
zae 6 a16 a9 F m fun _ m =>
yck F m (.load none (.const a12)) a13 <|
yck F m (.load (some 6) (.const a14)) a15 <|
zae 6 a17 a15 F m fun _ m =>
zaa 0 a16 F m fun a20 m =>
zab none a20 F m fun a21 m =>
ygd a21 false (zaa 0 a17) F m fun a22 m =>
ygd a21 false (zab none a22) F m fun a23 m =>
zai a21 (.p (.bool true)) a23 F m fun a24 m =>
ycond a24 (zab (some 5) a3 F m fun a25 m =>
y_nil a0 F m fun a26 m =>
zaa 14 a26 F m fun a27 m =>
zaj 2 1 a27 (.p (.int .i64 0)) F m fun a28 m =>
zab none a28 F m fun a29 m =>
zad (.p (.func F_Q31)) [a25,a29,a2] F m fun a30 m =>
ygd a30 false (zab (some 5) a3) F m fun a31 m =>
ygd a30 false (yv (x_mov a0)) F m fun a32 m =>
ygd a30 false (y_nil a32) F m fun a33 m =>
ygd a30 false (zaa 14 a33) F m fun a34 m =>
ygd a30 false (zaj 2 1 a34 (.p (.int .i64 1))) F m fun a35 m =>
ygd a30 false (zab none a35) F m fun a36 m =>
ygd a30 false (yv (x_mov a2)) F m fun a37 m =>
ygd a30 false (zad (.p (.func F_Q31)) [a31,a36,a37]) F m fun a38 m =>
zai a30 (.p (.bool true)) a38 F m fun a39 m =>
ycond a39 (zak [(.int .i64 0),(.int .i64 0),(.str [])] [(0,1,(.p (.int .i64 3))),(1,1,a2)] F m fun a40 m =>
zag 3 1 [(.int .i64 0),(.int .i64 0),(.str [])] [(0,3,a40)] F m fun a41 m =>
kr [a41] m) <|
kr [(.p .nilslice)] m) <|
y_nil a0 F m fun a42 m =>
zaa 0 a42 F m fun a43 m =>
zab none a43 F m fun a44 m =>
zac 10 a44 a2 F m fun a45 m =>
zaa 0 a45 F m fun a46 m =>
zab none a46 F m fun a47 m =>
zaa 4 a16 F m fun a48 m =>
zab none a48 F m fun a49 m =>
y_neq a49 a47 F m fun a50 m =>
ygd a50 true (zaa 4 a17) F m fun a51 m =>
ygd a50 true (zab none a51) F m fun a52 m =>
ygd a50 true (yv (x_mov a47)) F m fun a53 m =>
ygd a50 true (y_neq a52 a53) F m fun a54 m =>
zai a50 a54 (.p (.bool false)) F m fun a55 m =>
ygd a55 true (zaa 4 a16) F m fun a56 m =>
ygd a55 true (zab none a56) F m fun a57 m =>
ygd a55 true (zaa 4 a17) F m fun a58 m =>
ygd a55 true (zab none a58) F m fun a59 m =>
ygd a55 true (y_neq a57 a59) F m fun a60 m =>
ygd a55 true (yv (x_mov a60)) F m fun a61 m =>
ygd a61 false (zaa 4 a16) F m fun a62 m =>
ygd a61 false (zab none a62) F m fun a63 m =>
ygd a61 false (y_lss a63 (.p (.int .i64 0))) F m fun a64 m =>
ygd a55 true (zai a61 (.p (.bool true)) a64) F m fun a65 m =>
zai a55 a65 (.p (.bool false)) F m fun a66 m =>
tblk (sxv fun a68=>sxv fun a69=>sxv fun a70=>sxv fun a71=>sxv fun a72=>sx0 (fun m =>
zaa 1 a68 F m fun a73 m =>
zab none a73 F m fun a74 m =>
ygd a74 true (zaa 1 a69) F m fun a75 m =>
ygd a74 true (zab none a75) F m fun a76 m =>
zai a74 a76 (.p (.bool false)) F m fun a77 m =>
ygd a77 true (yv (x_mov a72)) F m fun a78 m =>
ygd a77 true (yv (x_mov a71)) F m fun a79 m =>
ygd a77 true (zad (.p (.func F_Q32)) [a78,(.p (.int .i64 0)),a79]) F m fun a80 m =>
ygd a77 true (yv (x_mov a72)) F m fun a81 m =>
ygd a77 true (yv (x_mov a71)) F m fun a82 m =>
ygd a77 true (zad (.p (.func F_Q32)) [a81,(.p (.int .i64 1)),a82]) F m fun a83 m =>
ygd a77 true (y_neq a80 a83) F m fun a84 m =>
zai a77 a84 (.p (.bool false)) F m fun a85 m =>
tblk (sxv fun a87=>sxv fun a88=>sxv fun a89=>sx0 (fun m =>
zad (.p (.func F_Q33)) [a89,(.p (.int .i64 0)),a87] F m fun a90 m =>
zad (.p (.func F_Q33)) [a89,(.p (.int .i64 1)),a87] F m fun a91 m =>
tblk (sxv fun a93=>sxv fun a94=>sxv fun a95=>sxv fun a96=>sx0 (fun m =>
zad (.p (.func F_Q34)) [a93] F m fun _ m =>
y_len a93 F m fun a98 m =>
tblk (sxv fun a100=>sxv fun a101=>sxv fun a102=>sx0 (fun m =>
zad (.p (.func F_Q35)) [a100,a102] F m fun a103 m =>
zaf a103 0 F m fun _ m =>
zaf a103 1 F m fun a105 m =>
y_not a105 F m fun a106 m =>
tblk (sxv fun a108=>sx0 (fun m =>
kr [a108] m)) fun j107 =>
ycond a106 (zak [(.int .i64 0),(.int .i64 0),(.str [])] [(0,1,(.p (.int .i64 5))),(1,1,a102)] F m fun a109 m =>
zag 3 1 [(.int .i64 0),(.int .i64 0),(.str [])] [(0,3,a109)] F m fun a110 m =>
zam 3 a101 a110 F m fun a111 m =>
j107 [a111] m) <|
j107 [a101] m)) fun j99 =>
tloop (fun j112=>sxv fun a113=>sxv fun a114=>sxv fun a115=>sxv fun a116=>sxv fun a117=>sxv fun a118=>sx0 (fun m =>
y_lss a113 a118 F m fun a119 m =>
ycond a119 (tblk (sxv fun a121=>sxv fun a122=>sxv fun a123=>sxv fun a124=>sxv fun a125=>sxv fun a126=>sx0 (fun m =>
y_add a121 (.p (.int .i64 1)) F m fun a127 m =>
j112 [a127,a122,a123,a124,a125,a126] m)) fun j120 =>
zac 1 a116 a113 F m fun a128 m =>
zab none a128 F m fun a129 m =>
zak [(.int .i64 0),(.int .i64 0),(.str [])] [(0,1,(.p (.int .i64 1))),(1,1,a114),(2,1,a129)] F m fun a130 m =>
zag 3 1 [(.int .i64 0),(.int .i64 0),(.str [])] [(0,3,a130)] F m fun a131 m =>
zam 3 a115 a131 F m fun a132 m =>
j120 [a113,a114,a132,a116,a117,a118] m) <|
j99 [a117,a115,a114] m)) L [(.p (.int .i64 0)),a94,a95,a93,a96,a98] m)) fun j92 =>
y_not (.p (.bool true)) F m fun _ m =>
zrm a90 F m fun a134 m =>
zaf a134 0 F m fun a135 m =>
tblk (sxv fun a137=>sxv fun a138=>sxv fun a139=>sxv fun a140=>sx0 (fun m =>
j92 [a137,a138,a139,a140] m)) fun j136 =>
ycond a135 (tblk (sxv fun a142=>sxv fun a143=>sxv fun a144=>sxv fun a145=>sxv fun a146=>sx0 (fun m =>
zrn a142 F m fun _ m =>
j136 [a143,a144,a145,a146] m)) fun j141 =>
yfresh [a135,a134, .undef,a90,(.p .nilslice),a91,a90,a91,a87,a89,a90,a87,a89,a87,a88,a89] [15] m fun m =>
yv (zpl (.const a134)) F m fun a148 m =>
zaf a148 0 F m fun a149 m =>
zaf a148 1 F m fun a150 m =>
zah (some 15) [(.bool false),(.str [])] F m fun a151 m =>
zae 2 a151 a150 F m fun _ m =>
yfresh [a149,a151,a150,a149,a148,a135,a134, .undef,a90,(.p .nilslice),a91,a90,a91,a87,a89,a90,a87,a89,a87,a88,a89] [16] m fun m =>
zaq true (.agg [(.p (.bool false)),(.p (.str []))]) ⟨false,[.str]⟩ a91 a149 F m fun a153 m =>
zaf a153 0 F m fun a154 m =>
zaf a153 1 F m fun a155 m =>
zah (some 16) [(.bool false),(.str [])] F m fun a156 m =>
zae 2 a156 a154 F m fun _ m =>
ygd a155 true (zab (some 2) a151) F m fun a158 m =>
ygd a155 true (zab (some 2) a156) F m fun a159 m =>
ygd a155 true (yv (x_eqv true ⟨true,[.bool, .str]⟩ (.const a158) (.const a159))) F m fun a160 m =>
zai a155 a160 (.p (.bool false)) F m fun a161 m =>
tblk (sxv fun a163=>sxv fun a164=>sxv fun a165=>sxv fun a166=>sxv fun a167=>sx0 (fun m =>
j141 [a163,a164,a165,a166,a167] m)) fun j162 =>
ycond a161 (zag 1 1 [(.str [])] [(0,1,a149)] F m fun a168 m =>
zam 1 (.p .nilslice) a168 F m fun a169 m =>
j162 [a90,a169,a87,a88,a89] m) <|
j162 [a90,(.p .nilslice),a87,a88,a89] m) <|
j136 [(.p .nilslice),a87,a88,a89] m)) fun j86 =>
ycond a85 (zak [(.int .i64 0),(.int .i64 0),(.str [])] [(0,1,(.p (.int .i64 2))),(1,1,a71)] F m fun a170 m =>
zag 3 1 [(.int .i64 0),(.int .i64 0),(.str [])] [(0,3,a170)] F m fun a171 m =>
zam 3 a70 a171 F m fun a172 m =>
j86 [a71,a172,a72] m) <|
j86 [a71,a70,a72] m)) fun j67 =>
ycond a66 (zak [(.int .i64 0),(.int .i64 0),(.str [])] [(0,1,(.p (.int .i64 4))),(1,1,a2)] F m fun a173 m =>
zag 3 1 [(.int .i64 0),(.int .i64 0),(.str [])] [(0,3,a173)] F m fun a174 m =>
zam 3 (.p .nilslice) a174 F m fun a175 m =>
j67 [a16,a17,a175,a2,a0] m) <|
j67 [a16,a17,(.p .nilslice),a2,a0] m)
noncomputable def zdr:SFun:=⟨3,zja,[.tmp 6],false,false⟩
theorem zhp:SFOK tr.look F_Q17 zdr:=⟨i_Q17,(.sq .lf (.sq .lf (.sq (.sq .lf (.cj (.sq (.sq .lf (.cj (.sq .lf .lf) .lf)) (.sq .lf .lf)) .lf)) (.sq .lf (.sq .lf (.sq (.sq .lf (.cd [7,8,9,2,0] .lf .lf)) (.sq (.sq .lf (.cd [2,9,0] .lf .lf)) (.sq .lf (.sq .lf (.sq (.sq .lf (.bk [13,2,9,0] (.sq .lf (.sq (.cd [13,2,9,0] (.sq (.bk [126,13,2,9,0] (.sq .lf (.sq .lf (.sq .lf (.cd [126,13,2,9,0] .lf .lf))))) .lf) .lf) (.sq .lf .lf))))) (.sq .lf (.sq (.sq .lf (.bk [0,9,2] (.lp [153,2,9,151,0,152] (.sq .lf (.sq (.cj .lf .lf) (.sq (.bk [153,2,9,151,0,152] (.sq .lf .lf)) .lf)))))) (.sq (.sq .lf (.sq .lf (.cd [9] .lf .lf))) (.sq .lf .lf)))))))))))))),[],look_Q17,rfl,rfl,rfl,rfl,rfl,by kernel_rfl⟩
noncomputable def znz:FOr→Nat→(List IVal→SC)→List IVal→SC:=fun F L kr=>sxv fun a0=>sxv fun a1=>sx0 (fun m =>
yfresh [a0,a1] [4] m fun m =>
zah (some 4) [(.int .i64 0),(.str []),(.str []), .nilslice, .nilslice] F m fun a2 m =>
y_nil a0 F m fun a3 m =>
zaa 0 a3 F m fun a4 m =>
zab none a4 F m fun a5 m =>
zac 10 a5 a1 F m fun a6 m =>
zaa 5 a6 F m fun a7 m =>
zab (some 5) a7 F m fun a8 m =>
zah none [(.int .i64 0),(.str []),(.str []), .nilslice, .nilslice] F m fun a9 m =>
zae 5 a9 a8 F m fun _ m =>
tblk (sxv fun a12=>sxv fun a13=>sxv fun a14=>sxv fun a15=>sx0 (fun m =>
y_nil a13 F m fun a16 m =>
zaa 22 a16 F m fun a17 m =>
zab none a17 F m fun a18 m =>
y_add a18 (.p (.int .i64 1)) F m fun a19 m =>
y_nil a13 F m fun a20 m =>
zaa 22 a20 F m fun a21 m =>
zae 1 a21 a19 F m fun _ m =>
y_nil a13 F m fun a23 m =>
zaa 21 a23 F m fun a24 m =>
zab none a24 F m fun a25 m =>
zac 1 a25 a12 F m fun a26 m =>
zab none a26 F m fun a27 m =>
y_add a27 (.p (.int .i64 1)) F m fun a28 m =>
zac 1 a25 a12 F m fun a29 m =>
zae 1 a29 a28 F m fun _ m =>
zad (.p (.func F_Q36)) [a13,a12] F m fun a31 m =>
zaa 3 a14 F m fun a32 m =>
zae 1 a32 a31 F m fun _ m =>
zad (.p (.func F_Q35)) [a13,a12] F m fun a34 m =>
zaf a34 0 F m fun a35 m =>
zaf a34 1 F m fun _ m =>
zad (.p (.func F_Q37)) [a13,a14,a35] F m fun _ m =>
zab (some 5) a14 F m fun a38 m =>
zae 5 a15 a38 F m fun _ m =>
kr [a15] m)) fun j11 =>
tloop (fun j40=>sxv fun a41=>sxv fun a42=>sxv fun a43=>sxv fun a44=>sxv fun a45=>sx0 (fun m =>
y_lss a41 (.p (.int .i64 2)) F m fun a46 m =>
ycond a46 (tblk (sxv fun a48=>sxv fun a49=>sxv fun a50=>sxv fun a51=>sxv fun a52=>sx0 (fun m =>
y_add a48 (.p (.int .i64 1)) F m fun a53 m =>
j40 [a53,a49,a50,a51,a52] m)) fun j47 =>
y_nil a44 F m fun a54 m =>
zaa 23 a54 F m fun a55 m =>
zaj 2 1 a55 a41 F m fun a56 m =>
zab none a56 F m fun a57 m =>
y_nil a44 F m fun a58 m =>
zaa 16 a58 F m fun a59 m =>
zaj 2 1 a59 a41 F m fun a60 m =>
zab none a60 F m fun a61 m =>
zaq false (.p (.int .i64 0)) ⟨false,[.int]⟩ a61 a43 F m fun a62 m =>
y_nil a44 F m fun a63 m =>
zaa 22 a63 F m fun a64 m =>
zab none a64 F m fun a65 m =>
zak [(.int .i64 0),(.int .i64 0)] [(0,1,a62),(1,1,a65)] F m fun a66 m =>
zag 2 1 [(.int .i64 0),(.int .i64 0)] [(0,2,a66)] F m fun a67 m =>
y_nil a44 F m fun a68 m =>
zaa 23 a68 F m fun a69 m =>
zam 2 a57 a67 F m fun a70 m =>
zaj 2 1 a69 a41 F m fun a71 m =>
zae 1 a71 a70 F m fun _ m =>
y_nil a44 F m fun a73 m =>
zaa 14 a73 F m fun a74 m =>
zaj 2 1 a74 a41 F m fun a75 m =>
zab none a75 F m fun a76 m =>
zac 6 a76 a43 F m fun a77 m =>
zaa 1 a77 F m fun a78 m =>
zab none a78 F m fun a79 m =>
tblk (sxv fun a81=>sxv fun a82=>sxv fun a83=>sxv fun a84=>sxv fun a85=>sx0 (fun m =>
j47 [a81,a82,a83,a84,a85] m)) fun j80 =>
ycond a79 (zad (.p (.func F_Q32)) [a44,a41,a43] F m fun a86 m =>
zaa 2 a42 F m fun a87 m =>
zae 1 a87 a86 F m fun _ m =>
j80 [a41,a42,a43,a44,a45] m) <|
j80 [a41,a42,a43,a44,a45] m) <|
j11 [a43,a44,a42,a45] m)) L [(.p (.int .i64 0)),a9,a1,a0,a2] m)
noncomputable def zga:SFun:=⟨2,znz,[.cell 4 (some 5)],false,false⟩
theorem zks:SFOK tr.look F_Q18 zga:=⟨i_Q18,(.sq .lf (.sq .lf (.sq (.sq .lf (.bk [1,0,5,4] (.lp [17,5,1,0,4] (.sq .lf (.sq (.cj .lf .lf) (.sq (.bk [17,5,1,0,4] (.sq .lf (.sq .lf (.sq .lf (.cd [17,5,1,0,4] .lf .lf))))) .lf)))))) (.sq .lf (.sq .lf (.sq .lf (.sq .lf (.sq .lf (.sq .lf .lf))))))))),[],look_Q18,rfl,rfl,rfl,rfl,rfl,by kernel_rfl⟩
noncomputable def zkt:FOr→Nat→(List IVal→SC)→List IVal→SC:=fun F _ kr=>sxv fun a0=>sxv fun a1=>sxv fun a2=>sx0 (fun m =>
yfresh [a0,a1,a2] [5] m fun m =>
y_box (some 5) 5 a2 F m fun a3 m =>
y_nil a0 F m fun a4 m =>
zaa 23 a4 F m fun a5 m =>
zaj 2 1 a5 a1 F m fun a6 m =>
zab none a6 F m fun a7 m =>
zad (.p (.func F_Q38)) [a7,(.p (.func F_Q39))] F m fun _ m =>
y_nil a0 F m fun a9 m =>
zaa 2 a9 F m fun a10 m =>
zaj 2 5 a10 a1 F m fun a11 m =>
zab (some 5) a11 F m fun a12 m =>
zab (some 5) a3 F m fun a13 m =>
y_nil a0 F m fun a14 m =>
zaa 23 a14 F m fun a15 m =>
zaj 2 1 a15 a1 F m fun a16 m =>
zab none a16 F m fun a17 m =>
zad (.p (.func F_Q41)) [a12,a13,a17] F m fun a18 m =>
zaf a18 0 F m fun a19 m =>
zaf a18 1 F m fun a20 m =>
kr [a19,a20] m)
noncomputable def zek:SFun:=⟨3,zkt,[.tmp 6, .tmp 7],false,false⟩
theorem zip:SFOK tr.look F_Q19 zek:=⟨i_Q19,(.sq .lf (.sq .lf (.sq .lf .lf))),[],look_Q19,rfl,rfl,rfl,rfl,rfl,by kernel_rfl⟩
noncomputable def zadx:FOr→Nat→(List IVal→SC)→List IVal→SC:=fun F _ kr=>sxv fun a0=>sxv fun a1=>sxv fun a2=>sxv fun a3=>sx0 (fun m =>
zad (.p (.func F_Q42)) [a2] F m fun a4 m =>
zad (.p (.func F_Q43)) [a0] F m fun a5 m =>
zad (.p (.func F_Q43)) [a1] F m fun a6 m =>
zad (.p (.func F_Q43)) [a4] F m fun a7 m =>
zah none [.nilmap] F m fun a8 m =>
zah none [.nilmap] F m fun a9 m =>
zah none [.nilmap] F m fun a10 m =>
zae 1 a8 a5 F m fun _ m =>
zae 1 a9 a6 F m fun _ m =>
zae 1 a10 a7 F m fun _ m =>
yv (zcu 44 [(.const a8),(.const a9),(.const a10)]) F m fun a14 m =>
zad (.p (.func F_Q45)) [a0,a14] F m fun a15 m =>
zad (.p (.func F_Q45)) [a1,a14] F m fun a16 m =>
zad (.p (.func F_Q45)) [a4,a14] F m fun a17 m =>
tblk (sx0 (fun m =>
kr [(.p .nilslice),(.p (.bool false))] m)) fun j18 =>
zad (.p (.func F_Q46)) [a16,a17] F m fun a19 m =>
ycond a19 (zab none a8 F m fun a20 m =>
zab none a8 F m fun a21 m =>
zad (.p (.func F_Q48)) [a1,a20,a14] F m fun a22 m =>
yck F m (.load none (.const a8)) a21 <|
zad (.p (.func F_Q48)) [a4,a21,a14] F m fun a23 m =>
zad (.p (.func F_Q47)) [a16,a22,a23,a3] F m fun a24 m =>
zaf a24 0 F m fun a25 m =>
zaf a24 1 F m fun a26 m =>
kr [a25,a26] m) <|
zad (.p (.func F_Q46)) [a17,a15] F m fun a27 m =>
ycond a27 (zab none a8 F m fun a28 m =>
zab none a10 F m fun a29 m =>
zad (.p (.func F_Q49)) [a1,a4,a28,a29] F m fun a30 m =>
zaf a30 0 F m fun a31 m =>
zaf a30 1 F m fun a32 m =>
kr [a31,a32] m) <|
zad (.p (.func F_Q46)) [a16,a15] F m fun a33 m =>
ycond a33 (zab none a8 F m fun a34 m =>
zab none a9 F m fun a35 m =>
zad (.p (.func F_Q49)) [a4,a1,a34,a35] F m fun a36 m =>
zaf a36 0 F m fun a37 m =>
zaf a36 1 F m fun a38 m =>
kr [a37,a38] m) <|
j18 [] m)
noncomputable def zpx:SFun:=⟨4,zadx,[.tmp 8, .tmp 9],false,false⟩
theorem zxj:SFOK tr.look F_Q20 zpx:=⟨i_Q20,(.sq .lf (.sq .lf (.sq .lf (.sq .lf (.sq .lf (.sq (.bk [] (.sq .lf (.cj (.sq .lf .lf) (.sq .lf (.cj (.sq .lf .lf) (.sq .lf (.cj (.sq .lf .lf) .lf))))))) (.sq .lf .lf))))))),[],look_Q20,rfl,rfl,rfl,rfl,rfl,by kernel_rfl⟩
noncomputable def ztw:FOr→Nat→(List IVal→SC)→List IVal→SC:=fun F L kr=>sxv fun a0=>sxv fun a1=>sx0 (fun m =>
y_len a0 F m fun a2 m =>
y_len a1 F m fun a3 m =>
y_neq a2 a3 F m fun a4 m =>
ycond a4 (kr [(.p (.bool false))] m) <|
tblk (sx0 (fun m =>
kr [(.p (.bool true))] m)) fun j5 =>
tloop (fun j6=>sxv fun a7=>sxv fun a8=>sxv fun a9=>sx0 (fun m =>
y_len a8 F m fun a10 m =>
y_lss a7 a10 F m fun a11 m =>
ycond a11 (tblk (sxv fun a13=>sxv fun a14=>sxv fun a15=>sx0 (fun m =>
y_add a13 (.p (.int .i64 1)) F m fun a16 m =>
j6 [a16,a14,a15] m)) fun j12 =>
zac 1 a8 a7 F m fun a17 m =>
zab none a17 F m fun a18 m =>
zac 1 a9 a7 F m fun a19 m =>
zab none a19 F m fun a20 m =>
y_neq a18 a20 F m fun a21 m =>
ycond a21 (kr [(.p (.bool false))] m) <|
j12 [a7,a8,a9] m) <|
j5 [] m)) L [(.p (.int .i64 0)),a0,a1] m)
noncomputable def ziu:SFun:=⟨2,ztw,[.tmp 4],true,false⟩
theorem zpy:SFOK tr.look F_Q22 ziu:=⟨i_Q22,(.sq .lf (.sq (.sq .lf (.cj (.sq .lf .lf) .lf)) (.sq (.sq .lf (.bk [] (.lp [5,0,1] (.sq (.sq .lf (.cj .lf .lf)) (.sq (.bk [5,0,1] (.sq .lf (.cj (.sq .lf .lf) .lf))) .lf))))) (.sq .lf .lf)))),[],look_Q22,rfl,rfl,rfl,rfl,rfl,by kernel_rfl⟩
noncomputable def zakg:FOr→Nat→(List IVal→SC)→List IVal→SC:=fun F L kr=>sxv fun a0=>sx0 (fun m =>
yfresh [a0] [1] m fun m =>
y_box (some 1) 5 a0 F m fun a1 m =>
zaa 4 a1 F m fun a2 m =>
zab none a2 F m fun a3 m =>
y_len a3 F m fun a4 m =>
tblk (sxv fun a6=>sx0 (fun m =>
kr [a6] m)) fun j5 =>
tloop (fun j7=>sxv fun a8=>sxv fun a9=>sxv fun a10=>sxv fun a11=>sx0 (fun m =>
y_lss a8 a11 F m fun a12 m =>
ycond a12 (tblk (sxv fun a14=>sxv fun a15=>sxv fun a16=>sxv fun a17=>sx0 (fun m =>
y_add a14 (.p (.int .i64 1)) F m fun a18 m =>
j7 [a18,a15,a16,a17] m)) fun j13 =>
yfresh [a12,a8,a9,a10,a11] [5] m fun m =>
zac 5 a10 a8 F m fun a19 m =>
zab (some 5) a19 F m fun a20 m =>
zah (some 5) [(.int .i64 0),(.str []),(.str []), .nilslice, .nilslice] F m fun a21 m =>
zae 5 a21 a20 F m fun _ m =>
zab (some 5) a21 F m fun a23 m =>
zad (.p (.func F_Q23)) [a23] F m fun a24 m =>
y_add a9 a24 F m fun a25 m =>
j13 [a8,a25,a10,a11] m) <|
j5 [a9] m)) L [(.p (.int .i64 0)),(.p (.int .i64 1)),a3,a4] m)
noncomputable def zxk:SFun:=⟨1,zakg,[.tmp 2],true,false⟩
theorem zady:SFOK tr.look F_Q23 zxk:=⟨i_Q23,(.sq .lf (.sq .lf (.sq (.sq .lf (.bk [3] (.lp [9,3,7,8] (.sq .lf (.sq (.cj .lf .lf) (.sq (.bk [9,3,7,8] (.sq .lf .lf)) .lf)))))) (.sq .lf .lf)))),[],look_Q23,rfl,rfl,rfl,rfl,rfl,by kernel_rfl⟩
noncomputable def zahd:FOr→Nat→(List IVal→SC)→List IVal→SC:=fun F L kr=>sxv fun a0=>sx0 (fun m =>
yfresh [a0] [1] m fun m =>
y_box (some 1) 5 a0 F m fun a1 m =>
zaa 4 a1 F m fun a2 m =>
zab none a2 F m fun a3 m =>
y_len a3 F m fun a4 m =>
tblk (sxv fun a6=>sx0 (fun m =>
y_add a6 (.p (.int .i64 1)) F m fun a7 m =>
kr [a7] m)) fun j5 =>
tloop (fun j8=>sxv fun a9=>sxv fun a10=>sxv fun a11=>sxv fun a12=>sx0 (fun m =>
y_lss a9 a12 F m fun a13 m =>
ycond a13 (tblk (sxv fun a15=>sxv fun a16=>sxv fun a17=>sxv fun a18=>sx0 (fun m =>
y_add a15 (.p (.int .i64 1)) F m fun a19 m =>
j8 [a19,a16,a17,a18] m)) fun j14 =>
yfresh [a13,a9,a10,a11,a12] [5] m fun m =>
zac 5 a11 a9 F m fun a20 m =>
zab (some 5) a20 F m fun a21 m =>
zah (some 5) [(.int .i64 0),(.str []),(.str []), .nilslice, .nilslice] F m fun a22 m =>
zae 5 a22 a21 F m fun _ m =>
zab (some 5) a22 F m fun a24 m =>
zad (.p (.func F_Q24)) [a24] F m fun a25 m =>
yv (zabe [(.const a10),(.const a25)]) F m fun a26 m =>
j14 [a9,a26,a11,a12] m) <|
j5 [a10] m)) L [(.p (.int .i64 0)),(.p (.int .i64 0)),a3,a4] m)
noncomputable def ztf:SFun:=⟨1,zahd,[.tmp 2],true,false⟩
theorem zzd:SFOK tr.look F_Q24 ztf:=⟨i_Q24,(.sq .lf (.sq .lf (.sq (.sq .lf (.bk [3] (.lp [9,3,7,8] (.sq .lf (.sq (.cj .lf .lf) (.sq (.bk [9,3,7,8] (.sq .lf .lf)) .lf)))))) (.sq .lf .lf)))),[],look_Q24,rfl,rfl,rfl,rfl,rfl,by kernel_rfl⟩
noncomputable def zahe:FOr→Nat→(List IVal→SC)→List IVal→SC:=fun F L kr=>sxv fun a0=>sx0 (fun m =>
y_len a0 F m fun a1 m =>
tblk (sx0 (fun m =>
kr [(.p (.bool true))] m)) fun j2 =>
tloop (fun j3=>sxv fun a4=>sxv fun a5=>sxv fun a6=>sx0 (fun m =>
y_lss a4 a6 F m fun a7 m =>
ycond a7 (tblk (sxv fun a9=>sxv fun a10=>sxv fun a11=>sx0 (fun m =>
y_add a9 (.p (.int .i64 1)) F m fun a12 m =>
j3 [a12,a10,a11] m)) fun j8 =>
zac 1 a5 a4 F m fun a13 m =>
zab none a13 F m fun a14 m =>
y_neq a14 (.p (.str [])) F m fun a15 m =>
ycond a15 (kr [(.p (.bool false))] m) <|
j8 [a4,a5,a6] m) <|
j2 [] m)) L [(.p (.int .i64 0)),a0,a1] m)
noncomputable def ztg:SFun:=⟨1,zahe,[.tmp 2],true,false⟩
theorem zze:SFOK tr.look F_Q25 ztg:=⟨i_Q25,(.sq .lf (.sq (.sq .lf (.bk [] (.lp [7,5,6] (.sq .lf (.sq (.cj .lf .lf) (.sq (.bk [7,5,6] (.sq .lf (.sq .lf (.cj (.sq .lf .lf) .lf)))) .lf)))))) (.sq .lf .lf))),[],look_Q25,rfl,rfl,rfl,rfl,rfl,by kernel_rfl⟩
noncomputable def zakh:FOr→Nat→(List IVal→SC)→List IVal→SC:=fun F L kr=>sxv fun a0=>sx0 (fun m =>
yfresh [a0] [1] m fun m =>
y_box (some 1) 5 a0 F m fun a1 m =>
zaa 4 a1 F m fun a2 m =>
zab none a2 F m fun a3 m =>
y_len a3 F m fun a4 m =>
tblk (sx0 (fun m =>
kr [(.p (.bool true))] m)) fun j5 =>
tloop (fun j6=>sxv fun a7=>sxv fun a8=>sxv fun a9=>sxv fun a10=>sx0 (fun m =>
y_lss a7 a10 F m fun a11 m =>
ycond a11 (tblk (sxv fun a13=>sxv fun a14=>sxv fun a15=>sxv fun a16=>sx0 (fun m =>
y_add a13 (.p (.int .i64 1)) F m fun a17 m =>
j6 [a17,a14,a15,a16] m)) fun j12 =>
yfresh [a11,a7,a8,a9,a10] [4] m fun m =>
zac 5 a9 a7 F m fun a18 m =>
zab (some 5) a18 F m fun a19 m =>
zah (some 4) [(.int .i64 0),(.str []),(.str []), .nilslice, .nilslice] F m fun a20 m =>
zae 5 a20 a19 F m fun _ m =>
zab (some 5) a20 F m fun a22 m =>
zad (.p (.func F_Q50)) [a22] F m fun a23 m =>
y_not a23 F m fun a24 m =>
ygd a24 false (zaa 0 a20) F m fun a25 m =>
ygd a24 false (zab none a25) F m fun a26 m =>
ygd a24 false (y_eql a26 (.p (.int .i64 5))) F m fun a27 m =>
ygd a24 false (yv (x_mov a27)) F m fun a28 m =>
ygd a28 true (zaa 0 a8) F m fun a29 m =>
ygd a28 true (zab none a29) F m fun a30 m =>
ygd a28 true (y_neq a30 (.p (.int .i64 1))) F m fun a31 m =>
ygd a24 false (zai a28 a31 (.p (.bool false))) F m fun a32 m =>
zai a24 (.p (.bool true)) a32 F m fun a33 m =>
ycond a33 (kr [(.p (.bool false))] m) <|
j12 [a7,a8,a9,a10] m) <|
j5 [] m)) L [(.p (.int .i64 0)),a1,a3,a4] m)
noncomputable def zxl:SFun:=⟨1,zakh,[.tmp 2],true,false⟩
theorem zadz:SFOK tr.look F_Q26 zxl:=⟨i_Q26,(.sq .lf (.sq (.sq .lf (.bk [] (.lp [8,1,6,7] (.sq .lf (.sq (.cj .lf .lf) (.sq (.bk [8,1,6,7] (.sq .lf (.sq .lf (.cj (.sq .lf .lf) .lf)))) .lf)))))) (.sq .lf .lf))),[],look_Q26,rfl,rfl,rfl,rfl,rfl,by kernel_rfl⟩
noncomputable def zaki:FOr→Nat→(List IVal→SC)→List IVal→SC:=fun F L kr=>sxv fun a0=>sx0 (fun m =>
y_box none 5 a0 F m fun a1 m =>
zah none [.nilslice] F m fun a2 m =>
yv (zcu 52 [(.const a2)]) F m fun a3 m =>
zad (.p (.func F_Q51)) [a1,a3] F m fun _ m =>
zab none a2 F m fun a5 m =>
y_len a5 F m fun a6 m =>
y_sub a6 (.p (.int .i64 1)) F m fun a7 m =>
tblk (sxv fun a9=>sx0 (fun m =>
zab none a9 F m fun a10 m =>
kr [a10] m)) fun j8 =>
tloop (fun j11=>sxv fun a12=>sxv fun a13=>sx0 (fun m =>
y_gtr a12 (.p (.int .i64 0)) F m fun a14 m =>
ycond a14 (tblk (sxv fun a16=>sxv fun a17=>sx0 (fun m =>
y_sub a16 (.p (.int .i64 1)) F m fun a18 m =>
j11 [a18,a17] m)) fun j15 =>
zab none a13 F m fun a19 m =>
zab none a13 F m fun a20 m =>
zac 10 a20 a12 F m fun a21 m =>
zaa 0 a21 F m fun a22 m =>
zab none a22 F m fun a23 m =>
zac 10 a19 a23 F m fun a24 m =>
y_nil a24 F m fun a25 m =>
zaa 1 a25 F m fun a26 m =>
zab none a26 F m fun a27 m =>
zab none a13 F m fun a28 m =>
zac 10 a28 a12 F m fun a29 m =>
zaa 1 a29 F m fun a30 m =>
zab none a30 F m fun a31 m =>
y_add a27 a31 F m fun a32 m =>
y_nil a24 F m fun a33 m =>
zaa 1 a33 F m fun a34 m =>
zae 1 a34 a32 F m fun _ m =>
y_nil a24 F m fun a36 m =>
zaa 3 a36 F m fun a37 m =>
zab none a37 F m fun a38 m =>
zab none a13 F m fun a39 m =>
zac 10 a39 a12 F m fun a40 m =>
zaa 3 a40 F m fun a41 m =>
zab none a41 F m fun a42 m =>
y_add a42 (.p (.int .i64 1)) F m fun a43 m =>
yv (zabe [(.const a38),(.const a43)]) F m fun a44 m =>
y_nil a24 F m fun a45 m =>
zaa 3 a45 F m fun a46 m =>
zae 1 a46 a44 F m fun _ m =>
j15 [a12,a13] m) <|
j8 [a13] m)) L [a7,a2] m)
noncomputable def zxm:SFun:=⟨1,zaki,[.tmp 2],true,true⟩
theorem zaea:SFOK tr.look F_Q27 zxm:=⟨i_Q27,(.sq .lf (.sq .lf (.sq .lf (.sq (.sq .lf (.bk [3] (.lp [4,3] (.sq (.sq .lf (.cj .lf .lf)) (.sq (.bk [4,3] (.sq .lf (.sq .lf .lf))) .lf))))) (.sq .lf .lf))))),[],look_Q27,rfl,rfl,rfl,rfl,rfl,by kernel_rfl⟩
noncomputable def zahf:FOr→Nat→(List IVal→SC)→List IVal→SC:=fun F _ kr=>sxv fun a0=>sxv fun a1=>sx0 (fun m =>
yfresh [a0,a1] [2] m fun m =>
y_box (some 2) 5 a0 F m fun a2 m =>
zab (some 5) a2 F m fun a3 m =>
zad (.p (.func F_Q27)) [a3] F m fun a4 m =>
y_lss a1 (.p (.int .i64 0)) F m fun a5 m =>
ygd a5 false (yv (x_mov a1)) F m fun a6 m =>
ygd a5 false (yv (x_mov a4)) F m fun a7 m =>
ygd a5 false (y_len a7) F m fun a8 m =>
ygd a5 false (y_geq a6 a8) F m fun a9 m =>
zai a5 (.p (.bool true)) a9 F m fun a10 m =>
ycond a10 (kr [(.p .nilslice)] m) <|
zad (.p (.func F_Q54)) [a4,a1] F m fun a11 m =>
kr [a11] m)
noncomputable def zth:SFun:=⟨2,zahf,[.tmp 4],true,true⟩
theorem zzf:SFOK tr.look F_Q28 zth:=⟨i_Q28,(.sq .lf (.sq .lf (.sq (.sq .lf (.cj (.sq .lf .lf) .lf)) (.sq .lf .lf)))),[],look_Q28,rfl,rfl,rfl,rfl,rfl,by kernel_rfl⟩
noncomputable def zee:FOr→Nat→(List IVal→SC)→List IVal→SC:=fun F L kr=>sxv fun a0=>sxv fun a1=>sx0 (fun m =>
yfresh [a0,a1] [2,3] m fun m =>
y_box (some 2) 5 a0 F m fun a2 m =>
y_box (some 3) 5 a1 F m fun a3 m =>
zab (some 5) a2 F m fun a4 m =>
zad (.p (.func F_Q15)) [a4] F m fun a5 m =>
y_not a5 F m fun a6 m =>
ygd a6 false (zab (some 5) a3) F m fun a7 m =>
ygd a6 false (zad (.p (.func F_Q15)) [a7]) F m fun a8 m =>
ygd a6 false (y_not a8) F m fun a9 m =>
zai a6 (.p (.bool true)) a9 F m fun a10 m =>
ycond a10 (none) <|
zab (some 5) a2 F m fun a11 m =>
zab (some 5) a3 F m fun a12 m =>
zab (some 5) a2 F m fun a13 m =>
zab (some 5) a3 F m fun a14 m =>
zbw F m fun a15 m =>
zbw F m fun a16 m =>
zad (.p (.func F_Q27)) [a13] F m fun a17 m =>
yck F m (.load (some 5) (.const a2)) a11 <|
yck F m (.load (some 5) (.const a3)) a12 <|
yck F m (.load (some 5) (.const a3)) a14 <|
yck F m (.mkMap) a15 <|
yck F m (.mkMap) a16 <|
zad (.p (.func F_Q27)) [a14] F m fun a18 m =>
zak [(.int .i64 0),(.str []),(.str []), .nilslice, .nilslice,(.int .i64 0),(.str []),(.str []), .nilslice, .nilslice, .nilslice, .nilslice, .nilslice, .nilslice, .nilmap, .nilmap] [(0,5,a11),(5,5,a12),(10,1,a17),(11,1,a18),(14,1,a15),(15,1,a16)] F m fun a19 m =>
y_box none 16 a19 F m fun a20 m =>
yck F m (.load (some 5) (.const a2)) a11 <|
yck F m (.load (some 5) (.const a3)) a12 <|
yck F m (.mkMap) a15 <|
yck F m (.mkMap) a16 <|
y_nil a20 F m fun a21 m =>
zaa 10 a21 F m fun a22 m =>
zab none a22 F m fun a23 m =>
y_nil a20 F m fun a24 m =>
zaa 11 a24 F m fun a25 m =>
zab none a25 F m fun a26 m =>
zad (.p (.func F_Q55)) [a23] F m fun a27 m =>
yck F m (.load none (.const a25)) a26 <|
zad (.p (.func F_Q55)) [a26] F m fun a28 m =>
zak [.nilslice, .nilslice] [(0,1,a27),(1,1,a28)] F m fun a29 m =>
y_nil a20 F m fun a30 m =>
zaa 12 a30 F m fun a31 m =>
zae 2 a31 a29 F m fun _ m =>
zab (some 5) a2 F m fun a33 m =>
zab (some 5) a3 F m fun a34 m =>
zad (.p (.func F_Q56)) [a33,a34,(.p (.int .i64 2))] F m fun a35 m =>
y_len a35 F m fun a36 m =>
tblk (sxv fun a38=>sxv fun a39=>sx0 (fun m =>
zab (some 5) a38 F m fun a40 m =>
zad (.p (.func F_Q58)) [a40] F m fun a41 m =>
y_len a41 F m fun a42 m =>
tblk (sxv fun a44=>sx0 (fun m =>
zad (.p (.func F_Q61)) [a44,(.p (.int .i64 0)),(.p (.int .i64 0))] F m fun a45 m =>
tblk (sxv fun a47=>sx0 (fun m =>
y_nil a47 F m fun a48 m =>
zaa 10 a48 F m fun a49 m =>
zab none a49 F m fun a50 m =>
y_len a50 F m fun a51 m =>
tblk (sxv fun a53=>sx0 (fun m =>
y_nil a53 F m fun a54 m =>
zaa 14 a54 F m fun a55 m =>
zab none a55 F m fun a56 m =>
kr [a56,(.p .nilslice)] m)) fun j52 =>
tloop (fun j57=>sxv fun a58=>sxv fun a59=>sxv fun a60=>sx0 (fun m =>
y_lss a58 a60 F m fun a61 m =>
ycond a61 (tblk (sxv fun a63=>sxv fun a64=>sxv fun a65=>sx0 (fun m =>
y_add a63 (.p (.int .i64 1)) F m fun a66 m =>
j57 [a66,a64,a65] m)) fun j62 =>
y_nil a59 F m fun a67 m =>
zaa 14 a67 F m fun a68 m =>
zab none a68 F m fun a69 m =>
zaq true (.p (.int .i64 0)) ⟨false,[.int]⟩ a69 a58 F m fun a70 m =>
zaf a70 0 F m fun a71 m =>
zaf a70 1 F m fun a72 m =>
tblk (sxv fun a74=>sxv fun a75=>sxv fun a76=>sx0 (fun m =>
j62 [a74,a75,a76] m)) fun j73 =>
ycond a72 (zad (.p (.func F_Q62)) [a59,a58,a71] F m fun _ m =>
j73 [a58,a59,a60] m) <|
j73 [a58,a59,a60] m) <|
j52 [a59] m)) L [(.p (.int .i64 0)),a47,a51] m)) fun j46 =>
ycond a45 (zad (.p (.func F_Q57)) [a44,(.p (.int .i64 0)),(.p (.int .i64 0))] F m fun _ m =>
j46 [a44] m) <|
j46 [a44] m)) fun j43 =>
tloop (fun j79=>sxv fun a80=>sxv fun a81=>sxv fun a82=>sxv fun a83=>sx0 (fun m =>
y_lss a80 a83 F m fun a84 m =>
ycond a84 (tblk (sxv fun a86=>sxv fun a87=>sxv fun a88=>sxv fun a89=>sx0 (fun m =>
y_add a86 (.p (.int .i64 1)) F m fun a90 m =>
j79 [a90,a87,a88,a89] m)) fun j85 =>
zac 1 a82 a80 F m fun a91 m =>
zab none a91 F m fun a92 m =>
y_nil a81 F m fun a93 m =>
zaa 14 a93 F m fun a94 m =>
zab none a94 F m fun a95 m =>
zaq true (.p (.int .i64 0)) ⟨false,[.int]⟩ a95 a92 F m fun a96 m =>
zaf a96 0 F m fun _ m =>
zaf a96 1 F m fun a98 m =>
ycond a98 (j85 [a80,a81,a82,a83] m) <|
zad (.p (.func F_Q59)) [a81,a92] F m fun a99 m =>
y_geq a99 (.p (.int .i64 0)) F m fun a100 m =>
tblk (sxv fun a102=>sxv fun a103=>sxv fun a104=>sxv fun a105=>sx0 (fun m =>
j85 [a102,a103,a104,a105] m)) fun j101 =>
ycond a100 (zad (.p (.func F_Q57)) [a81,a92,a99] F m fun _ m =>
zad (.p (.func F_Q60)) [a81,a92,a99] F m fun _ m =>
j101 [a80,a81,a82,a83] m) <|
j101 [a80,a81,a82,a83] m) <|
j43 [a81] m)) L [(.p (.int .i64 0)),a39,a41,a42] m)) fun j37 =>
tloop (fun j108=>sxv fun a109=>sxv fun a110=>sxv fun a111=>sxv fun a112=>sxv fun a113=>sx0 (fun m =>
y_lss a109 a113 F m fun a114 m =>
ycond a114 (tblk (sxv fun a116=>sxv fun a117=>sxv fun a118=>sxv fun a119=>sxv fun a120=>sx0 (fun m =>
y_add a116 (.p (.int .i64 1)) F m fun a121 m =>
j108 [a121,a117,a118,a119,a120] m)) fun j115 =>
yfresh [a114,a109,a110,a111,a112,a113] [7] m fun m =>
zac 2 a111 a109 F m fun a122 m =>
zab (some 2) a122 F m fun a123 m =>
zah (some 7) [(.int .i64 0),(.int .i64 0)] F m fun a124 m =>
zae 2 a124 a123 F m fun _ m =>
zaa 0 a124 F m fun a126 m =>
zab none a126 F m fun a127 m =>
zaa 1 a124 F m fun a128 m =>
zab none a128 F m fun a129 m =>
zad (.p (.func F_Q57)) [a110,a127,a129] F m fun _ m =>
j115 [a109,a110,a111,a112,a113] m) <|
j37 [a112,a110] m)) L [(.p (.int .i64 0)),a20,a35,a2,a36] m)
theorem ztx:zee=spre i_Q29 (.sq .lf (.sq (.sq .lf (.cj (.sq .lf .lf) .lf)) (.sq .lf (.sq .lf (.sq (.sq .lf (.bk [2,5] (.lp [55,5,53,2,54] (.sq .lf (.sq (.cj .lf .lf) (.sq (.bk [55,5,53,2,54] (.sq .lf .lf)) .lf)))))) (.sq (.sq .lf (.bk [5] (.lp [69,5,67,68] (.sq .lf (.sq (.cj .lf .lf) (.sq (.bk [69,5,67,68] (.sq .lf (.sq (.sq .lf (.sq .lf (.cj .lf .lf))) (.sq .lf (.sq .lf (.cd [69,5,67,68] (.sq .lf .lf) .lf)))))) .lf)))))) (.sq (.sq .lf (.cd [5] .lf .lf)) (.sq (.sq .lf (.bk [5] (.lp [106,5,105] (.sq .lf (.sq (.cj .lf .lf) (.sq (.bk [106,5,105] (.sq .lf (.sq .lf (.sq .lf (.cd [106,5,105] .lf .lf))))) .lf)))))) (.sq .lf .lf))))))))) [127,16] []:=by kernel_rfl
noncomputable def zaob:FOr→Nat→(List IVal→SC)→List IVal→SC:=fun F L kr=>sxv fun a0=>sxv fun a1=>sxv fun a2=>sx0 (fun m =>
yfresh [a0,a1,a2] [3,4] m fun m =>
y_box (some 3) 5 a0 F m fun a3 m =>
y_box (some 4) 5 a1 F m fun a4 m =>
zab (some 5) a3 F m fun a5 m =>
zab (some 5) a4 F m fun a6 m =>
zad (.p (.func F_Q64)) [a5,a6,a2] F m fun a7 m =>
y_not a7 F m fun a8 m =>
ycond a8 (kr [(.p .nilslice),(.p (.int .i64 1))] m) <|
zab (some 5) a3 F m fun a9 m =>
zab (some 5) a4 F m fun a10 m =>
zad (.p (.func F_Q27)) [a9] F m fun a11 m =>
yck F m (.load (some 5) (.const a4)) a10 <|
zad (.p (.func F_Q27)) [a10] F m fun a12 m =>
zbw F m fun a13 m =>
zbw F m fun a14 m =>
zah none [.nilmap] F m fun a15 m =>
zae 1 a15 a14 F m fun _ m =>
y_len a2 F m fun a17 m =>
tblk (sxv fun a19=>sxv fun a20=>sxv fun a21=>sxv fun a22=>sx0 (fun m =>
yv (zcu 65 [(.const a19)]) F m fun a23 m =>
y_len a20 F m fun a24 m =>
zco 6 [(.bool false),(.bool false), .nilslice, .nilslice,(.int .i64 0), .nilslice] a24 a24 F m fun a25 m =>
y_len a20 F m fun a26 m =>
tblk (sxv fun a28=>sx0 (fun m =>
kr [a28,(.p (.int .i64 0))] m)) fun j27 =>
tloop (fun j29=>sxv fun a30=>sxv fun a31=>sxv fun a32=>sxv fun a33=>sxv fun a34=>sxv fun a35=>sxv fun a36=>sx0 (fun m =>
y_lss a30 a36 F m fun a37 m =>
ycond a37 (tblk (sxv fun a39=>sxv fun a40=>sxv fun a41=>sxv fun a42=>sxv fun a43=>sxv fun a44=>sxv fun a45=>sx0 (fun m =>
y_add a39 (.p (.int .i64 1)) F m fun a46 m =>
j29 [a46,a40,a41,a42,a43,a44,a45] m)) fun j38 =>
zaq true (.p (.int .i64 0)) ⟨false,[.int]⟩ a35 a30 F m fun a47 m =>
zaf a47 0 F m fun a48 m =>
zaf a47 1 F m fun a49 m =>
y_not a49 F m fun a50 m =>
ycond a50 (zac 6 a31 a30 F m fun a51 m =>
zaa 0 a51 F m fun a52 m =>
zae 1 a52 (.p (.bool true)) F m fun _ m =>
j38 [a30,a31,a32,a33,a34,a35,a36] m) <|
zac 10 a32 a30 F m fun a54 m =>
zaa 5 a54 F m fun a55 m =>
zab (some 5) a55 F m fun a56 m =>
zac 10 a33 a48 F m fun a57 m =>
zaa 5 a57 F m fun a58 m =>
zab (some 5) a58 F m fun a59 m =>
zad (.p (.func F_Q66)) [a56,a59] F m fun a60 m =>
zac 6 a31 a30 F m fun a61 m =>
zae 6 a61 a60 F m fun _ m =>
zac 6 a31 a30 F m fun a63 m =>
zaa 4 a63 F m fun a64 m =>
zae 1 a64 (.p (.int .i64 (-1))) F m fun _ m =>
zac 10 a33 a48 F m fun a66 m =>
zaa 0 a66 F m fun a67 m =>
zab none a67 F m fun a68 m =>
y_geq a68 (.p (.int .i64 0)) F m fun a69 m =>
tblk (sxv fun a71=>sxv fun a72=>sxv fun a73=>sxv fun a74=>sxv fun a75=>sxv fun a76=>sxv fun a77=>sxv fun a78=>sxv fun a79=>sx0 (fun m =>
y_add a79 (.p (.int .i64 1)) F m fun a80 m =>
tblk (sxv fun a82=>sxv fun a83=>sxv fun a84=>sxv fun a85=>sxv fun a86=>sxv fun a87=>sxv fun a88=>sx0 (fun m =>
j38 [a82,a83,a84,a85,a86,a87,a88] m)) fun j81 =>
tloop (fun j89=>sxv fun a90=>sxv fun a91=>sxv fun a92=>sxv fun a93=>sxv fun a94=>sxv fun a95=>sxv fun a96=>sxv fun a97=>sxv fun a98=>sxv fun a99=>sx0 (fun m =>
zac 10 a91 a99 F m fun a100 m =>
zaa 1 a100 F m fun a101 m =>
zab none a101 F m fun a102 m =>
y_add a99 a102 F m fun a103 m =>
y_lss a90 a103 F m fun a104 m =>
ycond a104 (tblk (sxv fun a106=>sxv fun a107=>sxv fun a108=>sxv fun a109=>sxv fun a110=>sxv fun a111=>sxv fun a112=>sxv fun a113=>sxv fun a114=>sxv fun a115=>sx0 (fun m =>
zac 10 a107 a106 F m fun a116 m =>
zaa 1 a116 F m fun a117 m =>
zab none a117 F m fun a118 m =>
y_add a106 a118 F m fun a119 m =>
j89 [a119,a107,a108,a109,a110,a111,a112,a113,a114,a115] m)) fun j105 =>
zac 6 a92 a93 F m fun a120 m =>
zaa 5 a120 F m fun a121 m =>
zab none a121 F m fun a122 m =>
zad a94 [a90] F m fun a123 m =>
zag 1 1 [(.int .i64 0)] [(0,1,a123)] F m fun a124 m =>
yck F m (.load none (.const a121)) a122 <|
zam 1 a122 a124 F m fun a125 m =>
zac 6 a92 a93 F m fun a126 m =>
zaa 5 a126 F m fun a127 m =>
zae 1 a127 a125 F m fun _ m =>
j105 [a90,a91,a92,a93,a94,a95,a96,a97,a98,a99] m) <|
j81 [a95,a92,a96,a91,a94,a97,a98] m)) L [a80,a71,a72,a73,a74,a75,a76,a77,a78,a79] m)) fun j70 =>
ycond a69 (zad a34 [a68] F m fun a129 m =>
zac 6 a31 a30 F m fun a130 m =>
zaa 4 a130 F m fun a131 m =>
zae 1 a131 a129 F m fun _ m =>
j70 [a33,a31,a30,a34,a30,a32,a35,a36,a48] m) <|
j70 [a33,a31,a30,a34,a30,a32,a35,a36,a48] m) <|
j27 [a31] m)) L [(.p (.int .i64 0)),a25,a20,a21,a23,a22,a26] m)) fun j18 =>
tloop (fun j133=>sxv fun a134=>sxv fun a135=>sxv fun a136=>sxv fun a137=>sxv fun a138=>sxv fun a139=>sxv fun a140=>sx0 (fun m =>
y_lss a134 a140 F m fun a141 m =>
ycond a141 (tblk (sxv fun a143=>sxv fun a144=>sxv fun a145=>sxv fun a146=>sxv fun a147=>sxv fun a148=>sxv fun a149=>sx0 (fun m =>
y_add a143 (.p (.int .i64 1)) F m fun a150 m =>
j133 [a150,a144,a145,a146,a147,a148,a149] m)) fun j142 =>
yfresh [a141,a134,a135,a136,a137,a138,a139,a140] [13] m fun m =>
zac 2 a137 a134 F m fun a151 m =>
zab (some 2) a151 F m fun a152 m =>
zah (some 13) [(.int .i64 0),(.int .i64 0)] F m fun a153 m =>
zae 2 a153 a152 F m fun _ m =>
zaa 0 a153 F m fun a155 m =>
zab none a155 F m fun a156 m =>
zab none a136 F m fun a157 m =>
zaa 1 a153 F m fun a158 m =>
zab none a158 F m fun a159 m =>
zaa 1 a153 F m fun a160 m =>
zab none a160 F m fun a161 m =>
zaa 0 a153 F m fun a162 m =>
zab none a162 F m fun a163 m =>
zbl ⟨false,[.int]⟩ a135 a156 a161 F m fun _ m =>
yck F m (.load none (.const a136)) a157 <|
yck F m (.load none (.const a158)) a159 <|
yck F m (.load none (.const a162)) a163 <|
zbl ⟨false,[.int]⟩ a157 a159 a163 F m fun _ m =>
j142 [a134,a135,a136,a137,a138,a139,a140] m) <|
j18 [a136,a138,a139,a135] m)) L [(.p (.int .i64 0)),a13,a15,a2,a11,a12,a17] m)
noncomputable def zabm:SFun:=⟨3,zaob,[.tmp 6, .tmp 7],true,true⟩
theorem zahg:SFOK tr.look F_Q30 zabm:=⟨i_Q30,(.sq .lf (.sq (.sq .lf (.cj (.sq .lf .lf) .lf)) (.sq .lf (.sq .lf (.sq (.sq .lf (.bk [11,8,9,10] (.lp [34,10,11,32,8,9,33] (.sq .lf (.sq (.cj .lf .lf) (.sq (.bk [34,10,11,32,8,9,33] (.sq .lf .lf)) .lf)))))) (.sq .lf (.sq .lf (.sq (.sq .lf (.bk [15] (.lp [55,15,8,9,14,10,54] (.sq .lf (.sq (.cj .lf .lf) (.sq (.bk [55,15,8,9,14,10,54] (.sq .lf (.sq .lf (.sq (.sq .lf (.cj (.sq .lf .lf) .lf)) (.sq .lf (.sq .lf (.sq (.sq .lf (.sq .lf (.cd [9,15,16,14,55,8,10,54,17] .lf .lf))) (.sq .lf (.bk [55,15,8,9,14,10,54] (.lp [20,9,15,16,14,55,8,10,54,17] (.sq (.sq .lf (.cj .lf .lf)) (.sq (.bk [20,9,15,16,14,55,8,10,54,17] .lf) .lf)))))))))))) .lf)))))) (.sq .lf .lf))))))))),[],look_Q30,rfl,rfl,rfl,rfl,rfl,by kernel_rfl⟩
noncomputable def zoa:FOr→Nat→(List IVal→SC)→List IVal→SC:=fun F _ kr=>sxv fun a0=>sxv fun a1=>sxv fun a2=>sx0 (fun m =>
y_nil a0 F m fun a3 m =>
zaa 12 a3 F m fun a4 m =>
zaj 2 1 a4 a1 F m fun a5 m =>
zab none a5 F m fun a6 m =>
y_nil a0 F m fun a7 m =>
zaa 16 a7 F m fun a8 m =>
zaj 2 1 a8 a1 F m fun a9 m =>
zab none a9 F m fun a10 m =>
zaq false (.p (.int .i64 0)) ⟨false,[.int]⟩ a10 a2 F m fun a11 m =>
zac 10 a6 a11 F m fun a12 m =>
zaa 5 a12 F m fun a13 m =>
zaa 2 a13 F m fun a14 m =>
zab none a14 F m fun a15 m =>
kr [a15] m)
noncomputable def zgb:SFun:=⟨3,zoa,[.tmp 6],false,false⟩
theorem zku:SFOK tr.look F_Q32 zgb:=⟨i_Q32,(.sq .lf (.sq .lf .lf)),[],look_Q32,rfl,rfl,rfl,rfl,rfl,by kernel_rfl⟩
noncomputable def zmc:FOr→Nat→(List IVal→SC)→List IVal→SC:=fun F L kr=>sxv fun a0=>sxv fun a1=>sxv fun a2=>sx0 (fun m =>
zbw F m fun a3 m =>
y_nil a0 F m fun a4 m =>
zaa 14 a4 F m fun a5 m =>
zaj 2 1 a5 a1 F m fun a6 m =>
zab none a6 F m fun a7 m =>
zac 6 a7 a2 F m fun a8 m =>
zaa 2 a8 F m fun a9 m =>
zab none a9 F m fun a10 m =>
y_len a10 F m fun a11 m =>
tblk (sxv fun a13=>sxv fun a14=>sxv fun a15=>sxv fun a16=>sx0 (fun m =>
y_nil a13 F m fun a17 m =>
zaa 14 a17 F m fun a18 m =>
zaj 2 1 a18 a14 F m fun a19 m =>
zab none a19 F m fun a20 m =>
zac 6 a20 a15 F m fun a21 m =>
zaa 3 a21 F m fun a22 m =>
zab none a22 F m fun a23 m =>
y_len a23 F m fun a24 m =>
tblk (sxv fun a26=>sx0 (fun m =>
kr [a26] m)) fun j25 =>
tloop (fun j27=>sxv fun a28=>sxv fun a29=>sxv fun a30=>sxv fun a31=>sx0 (fun m =>
y_lss a28 a31 F m fun a32 m =>
ycond a32 (tblk (sxv fun a34=>sxv fun a35=>sxv fun a36=>sxv fun a37=>sx0 (fun m =>
y_add a34 (.p (.int .i64 1)) F m fun a38 m =>
j27 [a38,a35,a36,a37] m)) fun j33 =>
zac 1 a30 a28 F m fun a39 m =>
zab none a39 F m fun a40 m =>
zak [(.bool false),(.str [])] [(0,1,(.p (.bool true)))] F m fun a41 m =>
zbl ⟨false,[.str]⟩ a29 a40 a41 F m fun _ m =>
j33 [a28,a29,a30,a31] m) <|
j25 [a29] m)) L [(.p (.int .i64 0)),a16,a23,a24] m)) fun j12 =>
tloop (fun j43=>sxv fun a44=>sxv fun a45=>sxv fun a46=>sxv fun a47=>sxv fun a48=>sxv fun a49=>sxv fun a50=>sx0 (fun m =>
y_lss a44 a50 F m fun a51 m =>
ycond a51 (tblk (sxv fun a53=>sxv fun a54=>sxv fun a55=>sxv fun a56=>sxv fun a57=>sxv fun a58=>sxv fun a59=>sx0 (fun m =>
y_add a53 (.p (.int .i64 1)) F m fun a60 m =>
j43 [a60,a54,a55,a56,a57,a58,a59] m)) fun j52 =>
yfresh [a51,a44,a45,a46,a47,a48,a49,a50] [9] m fun m =>
zac 2 a46 a44 F m fun a61 m =>
zab (some 2) a61 F m fun a62 m =>
zah (some 9) [(.str []),(.str [])] F m fun a63 m =>
zae 2 a63 a62 F m fun _ m =>
zaa 0 a63 F m fun a65 m =>
zab none a65 F m fun a66 m =>
zaa 1 a63 F m fun a67 m =>
zab none a67 F m fun a68 m =>
zak [(.bool false),(.str [])] [(1,1,a68)] F m fun a69 m =>
zbl ⟨false,[.str]⟩ a45 a66 a69 F m fun _ m =>
j52 [a44,a45,a46,a47,a48,a49,a50] m) <|
j12 [a47,a48,a49,a45] m)) L [(.p (.int .i64 0)),a3,a10,a0,a1,a2,a11] m)
noncomputable def zew:SFun:=⟨3,zmc,[.tmp 6],false,false⟩
theorem zjb:SFOK tr.look F_Q33 zew:=⟨i_Q33,(.sq .lf (.sq .lf (.sq (.sq .lf (.bk [0,1,2,7] (.lp [24,7,22,0,1,2,23] (.sq .lf (.sq (.cj .lf .lf) (.sq (.bk [24,7,22,0,1,2,23] (.sq .lf .lf)) .lf)))))) (.sq (.sq .lf (.bk [7] (.lp [46,7,44,45] (.sq .lf (.sq (.cj .lf .lf) (.sq (.bk [46,7,44,45] (.sq .lf .lf)) .lf)))))) (.sq .lf .lf))))),[],look_Q33,rfl,rfl,rfl,rfl,rfl,by kernel_rfl⟩
noncomputable def zgc:FOr→Nat→(List IVal→SC)→List IVal→SC:=fun F _ kr=>sxv fun a0=>sx0 (fun m =>
y_len a0 F m fun a1 m =>
yv (zfx .u64 a1) F m fun a2 m =>
zad (.p (.func F_Q68)) [a2] F m fun a3 m =>
zad (.p (.func F_Q67)) [a0,(.p (.int .i64 0)),a1,a3] F m fun _ m =>
kr [] m)
noncomputable def zcc:SFun:=⟨1,zgc,[],true,false⟩
theorem zer:SFOK tr.look F_Q34 zcc:=⟨i_Q34,(.sq .lf .lf),[],look_Q34,rfl,rfl,rfl,rfl,rfl,by kernel_rfl⟩
noncomputable def zob:FOr→Nat→(List IVal→SC)→List IVal→SC:=fun F _ kr=>sxv fun a0=>sxv fun a1=>sx0 (fun m =>
y_box none 1 a0 F m fun a2 m =>
zab none a2 F m fun a3 m =>
y_nil a3 F m fun a4 m =>
zaa 1 a4 F m fun a5 m =>
zab none a5 F m fun a6 m =>
zac 1 a6 a1 F m fun a7 m =>
zab none a7 F m fun a8 m =>
zab none a2 F m fun a9 m =>
y_nil a9 F m fun a10 m =>
zaa 14 a10 F m fun a11 m =>
zaj 2 1 a11 (.p (.int .i64 0)) F m fun a12 m =>
zab none a12 F m fun a13 m =>
zac 6 a13 a1 F m fun a14 m =>
zaa 5 a14 F m fun a15 m =>
zab none a15 F m fun a16 m =>
zab none a2 F m fun a17 m =>
y_nil a17 F m fun a18 m =>
zaa 14 a18 F m fun a19 m =>
zaj 2 1 a19 (.p (.int .i64 1)) F m fun a20 m =>
zab none a20 F m fun a21 m =>
zac 6 a21 a1 F m fun a22 m =>
zaa 5 a22 F m fun a23 m =>
zab none a23 F m fun a24 m =>
yv (zcu 69 [(.const a2)]) F m fun a25 m =>
zad (.p (.func F_Q20)) [a8,a16,a24,a25] F m fun a26 m =>
zaf a26 0 F m fun a27 m =>
zaf a26 1 F m fun a28 m =>
kr [a27,a28] m)
noncomputable def zgd:SFun:=⟨2,zob,[.tmp 4, .tmp 5],false,false⟩
theorem zkv:SFOK tr.look F_Q35 zgd:=⟨i_Q35,(.sq .lf (.sq .lf .lf)),[],look_Q35,rfl,rfl,rfl,rfl,rfl,by kernel_rfl⟩
noncomputable def zmd:FOr→Nat→(List IVal→SC)→List IVal→SC:=fun F L kr=>sxv fun a0=>sxv fun a1=>sx0 (fun m =>
zbw F m fun a2 m =>
y_nil a0 F m fun a3 m =>
zaa 0 a3 F m fun a4 m =>
zab none a4 F m fun a5 m =>
zac 10 a5 a1 F m fun a6 m =>
zaa 5 a6 F m fun a7 m =>
zaa 3 a7 F m fun a8 m =>
zab none a8 F m fun a9 m =>
y_len a9 F m fun a10 m =>
tblk (sxv fun a12=>sxv fun a13=>sxv fun a14=>sx0 (fun m =>
tblk (sxv fun a16=>sx0 (fun m =>
tblk (sxv fun a18=>sx0 (fun m =>
zad (.p (.func F_Q73)) [a18,(.p (.func 74))] F m fun _ m =>
kr [a18] m)) fun j17 =>
y_not (.p (.bool true)) F m fun _ m =>
zrm a16 F m fun a21 m =>
zaf a21 0 F m fun a22 m =>
tblk (sxv fun a24=>sx0 (fun m =>
j17 [a24] m)) fun j23 =>
ycond a22 (tblk (sxv fun a26=>sxv fun a27=>sx0 (fun m =>
zrn a26 F m fun _ m =>
j23 [a27] m)) fun j25 =>
yv (zpl (.const a21)) F m fun a29 m =>
zaf a29 0 F m fun a30 m =>
zaf a29 1 F m fun a31 m =>
zak [(.str []),(.str [])] [(0,1,a30),(1,1,a31)] F m fun a32 m =>
zag 2 1 [(.str []),(.str [])] [(0,2,a32)] F m fun a33 m =>
zam 2 (.p .nilslice) a33 F m fun a34 m =>
j25 [a16,a34] m) <|
j23 [(.p .nilslice)] m)) fun j15 =>
tloop (fun j35=>sxv fun a36=>sxv fun a37=>sxv fun a38=>sxv fun a39=>sx0 (fun m =>
y_lss a36 (.p (.int .i64 2)) F m fun a40 m =>
ycond a40 (tblk (sxv fun a42=>sxv fun a43=>sxv fun a44=>sxv fun a45=>sx0 (fun m =>
y_add a42 (.p (.int .i64 1)) F m fun a46 m =>
j35 [a46,a43,a44,a45] m)) fun j41 =>
zad (.p (.func F_Q33)) [a39,a36,a38] F m fun a47 m =>
tblk (sxv fun a49=>sxv fun a50=>sxv fun a51=>sxv fun a52=>sx0 (fun m =>
j41 [a49,a50,a51,a52] m)) fun j48 =>
y_not (.p (.bool true)) F m fun _ m =>
zrm a47 F m fun a54 m =>
zaf a54 0 F m fun a55 m =>
tblk (sxv fun a57=>sxv fun a58=>sxv fun a59=>sxv fun a60=>sx0 (fun m =>
j48 [a57,a58,a59,a60] m)) fun j56 =>
ycond a55 (tblk (sxv fun a62=>sxv fun a63=>sxv fun a64=>sxv fun a65=>sxv fun a66=>sx0 (fun m =>
zrn a62 F m fun _ m =>
j56 [a63,a64,a65,a66] m)) fun j61 =>
yfresh [a55,a54, .undef,a47,a38,a36,a39,a36,a36,a40,a36,a37,a38,a39] [10] m fun m =>
yv (zpl (.const a54)) F m fun a68 m =>
zaf a68 0 F m fun a69 m =>
zaf a68 1 F m fun a70 m =>
zah (some 10) [(.bool false),(.str [])] F m fun a71 m =>
zae 2 a71 a70 F m fun _ m =>
zaa 1 a71 F m fun a73 m =>
zab none a73 F m fun a74 m =>
zbl ⟨false,[.str]⟩ a37 a69 a74 F m fun _ m =>
zaa 0 a71 F m fun a76 m =>
zab none a76 F m fun a77 m =>
tblk (sxv fun a79=>sxv fun a80=>sxv fun a81=>sxv fun a82=>sxv fun a83=>sx0 (fun m =>
j61 [a79,a80,a81,a82,a83] m)) fun j78 =>
ycond a77 (y_del ⟨false,[.str]⟩ a37 a69 F m fun _ m =>
j78 [a47,a36,a37,a38,a39] m) <|
j78 [a47,a36,a37,a38,a39] m) <|
j56 [a36,a37,a38,a39] m) <|
j15 [a37] m)) L [(.p (.int .i64 0)),a12,a13,a14] m)) fun j11 =>
tloop (fun j85=>sxv fun a86=>sxv fun a87=>sxv fun a88=>sxv fun a89=>sxv fun a90=>sxv fun a91=>sx0 (fun m =>
y_lss a86 a91 F m fun a92 m =>
ycond a92 (tblk (sxv fun a94=>sxv fun a95=>sxv fun a96=>sxv fun a97=>sxv fun a98=>sxv fun a99=>sx0 (fun m =>
y_add a94 (.p (.int .i64 1)) F m fun a100 m =>
j85 [a100,a95,a96,a97,a98,a99] m)) fun j93 =>
yfresh [a92,a86,a87,a88,a89,a90,a91] [7] m fun m =>
zac 2 a88 a86 F m fun a101 m =>
zab (some 2) a101 F m fun a102 m =>
zah (some 7) [(.str []),(.str [])] F m fun a103 m =>
zae 2 a103 a102 F m fun _ m =>
zaa 0 a103 F m fun a105 m =>
zab none a105 F m fun a106 m =>
zaa 1 a103 F m fun a107 m =>
zab none a107 F m fun a108 m =>
zbl ⟨false,[.str]⟩ a87 a106 a108 F m fun _ m =>
j93 [a86,a87,a88,a89,a90,a91] m) <|
j11 [a87,a89,a90] m)) L [(.p (.int .i64 0)),a2,a9,a1,a0,a10] m)
noncomputable def zex:SFun:=⟨2,zmd,[.tmp 4],false,false⟩
theorem zjc:SFOK tr.look F_Q36 zex:=⟨i_Q36,(.sq .lf (.sq .lf (.sq (.sq .lf (.bk [5,1,0] (.lp [25,5,23,1,0,24] (.sq .lf (.sq (.cj .lf .lf) (.sq (.bk [25,5,23,1,0,24] (.sq .lf .lf)) .lf)))))) (.sq (.sq .lf (.bk [5] (.lp [35,5,1,0] (.sq .lf (.sq (.cj .lf .lf) (.sq (.bk [35,5,1,0] (.sq .lf (.sq .lf (.bk [35,5,1,0] (.sq .lf (.sq (.cd [35,5,1,0] (.sq (.bk [41,35,5,1,0] (.sq .lf (.sq .lf (.sq .lf (.cd [41,35,5,1,0] .lf .lf))))) .lf) .lf) (.sq .lf .lf))))))) .lf)))))) (.sq .lf (.sq (.sq .lf (.bk [11] (.sq .lf (.sq (.cd [11] (.sq (.bk [57,11] (.sq .lf .lf)) .lf) .lf) (.sq .lf .lf))))) (.sq .lf (.sq .lf .lf)))))))),[],look_Q36,rfl,rfl,rfl,rfl,rfl,by kernel_rfl⟩
noncomputable def zoc:FOr→Nat→(List IVal→SC)→List IVal→SC:=fun F L kr=>sxv fun a0=>sxv fun a1=>sxv fun a2=>sx0 (fun m =>
y_len a2 F m fun a3 m =>
tblk (sx0 (fun m =>
kr [] m)) fun j4 =>
tloop (fun j5=>sxv fun a6=>sxv fun a7=>sxv fun a8=>sxv fun a9=>sxv fun a10=>sx0 (fun m =>
y_lss a6 a10 F m fun a11 m =>
ycond a11 (tblk (sxv fun a13=>sxv fun a14=>sxv fun a15=>sxv fun a16=>sxv fun a17=>sx0 (fun m =>
y_add a13 (.p (.int .i64 1)) F m fun a18 m =>
j5 [a18,a14,a15,a16,a17] m)) fun j12 =>
zac 1 a9 a6 F m fun a19 m =>
zab none a19 F m fun a20 m =>
tblk (sxv fun a22=>sxv fun a23=>sxv fun a24=>sxv fun a25=>sxv fun a26=>sx0 (fun m =>
j12 [a22,a23,a24,a25,a26] m)) fun j21 =>
y_lss a20 (.p (.int .i64 0)) F m fun a27 m =>
tblk (sxv fun a29=>sxv fun a30=>sxv fun a31=>sxv fun a32=>sxv fun a33=>sx0 (fun m =>
j21 [a29,a30,a31,a32,a33] m)) fun j28 =>
ycond a27 (yblock 0 (yboth (y_nil a7 F m fun a34 m =>
zaa 4 a34 F m fun a35 m =>
zab none a35 F m fun a36 m =>
y_len a36 F m fun a37 m =>
zag 5 1 [(.int .i64 0),(.str []),(.str []), .nilslice, .nilslice] [(0,5,(.agg [(.p (.int .i64 0)),(.p (.str [])),(.p (.str [])),(.p .nilslice),(.p .nilslice)]))] F m fun a38 m =>
zad (.p (.func F_Q70)) [a20] F m fun a39 m =>
yck F m (.load none (.const a35)) a36 <|
yck F m (.buildSlice 5 1 [(.int .i64 0),(.str []),(.str []), .nilslice, .nilslice] [(0,5,(.const (.agg [(.p (.int .i64 0)),(.p (.str [])),(.p (.str [])),(.p .nilslice),(.p .nilslice)])))]) a38 <|
zad (.p (.func F_Q76)) [a8,a39] F m fun a40 m =>
yck F m (.load none (.const a35)) a36 <|
yck F m (.buildSlice 5 1 [(.int .i64 0),(.str []),(.str []), .nilslice, .nilslice] [(0,5,(.const (.agg [(.p (.int .i64 0)),(.p (.str [])),(.p (.str [])),(.p .nilslice),(.p .nilslice)])))]) a38 <|
zam 5 a36 a38 F m fun a41 m =>
zac 5 a41 a37 F m fun a42 m =>
y_nil a7 F m fun a43 m =>
zaa 4 a43 F m fun a44 m =>
zae 5 a42 a40 F m fun a45 m =>
zae 1 a44 a41 F m fun a46 m =>
some (.normal,[a7,a34,a35,a36,a8,a20,a39,a40,a37,a38,a41,a42,a45,a43,a44,a46],m)) (y_nil a7 F m fun a47 m =>
zaa 4 a47 F m fun a48 m =>
zab none a48 F m fun a49 m =>
y_len a49 F m fun a50 m =>
zag 5 1 [(.int .i64 0),(.str []),(.str []), .nilslice, .nilslice] [(0,5,(.agg [(.p (.int .i64 0)),(.p (.str [])),(.p (.str [])),(.p .nilslice),(.p .nilslice)]))] F m fun a51 m =>
zad (.p (.func F_Q70)) [a20] F m fun a52 m =>
yck F m (.load none (.const a48)) a49 <|
yck F m (.buildSlice 5 1 [(.int .i64 0),(.str []),(.str []), .nilslice, .nilslice] [(0,5,(.const (.agg [(.p (.int .i64 0)),(.p (.str [])),(.p (.str [])),(.p .nilslice),(.p .nilslice)])))]) a51 <|
zad (.p (.func F_Q76)) [a8,a52] F m fun a53 m =>
yck F m (.load none (.const a48)) a49 <|
yck F m (.buildSlice 5 1 [(.int .i64 0),(.str []),(.str []), .nilslice, .nilslice] [(0,5,(.const (.agg [(.p (.int .i64 0)),(.p (.str [])),(.p (.str [])),(.p .nilslice),(.p .nilslice)])))]) a51 <|
zam 5 a49 a51 F m fun a54 m =>
zac 5 a54 a50 F m fun a55 m =>
y_nil a7 F m fun a56 m =>
zaa 4 a56 F m fun a57 m =>
zae 1 a57 a54 F m fun a58 m =>
zae 5 a55 a53 F m fun a59 m =>
some (.normal,[a7,a47,a48,a49,a8,a20,a52,a53,a50,a51,a54,a55,a59,a56,a57,a58],m)) fun z m=>some (.normal,z,m)) <| sxv fun _=>sxv fun _=>sxv fun _=>sxv fun _=>sxv fun _=>sxv fun _=>sxv fun _=>sxv fun _=>sxv fun _=>sxv fun _=>sxv fun _=>sxv fun _=>sxv fun _=>sxv fun _=>sxv fun _=>sxv fun _=>sx0 (fun m =>
j28 [a6,a7,a8,a9,a10] m)) <|
y_nil a8 F m fun a76 m =>
zaa 14 a76 F m fun a77 m =>
zaj 2 1 a77 (.p (.int .i64 0)) F m fun a78 m =>
zab none a78 F m fun a79 m =>
zac 6 a79 a20 F m fun a80 m =>
zaa 0 a80 F m fun a81 m =>
zab none a81 F m fun a82 m =>
y_not a82 F m fun a83 m =>
ygd a83 true (yv (x_mov a8)) F m fun a84 m =>
ygd a83 true (y_nil a84) F m fun a85 m =>
ygd a83 true (zaa 14 a85) F m fun a86 m =>
ygd a83 true (zaj 2 1 a86 (.p (.int .i64 1))) F m fun a87 m =>
ygd a83 true (zab none a87) F m fun a88 m =>
ygd a83 true (yv (x_mov a20)) F m fun a89 m =>
ygd a83 true (zac 6 a88 a89) F m fun a90 m =>
ygd a83 true (zaa 0 a90) F m fun a91 m =>
ygd a83 true (zab none a91) F m fun a92 m =>
ygd a83 true (y_not a92) F m fun a93 m =>
zai a83 a93 (.p (.bool false)) F m fun a94 m =>
ygd a94 true (yv (x_mov a8)) F m fun a95 m =>
ygd a94 true (y_nil a95) F m fun a96 m =>
ygd a94 true (zaa 21 a96) F m fun a97 m =>
ygd a94 true (zab none a97) F m fun a98 m =>
ygd a94 true (yv (x_mov a20)) F m fun a99 m =>
ygd a94 true (zac 1 a98 a99) F m fun a100 m =>
ygd a94 true (zab none a100) F m fun a101 m =>
ygd a94 true (y_lss a101 (.p (.int .i64 2))) F m fun a102 m =>
zai a94 a102 (.p (.bool false)) F m fun a103 m =>
tblk (sxv fun a105=>sxv fun a106=>sxv fun a107=>sxv fun a108=>sxv fun a109=>sx0 (fun m =>
j28 [a105,a106,a107,a108,a109] m)) fun j104 =>
ycond a103 (yblock 0 (yboth (y_nil a7 F m fun a110 m =>
zaa 4 a110 F m fun a111 m =>
zab none a111 F m fun a112 m =>
y_len a112 F m fun a113 m =>
zag 5 1 [(.int .i64 0),(.str []),(.str []), .nilslice, .nilslice] [(0,5,(.agg [(.p (.int .i64 0)),(.p (.str [])),(.p (.str [])),(.p .nilslice),(.p .nilslice)]))] F m fun a114 m =>
zad (.p (.func F_Q18)) [a8,a20] F m fun a115 m =>
yck F m (.load none (.const a111)) a112 <|
yck F m (.buildSlice 5 1 [(.int .i64 0),(.str []),(.str []), .nilslice, .nilslice] [(0,5,(.const (.agg [(.p (.int .i64 0)),(.p (.str [])),(.p (.str [])),(.p .nilslice),(.p .nilslice)])))]) a114 <|
zam 5 a112 a114 F m fun a116 m =>
zac 5 a116 a113 F m fun a117 m =>
y_nil a7 F m fun a118 m =>
zaa 4 a118 F m fun a119 m =>
zae 5 a117 a115 F m fun a120 m =>
zae 1 a119 a116 F m fun a121 m =>
some (.normal,[a7,a110,a111,a112,a8,a20,a115,a113,a114,a116,a117,a120,a118,a119,a121],m)) (y_nil a7 F m fun a122 m =>
zaa 4 a122 F m fun a123 m =>
zab none a123 F m fun a124 m =>
y_len a124 F m fun a125 m =>
zag 5 1 [(.int .i64 0),(.str []),(.str []), .nilslice, .nilslice] [(0,5,(.agg [(.p (.int .i64 0)),(.p (.str [])),(.p (.str [])),(.p .nilslice),(.p .nilslice)]))] F m fun a126 m =>
zad (.p (.func F_Q18)) [a8,a20] F m fun a127 m =>
yck F m (.load none (.const a123)) a124 <|
yck F m (.buildSlice 5 1 [(.int .i64 0),(.str []),(.str []), .nilslice, .nilslice] [(0,5,(.const (.agg [(.p (.int .i64 0)),(.p (.str [])),(.p (.str [])),(.p .nilslice),(.p .nilslice)])))]) a126 <|
zam 5 a124 a126 F m fun a128 m =>
zac 5 a128 a125 F m fun a129 m =>
y_nil a7 F m fun a130 m =>
zaa 4 a130 F m fun a131 m =>
zae 1 a131 a128 F m fun a132 m =>
zae 5 a129 a127 F m fun a133 m =>
some (.normal,[a7,a122,a123,a124,a8,a20,a127,a125,a126,a128,a129,a133,a130,a131,a132],m)) fun z m=>some (.normal,z,m)) <| sxv fun _=>sxv fun _=>sxv fun _=>sxv fun _=>sxv fun _=>sxv fun _=>sxv fun _=>sxv fun _=>sxv fun _=>sxv fun _=>sxv fun _=>sxv fun _=>sxv fun _=>sxv fun _=>sxv fun _=>sx0 (fun m =>
j104 [a6,a7,a8,a9,a10] m)) <|
j104 [a6,a7,a8,a9,a10] m) <|
j4 [] m)) L [(.p (.int .i64 0)),a1,a0,a2,a3] m)
noncomputable def zge:SFun:=⟨3,zoc,[],false,false⟩
theorem zkw:SFOK tr.look F_Q37 zge:=⟨i_Q37,(.sq .lf (.bk [] (.lp [10,1,0,8,9] (.sq .lf (.sq (.cj .lf .lf) (.sq (.bk [10,1,0,8,9] (.sq .lf (.bk [10,1,0,8,9] (.sq .lf (.cd [10,1,0,8,9] .lf (.sq .lf (.cd [10,1,0,8,9] .lf .lf))))))) .lf)))))),[],look_Q37,rfl,rfl,rfl,rfl,rfl,by kernel_rfl⟩
noncomputable def ziq:FOr→Nat→(List IVal→SC)→List IVal→SC:=fun F _ kr=>sxv fun a0=>sxv fun a1=>sx0 (fun m =>
yfresh [a0,a1] [2,3] m fun m =>
y_box (some 2) 2 a0 F m fun a2 m =>
y_box (some 3) 2 a1 F m fun a3 m =>
zaa 0 a2 F m fun a4 m =>
zab none a4 F m fun a5 m =>
zaa 0 a3 F m fun a6 m =>
zab none a6 F m fun a7 m =>
zad (.p (.func F_Q40)) [a5,a7] F m fun a8 m =>
kr [a8] m)
noncomputable def zdm:SFun:=⟨2,ziq,[.tmp 4],true,false⟩
theorem zhd:SFOK tr.look F_Q39 zdm:=⟨i_Q39,(.sq .lf (.sq .lf .lf)),[],look_Q39,rfl,rfl,rfl,rfl,rfl,by kernel_rfl⟩
noncomputable def zrs:FOr→Nat→(List IVal→SC)→List IVal→SC:=fun F _ kr=>sxv fun a0=>sxv fun a1=>sx0 (fun m =>
zad (.p (.func F_Q78)) [a0] F m fun a2 m =>
zad (.p (.func F_Q78)) [a1] F m fun a3 m =>
ycond a2 (ycond a3 (kr [(.p (.int .i64 0))] m) <|
kr [(.p (.int .i64 (-1)))] m) <|
ycond a3 (kr [(.p (.int .i64 1))] m) <|
y_lss a0 a1 F m fun a4 m =>
ycond a4 (kr [(.p (.int .i64 (-1)))] m) <|
y_gtr a0 a1 F m fun a5 m =>
ycond a5 (kr [(.p (.int .i64 1))] m) <|
kr [(.p (.int .i64 0))] m)
noncomputable def zhq:SFun:=⟨2,zrs,[.tmp 4],true,false⟩
theorem zod:SFOK tr.look F_Q40 zhq:=⟨i_Q40,(.sq .lf (.sq .lf (.sq .lf (.sq (.sq .lf (.cj (.sq (.sq .lf (.cj (.sq .lf .lf) .lf)) (.sq .lf .lf)) .lf)) (.sq (.sq .lf (.cj (.sq .lf .lf) .lf)) (.sq (.sq .lf (.cj (.sq .lf .lf) .lf)) (.sq (.sq .lf (.cj (.sq .lf .lf) .lf)) (.sq .lf .lf)))))))),[],look_Q40,rfl,rfl,rfl,rfl,rfl,by kernel_rfl⟩
noncomputable def zaeb:FOr→Nat→(List IVal→SC)→List IVal→SC:=fun F L kr=>sxv fun a0=>sxv fun a1=>sxv fun a2=>sx0 (fun m =>
yfresh [a0,a1,a2] [3,4] m fun m =>
y_box (some 3) 5 a0 F m fun a3 m =>
y_box (some 4) 5 a1 F m fun a4 m =>
zab (some 5) a3 F m fun a5 m =>
zab (some 5) a4 F m fun a6 m =>
zad (.p (.func F_Q64)) [a5,a6,a2] F m fun a7 m =>
y_not a7 F m fun a8 m =>
ycond a8 (kr [(.p .nilslice),(.p (.int .i64 1))] m) <|
zab (some 5) a3 F m fun a9 m =>
zad (.p (.func F_Q27)) [a9] F m fun a10 m =>
zab (some 5) a4 F m fun a11 m =>
zad (.p (.func F_Q27)) [a11] F m fun a12 m =>
zbw F m fun a13 m =>
y_len a10 F m fun a14 m =>
zak [.nilptr, .nilslice, .nilmap,(.int .i64 0), .nilslice,(.bool false)] [(1,1,a12),(2,1,a13),(3,1,a14)] F m fun a15 m =>
y_box none 6 a15 F m fun a16 m =>
zab (some 5) a3 F m fun a17 m =>
zad (.p (.func F_Q79)) [a17] F m fun a18 m =>
zaf a18 0 F m fun a19 m =>
zaf a18 1 F m fun _ m =>
y_nil a16 F m fun a21 m =>
zaa 0 a21 F m fun a22 m =>
zae 1 a22 a19 F m fun _ m =>
y_len a10 F m fun a24 m =>
zco 1 [(.bool false)] a24 a24 F m fun a25 m =>
y_len a25 F m fun a26 m =>
zco 1 [(.bool false)] a26 a26 F m fun a27 m =>
zagw 1 a27 a25 F m fun _ m =>
y_len a2 F m fun a29 m =>
tblk (sxv fun a31=>sxv fun a32=>sxv fun a33=>sxv fun a34=>sx0 (fun m =>
zab (some 5) a31 F m fun a35 m =>
zad (.p (.func F_Q58)) [a35] F m fun a36 m =>
y_len a36 F m fun a37 m =>
tblk (sxv fun a39=>sxv fun a40=>sxv fun a41=>sxv fun a42=>sx0 (fun m =>
tblk (sxv fun a44=>sxv fun a45=>sxv fun a46=>sxv fun a47=>sx0 (fun m =>
y_len a44 F m fun a48 m =>
tblk (sxv fun a50=>sx0 (fun m =>
y_nil a50 F m fun a51 m =>
zaa 5 a51 F m fun a52 m =>
zab none a52 F m fun a53 m =>
ycond a53 (kr [(.p .nilslice),(.p (.int .i64 2))] m) <|
y_nil a50 F m fun a54 m =>
zaa 4 a54 F m fun a55 m =>
zab none a55 F m fun a56 m =>
kr [a56,(.p (.int .i64 0))] m)) fun j49 =>
tloop (fun j57=>sxv fun a58=>sxv fun a59=>sxv fun a60=>sxv fun a61=>sxv fun a62=>sxv fun a63=>sx0 (fun m =>
y_lss a58 a63 F m fun a64 m =>
ycond a64 (tblk (sxv fun a66=>sxv fun a67=>sxv fun a68=>sxv fun a69=>sxv fun a70=>sxv fun a71=>sx0 (fun m =>
y_add a66 (.p (.int .i64 1)) F m fun a72 m =>
j57 [a72,a67,a68,a69,a70,a71] m)) fun j65 =>
zac 1 a62 a58 F m fun a73 m =>
zab none a73 F m fun a74 m =>
zac 1 a61 a74 F m fun a75 m =>
zab none a75 F m fun a76 m =>
ygd a76 true (yv (x_mov a60)) F m fun a77 m =>
ygd a76 true (yv (x_mov a74)) F m fun a78 m =>
ygd a76 true (zac 1 a77 a78) F m fun a79 m =>
ygd a76 true (zab none a79) F m fun a80 m =>
ygd a76 true (y_not a80) F m fun a81 m =>
zai a76 a81 (.p (.bool false)) F m fun a82 m =>
tblk (sxv fun a84=>sxv fun a85=>sxv fun a86=>sxv fun a87=>sxv fun a88=>sxv fun a89=>sx0 (fun m =>
j65 [a84,a85,a86,a87,a88,a89] m)) fun j83 =>
ycond a82 (zak [(.int .i64 0),(.int .i64 0),(.int .i64 0),(.int .i64 0),(.int .i64 0),(.str []),(.str [])] [(0,1,(.p (.int .i64 2))),(1,1,a74)] F m fun a90 m =>
zad (.p (.func F_Q80)) [a59,a90] F m fun _ m =>
j83 [a58,a59,a60,a61,a62,a63] m) <|
j83 [a58,a59,a60,a61,a62,a63] m) <|
j49 [a59] m)) L [(.p (.int .i64 0)),a45,a46,a47,a44,a48] m)) fun j43 =>
tloop (fun j92=>sxv fun a93=>sxv fun a94=>sxv fun a95=>sxv fun a96=>sxv fun a97=>sx0 (fun m =>
y_nil a94 F m fun a98 m =>
zaa 1 a98 F m fun a99 m =>
zab none a99 F m fun a100 m =>
y_len a100 F m fun a101 m =>
y_lss a93 a101 F m fun a102 m =>
ygd a102 true (yv (x_mov a94)) F m fun a103 m =>
ygd a102 true (y_nil a103) F m fun a104 m =>
ygd a102 true (zaa 5 a104) F m fun a105 m =>
ygd a102 true (zab none a105) F m fun a106 m =>
ygd a102 true (y_not a106) F m fun a107 m =>
zai a102 a107 (.p (.bool false)) F m fun a108 m =>
ycond a108 (tblk (sxv fun a110=>sxv fun a111=>sxv fun a112=>sxv fun a113=>sxv fun a114=>sx0 (fun m =>
y_add a110 (.p (.int .i64 1)) F m fun a115 m =>
j92 [a115,a111,a112,a113,a114] m)) fun j109 =>
zad (.p (.func F_Q81)) [a94,a93] F m fun _ m =>
j109 [a93,a94,a95,a96,a97] m) <|
j43 [a95,a94,a96,a97] m)) L [(.p (.int .i64 1)),a39,a40,a41,a42] m)) fun j38 =>
tloop (fun j117=>sxv fun a118=>sxv fun a119=>sxv fun a120=>sxv fun a121=>sxv fun a122=>sxv fun a123=>sxv fun a124=>sx0 (fun m =>
y_lss a118 a124 F m fun a125 m =>
ycond a125 (tblk (sxv fun a127=>sxv fun a128=>sxv fun a129=>sxv fun a130=>sxv fun a131=>sxv fun a132=>sxv fun a133=>sx0 (fun m =>
y_add a127 (.p (.int .i64 1)) F m fun a134 m =>
j117 [a134,a128,a129,a130,a131,a132,a133] m)) fun j126 =>
zac 1 a121 a118 F m fun a135 m =>
zab none a135 F m fun a136 m =>
zac 1 a120 a136 F m fun a137 m =>
zab none a137 F m fun a138 m =>
y_not a138 F m fun a139 m =>
tblk (sxv fun a141=>sxv fun a142=>sxv fun a143=>sxv fun a144=>sxv fun a145=>sxv fun a146=>sxv fun a147=>sx0 (fun m =>
j126 [a141,a142,a143,a144,a145,a146,a147] m)) fun j140 =>
ycond a139 (zak [(.int .i64 0),(.int .i64 0),(.int .i64 0),(.int .i64 0),(.int .i64 0),(.str []),(.str [])] [(0,1,(.p (.int .i64 2))),(1,1,a136)] F m fun a148 m =>
zad (.p (.func F_Q80)) [a119,a148] F m fun _ m =>
j140 [a118,a119,a120,a121,a122,a123,a124] m) <|
j140 [a118,a119,a120,a121,a122,a123,a124] m) <|
j38 [a119,a122,a123,a120] m)) L [(.p (.int .i64 0)),a32,a33,a36,a36,a34,a37] m)) fun j30 =>
tloop (fun j150=>sxv fun a151=>sxv fun a152=>sxv fun a153=>sxv fun a154=>sxv fun a155=>sxv fun a156=>sxv fun a157=>sxv fun a158=>sx0 (fun m =>
y_lss a151 a158 F m fun a159 m =>
ycond a159 (tblk (sxv fun a161=>sxv fun a162=>sxv fun a163=>sxv fun a164=>sxv fun a165=>sxv fun a166=>sxv fun a167=>sxv fun a168=>sx0 (fun m =>
y_add a161 (.p (.int .i64 1)) F m fun a169 m =>
j150 [a169,a162,a163,a164,a165,a166,a167,a168] m)) fun j160 =>
yfresh [a159,a151,a152,a153,a154,a155,a156,a157,a158] [13] m fun m =>
zac 2 a156 a151 F m fun a170 m =>
zab (some 2) a170 F m fun a171 m =>
zah (some 13) [(.int .i64 0),(.int .i64 0)] F m fun a172 m =>
zae 2 a172 a171 F m fun _ m =>
y_nil a155 F m fun a174 m =>
zaa 2 a174 F m fun a175 m =>
zab none a175 F m fun a176 m =>
zaa 1 a172 F m fun a177 m =>
zab none a177 F m fun a178 m =>
zaa 0 a172 F m fun a179 m =>
zab none a179 F m fun a180 m =>
zbl ⟨false,[.int]⟩ a176 a178 a180 F m fun _ m =>
zaa 0 a172 F m fun a182 m =>
zab none a182 F m fun a183 m =>
zac 1 a154 a183 F m fun a184 m =>
zae 1 a184 (.p (.bool true)) F m fun _ m =>
zaa 0 a172 F m fun a186 m =>
zab none a186 F m fun a187 m =>
tblk (sxv fun a189=>sxv fun a190=>sxv fun a191=>sxv fun a192=>sxv fun a193=>sxv fun a194=>sxv fun a195=>sxv fun a196=>sx0 (fun m =>
j160 [a189,a190,a191,a192,a193,a194,a195,a196] m)) fun j188 =>
tloop (fun j197=>sxv fun a198=>sxv fun a199=>sxv fun a200=>sxv fun a201=>sxv fun a202=>sxv fun a203=>sxv fun a204=>sxv fun a205=>sxv fun a206=>sx0 (fun m =>
y_geq a198 (.p (.int .i64 0)) F m fun a207 m =>
ycond a207 (tblk (sxv fun a209=>sxv fun a210=>sxv fun a211=>sxv fun a212=>sxv fun a213=>sxv fun a214=>sxv fun a215=>sxv fun a216=>sxv fun a217=>sx0 (fun m =>
zac 10 a210 a209 F m fun a218 m =>
zaa 0 a218 F m fun a219 m =>
zab none a219 F m fun a220 m =>
j197 [a220,a210,a211,a212,a213,a214,a215,a216,a217] m)) fun j208 =>
zac 1 a200 a198 F m fun a221 m =>
zae 1 a221 (.p (.bool true)) F m fun _ m =>
j208 [a198,a199,a200,a201,a202,a203,a204,a205,a206] m) <|
j188 [a201,a200,a199,a202,a203,a204,a205,a206] m)) L [a187,a153,a152,a151,a154,a155,a156,a157,a158] m) <|
j30 [a157,a155,a152,a154] m)) L [(.p (.int .i64 0)),a25,a10,a27,a16,a2,a3,a29] m)
noncomputable def zpz:SFun:=⟨3,zaeb,[.tmp 6, .tmp 7],true,true⟩
theorem zxn:SFOK tr.look F_Q41 zpz:=⟨i_Q41,(.sq .lf (.sq (.sq .lf (.cj (.sq .lf .lf) .lf)) (.sq .lf (.sq .lf (.sq .lf (.sq .lf (.sq .lf (.sq .lf (.sq (.sq .lf (.bk [3,9,10,11] (.lp [54,10,8,11,9,52,3,53] (.sq .lf (.sq (.cj .lf .lf) (.sq (.bk [54,10,8,11,9,52,3,53] (.sq .lf (.sq .lf (.sq .lf (.sq .lf (.bk [54,10,8,11,9,52,3,53] (.lp [14,8,10,54,11,9,52,3,53] (.sq (.sq .lf (.cj .lf .lf)) (.sq (.bk [14,8,10,54,11,9,52,3,53] .lf) .lf))))))))) .lf)))))) (.sq .lf (.sq (.sq .lf (.bk [9,15,11,10] (.lp [87,9,10,85,15,11,86] (.sq .lf (.sq (.cj .lf .lf) (.sq (.bk [87,9,10,85,15,11,86] (.sq .lf (.sq .lf (.cd [87,9,10,85,15,11,86] .lf .lf)))) .lf)))))) (.sq (.sq .lf (.bk [15,9,11,10] (.lp [18,9,15,11,10] (.sq (.sq .lf (.cj .lf .lf)) (.sq (.bk [18,9,15,11,10] .lf) .lf))))) (.sq (.sq .lf (.bk [9] (.lp [122,9,11,10,120,121] (.sq .lf (.sq (.cj .lf .lf) (.sq (.bk [122,9,11,10,120,121] (.sq .lf (.sq .lf (.cd [122,9,11,10,120,121] .lf .lf)))) .lf)))))) (.sq (.sq .lf (.cj (.sq .lf .lf) .lf)) (.sq .lf .lf))))))))))))))),[],look_Q41,rfl,rfl,rfl,rfl,rfl,by kernel_rfl⟩
noncomputable def zaec:FOr→Nat→(List IVal→SC)→List IVal→SC:=fun F L kr=>sxv fun a0=>sx0 (fun m =>
y_len a0 F m fun a1 m =>
tblk (sxv fun a3=>sx0 (fun m =>
kr [a3] m)) fun j2 =>
tloop (fun j4=>sxv fun a5=>sxv fun a6=>sxv fun a7=>sxv fun a8=>sx0 (fun m =>
y_lss a5 a8 F m fun a9 m =>
ycond a9 (tblk (sxv fun a11=>sxv fun a12=>sxv fun a13=>sxv fun a14=>sx0 (fun m =>
y_add a11 (.p (.int .i64 1)) F m fun a15 m =>
j4 [a15,a12,a13,a14] m)) fun j10 =>
zac 1 a7 a5 F m fun a16 m =>
zab none a16 F m fun a17 m =>
y_lss a17 (.p (.int .i64 0)) F m fun a18 m =>
tblk (sxv fun a20=>sxv fun a21=>sxv fun a22=>sxv fun a23=>sxv fun a24=>sx0 (fun m =>
zag 1 1 [(.int .i64 0)] [(0,1,a21)] F m fun a25 m =>
zam 1 a20 a25 F m fun a26 m =>
j10 [a22,a26,a23,a24] m)) fun j19 =>
ycond a18 (y_sub a17 (.p (.int .i64 1048576)) F m fun a27 m =>
j19 [a6,a27,a5,a7,a8] m) <|
j19 [a6,a17,a5,a7,a8] m) <|
j2 [a6] m)) L [(.p (.int .i64 0)),(.p .nilslice),a0,a1] m)
noncomputable def zqa:SFun:=⟨1,zaec,[.tmp 2],true,false⟩
theorem zxo:SFOK tr.look F_Q42 zqa:=⟨i_Q42,(.sq .lf (.sq .lf (.sq (.sq .lf (.bk [3] (.lp [8,3,6,7] (.sq .lf (.sq (.cj .lf .lf) (.sq (.bk [8,3,6,7] (.sq .lf (.sq (.sq .lf (.cd [3,5,8,6,7] .lf .lf)) .lf))) .lf)))))) (.sq .lf .lf)))),[],look_Q42,rfl,rfl,rfl,rfl,rfl,by kernel_rfl⟩
noncomputable def zakj:FOr→Nat→(List IVal→SC)→List IVal→SC:=fun F L kr=>sxv fun a0=>sx0 (fun m =>
zbw F m fun a1 m =>
y_len a0 F m fun a2 m =>
tblk (sxv fun a4=>sx0 (fun m =>
kr [a4] m)) fun j3 =>
tloop (fun j5=>sxv fun a6=>sxv fun a7=>sxv fun a8=>sxv fun a9=>sx0 (fun m =>
y_lss a6 a9 F m fun a10 m =>
ycond a10 (tblk (sxv fun a12=>sxv fun a13=>sxv fun a14=>sxv fun a15=>sx0 (fun m =>
y_add a12 (.p (.int .i64 1)) F m fun a16 m =>
j5 [a16,a13,a14,a15] m)) fun j11 =>
zac 1 a8 a6 F m fun a17 m =>
zab none a17 F m fun a18 m =>
zbl ⟨false,[.int]⟩ a7 a18 (.p (.bool true)) F m fun _ m =>
j11 [a6,a7,a8,a9] m) <|
j3 [a7] m)) L [(.p (.int .i64 0)),a1,a0,a2] m)
noncomputable def zxp:SFun:=⟨1,zakj,[.tmp 2],false,false⟩
theorem zaed:SFOK tr.look F_Q43 zxp:=⟨i_Q43,(.sq .lf (.sq .lf (.sq (.sq .lf (.bk [3] (.lp [9,3,7,8] (.sq .lf (.sq (.cj .lf .lf) (.sq (.bk [9,3,7,8] (.sq .lf .lf)) .lf)))))) (.sq .lf .lf)))),[],look_Q43,rfl,rfl,rfl,rfl,rfl,by kernel_rfl⟩
noncomputable def zxq:FOr→Nat→(List IVal→SC)→List IVal→SC:=fun F _ kr=>sxv fun a0=>sxv fun a1=>sxv fun a2=>sxv fun a3=>sx0 (fun m =>
zab none a1 F m fun a4 m =>
zaq false (.p (.bool false)) ⟨false,[.int]⟩ a4 a0 F m fun a5 m =>
ygd a5 true (zab none a2) F m fun a6 m =>
ygd a5 true (yv (x_mov a0)) F m fun a7 m =>
ygd a5 true (zaq false (.p (.bool false)) ⟨false,[.int]⟩ a6 a7) F m fun a8 m =>
zai a5 a8 (.p (.bool false)) F m fun a9 m =>
ygd a9 true (zab none a3) F m fun a10 m =>
ygd a9 true (yv (x_mov a0)) F m fun a11 m =>
ygd a9 true (zaq false (.p (.bool false)) ⟨false,[.int]⟩ a10 a11) F m fun a12 m =>
zai a9 a12 (.p (.bool false)) F m fun a13 m =>
kr [a13] m)
noncomputable def zkx:SFun:=⟨4,zxq,[.tmp 5],false,false⟩
theorem zrt:SFOK tr.look F_Q44 zkx:=⟨i_Q44,(.sq .lf (.sq .lf .lf)),[],look_Q44,rfl,rfl,rfl,rfl,rfl,by kernel_rfl⟩
noncomputable def zahh:FOr→Nat→(List IVal→SC)→List IVal→SC:=fun F L kr=>sxv fun a0=>sxv fun a1=>sx0 (fun m =>
y_len a0 F m fun a2 m =>
tblk (sxv fun a4=>sx0 (fun m =>
kr [a4] m)) fun j3 =>
tloop (fun j5=>sxv fun a6=>sxv fun a7=>sxv fun a8=>sxv fun a9=>sxv fun a10=>sx0 (fun m =>
y_lss a6 a10 F m fun a11 m =>
ycond a11 (tblk (sxv fun a13=>sxv fun a14=>sxv fun a15=>sxv fun a16=>sxv fun a17=>sx0 (fun m =>
y_add a13 (.p (.int .i64 1)) F m fun a18 m =>
j5 [a18,a14,a15,a16,a17] m)) fun j12 =>
zac 1 a9 a6 F m fun a19 m =>
zab none a19 F m fun a20 m =>
zad a8 [a20] F m fun a21 m =>
tblk (sxv fun a23=>sxv fun a24=>sxv fun a25=>sxv fun a26=>sxv fun a27=>sx0 (fun m =>
j12 [a23,a24,a25,a26,a27] m)) fun j22 =>
ycond a21 (zag 1 1 [(.int .i64 0)] [(0,1,a20)] F m fun a28 m =>
zam 1 a7 a28 F m fun a29 m =>
j22 [a6,a29,a8,a9,a10] m) <|
j22 [a6,a7,a8,a9,a10] m) <|
j3 [a7] m)) L [(.p (.int .i64 0)),(.p .nilslice),a1,a0,a2] m)
noncomputable def zti:SFun:=⟨2,zahh,[.tmp 4],false,false⟩
theorem zzg:SFOK tr.look F_Q45 zti:=⟨i_Q45,(.sq .lf (.sq .lf (.sq (.sq .lf (.bk [5] (.lp [10,5,1,8,9] (.sq .lf (.sq (.cj .lf .lf) (.sq (.bk [10,5,1,8,9] (.sq .lf (.sq .lf (.cd [10,5,1,8,9] .lf .lf)))) .lf)))))) (.sq .lf .lf)))),[],look_Q45,rfl,rfl,rfl,rfl,rfl,by kernel_rfl⟩
noncomputable def zjd:FOr→Nat→(List IVal→SC)→List IVal→SC:=fun F L kr=>sxv fun a0=>sxv fun a1=>sx0 (fun m =>
y_len a0 F m fun a2 m =>
y_len a1 F m fun a3 m =>
y_neq a2 a3 F m fun a4 m =>
ycond a4 (kr [(.p (.bool false))] m) <|
y_len a0 F m fun a5 m =>
tblk (sx0 (fun m =>
kr [(.p (.bool true))] m)) fun j6 =>
tloop (fun j7=>sxv fun a8=>sxv fun a9=>sxv fun a10=>sxv fun a11=>sx0 (fun m =>
y_lss a8 a11 F m fun a12 m =>
ycond a12 (tblk (sxv fun a14=>sxv fun a15=>sxv fun a16=>sxv fun a17=>sx0 (fun m =>
y_add a14 (.p (.int .i64 1)) F m fun a18 m =>
j7 [a18,a15,a16,a17] m)) fun j13 =>
zac 1 a9 a8 F m fun a19 m =>
zab none a19 F m fun a20 m =>
zac 1 a10 a8 F m fun a21 m =>
zab none a21 F m fun a22 m =>
y_neq a20 a22 F m fun a23 m =>
ycond a23 (kr [(.p (.bool false))] m) <|
j13 [a8,a9,a10,a11] m) <|
j6 [] m)) L [(.p (.int .i64 0)),a0,a1,a5] m)
noncomputable def zds:SFun:=⟨2,zjd,[.tmp 4],true,false⟩
theorem zhr:SFOK tr.look F_Q46 zds:=⟨i_Q46,(.sq .lf (.sq (.sq .lf (.cj (.sq .lf .lf) .lf)) (.sq (.sq .lf (.bk [] (.lp [13,0,1,12] (.sq .lf (.sq (.cj .lf .lf) (.sq (.bk [13,0,1,12] (.sq .lf (.sq .lf (.cj (.sq .lf .lf) .lf)))) .lf)))))) (.sq .lf .lf)))),[],look_Q46,rfl,rfl,rfl,rfl,rfl,by kernel_rfl⟩
noncomputable def zzh:FOr→Nat→(List IVal→SC)→List IVal→SC:=fun F L kr=>sxv fun a0=>sxv fun a1=>sxv fun a2=>sxv fun a3=>sx0 (fun m =>
y_len a1 F m fun a4 m =>
tblk (sxv fun a6=>sx0 (fun m =>
kr [a6,(.p (.bool true))] m)) fun j5 =>
tloop (fun j7=>sxv fun a8=>sxv fun a9=>sxv fun a10=>sxv fun a11=>sxv fun a12=>sxv fun a13=>sxv fun a14=>sx0 (fun m =>
y_lss a8 a14 F m fun a15 m =>
ycond a15 (tblk (sxv fun a17=>sxv fun a18=>sxv fun a19=>sxv fun a20=>sxv fun a21=>sxv fun a22=>sxv fun a23=>sx0 (fun m =>
y_add a17 (.p (.int .i64 1)) F m fun a24 m =>
j7 [a24,a18,a19,a20,a21,a22,a23] m)) fun j16 =>
zac 1 a13 a8 F m fun a25 m =>
zab none a25 F m fun a26 m =>
tblk (sxv fun a28=>sxv fun a29=>sxv fun a30=>sxv fun a31=>sxv fun a32=>sxv fun a33=>sxv fun a34=>sxv fun a35=>sxv fun a36=>sx0 (fun m =>
zam 1 a28 a29 F m fun a37 m =>
y_len a32 F m fun a38 m =>
y_lss a30 a38 F m fun a39 m =>
tblk (sxv fun a41=>sxv fun a42=>sxv fun a43=>sxv fun a44=>sxv fun a45=>sxv fun a46=>sxv fun a47=>sx0 (fun m =>
j16 [a41,a42,a43,a44,a45,a46,a47] m)) fun j40 =>
ycond a39 (zac 1 a32 a30 F m fun a48 m =>
zab none a48 F m fun a49 m =>
zag 1 1 [(.int .i64 0)] [(0,1,a49)] F m fun a50 m =>
zam 1 a37 a50 F m fun a51 m =>
j40 [a31,a32,a51,a33,a34,a35,a36] m) <|
j40 [a31,a32,a37,a33,a34,a35,a36] m)) fun j27 =>
y_len a26 F m fun a52 m =>
y_eql a52 (.p (.int .i64 0)) F m fun a53 m =>
tblk (sxv fun a55=>sxv fun a56=>sxv fun a57=>sxv fun a58=>sxv fun a59=>sxv fun a60=>sxv fun a61=>sxv fun a62=>sxv fun a63=>sx0 (fun m =>
j27 [a55,a56,a57,a58,a59,a60,a61,a62,a63] m)) fun j54 =>
ycond a53 (zac 1 a11 a8 F m fun a64 m =>
zab none a64 F m fun a65 m =>
j54 [a10,a65,a8,a8,a9,a11,a12,a13,a14] m) <|
zac 1 a11 a8 F m fun a66 m =>
zab none a66 F m fun a67 m =>
y_len a67 F m fun a68 m =>
y_gtr a68 (.p (.int .i64 0)) F m fun a69 m =>
ygd a69 true (yv (x_mov a26)) F m fun a70 m =>
ygd a69 true (yv (x_mov a11)) F m fun a71 m =>
ygd a69 true (yv (x_mov a8)) F m fun a72 m =>
ygd a69 true (zac 1 a71 a72) F m fun a73 m =>
ygd a69 true (zab none a73) F m fun a74 m =>
ygd a69 true (yv (x_mov a12)) F m fun a75 m =>
ygd a69 true (zad (.p (.func F_Q82)) [a70,a74,a75]) F m fun a76 m =>
ygd a69 true (y_not a76) F m fun a77 m =>
zai a69 a77 (.p (.bool false)) F m fun a78 m =>
ycond a78 (kr [(.p .nilslice),(.p (.bool false))] m) <|
j54 [a10,a26,a8,a8,a9,a11,a12,a13,a14] m) <|
j5 [a10] m)) L [(.p (.int .i64 0)),a0,(.p .nilslice),a2,a3,a1,a4] m)
noncomputable def zna:SFun:=⟨4,zzh,[.tmp 8, .tmp 9],false,false⟩
theorem zty:SFOK tr.look F_Q47 zna:=⟨i_Q47,(.sq .lf (.sq .lf (.sq (.sq .lf (.bk [10] (.lp [15,0,10,2,3,1,14] (.sq .lf (.sq (.cj .lf .lf) (.sq (.bk [15,0,10,2,3,1,14] (.sq .lf (.sq .lf (.sq (.bk [10,12,11,15,0,2,3,1,14] (.sq .lf (.cd [10,12,11,15,0,2,3,1,14] .lf (.sq .lf (.cj (.sq .lf .lf) .lf))))) (.sq .lf (.sq .lf (.cd [15,0,10,2,3,1,14] .lf .lf))))))) .lf)))))) (.sq .lf .lf)))),[],look_Q47,rfl,rfl,rfl,rfl,rfl,by kernel_rfl⟩
noncomputable def zahi:FOr→Nat→(List IVal→SC)→List IVal→SC:=fun F L kr=>sxv fun a0=>sxv fun a1=>sxv fun a2=>sx0 (fun m =>
zag 1 1 [.nilslice] [(0,1,(.p .nilslice))] F m fun a3 m =>
y_len a0 F m fun a4 m =>
tblk (sxv fun a6=>sx0 (fun m =>
kr [a6] m)) fun j5 =>
tloop (fun j7=>sxv fun a8=>sxv fun a9=>sxv fun a10=>sxv fun a11=>sxv fun a12=>sxv fun a13=>sx0 (fun m =>
y_lss a8 a13 F m fun a14 m =>
ycond a14 (tblk (sxv fun a16=>sxv fun a17=>sxv fun a18=>sxv fun a19=>sxv fun a20=>sxv fun a21=>sx0 (fun m =>
y_add a16 (.p (.int .i64 1)) F m fun a22 m =>
j7 [a22,a17,a18,a19,a20,a21] m)) fun j15 =>
zac 1 a12 a8 F m fun a23 m =>
zab none a23 F m fun a24 m =>
y_len a9 F m fun a25 m =>
y_sub a25 (.p (.int .i64 1)) F m fun a26 m =>
tblk (sxv fun a28=>sxv fun a29=>sxv fun a30=>sxv fun a31=>sxv fun a32=>sxv fun a33=>sx0 (fun m =>
j15 [a28,a29,a30,a31,a32,a33] m)) fun j27 =>
zad a11 [a24] F m fun a34 m =>
tblk (sxv fun a36=>sxv fun a37=>sxv fun a38=>sxv fun a39=>sxv fun a40=>sxv fun a41=>sx0 (fun m =>
j27 [a36,a37,a38,a39,a40,a41] m)) fun j35 =>
ycond a34 (zag 1 1 [.nilslice] [(0,1,(.p .nilslice))] F m fun a42 m =>
zam 1 a9 a42 F m fun a43 m =>
j35 [a8,a43,a10,a11,a12,a13] m) <|
zaq false (.p (.bool false)) ⟨false,[.int]⟩ a10 a24 F m fun a44 m =>
y_not a44 F m fun a45 m =>
tblk (sxv fun a47=>sxv fun a48=>sxv fun a49=>sxv fun a50=>sxv fun a51=>sxv fun a52=>sx0 (fun m =>
j35 [a47,a48,a49,a50,a51,a52] m)) fun j46 =>
ycond a45 (zac 1 a9 a26 F m fun a53 m =>
zab none a53 F m fun a54 m =>
zag 1 1 [(.int .i64 0)] [(0,1,a24)] F m fun a55 m =>
zam 1 a54 a55 F m fun a56 m =>
zac 1 a9 a26 F m fun a57 m =>
zae 1 a57 a56 F m fun _ m =>
j46 [a8,a9,a10,a11,a12,a13] m) <|
j46 [a8,a9,a10,a11,a12,a13] m) <|
j5 [a9] m)) L [(.p (.int .i64 0)),a3,a1,a2,a0,a4] m)
noncomputable def ztj:SFun:=⟨3,zahi,[.tmp 6],false,false⟩
theorem zzi:SFOK tr.look F_Q48 ztj:=⟨i_Q48,(.sq .lf (.sq .lf (.sq (.sq .lf (.bk [7] (.lp [14,7,1,2,12,13] (.sq .lf (.sq (.cj .lf .lf) (.sq (.bk [14,7,1,2,12,13] (.sq .lf (.sq .lf (.bk [14,7,1,2,12,13] (.sq .lf (.cd [14,7,1,2,12,13] .lf (.sq .lf (.cd [14,7,1,2,12,13] .lf .lf)))))))) .lf)))))) (.sq .lf .lf)))),[],look_Q48,rfl,rfl,rfl,rfl,rfl,by kernel_rfl⟩
noncomputable def zaee:FOr→Nat→(List IVal→SC)→List IVal→SC:=fun F _ kr=>sxv fun a0=>sxv fun a1=>sxv fun a2=>sxv fun a3=>sx0 (fun m =>
y_box none 1 a2 F m fun a4 m =>
y_box none 1 a3 F m fun a5 m =>
yv (zcu 84 [(.const a4)]) F m fun a6 m =>
zad (.p (.func F_Q83)) [a1,a6] F m fun a7 m =>
ycond a7 (kr [(.p .nilslice),(.p (.bool false))] m) <|
yv (zcu 85 [(.const a4),(.const a5)]) F m fun a8 m =>
zad (.p (.func F_Q45)) [a0,a8] F m fun a9 m =>
kr [a9,(.p (.bool true))] m)
noncomputable def zqb:SFun:=⟨4,zaee,[.tmp 8, .tmp 9],false,false⟩
theorem zxr:SFOK tr.look F_Q49 zqb:=⟨i_Q49,(.sq .lf (.sq (.sq .lf (.cj (.sq .lf .lf) .lf)) (.sq .lf .lf))),[],look_Q49,rfl,rfl,rfl,rfl,rfl,by kernel_rfl⟩
noncomputable def zakk:FOr→Nat→(List IVal→SC)→List IVal→SC:=fun F _ kr=>sxv fun a0=>sx0 (fun m =>
yfresh [a0] [1] m fun m =>
y_box (some 1) 5 a0 F m fun a1 m =>
zaa 0 a1 F m fun a2 m =>
zab none a2 F m fun a3 m =>
y_eql a3 (.p (.int .i64 2)) F m fun a4 m =>
ycond a4 (zaa 1 a1 F m fun a5 m =>
zab none a5 F m fun a6 m =>
zad (.p (.func F_Q86)) [a6] F m fun a7 m =>
ygd a7 true (zaa 2 a1) F m fun a8 m =>
ygd a7 true (zab none a8) F m fun a9 m =>
ygd a7 true (y_eql a9 (.p (.str []))) F m fun a10 m =>
zai a7 a10 (.p (.bool false)) F m fun a11 m =>
ygd a11 true (zaa 3 a1) F m fun a12 m =>
ygd a11 true (zab none a12) F m fun a13 m =>
ygd a11 true (zad (.p (.func F_Q87)) [a13]) F m fun a14 m =>
zai a11 a14 (.p (.bool false)) F m fun a15 m =>
ygd a15 true (zab (some 5) a1) F m fun a16 m =>
ygd a15 true (zad (.p (.func F_Q26)) [a16]) F m fun a17 m =>
zai a15 a17 (.p (.bool false)) F m fun a18 m =>
kr [a18] m) <|
zaa 3 a1 F m fun a19 m =>
zab none a19 F m fun a20 m =>
y_len a20 F m fun a21 m =>
y_gtr a21 (.p (.int .i64 0)) F m fun a22 m =>
ygd a22 false (zaa 4 a1) F m fun a23 m =>
ygd a22 false (zab none a23) F m fun a24 m =>
ygd a22 false (y_len a24) F m fun a25 m =>
ygd a22 false (y_gtr a25 (.p (.int .i64 0))) F m fun a26 m =>
zai a22 (.p (.bool true)) a26 F m fun a27 m =>
ycond a27 (kr [(.p (.bool false))] m) <|
zaa 0 a1 F m fun a28 m =>
zab none a28 F m fun a29 m =>
tblk (sx0 (fun m =>
kr [(.p (.bool false))] m)) fun j30 =>
y_eql a29 (.p (.int .i64 3)) F m fun a31 m =>
ycond a31 (zaa 1 a1 F m fun a32 m =>
zab none a32 F m fun a33 m =>
y_eql a33 (.p (.str [])) F m fun a34 m =>
ygd a34 true (zaa 2 a1) F m fun a35 m =>
ygd a34 true (zab none a35) F m fun a36 m =>
ygd a34 true (y_neq a36 (.p (.str []))) F m fun a37 m =>
zai a34 a37 (.p (.bool false)) F m fun a38 m =>
ygd a38 true (zaa 2 a1) F m fun a39 m =>
ygd a38 true (zab none a39) F m fun a40 m =>
ygd a38 true (yv (zdk a40)) F m fun a41 m =>
ygd a38 true (y_leq a41 (.p (.int .i64 4096))) F m fun a42 m =>
zai a38 a42 (.p (.bool false)) F m fun a43 m =>
kr [a43] m) <|
y_eql a29 (.p (.int .i64 4)) F m fun a44 m =>
ycond a44 (zaa 1 a1 F m fun a45 m =>
zab none a45 F m fun a46 m =>
y_eql a46 (.p (.str [])) F m fun a47 m =>
ygd a47 true (zaa 2 a1) F m fun a48 m =>
ygd a47 true (zab none a48) F m fun a49 m =>
ygd a47 true (yv (zdk a49)) F m fun a50 m =>
ygd a47 true (y_leq a50 (.p (.int .i64 4096))) F m fun a51 m =>
zai a47 a51 (.p (.bool false)) F m fun a52 m =>
kr [a52] m) <|
y_eql a29 (.p (.int .i64 5)) F m fun a53 m =>
ycond a53 (zaa 2 a1 F m fun a54 m =>
zab none a54 F m fun a55 m =>
y_eql a55 (.p (.str [])) F m fun a56 m =>
ygd a56 true (zaa 1 a1) F m fun a57 m =>
ygd a56 true (zab none a57) F m fun a58 m =>
ygd a56 true (yv (zdk a58)) F m fun a59 m =>
ygd a56 true (y_leq a59 (.p (.int .i64 32))) F m fun a60 m =>
zai a56 a60 (.p (.bool false)) F m fun a61 m =>
kr [a61] m) <|
j30 [] m)
noncomputable def zxs:SFun:=⟨1,zakk,[.tmp 2],true,false⟩
theorem zaef:SFOK tr.look F_Q50 zxs:=⟨i_Q50,(.sq .lf (.sq (.sq .lf (.cj (.sq .lf .lf) .lf)) (.sq (.sq .lf (.cj (.sq .lf .lf) .lf)) (.sq (.sq .lf (.bk [] (.sq .lf (.cj (.sq .lf .lf) (.sq .lf (.cj (.sq .lf .lf) (.sq .lf (.cj (.sq .lf .lf) .lf)))))))) (.sq .lf .lf))))),[],look_Q50,rfl,rfl,rfl,rfl,rfl,by kernel_rfl⟩
noncomputable def zakl:FOr→Nat→(List IVal→SC)→List IVal→SC:=fun F L kr=>sxv fun a0=>sxv fun a1=>sx0 (fun m =>
zak [.nilptr,(.int .i64 0),(.int .i64 0),(.int .i64 0)] [(0,1,a0),(1,1,(.p (.int .i64 (-1))))] F m fun a2 m =>
zag 4 1 [.nilptr,(.int .i64 0),(.int .i64 0),(.int .i64 0)] [(0,4,a2)] F m fun a3 m =>
tblk (sx0 (fun m =>
kr [] m)) fun j4 =>
tloop (fun j5=>sxv fun a6=>sxv fun a7=>sxv fun a8=>sx0 (fun m =>
y_len a8 F m fun a9 m =>
y_gtr a9 (.p (.int .i64 0)) F m fun a10 m =>
ycond a10 (tblk (sxv fun a12=>sxv fun a13=>sxv fun a14=>sx0 (fun m =>
j5 [a12,a13,a14] m)) fun j11 =>
yfresh [a10,a9,a8,a6,a7,a8] [6] m fun m =>
y_len a8 F m fun a15 m =>
y_sub a15 (.p (.int .i64 1)) F m fun a16 m =>
zac 4 a8 a16 F m fun a17 m =>
zab (some 4) a17 F m fun a18 m =>
zah (some 6) [.nilptr,(.int .i64 0),(.int .i64 0),(.int .i64 0)] F m fun a19 m =>
zae 4 a19 a18 F m fun _ m =>
y_len a8 F m fun a21 m =>
y_sub a21 (.p (.int .i64 1)) F m fun a22 m =>
zfz 4 a8 none (some a22) F m fun a23 m =>
zab (some 4) a19 F m fun a24 m =>
zad a7 [a6,a24] F m fun a25 m =>
y_not a25 F m fun a26 m =>
ycond a26 (j4 [] m) <|
zaa 0 a19 F m fun a27 m =>
zab none a27 F m fun a28 m =>
y_nil a28 F m fun a29 m =>
zaa 4 a29 F m fun a30 m =>
zab none a30 F m fun a31 m =>
y_len a31 F m fun a32 m =>
y_sub a32 (.p (.int .i64 1)) F m fun a33 m =>
tblk (sxv fun a35=>sxv fun a36=>sxv fun a37=>sx0 (fun m =>
y_add a35 (.p (.int .i64 1)) F m fun a38 m =>
j11 [a38,a36,a37] m)) fun j34 =>
tloop (fun j39=>sxv fun a40=>sxv fun a41=>sxv fun a42=>sxv fun a43=>sxv fun a44=>sx0 (fun m =>
y_geq a40 (.p (.int .i64 0)) F m fun a45 m =>
ycond a45 (tblk (sxv fun a47=>sxv fun a48=>sxv fun a49=>sxv fun a50=>sxv fun a51=>sx0 (fun m =>
y_sub a47 (.p (.int .i64 1)) F m fun a52 m =>
j39 [a52,a48,a49,a50,a51] m)) fun j46 =>
zaa 0 a42 F m fun a53 m =>
zab none a53 F m fun a54 m =>
y_nil a54 F m fun a55 m =>
zaa 4 a55 F m fun a56 m =>
zab none a56 F m fun a57 m =>
zac 5 a57 a40 F m fun a58 m =>
zaa 2 a42 F m fun a59 m =>
zab none a59 F m fun a60 m =>
y_add a60 (.p (.int .i64 1)) F m fun a61 m =>
zak [.nilptr,(.int .i64 0),(.int .i64 0),(.int .i64 0)] [(0,1,a58),(1,1,a43),(2,1,a61),(3,1,a40)] F m fun a62 m =>
zag 4 1 [.nilptr,(.int .i64 0),(.int .i64 0),(.int .i64 0)] [(0,4,a62)] F m fun a63 m =>
zam 4 a41 a63 F m fun a64 m =>
j46 [a40,a64,a42,a43,a44] m) <|
j34 [a43,a44,a41] m)) L [a33,a23,a19,a6,a7] m) <|
j4 [] m)) L [(.p (.int .i64 0)),a1,a3] m)
noncomputable def zxt:SFun:=⟨2,zakl,[],false,false⟩
theorem zaeg:SFOK tr.look F_Q51 zxt:=⟨i_Q51,(.sq .lf (.sq .lf (.sq .lf (.bk [] (.lp [5,1,4] (.sq (.sq .lf (.cj .lf .lf)) (.bk [5,1,4] (.sq .lf (.sq .lf (.sq (.sq .lf (.cj .lf .lf)) (.sq (.sq .lf (.bk [5,1,4] (.lp [7,4,6,5,1] (.sq (.sq .lf (.cj .lf .lf)) (.sq (.bk [7,4,6,5,1] .lf) .lf))))) .lf))))))))))),[],look_Q51,rfl,rfl,rfl,rfl,rfl,by kernel_rfl⟩
noncomputable def zaeh:FOr→Nat→(List IVal→SC)→List IVal→SC:=fun F _ kr=>sxv fun a0=>sxv fun a1=>sxv fun a2=>sx0 (fun m =>
yfresh [a0,a1,a2] [4] m fun m =>
y_box (some 4) 4 a1 F m fun a3 m =>
yfresh [(.p (.bool false)),a3,a0,a1,a2] [6] m fun m =>
zaa 0 a3 F m fun a4 m =>
zab none a4 F m fun a5 m =>
y_nil a5 F m fun a6 m =>
zab (some 5) a6 F m fun a7 m =>
zah (some 6) [(.int .i64 0),(.str []),(.str []), .nilslice, .nilslice] F m fun a8 m =>
zae 5 a8 a7 F m fun _ m =>
zaa 4 a8 F m fun a10 m =>
zae 1 a10 (.p .nilslice) F m fun _ m =>
zaa 3 a8 F m fun a12 m =>
zab none a12 F m fun a13 m =>
zad (.p (.func F_Q53)) [a13] F m fun a14 m =>
zaa 3 a8 F m fun a15 m =>
zae 1 a15 a14 F m fun _ m =>
zab none a2 F m fun a17 m =>
zaa 1 a3 F m fun a18 m =>
zab none a18 F m fun a19 m =>
zaa 2 a3 F m fun a20 m =>
zab none a20 F m fun a21 m =>
zaa 3 a3 F m fun a22 m =>
zab none a22 F m fun a23 m =>
zab (some 5) a8 F m fun a24 m =>
zak [(.int .i64 0),(.int .i64 0),(.int .i64 0),(.int .i64 0),(.int .i64 0),(.int .i64 0),(.str []),(.str []), .nilslice, .nilslice] [(0,1,a19),(1,1,(.p (.int .i64 1))),(2,1,a21),(3,1,(.p (.int .i64 1))),(4,1,a23),(5,5,a24)] F m fun a25 m =>
zag 10 1 [(.int .i64 0),(.int .i64 0),(.int .i64 0),(.int .i64 0),(.int .i64 0),(.int .i64 0),(.str []),(.str []), .nilslice, .nilslice] [(0,10,a25)] F m fun a26 m =>
zam 10 a17 a26 F m fun a27 m =>
zae 1 a2 a27 F m fun _ m =>
kr [(.p (.bool true))] m)
noncomputable def zqc:SFun:=⟨3,zaeh,[.tmp 5],false,false⟩
theorem zxu:SFOK tr.look F_Q52 zqc:=⟨i_Q52,(.sq .lf (.sq .lf (.sq .lf (.sq .lf (.sq .lf (.sq .lf .lf)))))),[],look_Q52,rfl,rfl,rfl,rfl,rfl,by kernel_rfl⟩
noncomputable def zdn:FOr→Nat→(List IVal→SC)→List IVal→SC:=fun F _ kr=>sxv fun a0=>sx0 (fun m =>
yv (zarb false (.const a0) (.const (.p .nilslice))) F m fun a1 m =>
ycond a1 (kr [(.p .nilslice)] m) <|
zag 2 0 [(.str []),(.str [])] [] F m fun a2 m =>
zam 2 a2 a0 F m fun a3 m =>
kr [a3] m)
noncomputable def zbi:SFun:=⟨1,zdn,[.tmp 2],true,false⟩
theorem zda:SFOK tr.look F_Q53 zbi:=⟨i_Q53,(.sq .lf (.sq (.sq .lf (.cj (.sq .lf .lf) .lf)) (.sq .lf .lf))),[],look_Q53,rfl,rfl,rfl,rfl,rfl,by kernel_rfl⟩
noncomputable def zahj:FOr→Nat→(List IVal→SC)→List IVal→SC:=fun F L kr=>sxv fun a0=>sxv fun a1=>sx0 (fun m =>
y_add a1 (.p (.int .i64 1)) F m fun a2 m =>
tblk (sxv fun a4=>sx0 (fun m =>
kr [a4] m)) fun j3 =>
tloop (fun j5=>sxv fun a6=>sxv fun a7=>sxv fun a8=>sxv fun a9=>sx0 (fun m =>
zac 10 a7 a9 F m fun a10 m =>
zaa 1 a10 F m fun a11 m =>
zab none a11 F m fun a12 m =>
y_add a9 a12 F m fun a13 m =>
y_lss a6 a13 F m fun a14 m =>
ycond a14 (tblk (sxv fun a16=>sxv fun a17=>sxv fun a18=>sxv fun a19=>sx0 (fun m =>
zac 10 a17 a16 F m fun a20 m =>
zaa 1 a20 F m fun a21 m =>
zab none a21 F m fun a22 m =>
y_add a16 a22 F m fun a23 m =>
j5 [a23,a17,a18,a19] m)) fun j15 =>
zag 1 1 [(.int .i64 0)] [(0,1,a6)] F m fun a24 m =>
zam 1 a8 a24 F m fun a25 m =>
j15 [a6,a7,a25,a9] m) <|
j3 [a8] m)) L [a2,a0,(.p .nilslice),a1] m)
noncomputable def ztk:SFun:=⟨2,zahj,[.tmp 4],true,false⟩
theorem zzj:SFOK tr.look F_Q54 ztk:=⟨i_Q54,(.sq .lf (.sq .lf (.sq (.sq .lf (.bk [5] (.lp [6,0,5,1] (.sq (.sq .lf (.cj .lf .lf)) (.sq (.bk [6,0,5,1] .lf) .lf))))) (.sq .lf .lf)))),[],look_Q54,rfl,rfl,rfl,rfl,rfl,by kernel_rfl⟩
noncomputable def zahk:FOr→Nat→(List IVal→SC)→List IVal→SC:=fun F L kr=>sxv fun a0=>sx0 (fun m =>
y_len a0 F m fun a1 m =>
zco 1 [.nilslice] a1 a1 F m fun a2 m =>
y_len a0 F m fun a3 m =>
tblk (sxv fun a5=>sx0 (fun m =>
kr [a5] m)) fun j4 =>
tloop (fun j6=>sxv fun a7=>sxv fun a8=>sxv fun a9=>sxv fun a10=>sx0 (fun m =>
y_lss a7 a10 F m fun a11 m =>
ycond a11 (tblk (sxv fun a13=>sxv fun a14=>sxv fun a15=>sxv fun a16=>sx0 (fun m =>
y_add a13 (.p (.int .i64 1)) F m fun a17 m =>
j6 [a17,a14,a15,a16] m)) fun j12 =>
yfresh [a11,a7,a8,a9,a10] [5] m fun m =>
zac 10 a9 a7 F m fun a18 m =>
zab (some 10) a18 F m fun a19 m =>
zah (some 5) [(.int .i64 0),(.int .i64 0),(.int .i64 0),(.int .i64 0),(.int .i64 0),(.int .i64 0),(.str []),(.str []), .nilslice, .nilslice] F m fun a20 m =>
zae 10 a20 a19 F m fun _ m =>
zaa 0 a20 F m fun a22 m =>
zab none a22 F m fun a23 m =>
y_geq a23 (.p (.int .i64 0)) F m fun a24 m =>
tblk (sxv fun a26=>sxv fun a27=>sxv fun a28=>sxv fun a29=>sx0 (fun m =>
j12 [a26,a27,a28,a29] m)) fun j25 =>
ycond a24 (zaa 0 a20 F m fun a30 m =>
zab none a30 F m fun a31 m =>
zaa 0 a20 F m fun a32 m =>
zab none a32 F m fun a33 m =>
zac 1 a8 a33 F m fun a34 m =>
zab none a34 F m fun a35 m =>
zag 1 1 [(.int .i64 0)] [(0,1,a7)] F m fun a36 m =>
zam 1 a35 a36 F m fun a37 m =>
zac 1 a8 a31 F m fun a38 m =>
yck F m (.load none (.const a30)) a31 <|
zae 1 a38 a37 F m fun _ m =>
j25 [a7,a8,a9,a10] m) <|
j25 [a7,a8,a9,a10] m) <|
j4 [a8] m)) L [(.p (.int .i64 0)),a2,a0,a3] m)
noncomputable def ztl:SFun:=⟨1,zahk,[.tmp 2],true,false⟩
theorem zzk:SFOK tr.look F_Q55 ztl:=⟨i_Q55,(.sq .lf (.sq .lf (.sq (.sq .lf (.bk [3] (.lp [11,3,9,10] (.sq .lf (.sq (.cj .lf .lf) (.sq (.bk [11,3,9,10] (.sq .lf (.sq .lf (.cd [11,3,9,10] .lf .lf)))) .lf)))))) (.sq .lf .lf)))),[],look_Q55,rfl,rfl,rfl,rfl,rfl,by kernel_rfl⟩
noncomputable def zxv:FOr→Nat→(List IVal→SC)→List IVal→SC:=fun F L kr=>sxv fun a0=>sxv fun a1=>sxv fun a2=>sx0 (fun m =>
yfresh [a0,a1,a2] [3,4] m fun m =>
y_box (some 3) 5 a0 F m fun a3 m =>
y_box (some 4) 5 a1 F m fun a4 m =>
zab (some 5) a3 F m fun a5 m =>
zad (.p (.func F_Q15)) [a5] F m fun a6 m =>
y_not a6 F m fun a7 m =>
ygd a7 false (zab (some 5) a4) F m fun a8 m =>
ygd a7 false (zad (.p (.func F_Q15)) [a8]) F m fun a9 m =>
ygd a7 false (y_not a9) F m fun a10 m =>
zai a7 (.p (.bool true)) a10 F m fun a11 m =>
ycond a11 (kr [(.p .nilslice)] m) <|
zab (some 5) a3 F m fun a12 m =>
zab (some 5) a4 F m fun a13 m =>
zah none [.nilptr] F m fun a14 m =>
zah none [.nilptr] F m fun a15 m =>
zad (.p (.func F_Q88)) [a12] F m fun a16 m =>
yck F m (.load (some 5) (.const a4)) a13 <|
yck F m (.alloc none [.nilptr]) a14 <|
yck F m (.alloc none [.nilptr]) a15 <|
zad (.p (.func F_Q88)) [a13] F m fun a17 m =>
yck F m (.alloc none [.nilptr]) a14 <|
yck F m (.alloc none [.nilptr]) a15 <|
zae 1 a14 a16 F m fun _ m =>
zae 1 a15 a17 F m fun _ m =>
zah none [.nilslice] F m fun a20 m =>
yv (zcu 89 [(.const a14),(.const a20),(.const a15)]) F m fun a21 m =>
zab (some 5) a3 F m fun a22 m =>
zab (some 5) a4 F m fun a23 m =>
zad (.p (.func F_Q10)) [a22,a23] F m fun a24 m =>
ycond a24 (zad a21 [(.p (.int .i64 0)),(.p (.int .i64 0))] F m fun _ m =>
zab none a20 F m fun a26 m =>
kr [a26] m) <|
zbw F m fun a27 m =>
tblk (sxv fun a29=>sxv fun a30=>sxv fun a31=>sxv fun a32=>sxv fun a33=>sxv fun a34=>sx0 (fun m =>
zab none a29 F m fun a35 m =>
y_nil a35 F m fun a36 m =>
zaa 5 a36 F m fun a37 m =>
zab none a37 F m fun a38 m =>
zac 10 a38 (.p (.int .i64 0)) F m fun a39 m =>
zaa 3 a39 F m fun a40 m =>
zab none a40 F m fun a41 m =>
zab none a30 F m fun a42 m =>
y_nil a42 F m fun a43 m =>
zaa 5 a43 F m fun a44 m =>
zab none a44 F m fun a45 m =>
zac 10 a45 (.p (.int .i64 0)) F m fun a46 m =>
zaa 3 a46 F m fun a47 m =>
zab none a47 F m fun a48 m =>
yv (zamf [(.const a41),(.const a48)]) F m fun a49 m =>
tblk (sxv fun a51=>sx0 (fun m =>
zab none a51 F m fun a52 m =>
zad (.p (.func F_Q38)) [a52,(.p (.func F_Q91))] F m fun _ m =>
zab none a51 F m fun a54 m =>
kr [a54] m)) fun j50 =>
tloop (fun j55=>sxv fun a56=>sxv fun a57=>sxv fun a58=>sxv fun a59=>sxv fun a60=>sxv fun a61=>sxv fun a62=>sx0 (fun m =>
yv (zabe [(.const (.p (.int .i64 1))),(.const a62)]) F m fun a63 m =>
y_geq a56 a63 F m fun a64 m =>
ycond a64 (tblk (sxv fun a66=>sxv fun a67=>sxv fun a68=>sxv fun a69=>sxv fun a70=>sxv fun a71=>sxv fun a72=>sx0 (fun m =>
y_sub a66 (.p (.int .i64 1)) F m fun a73 m =>
j55 [a73,a67,a68,a69,a70,a71,a72] m)) fun j65 =>
tblk (sxv fun a75=>sxv fun a76=>sxv fun a77=>sxv fun a78=>sxv fun a79=>sxv fun a80=>sxv fun a81=>sx0 (fun m =>
j65 [a75,a76,a77,a78,a79,a80,a81] m)) fun j74 =>
tloop (fun j82=>sxv fun a83=>sxv fun a84=>sxv fun a85=>sxv fun a86=>sxv fun a87=>sxv fun a88=>sxv fun a89=>sxv fun a90=>sx0 (fun m =>
zab none a87 F m fun a91 m =>
y_nil a91 F m fun a92 m =>
zaa 5 a92 F m fun a93 m =>
zab none a93 F m fun a94 m =>
y_len a94 F m fun a95 m =>
y_lss a83 a95 F m fun a96 m =>
ycond a96 (tblk (sxv fun a98=>sxv fun a99=>sxv fun a100=>sxv fun a101=>sxv fun a102=>sxv fun a103=>sxv fun a104=>sxv fun a105=>sx0 (fun m =>
y_add a98 (.p (.int .i64 1)) F m fun a106 m =>
j82 [a106,a99,a100,a101,a102,a103,a104,a105] m)) fun j97 =>
zab none a87 F m fun a107 m =>
y_nil a107 F m fun a108 m =>
zaa 7 a108 F m fun a109 m =>
zab none a109 F m fun a110 m =>
zac 1 a110 a83 F m fun a111 m =>
zab none a111 F m fun a112 m =>
ygd a112 false (zab none a87) F m fun a113 m =>
ygd a112 false (y_nil a113) F m fun a114 m =>
ygd a112 false (zaa 5 a114) F m fun a115 m =>
ygd a112 false (zab none a115) F m fun a116 m =>
ygd a112 false (yv (x_mov a83)) F m fun a117 m =>
ygd a112 false (zac 10 a116 a117) F m fun a118 m =>
ygd a112 false (zaa 3 a118) F m fun a119 m =>
ygd a112 false (zab none a119) F m fun a120 m =>
ygd a112 false (yv (x_mov a88)) F m fun a121 m =>
ygd a112 false (y_neq a120 a121) F m fun a122 m =>
zai a112 (.p (.bool true)) a122 F m fun a123 m =>
ycond a123 (j97 [a83,a84,a85,a86,a87,a88,a89,a90] m) <|
yfresh [a123,a122,a121,a120,a119,a118,a117,a116,a115,a114,a113,a112,a112,a111,a83,a110,a109,a108,a107,a96,a95,a94,a93,a92,a91,a83,a83,a84,a85,a86,a87,a88,a89,a90] [15] m fun m =>
zab none a87 F m fun a124 m =>
zad (.p (.func F_Q90)) [a124,a83] F m fun a125 m =>
zah (some 15) [(.int .i64 0),(.str []),(.str []), .nilslice, .nilslice] F m fun a126 m =>
zae 5 a126 a125 F m fun _ m =>
zab none a87 F m fun a128 m =>
y_nil a128 F m fun a129 m =>
zaa 6 a129 F m fun a130 m =>
zab none a130 F m fun a131 m =>
zac 2 a131 a83 F m fun a132 m =>
zab (some 2) a132 F m fun a133 m =>
zaq false (.p .nilslice) ⟨true,[.int, .int]⟩ a84 a133 F m fun a134 m =>
y_len a134 F m fun a135 m =>
tblk (sxv fun a137=>sxv fun a138=>sxv fun a139=>sxv fun a140=>sxv fun a141=>sxv fun a142=>sxv fun a143=>sxv fun a144=>sx0 (fun m =>
j97 [a137,a138,a139,a140,a141,a142,a143,a144] m)) fun j136 =>
tloop (fun j145=>sxv fun a146=>sxv fun a147=>sxv fun a148=>sxv fun a149=>sxv fun a150=>sxv fun a151=>sxv fun a152=>sxv fun a153=>sxv fun a154=>sxv fun a155=>sxv fun a156=>sxv fun a157=>sx0 (fun m =>
y_lss a154 a157 F m fun a158 m =>
ycond a158 (tblk (sxv fun a160=>sxv fun a161=>sxv fun a162=>sxv fun a163=>sxv fun a164=>sxv fun a165=>sxv fun a166=>sxv fun a167=>sxv fun a168=>sxv fun a169=>sxv fun a170=>sxv fun a171=>sx0 (fun m =>
y_add a160 (.p (.int .i64 1)) F m fun a172 m =>
j145 [a161,a162,a163,a164,a165,a166,a167,a168,a172,a169,a170,a171] m)) fun j159 =>
zac 1 a156 a154 F m fun a173 m =>
zab none a173 F m fun a174 m =>
zab none a150 F m fun a175 m =>
y_nil a175 F m fun a176 m =>
zaa 7 a176 F m fun a177 m =>
zab none a177 F m fun a178 m =>
zac 1 a178 a174 F m fun a179 m =>
zab none a179 F m fun a180 m =>
y_not a180 F m fun a181 m =>
ygd a181 true (zab none a150) F m fun a182 m =>
ygd a181 true (y_nil a182) F m fun a183 m =>
ygd a181 true (zaa 6 a183) F m fun a184 m =>
ygd a181 true (zab none a184) F m fun a185 m =>
ygd a181 true (yv (x_mov a174)) F m fun a186 m =>
ygd a181 true (zac 2 a185 a186) F m fun a187 m =>
ygd a181 true (zab (some 2) a187) F m fun a188 m =>
ygd a181 true (zab none a149) F m fun a189 m =>
ygd a181 true (y_nil a189) F m fun a190 m =>
ygd a181 true (zaa 6 a190) F m fun a191 m =>
ygd a181 true (zab none a191) F m fun a192 m =>
ygd a181 true (yv (x_mov a153)) F m fun a193 m =>
ygd a181 true (zac 2 a192 a193) F m fun a194 m =>
ygd a181 true (zab (some 2) a194) F m fun a195 m =>
ygd a181 true (yv (x_eqv false ⟨true,[.int, .int]⟩ (.const a188) (.const a195))) F m fun a196 m =>
zai a181 a196 (.p (.bool false)) F m fun a197 m =>
ygd a197 true (zab (some 5) a155) F m fun a198 m =>
ygd a197 true (zab none a150) F m fun a199 m =>
ygd a197 true (yv (x_mov a174)) F m fun a200 m =>
ygd a197 true (zad (.p (.func F_Q90)) [a199,a200]) F m fun a201 m =>
yckg a197 true F m (.load (some 5) (.const a155)) a198 <|
ygd a197 true (zad (.p (.func F_Q10)) [a198,a201]) F m fun a202 m =>
zai a197 a202 (.p (.bool false)) F m fun a203 m =>
ycond a203 (zad a151 [a153,a174] F m fun _ m =>
j136 [a153,a152,a151,a150,a149,a148,a147,a146] m) <|
j159 [a154,a146,a147,a148,a149,a150,a151,a152,a153,a155,a156,a157] m) <|
j136 [a153,a152,a151,a150,a149,a148,a147,a146] m)) L [a90,a89,a88,a87,a86,a85,a84,a83,(.p (.int .i64 0)),a126,a134,a135] m) <|
j74 [a88,a87,a86,a85,a84,a89,a90] m)) L [(.p (.int .i64 1)),a60,a59,a58,a57,a56,a61,a62] m) <|
j50 [a61] m)) L [a49,a29,a30,a31,a32,a33,a34] m)) fun j28 =>
tloop (fun j205=>sxv fun a206=>sxv fun a207=>sxv fun a208=>sxv fun a209=>sxv fun a210=>sxv fun a211=>sxv fun a212=>sx0 (fun m =>
zab none a207 F m fun a213 m =>
y_nil a213 F m fun a214 m =>
zaa 5 a214 F m fun a215 m =>
zab none a215 F m fun a216 m =>
y_len a216 F m fun a217 m =>
y_lss a206 a217 F m fun a218 m =>
ycond a218 (tblk (sxv fun a220=>sxv fun a221=>sxv fun a222=>sxv fun a223=>sxv fun a224=>sxv fun a225=>sxv fun a226=>sx0 (fun m =>
y_add a220 (.p (.int .i64 1)) F m fun a227 m =>
j205 [a227,a221,a222,a223,a224,a225,a226] m)) fun j219 =>
zab none a207 F m fun a228 m =>
y_nil a228 F m fun a229 m =>
zaa 6 a229 F m fun a230 m =>
zab none a230 F m fun a231 m =>
zac 2 a231 a206 F m fun a232 m =>
zab (some 2) a232 F m fun a233 m =>
zag 1 1 [(.int .i64 0)] [(0,1,a206)] F m fun a234 m =>
zgs (.p .nilslice) ⟨true,[.int, .int]⟩ a208 a233 F m fun a235 m =>
zaf a235 0 F m fun a236 m =>
zam 1 a236 a234 F m fun a237 m =>
zaf a235 1 F m fun a238 m =>
zkp a208 a238 a237 F m fun _ m =>
j219 [a206,a207,a208,a209,a210,a211,a212] m) <|
j28 [a209,a207,a210,a208,a211,a212] m)) L [(.p (.int .i64 1)),a15,a27,a14,a21,a20,a2] m)
noncomputable def zky:SFun:=⟨3,zxv,[.tmp 6],true,true⟩
theorem zru:SFOK tr.look F_Q56 zky:=⟨i_Q56,(.sq .lf (.sq (.sq .lf (.cj (.sq .lf .lf) .lf)) (.sq .lf (.sq .lf (.sq .lf (.sq (.sq .lf (.cj (.sq .lf (.sq .lf .lf)) .lf)) (.sq .lf (.sq (.sq .lf (.bk [7,8,10,11,9,2] (.lp [12,8,11,7,10,9,2] (.sq (.sq .lf (.cj .lf .lf)) (.sq (.bk [12,8,11,7,10,9,2] .lf) .lf))))) (.sq (.sq .lf (.bk [9] (.lp [13,7,8,10,11,9,2] (.sq (.sq .lf (.cj .lf .lf)) (.sq (.bk [13,7,8,10,11,9,2] (.sq .lf (.bk [13,7,8,10,11,9,2] (.lp [14,11,10,8,7,13,9,2] (.sq (.sq .lf (.cj .lf .lf)) (.sq (.bk [14,11,10,8,7,13,9,2] (.sq (.sq .lf (.cj .lf .lf)) (.sq .lf (.sq .lf (.bk [14,11,10,8,7,13,9,2] (.lp [2,9,13,7,8,10,11,14,123,15,121,122] (.sq .lf (.sq (.cj .lf .lf) (.sq (.bk [123,2,9,13,7,8,10,11,14,15,121,122] (.sq .lf (.sq .lf (.cj (.sq .lf .lf) .lf)))) .lf))))))))) .lf)))))) .lf))))) (.sq .lf (.sq .lf .lf))))))))))),[],look_Q56,rfl,rfl,rfl,rfl,rfl,by kernel_rfl⟩
noncomputable def zme:FOr→Nat→(List IVal→SC)→List IVal→SC:=fun F _ kr=>sxv fun a0=>sxv fun a1=>sxv fun a2=>sx0 (fun m =>
y_nil a0 F m fun a3 m =>
zaa 14 a3 F m fun a4 m =>
zab none a4 F m fun a5 m =>
y_nil a0 F m fun a6 m =>
zaa 15 a6 F m fun a7 m =>
zab none a7 F m fun a8 m =>
zgs (.p (.int .i64 0)) ⟨false,[.int]⟩ a5 a1 F m fun a9 m =>
zaf a9 1 F m fun a10 m =>
zkp a5 a10 a2 F m fun _ m =>
zgs (.p (.int .i64 0)) ⟨false,[.int]⟩ a8 a2 F m fun a12 m =>
zaf a12 1 F m fun a13 m =>
zkp a8 a13 a1 F m fun _ m =>
kr [] m)
noncomputable def zey:SFun:=⟨3,zme,[],false,false⟩
theorem zje:SFOK tr.look F_Q57 zey:=⟨i_Q57, .lf,[],look_Q57,rfl,rfl,rfl,rfl,rfl,by kernel_rfl⟩
noncomputable def zakm:FOr→Nat→(List IVal→SC)→List IVal→SC:=fun F L kr=>sxv fun a0=>sx0 (fun m =>
yfresh [a0] [1] m fun m =>
y_box (some 1) 5 a0 F m fun a1 m =>
zab (some 5) a1 F m fun a2 m =>
zad (.p (.func F_Q27)) [a2] F m fun a3 m =>
y_len a3 F m fun a4 m =>
y_add a4 (.p (.int .i64 1)) F m fun a5 m =>
tblk (sxv fun a7=>sx0 (fun m =>
kr [a7] m)) fun j6 =>
tloop (fun j8=>sxv fun a9=>sxv fun a10=>sxv fun a11=>sxv fun a12=>sxv fun a13=>sx0 (fun m =>
y_lss a12 a13 F m fun a14 m =>
ycond a14 (tblk (sxv fun a16=>sxv fun a17=>sxv fun a18=>sxv fun a19=>sxv fun a20=>sx0 (fun m =>
y_add a16 (.p (.int .i64 1)) F m fun a21 m =>
j8 [a17,a18,a19,a21,a20] m)) fun j15 =>
tblk (sxv fun a23=>sxv fun a24=>sxv fun a25=>sxv fun a26=>sxv fun a27=>sxv fun a28=>sx0 (fun m =>
zag 1 1 [(.int .i64 0)] [(0,1,a24)] F m fun a29 m =>
zam 1 a23 a29 F m fun a30 m =>
j15 [a25,a26,a27,a30,a28] m)) fun j22 =>
tloop (fun j31=>sxv fun a32=>sxv fun a33=>sxv fun a34=>sxv fun a35=>sxv fun a36=>sxv fun a37=>sx0 (fun m =>
y_len a37 F m fun a38 m =>
y_gtr a38 (.p (.int .i64 0)) F m fun a39 m =>
ycond a39 (tblk (sxv fun a41=>sxv fun a42=>sxv fun a43=>sxv fun a44=>sxv fun a45=>sxv fun a46=>sx0 (fun m =>
j31 [a41,a42,a43,a44,a45,a46] m)) fun j40 =>
y_len a37 F m fun a47 m =>
y_sub a47 (.p (.int .i64 1)) F m fun a48 m =>
zac 1 a37 a48 F m fun a49 m =>
zab none a49 F m fun a50 m =>
zac 10 a34 a50 F m fun a51 m =>
zaa 1 a51 F m fun a52 m =>
zab none a52 F m fun a53 m =>
y_add a50 a53 F m fun a54 m =>
y_lss a36 a54 F m fun a55 m =>
ycond a55 (j22 [a37,a36,a35,a34,a33,a32] m) <|
zag 1 1 [(.int .i64 0)] [(0,1,a50)] F m fun a56 m =>
zam 1 a33 a56 F m fun a57 m =>
y_len a37 F m fun a58 m =>
y_sub a58 (.p (.int .i64 1)) F m fun a59 m =>
zfz 1 a37 none (some a59) F m fun a60 m =>
j40 [a32,a57,a34,a35,a36,a60] m) <|
j22 [a37,a36,a35,a34,a33,a32] m)) L [a13,a10,a9,a12,a12,a11] m) <|
j6 [a10] m)) L [a3,(.p .nilslice),(.p .nilslice),(.p (.int .i64 0)),a5] m)
noncomputable def zxw:SFun:=⟨1,zakm,[.tmp 2],true,true⟩
theorem zaei:SFOK tr.look F_Q58 zxw:=⟨i_Q58,(.sq .lf (.sq .lf (.sq .lf (.sq (.sq .lf (.bk [4] (.lp [3,4,5,13,12] (.sq .lf (.sq (.cj .lf .lf) (.sq (.bk [13,3,4,5,12] (.sq .lf (.sq (.bk [5,6,13,3,4,12] (.lp [12,4,3,13,6,5] (.sq (.sq .lf (.cj .lf .lf)) (.bk [12,4,3,13,6,5] (.sq .lf (.sq (.sq .lf (.cj .lf .lf)) (.sq .lf .lf))))))) .lf))) .lf)))))) (.sq .lf .lf))))),[],look_Q58,rfl,rfl,rfl,rfl,rfl,by kernel_rfl⟩
noncomputable def zmf:FOr→Nat→(List IVal→SC)→List IVal→SC:=fun F L kr=>sxv fun a0=>sxv fun a1=>sx0 (fun m =>
y_box none 1 a0 F m fun a2 m =>
y_box none 1 a1 F m fun a3 m =>
zab none a2 F m fun a4 m =>
zab none a3 F m fun a5 m =>
zad (.p (.func F_Q92)) [a4,a5] F m fun a6 m =>
yv (zcu 93 [(.const a2),(.const a3)]) F m fun a7 m =>
zab none a2 F m fun a8 m =>
y_nil a8 F m fun a9 m =>
zaa 11 a9 F m fun a10 m =>
zab none a10 F m fun a11 m =>
y_len a11 F m fun a12 m =>
tblk (sxv fun a14=>sxv fun a15=>sxv fun a16=>sx0 (fun m =>
y_lss a16 (.p (.int .i64 0)) F m fun a17 m =>
ygd a17 false (yv (x_mov a15)) F m fun a18 m =>
ygd a17 false (yv (x_mov a16)) F m fun a19 m =>
ygd a17 false (zaq false (.p (.int .i64 0)) ⟨false,[.int]⟩ a18 a19) F m fun a20 m =>
ygd a17 false (yv (x_mov a14)) F m fun a21 m =>
ygd a17 false (yv (x_mov a16)) F m fun a22 m =>
ygd a17 false (zad a21 [a22]) F m fun a23 m =>
yckg a17 false F m (.lookup false (.p (.int .i64 0)) ⟨false,[.int]⟩ (.const a18) (.const a19)) a20 <|
ygd a17 false (zad (.p (.func F_Q96)) [a20,a23]) F m fun a24 m =>
ygd a17 false (y_not a24) F m fun a25 m =>
zai a17 (.p (.bool true)) a25 F m fun a26 m =>
ycond a26 (kr [(.p (.int .i64 (-1)))] m) <|
kr [a16] m)) fun j13 =>
tloop (fun j27=>sxv fun a28=>sxv fun a29=>sxv fun a30=>sxv fun a31=>sxv fun a32=>sxv fun a33=>sxv fun a34=>sx0 (fun m =>
y_lss a28 a34 F m fun a35 m =>
ycond a35 (tblk (sxv fun a37=>sxv fun a38=>sxv fun a39=>sxv fun a40=>sxv fun a41=>sxv fun a42=>sxv fun a43=>sx0 (fun m =>
y_add a37 (.p (.int .i64 1)) F m fun a44 m =>
j27 [a44,a38,a39,a40,a41,a42,a43] m)) fun j36 =>
zaq false (.p (.int .i64 0)) ⟨false,[.int]⟩ a30 a28 F m fun a45 m =>
y_eql a45 (.p (.int .i64 0)) F m fun a46 m =>
ygd a46 false (zab none a32) F m fun a47 m =>
ygd a46 false (zab none a33) F m fun a48 m =>
ygd a46 false (yv (x_mov a28)) F m fun a49 m =>
ygd a46 false (zad (.p (.func F_Q61)) [a47,a48,a49]) F m fun a50 m =>
ygd a46 false (y_not a50) F m fun a51 m =>
zai a46 (.p (.bool true)) a51 F m fun a52 m =>
ygd a52 false (zab none a32) F m fun a53 m =>
ygd a52 false (y_nil a53) F m fun a54 m =>
ygd a52 false (zaa 10 a54) F m fun a55 m =>
ygd a52 false (zab none a55) F m fun a56 m =>
ygd a52 false (zab none a33) F m fun a57 m =>
ygd a52 false (zac 10 a56 a57) F m fun a58 m =>
ygd a52 false (zab (some 10) a58) F m fun a59 m =>
ygd a52 false (zab none a32) F m fun a60 m =>
ygd a52 false (y_nil a60) F m fun a61 m =>
ygd a52 false (zaa 11 a61) F m fun a62 m =>
ygd a52 false (zab none a62) F m fun a63 m =>
ygd a52 false (yv (x_mov a28)) F m fun a64 m =>
ygd a52 false (zac 10 a63 a64) F m fun a65 m =>
ygd a52 false (zab (some 10) a65) F m fun a66 m =>
ygd a52 false (zad (.p (.func F_Q94)) [a59]) F m fun a67 m =>
yckg a52 false F m (.load none (.const a32)) a60 <|
yckg a52 false F m (.load none (.const a62)) a63 <|
yckg a52 false F m (.load (some 10) (.const a65)) a66 <|
ygd a52 false (zad (.p (.func F_Q94)) [a66]) F m fun a68 m =>
ygd a52 false (yv (x_eqv true ⟨true,[.int, .str]⟩ (.const a67) (.const a68))) F m fun a69 m =>
zai a52 (.p (.bool true)) a69 F m fun a70 m =>
ycond a70 (j36 [a28,a29,a30,a31,a32,a33,a34] m) <|
y_lss a31 (.p (.int .i64 0)) F m fun a71 m =>
ygd a71 false (yv (x_mov a30)) F m fun a72 m =>
ygd a71 false (yv (x_mov a28)) F m fun a73 m =>
ygd a71 false (zaq false (.p (.int .i64 0)) ⟨false,[.int]⟩ a72 a73) F m fun a74 m =>
ygd a71 false (yv (x_mov a29)) F m fun a75 m =>
ygd a71 false (yv (x_mov a28)) F m fun a76 m =>
ygd a71 false (yv (x_mov a30)) F m fun a77 m =>
ygd a71 false (yv (x_mov a31)) F m fun a78 m =>
ygd a71 false (zaq false (.p (.int .i64 0)) ⟨false,[.int]⟩ a77 a78) F m fun a79 m =>
ygd a71 false (yv (x_mov a29)) F m fun a80 m =>
ygd a71 false (yv (x_mov a31)) F m fun a81 m =>
ygd a71 false (zad a75 [a76]) F m fun a82 m =>
yckg a71 false F m (.lookup false (.p (.int .i64 0)) ⟨false,[.int]⟩ (.const a72) (.const a73)) a74 <|
yckg a71 false F m (.lookup false (.p (.int .i64 0)) ⟨false,[.int]⟩ (.const a77) (.const a78)) a79 <|
ygd a71 false (zad a80 [a81]) F m fun a83 m =>
yckg a71 false F m (.lookup false (.p (.int .i64 0)) ⟨false,[.int]⟩ (.const a72) (.const a73)) a74 <|
yckg a71 false F m (.lookup false (.p (.int .i64 0)) ⟨false,[.int]⟩ (.const a77) (.const a78)) a79 <|
ygd a71 false (zad (.p (.func 95)) [a74,a82,a79,a83]) F m fun a84 m =>
ygd a71 false (y_gtr a84 (.p (.int .i64 0))) F m fun a85 m =>
zai a71 (.p (.bool true)) a85 F m fun a86 m =>
tblk (sxv fun a88=>sxv fun a89=>sxv fun a90=>sxv fun a91=>sxv fun a92=>sxv fun a93=>sxv fun a94=>sx0 (fun m =>
j36 [a88,a89,a90,a91,a92,a93,a94] m)) fun j87 =>
ycond a86 (j87 [a28,a29,a30,a28,a32,a33,a34] m) <|
j87 [a28,a29,a30,a31,a32,a33,a34] m) <|
j13 [a29,a30,a31] m)) L [(.p (.int .i64 0)),a7,a6,(.p (.int .i64 (-1))),a2,a3,a12] m)
noncomputable def zez:SFun:=⟨2,zmf,[.tmp 4],false,false⟩
theorem zjf:SFOK tr.look F_Q59 zez:=⟨i_Q59,(.sq .lf (.sq .lf (.sq .lf (.sq .lf (.sq (.sq .lf (.bk [6,5,7] (.lp [18,6,5,7,2,3,17] (.sq .lf (.sq (.cj .lf .lf) (.sq (.bk [18,6,5,7,2,3,17] (.sq .lf (.sq (.sq .lf (.cj .lf .lf)) (.sq .lf (.cd [18,6,5,7,2,3,17] .lf .lf))))) .lf)))))) (.sq (.sq .lf (.cj (.sq .lf .lf) .lf)) (.sq .lf .lf))))))),[],look_Q59,rfl,rfl,rfl,rfl,rfl,by kernel_rfl⟩
noncomputable def zkz:FOr→Nat→(List IVal→SC)→List IVal→SC:=fun F L kr=>sxv fun a0=>sxv fun a1=>sxv fun a2=>sx0 (fun m =>
yfresh [a0,a1,a2] [6] m fun m =>
y_nil a0 F m fun a3 m =>
zaa 0 a3 F m fun a4 m =>
zab (some 5) a4 F m fun a5 m =>
zad (.p (.func F_Q71)) [a5,a1] F m fun a6 m =>
zaf a6 0 F m fun a7 m =>
zaf a6 1 F m fun a8 m =>
zah (some 6) [(.int .i64 0),(.str []),(.str []), .nilslice, .nilslice] F m fun a9 m =>
zae 5 a9 a7 F m fun _ m =>
yfresh [a8,a9,a8,a7,a6,a6,a1,a5,a4,a3,a0,a0,a1,a2] [8] m fun m =>
y_nil a0 F m fun a11 m =>
zaa 5 a11 F m fun a12 m =>
zab (some 5) a12 F m fun a13 m =>
zad (.p (.func F_Q71)) [a13,a2] F m fun a14 m =>
zaf a14 0 F m fun a15 m =>
zaf a14 1 F m fun _ m =>
zah (some 8) [(.int .i64 0),(.str []),(.str []), .nilslice, .nilslice] F m fun a17 m =>
zae 5 a17 a15 F m fun _ m =>
zab (some 5) a9 F m fun a19 m =>
zab (some 5) a17 F m fun a20 m =>
zad (.p (.func F_Q97)) [a19,a20] F m fun a21 m =>
zaf a21 0 F m fun a22 m =>
zaf a21 1 F m fun _ m =>
y_len a22 F m fun a24 m =>
tblk (sx0 (fun m =>
kr [] m)) fun j25 =>
tloop (fun j26=>sxv fun a27=>sxv fun a28=>sxv fun a29=>sxv fun a30=>sxv fun a31=>sxv fun a32=>sx0 (fun m =>
y_lss a27 a32 F m fun a33 m =>
ycond a33 (tblk (sxv fun a35=>sxv fun a36=>sxv fun a37=>sxv fun a38=>sxv fun a39=>sxv fun a40=>sx0 (fun m =>
y_add a35 (.p (.int .i64 1)) F m fun a41 m =>
j26 [a41,a36,a37,a38,a39,a40] m)) fun j34 =>
yfresh [a33,a27,a28,a29,a30,a31,a32] [13] m fun m =>
zac 2 a31 a27 F m fun a42 m =>
zab (some 2) a42 F m fun a43 m =>
zah (some 13) [(.int .i64 0),(.int .i64 0)] F m fun a44 m =>
zae 2 a44 a43 F m fun _ m =>
zaa 0 a44 F m fun a46 m =>
zab none a46 F m fun a47 m =>
y_add a29 a47 F m fun a48 m =>
zaa 1 a44 F m fun a49 m =>
zab none a49 F m fun a50 m =>
y_add a28 a50 F m fun a51 m =>
zad (.p (.func F_Q61)) [a30,a48,a51] F m fun a52 m =>
tblk (sxv fun a54=>sxv fun a55=>sxv fun a56=>sxv fun a57=>sxv fun a58=>sxv fun a59=>sx0 (fun m =>
j34 [a54,a55,a56,a57,a58,a59] m)) fun j53 =>
ycond a52 (zaa 0 a44 F m fun a60 m =>
zab none a60 F m fun a61 m =>
y_add a29 a61 F m fun a62 m =>
zaa 1 a44 F m fun a63 m =>
zab none a63 F m fun a64 m =>
y_add a28 a64 F m fun a65 m =>
zad (.p (.func F_Q57)) [a30,a62,a65] F m fun _ m =>
j53 [a27,a28,a29,a30,a31,a32] m) <|
j53 [a27,a28,a29,a30,a31,a32] m) <|
j25 [] m)) L [(.p (.int .i64 0)),a2,a1,a0,a22,a24] m)
noncomputable def zel:SFun:=⟨3,zkz,[],false,false⟩
theorem zir:SFOK tr.look F_Q60 zel:=⟨i_Q60,(.sq .lf (.sq .lf (.sq .lf (.sq .lf (.bk [] (.lp [40,2,1,0,38,39] (.sq .lf (.sq (.cj .lf .lf) (.sq (.bk [40,2,1,0,38,39] (.sq .lf (.sq .lf (.cd [40,2,1,0,38,39] .lf .lf)))) .lf))))))))),[],look_Q60,rfl,rfl,rfl,rfl,rfl,by kernel_rfl⟩
noncomputable def zmg:FOr→Nat→(List IVal→SC)→List IVal→SC:=fun F _ kr=>sxv fun a0=>sxv fun a1=>sxv fun a2=>sx0 (fun m =>
y_nil a0 F m fun a3 m =>
zaa 14 a3 F m fun a4 m =>
zab none a4 F m fun a5 m =>
zaq true (.p (.int .i64 0)) ⟨false,[.int]⟩ a5 a1 F m fun a6 m =>
zaf a6 0 F m fun _ m =>
zaf a6 1 F m fun a8 m =>
y_nil a0 F m fun a9 m =>
zaa 15 a9 F m fun a10 m =>
zab none a10 F m fun a11 m =>
zaq true (.p (.int .i64 0)) ⟨false,[.int]⟩ a11 a2 F m fun a12 m =>
zaf a12 0 F m fun _ m =>
zaf a12 1 F m fun a14 m =>
y_not a8 F m fun a15 m =>
ygd a15 true (yv (x_mov a14)) F m fun a16 m =>
ygd a15 true (y_not a16) F m fun a17 m =>
zai a15 a17 (.p (.bool false)) F m fun a18 m =>
kr [a18] m)
noncomputable def zfa:SFun:=⟨3,zmg,[.tmp 6],false,false⟩
theorem zjg:SFOK tr.look F_Q61 zfa:=⟨i_Q61,(.sq .lf (.sq .lf (.sq .lf (.sq .lf .lf)))),[],look_Q61,rfl,rfl,rfl,rfl,rfl,by kernel_rfl⟩
noncomputable def zmh:FOr→Nat→(List IVal→SC)→List IVal→SC:=fun F L kr=>sxv fun a0=>sxv fun a1=>sxv fun a2=>sx0 (fun m =>
y_nil a0 F m fun a3 m =>
zaa 12 a3 F m fun a4 m =>
zaj 2 1 a4 (.p (.int .i64 0)) F m fun a5 m =>
zab none a5 F m fun a6 m =>
zac 1 a6 a1 F m fun a7 m =>
zab none a7 F m fun a8 m =>
y_len a8 F m fun a9 m =>
tblk (sx0 (fun m =>
kr [] m)) fun j10 =>
tloop (fun j11=>sxv fun a12=>sxv fun a13=>sxv fun a14=>sxv fun a15=>sxv fun a16=>sx0 (fun m =>
y_lss a13 a16 F m fun a17 m =>
ycond a17 (tblk (sxv fun a19=>sxv fun a20=>sxv fun a21=>sxv fun a22=>sxv fun a23=>sx0 (fun m =>
y_add a19 (.p (.int .i64 1)) F m fun a24 m =>
j11 [a20,a24,a21,a22,a23] m)) fun j18 =>
zac 1 a15 a13 F m fun a25 m =>
zab none a25 F m fun a26 m =>
y_nil a12 F m fun a27 m =>
zaa 12 a27 F m fun a28 m =>
zaj 2 1 a28 (.p (.int .i64 1)) F m fun a29 m =>
zab none a29 F m fun a30 m =>
zac 1 a30 a14 F m fun a31 m =>
zab none a31 F m fun a32 m =>
y_len a32 F m fun a33 m =>
tblk (sxv fun a35=>sxv fun a36=>sxv fun a37=>sxv fun a38=>sxv fun a39=>sx0 (fun m =>
j18 [a35,a36,a37,a38,a39] m)) fun j34 =>
tloop (fun j40=>sxv fun a41=>sxv fun a42=>sxv fun a43=>sxv fun a44=>sxv fun a45=>sxv fun a46=>sxv fun a47=>sxv fun a48=>sxv fun a49=>sx0 (fun m =>
y_lss a47 a49 F m fun a50 m =>
ycond a50 (tblk (sxv fun a52=>sxv fun a53=>sxv fun a54=>sxv fun a55=>sxv fun a56=>sxv fun a57=>sxv fun a58=>sxv fun a59=>sxv fun a60=>sx0 (fun m =>
y_add a52 (.p (.int .i64 1)) F m fun a61 m =>
j40 [a53,a54,a55,a56,a57,a58,a61,a59,a60] m)) fun j51 =>
zac 1 a48 a47 F m fun a62 m =>
zab none a62 F m fun a63 m =>
zad (.p (.func F_Q61)) [a44,a46,a63] F m fun a64 m =>
ygd a64 true (yv (x_mov a44)) F m fun a65 m =>
ygd a64 true (y_nil a65) F m fun a66 m =>
ygd a64 true (zaa 10 a66) F m fun a67 m =>
ygd a64 true (zab none a67) F m fun a68 m =>
ygd a64 true (yv (x_mov a46)) F m fun a69 m =>
ygd a64 true (zac 10 a68 a69) F m fun a70 m =>
ygd a64 true (zab (some 10) a70) F m fun a71 m =>
ygd a64 true (yv (x_mov a44)) F m fun a72 m =>
ygd a64 true (y_nil a72) F m fun a73 m =>
ygd a64 true (zaa 11 a73) F m fun a74 m =>
ygd a64 true (zab none a74) F m fun a75 m =>
ygd a64 true (yv (x_mov a63)) F m fun a76 m =>
ygd a64 true (zac 10 a75 a76) F m fun a77 m =>
ygd a64 true (zab (some 10) a77) F m fun a78 m =>
ygd a64 true (zad (.p (.func F_Q94)) [a71]) F m fun a79 m =>
yckg a64 true F m (.load none (.const a74)) a75 <|
yckg a64 true F m (.load (some 10) (.const a77)) a78 <|
ygd a64 true (zad (.p (.func F_Q94)) [a78]) F m fun a80 m =>
ygd a64 true (yv (x_eqv false ⟨true,[.int, .str]⟩ (.const a79) (.const a80))) F m fun a81 m =>
zai a64 a81 (.p (.bool false)) F m fun a82 m =>
ycond a82 (zad (.p (.func F_Q57)) [a44,a46,a63] F m fun _ m =>
j34 [a45,a44,a43,a42,a41] m) <|
j51 [a47,a41,a42,a43,a44,a45,a46,a48,a49] m) <|
j34 [a45,a44,a43,a42,a41] m)) L [a16,a15,a14,a12,a13,a26,(.p (.int .i64 0)),a32,a33] m) <|
j10 [] m)) L [a0,(.p (.int .i64 0)),a2,a8,a9] m)
noncomputable def zfb:SFun:=⟨3,zmh,[],false,false⟩
theorem zjh:SFOK tr.look F_Q62 zfb:=⟨i_Q62,(.sq .lf (.bk [] (.lp [0,19,2,17,18] (.sq .lf (.sq (.cj .lf .lf) (.sq (.bk [19,0,2,17,18] (.sq .lf (.sq .lf (.bk [19,0,2,17,18] (.lp [18,17,2,0,19,7,32,30,31] (.sq .lf (.sq (.cj .lf .lf) (.sq (.bk [32,18,17,2,0,19,7,30,31] (.sq .lf (.sq .lf (.cj (.sq .lf .lf) .lf)))) .lf)))))))) .lf)))))),[],look_Q62,rfl,rfl,rfl,rfl,rfl,by kernel_rfl⟩
noncomputable def zxx:FOr→Nat→(List IVal→SC)→List IVal→SC:=fun F _ kr=>sxv fun a0=>sxv fun a1=>sx0 (fun m =>
yfresh [a0,a1] [2,3] m fun m =>
y_box (some 2) 2 a0 F m fun a2 m =>
y_box (some 3) 2 a1 F m fun a3 m =>
zaa 0 a2 F m fun a4 m =>
zab none a4 F m fun a5 m =>
zaa 0 a3 F m fun a6 m =>
zab none a6 F m fun a7 m =>
zad (.p (.func F_Q40)) [a5,a7] F m fun a8 m =>
kr [a8] m)
noncomputable def zla:SFun:=⟨2,zxx,[.tmp 4],true,false⟩
theorem zrv:SFOK tr.look F_Q63 zla:=⟨i_Q63,(.sq .lf (.sq .lf .lf)),[],look_Q63,rfl,rfl,rfl,rfl,rfl,by kernel_rfl⟩
noncomputable def zaej:FOr→Nat→(List IVal→SC)→List IVal→SC:=fun F L kr=>sxv fun a0=>sxv fun a1=>sxv fun a2=>sx0 (fun m =>
yfresh [a0,a1,a2] [3,4] m fun m =>
y_box (some 3) 5 a0 F m fun a3 m =>
y_box (some 4) 5 a1 F m fun a4 m =>
zab (some 5) a3 F m fun a5 m =>
zad (.p (.func F_Q15)) [a5] F m fun a6 m =>
y_not a6 F m fun a7 m =>
ygd a7 false (zab (some 5) a4) F m fun a8 m =>
ygd a7 false (zad (.p (.func F_Q15)) [a8]) F m fun a9 m =>
ygd a7 false (y_not a9) F m fun a10 m =>
zai a7 (.p (.bool true)) a10 F m fun a11 m =>
ygd a11 false (yv (x_mov a2)) F m fun a12 m =>
ygd a11 false (y_len a12) F m fun a13 m =>
ygd a11 false (y_eql a13 (.p (.int .i64 0))) F m fun a14 m =>
zai a11 (.p (.bool true)) a14 F m fun a15 m =>
ygd a15 false (yv (x_mov a2)) F m fun a16 m =>
ygd a15 false (zac 2 a16 (.p (.int .i64 0))) F m fun a17 m =>
ygd a15 false (zab (some 2) a17) F m fun a18 m =>
ygd a15 false (zak [(.int .i64 0),(.int .i64 0)] []) F m fun a19 m =>
ygd a15 false (yv (x_eqv true ⟨true,[.int, .int]⟩ (.const a18) (.const a19))) F m fun a20 m =>
zai a15 (.p (.bool true)) a20 F m fun a21 m =>
ycond a21 (kr [(.p (.bool false))] m) <|
zab (some 5) a3 F m fun a22 m =>
zab (some 5) a4 F m fun a23 m =>
zad (.p (.func F_Q27)) [a22] F m fun a24 m =>
yck F m (.load (some 5) (.const a4)) a23 <|
zad (.p (.func F_Q27)) [a23] F m fun a25 m =>
zbw F m fun a26 m =>
y_len a2 F m fun a27 m =>
tblk (sx0 (fun m =>
kr [(.p (.bool true))] m)) fun j28 =>
tloop (fun j29=>sxv fun a30=>sxv fun a31=>sxv fun a32=>sxv fun a33=>sxv fun a34=>sxv fun a35=>sxv fun a36=>sx0 (fun m =>
y_lss a31 a36 F m fun a37 m =>
ycond a37 (tblk (sxv fun a39=>sxv fun a40=>sxv fun a41=>sxv fun a42=>sxv fun a43=>sxv fun a44=>sxv fun a45=>sx0 (fun m =>
y_add a39 (.p (.int .i64 1)) F m fun a46 m =>
j29 [a40,a46,a41,a42,a43,a44,a45] m)) fun j38 =>
yfresh [a37,a30,a31,a32,a33,a34,a35,a36] [12] m fun m =>
zac 2 a35 a31 F m fun a47 m =>
zab (some 2) a47 F m fun a48 m =>
zah (some 12) [(.int .i64 0),(.int .i64 0)] F m fun a49 m =>
zae 2 a49 a48 F m fun _ m =>
zaa 0 a49 F m fun a51 m =>
zab none a51 F m fun a52 m =>
y_leq a52 a32 F m fun a53 m =>
ygd a53 false (zaa 0 a49) F m fun a54 m =>
ygd a53 false (zab none a54) F m fun a55 m =>
ygd a53 false (yv (x_mov a33)) F m fun a56 m =>
ygd a53 false (y_len a56) F m fun a57 m =>
ygd a53 false (y_geq a55 a57) F m fun a58 m =>
zai a53 (.p (.bool true)) a58 F m fun a59 m =>
ygd a59 false (zaa 1 a49) F m fun a60 m =>
ygd a59 false (zab none a60) F m fun a61 m =>
ygd a59 false (y_lss a61 (.p (.int .i64 0))) F m fun a62 m =>
zai a59 (.p (.bool true)) a62 F m fun a63 m =>
ygd a63 false (zaa 1 a49) F m fun a64 m =>
ygd a63 false (zab none a64) F m fun a65 m =>
ygd a63 false (yv (x_mov a34)) F m fun a66 m =>
ygd a63 false (y_len a66) F m fun a67 m =>
ygd a63 false (y_geq a65 a67) F m fun a68 m =>
zai a63 (.p (.bool true)) a68 F m fun a69 m =>
ygd a69 false (yv (x_mov a30)) F m fun a70 m =>
ygd a69 false (zaa 1 a49) F m fun a71 m =>
ygd a69 false (zab none a71) F m fun a72 m =>
ygd a69 false (zaq false (.p (.bool false)) ⟨false,[.int]⟩ a70 a72) F m fun a73 m =>
zai a69 (.p (.bool true)) a73 F m fun a74 m =>
ygd a74 false (yv (x_mov a33)) F m fun a75 m =>
ygd a74 false (zaa 0 a49) F m fun a76 m =>
ygd a74 false (zab none a76) F m fun a77 m =>
ygd a74 false (zac 10 a75 a77) F m fun a78 m =>
ygd a74 false (zab (some 10) a78) F m fun a79 m =>
ygd a74 false (yv (x_mov a34)) F m fun a80 m =>
ygd a74 false (zaa 1 a49) F m fun a81 m =>
ygd a74 false (zab none a81) F m fun a82 m =>
ygd a74 false (zac 10 a80 a82) F m fun a83 m =>
ygd a74 false (zab (some 10) a83) F m fun a84 m =>
ygd a74 false (zad (.p (.func F_Q94)) [a79]) F m fun a85 m =>
yckg a74 false F m (.load none (.const a81)) a82 <|
yckg a74 false F m (.load (some 10) (.const a83)) a84 <|
ygd a74 false (zad (.p (.func F_Q94)) [a84]) F m fun a86 m =>
ygd a74 false (yv (x_eqv true ⟨true,[.int, .str]⟩ (.const a85) (.const a86))) F m fun a87 m =>
zai a74 (.p (.bool true)) a87 F m fun a88 m =>
ycond a88 (kr [(.p (.bool false))] m) <|
zaa 0 a49 F m fun a89 m =>
zab none a89 F m fun a90 m =>
zaa 1 a49 F m fun a91 m =>
zab none a91 F m fun a92 m =>
zbl ⟨false,[.int]⟩ a30 a92 (.p (.bool true)) F m fun _ m =>
j38 [a31,a30,a90,a33,a34,a35,a36] m) <|
j28 [] m)) L [a26,(.p (.int .i64 0)),(.p (.int .i64 (-1))),a24,a25,a2,a27] m)
noncomputable def zqd:SFun:=⟨3,zaej,[.tmp 6],true,true⟩
theorem zxy:SFOK tr.look F_Q64 zqd:=⟨i_Q64,(.sq .lf (.sq (.sq .lf (.cj (.sq .lf .lf) .lf)) (.sq .lf (.sq .lf (.sq .lf (.sq (.sq .lf (.bk [] (.lp [10,40,9,7,8,38,39] (.sq .lf (.sq (.cj .lf .lf) (.sq (.bk [40,10,9,7,8,38,39] (.sq .lf (.sq (.sq .lf (.cj (.sq .lf .lf) .lf)) (.sq .lf .lf)))) .lf)))))) (.sq .lf .lf))))))),[],look_Q64,rfl,rfl,rfl,rfl,rfl,by kernel_rfl⟩
noncomputable def zahl:FOr→Nat→(List IVal→SC)→List IVal→SC:=fun F _ kr=>sxv fun a0=>sxv fun a1=>sx0 (fun m =>
zab none a1 F m fun a2 m =>
zaq true (.p (.int .i64 0)) ⟨false,[.int]⟩ a2 a0 F m fun a3 m =>
zaf a3 0 F m fun a4 m =>
zaf a3 1 F m fun a5 m =>
ycond a5 (kr [a4] m) <|
y_sub (.p (.int .i64 (-2))) a0 F m fun a6 m =>
kr [a6] m)
noncomputable def ztm:SFun:=⟨2,zahl,[.tmp 3],false,false⟩
theorem zzl:SFOK tr.look F_Q65 ztm:=⟨i_Q65,(.sq .lf (.sq (.sq .lf (.sq .lf (.cj (.sq .lf .lf) .lf))) (.sq .lf .lf))),[],look_Q65,rfl,rfl,rfl,rfl,rfl,by kernel_rfl⟩
noncomputable def zxz:FOr→Nat→(List IVal→SC)→List IVal→SC:=fun F L kr=>sxv fun a0=>sxv fun a1=>sx0 (fun m =>
yfresh [a0,a1] [2,3,4] m fun m =>
y_box (some 2) 5 a0 F m fun a2 m =>
y_box (some 3) 5 a1 F m fun a3 m =>
zah (some 4) [(.bool false),(.bool false), .nilslice, .nilslice,(.int .i64 0), .nilslice] F m fun a4 m =>
yfresh [a4,a3,a2,a0,a1] [5] m fun m =>
zaa 2 a2 F m fun a5 m =>
zab none a5 F m fun a6 m =>
zaa 2 a3 F m fun a7 m =>
zab none a7 F m fun a8 m =>
y_neq a6 a8 F m fun a9 m =>
zak [(.bool false),(.bool false), .nilslice, .nilslice,(.int .i64 0), .nilslice] [(1,1,a9)] F m fun a10 m =>
zah (some 5) [(.bool false),(.bool false), .nilslice, .nilslice,(.int .i64 0), .nilslice] F m fun a11 m =>
zae 6 a11 a10 F m fun _ m =>
zaa 3 a3 F m fun a13 m =>
zab none a13 F m fun a14 m =>
y_len a14 F m fun a15 m =>
tblk (sxv fun a17=>sxv fun a18=>sxv fun a19=>sxv fun a20=>sx0 (fun m =>
zaa 3 a17 F m fun a21 m =>
zab none a21 F m fun a22 m =>
y_len a22 F m fun a23 m =>
tblk (sxv fun a25=>sxv fun a26=>sx0 (fun m =>
zab (some 6) a25 F m fun a27 m =>
zae 6 a26 a27 F m fun _ m =>
kr [a26] m)) fun j24 =>
tloop (fun j29=>sxv fun a30=>sxv fun a31=>sxv fun a32=>sxv fun a33=>sxv fun a34=>sxv fun a35=>sx0 (fun m =>
y_lss a30 a35 F m fun a36 m =>
ycond a36 (tblk (sxv fun a38=>sxv fun a39=>sxv fun a40=>sxv fun a41=>sxv fun a42=>sxv fun a43=>sx0 (fun m =>
y_add a38 (.p (.int .i64 1)) F m fun a44 m =>
j29 [a44,a39,a40,a41,a42,a43] m)) fun j37 =>
yfresh [a36,a30,a31,a32,a33,a34,a35] [11] m fun m =>
zac 2 a33 a30 F m fun a45 m =>
zab (some 2) a45 F m fun a46 m =>
zah (some 11) [(.str []),(.str [])] F m fun a47 m =>
zae 2 a47 a46 F m fun _ m =>
zab (some 5) a32 F m fun a49 m =>
zaa 0 a47 F m fun a50 m =>
zab none a50 F m fun a51 m =>
zad (.p (.func F_Q98)) [a49,a51] F m fun a52 m =>
zaf a52 0 F m fun _ m =>
zaf a52 1 F m fun a54 m =>
y_not a54 F m fun a55 m =>
tblk (sxv fun a57=>sxv fun a58=>sxv fun a59=>sxv fun a60=>sxv fun a61=>sxv fun a62=>sx0 (fun m =>
j37 [a57,a58,a59,a60,a61,a62] m)) fun j56 =>
ycond a55 (zaa 3 a31 F m fun a63 m =>
zab none a63 F m fun a64 m =>
zaa 0 a47 F m fun a65 m =>
zab none a65 F m fun a66 m =>
zag 1 1 [(.str [])] [(0,1,a66)] F m fun a67 m =>
zam 1 a64 a67 F m fun a68 m =>
zaa 3 a31 F m fun a69 m =>
zae 1 a69 a68 F m fun _ m =>
j56 [a30,a31,a32,a33,a34,a35] m) <|
j56 [a30,a31,a32,a33,a34,a35] m) <|
j24 [a31,a34] m)) L [(.p (.int .i64 0)),a18,a19,a22,a20,a23] m)) fun j16 =>
tloop (fun j71=>sxv fun a72=>sxv fun a73=>sxv fun a74=>sxv fun a75=>sxv fun a76=>sxv fun a77=>sxv fun a78=>sx0 (fun m =>
y_lss a72 a78 F m fun a79 m =>
ycond a79 (tblk (sxv fun a81=>sxv fun a82=>sxv fun a83=>sxv fun a84=>sxv fun a85=>sxv fun a86=>sxv fun a87=>sx0 (fun m =>
y_add a81 (.p (.int .i64 1)) F m fun a88 m =>
j71 [a88,a82,a83,a84,a85,a86,a87] m)) fun j80 =>
yfresh [a79,a72,a73,a74,a75,a76,a77,a78] [7] m fun m =>
zac 2 a75 a72 F m fun a89 m =>
zab (some 2) a89 F m fun a90 m =>
zah (some 7) [(.str []),(.str [])] F m fun a91 m =>
zae 2 a91 a90 F m fun _ m =>
zab (some 5) a74 F m fun a93 m =>
zaa 0 a91 F m fun a94 m =>
zab none a94 F m fun a95 m =>
zad (.p (.func F_Q98)) [a93,a95] F m fun a96 m =>
zaf a96 0 F m fun a97 m =>
zaf a96 1 F m fun a98 m =>
y_not a98 F m fun a99 m =>
ygd a99 false (yv (x_mov a97)) F m fun a100 m =>
ygd a99 false (zaa 1 a91) F m fun a101 m =>
ygd a99 false (zab none a101) F m fun a102 m =>
ygd a99 false (y_neq a100 a102) F m fun a103 m =>
zai a99 (.p (.bool true)) a103 F m fun a104 m =>
tblk (sxv fun a106=>sxv fun a107=>sxv fun a108=>sxv fun a109=>sxv fun a110=>sxv fun a111=>sxv fun a112=>sx0 (fun m =>
j80 [a106,a107,a108,a109,a110,a111,a112] m)) fun j105 =>
ycond a104 (zaa 2 a73 F m fun a113 m =>
zab none a113 F m fun a114 m =>
zab (some 2) a91 F m fun a115 m =>
zag 2 1 [(.str []),(.str [])] [(0,2,a115)] F m fun a116 m =>
zam 2 a114 a116 F m fun a117 m =>
zaa 2 a73 F m fun a118 m =>
zae 1 a118 a117 F m fun _ m =>
j105 [a72,a73,a74,a75,a76,a77,a78] m) <|
j105 [a72,a73,a74,a75,a76,a77,a78] m) <|
j16 [a74,a73,a76,a77] m)) L [(.p (.int .i64 0)),a11,a2,a14,a3,a4,a15] m)
noncomputable def zlb:SFun:=⟨2,zxz,[.cell 4 (some 6)],true,false⟩
theorem zrw:SFOK tr.look F_Q66 zlb:=⟨i_Q66,(.sq .lf (.sq .lf (.sq (.sq .lf (.bk [2,5,3,4] (.lp [23,5,2,21,3,4,22] (.sq .lf (.sq (.cj .lf .lf) (.sq (.bk [23,5,2,21,3,4,22] (.sq .lf (.sq .lf (.sq .lf (.cd [23,5,2,21,3,4,22] .lf .lf))))) .lf)))))) (.sq (.sq .lf (.bk [5,4] (.lp [52,5,3,50,4,51] (.sq .lf (.sq (.cj .lf .lf) (.sq (.bk [52,5,3,50,4,51] (.sq .lf (.sq .lf (.sq .lf (.cd [52,5,3,50,4,51] .lf .lf))))) .lf)))))) (.sq .lf .lf))))),[],look_Q66,rfl,rfl,rfl,rfl,rfl,by kernel_rfl⟩
noncomputable def zem:FOr→Nat→(List IVal→SC)→List IVal→SC:=fun F L kr=>sxv fun a0=>sxv fun a1=>sxv fun a2=>sxv fun a3=>sx0 (fun m =>
tblk (sx0 (fun m =>
kr [] m)) fun _ =>
tloop (fun j5=>sxv fun a6=>sxv fun a7=>sxv fun a8=>sxv fun a9=>sxv fun a10=>sxv fun a11=>sx0 (fun m =>
tblk (sxv fun a13=>sxv fun a14=>sxv fun a15=>sxv fun a16=>sxv fun a17=>sxv fun a18=>sx0 (fun m =>
j5 [a13,a14,a15,a16,a17,a18] m)) fun j12 =>
y_sub a6 a7 F m fun a19 m =>
y_leq a19 (.p (.int .i64 12)) F m fun a20 m =>
ycond a20 (zad (.p (.func F_Q99)) [a8,a7,a6] F m fun _ m =>
kr [] m) <|
y_eql a11 (.p (.int .i64 0)) F m fun a22 m =>
ycond a22 (zad (.p (.func 100)) [a8,a7,a6] F m fun _ m =>
kr [] m) <|
y_not a10 F m fun a24 m =>
tblk (sxv fun a26=>sxv fun a27=>sxv fun a28=>sxv fun a29=>sxv fun a30=>sxv fun a31=>sxv fun a32=>sx0 (fun m =>
zad (.p (.func 102)) [a29,a31,a30] F m fun a33 m =>
zaf a33 0 F m fun a34 m =>
zaf a33 1 F m fun a35 m =>
y_eql a35 (.p (.int .i64 2)) F m fun a36 m =>
tblk (sxv fun a38=>sxv fun a39=>sxv fun a40=>sxv fun a41=>sxv fun a42=>sxv fun a43=>sxv fun a44=>sxv fun a45=>sxv fun a46=>sx0 (fun m =>
ygd a40 true (yv (x_mov a41)) F m fun a47 m =>
zai a40 a47 (.p (.bool false)) F m fun a48 m =>
ygd a48 true (yv (x_mov a38)) F m fun a49 m =>
ygd a48 true (y_eql a49 (.p (.int .i64 1))) F m fun a50 m =>
zai a48 a50 (.p (.bool false)) F m fun a51 m =>
tblk (sxv fun a53=>sxv fun a54=>sxv fun a55=>sxv fun a56=>sxv fun a57=>sxv fun a58=>sxv fun a59=>sxv fun a60=>sx0 (fun m =>
y_gtr a54 (.p (.int .i64 0)) F m fun a61 m =>
ygd a61 true (yv (x_mov a57)) F m fun a62 m =>
ygd a61 true (yv (x_mov a54)) F m fun a63 m =>
ygd a61 true (y_sub a63 (.p (.int .i64 1))) F m fun a64 m =>
ygd a61 true (zac 1 a62 a64) F m fun a65 m =>
ygd a61 true (zab none a65) F m fun a66 m =>
ygd a61 true (yv (x_mov a57)) F m fun a67 m =>
ygd a61 true (yv (x_mov a55)) F m fun a68 m =>
ygd a61 true (zac 1 a67 a68) F m fun a69 m =>
ygd a61 true (zab none a69) F m fun a70 m =>
ygd a61 true (zad (.p (.func 105)) [a66,a70]) F m fun a71 m =>
ygd a61 true (y_not a71) F m fun a72 m =>
zai a61 a72 (.p (.bool false)) F m fun a73 m =>
ycond a73 (zad (.p (.func 106)) [a57,a54,a56,a55] F m fun a74 m =>
j12 [a56,a74,a57,a58,a59,a60] m) <|
zad (.p (.func 107)) [a57,a54,a56,a55] F m fun a75 m =>
zaf a75 0 F m fun a76 m =>
zaf a75 1 F m fun a77 m =>
y_sub a76 a54 F m fun a78 m =>
y_sub a56 a76 F m fun a79 m =>
yv (xgen .quo a53 (.p (.int .i64 8))) F m fun a80 m =>
y_lss a78 a79 F m fun a81 m =>
tblk (sxv fun a83=>sxv fun a84=>sxv fun a85=>sxv fun a86=>sxv fun a87=>sxv fun a88=>sx0 (fun m =>
j12 [a83,a84,a85,a86,a87,a88] m)) fun j82 =>
ycond a81 (y_geq a78 a80 F m fun a89 m =>
zad (.p (.func F_Q67)) [a57,a54,a76,a60] F m fun _ m =>
y_add a76 (.p (.int .i64 1)) F m fun a91 m =>
j82 [a56,a91,a57,a77,a89,a60] m) <|
y_geq a79 a80 F m fun a92 m =>
y_add a76 (.p (.int .i64 1)) F m fun a93 m =>
zad (.p (.func F_Q67)) [a57,a93,a56,a60] F m fun _ m =>
j82 [a76,a54,a57,a77,a92,a60] m)) fun j52 =>
ycond a51 (zad (.p (.func 104)) [a42,a45,a43] F m fun a95 m =>
ycond a95 (kr [] m) <|
j52 [a46,a45,a44,a43,a42,a41,a40,a39] m) <|
j52 [a46,a45,a44,a43,a42,a41,a40,a39] m)) fun j37 =>
ycond a36 (zad (.p (.func 103)) [a29,a31,a30] F m fun _ m =>
y_sub a30 (.p (.int .i64 1)) F m fun a97 m =>
y_sub a34 a31 F m fun a98 m =>
y_sub a97 a98 F m fun a99 m =>
j37 [(.p (.int .i64 1)),a26,a27,a28,a29,a30,a99,a31,a32] m) <|
j37 [a35,a26,a27,a28,a29,a30,a34,a31,a32] m)) fun j25 =>
ycond a24 (zad (.p (.func 101)) [a8,a7,a6] F m fun _ m =>
y_sub a11 (.p (.int .i64 1)) F m fun a101 m =>
j25 [a101,a10,a9,a8,a6,a7,a19] m) <|
j25 [a11,a10,a9,a8,a6,a7,a19] m)) L [a2,a1,a0,(.p (.bool true)),(.p (.bool true)),a3] m)
noncomputable def zbp:SFun:=⟨4,zem,[],true,false⟩
theorem zdo:SFOK tr.look F_Q67 zbp:=⟨i_Q67,(.sq .lf (.sq .lf (.bk [] (.lp [2,1,0,9,8,3] (.bk [2,1,0,9,8,3] (.sq .lf (.sq (.sq .lf (.cj (.sq .lf .lf) .lf)) (.sq (.sq .lf (.cj (.sq .lf .lf) .lf)) (.sq (.sq .lf (.cd [3,8,9,0,2,1,10] (.sq .lf .lf) .lf)) (.sq .lf (.sq (.sq .lf (.cd [12,3,8,9,0,2,11,1,10] (.sq .lf (.sq .lf .lf)) .lf)) (.sq (.sq .lf (.cd [10,1,11,2,0,9,8,3] (.sq .lf (.cj .lf .lf)) .lf)) (.sq (.sq .lf (.cj (.sq .lf (.sq .lf .lf)) .lf)) (.sq .lf (.sq .lf (.sq .lf (.sq .lf (.sq .lf (.cd [2,1,0,9,8,3] (.sq .lf (.sq .lf .lf)) (.sq .lf (.sq .lf .lf))))))))))))))))))))),[],look_Q67,rfl,rfl,rfl,rfl,rfl,by kernel_rfl⟩
noncomputable def zya:FOr→Nat→(List IVal→SC)→List IVal→SC:=fun F _ kr=>sxv fun a0=>sx0 (fun m =>
ycond (.p (.bool false)) (yv (zfx .u32 a0) F m fun a1 m =>
zad (.p (.func 108)) [a1] F m fun a2 m =>
kr [a2] m) <|
zad (.p (.func F_Q109)) [a0] F m fun a3 m =>
kr [a3] m)
noncomputable def zlc:SFun:=⟨1,zya,[.tmp 2],true,false⟩
theorem zrx:SFOK tr.look F_Q68 zlc:=⟨i_Q68,(.sq .lf (.sq (.cj (.sq .lf .lf) .lf) (.sq .lf .lf))),[],look_Q68,rfl,rfl,rfl,rfl,rfl,by kernel_rfl⟩
noncomputable def zaoc:FOr→Nat→(List IVal→SC)→List IVal→SC:=fun F _ kr=>sxv fun a0=>sx0 (fun m =>
yfresh [a0] [2] m fun m =>
zah (some 2) [(.int .i64 0),(.int .i64 0)] F m fun a1 m =>
y_lss a0 (.p (.int .i64 (-1048576))) F m fun a2 m =>
ycond a2 (y_sub (.p (.int .i64 (-2))) a0 F m fun a3 m =>
y_sub a3 (.p (.int .i64 1048576)) F m fun a4 m =>
zak [(.int .i64 0),(.int .i64 0)] [(0,1,(.p (.int .i64 1))),(1,1,a4)] F m fun a5 m =>
zae 2 a1 a5 F m fun _ m =>
kr [a1] m) <|
y_sub (.p (.int .i64 (-2))) a0 F m fun a7 m =>
zak [(.int .i64 0),(.int .i64 0)] [(0,1,(.p (.int .i64 0))),(1,1,a7)] F m fun a8 m =>
zae 2 a1 a8 F m fun _ m =>
kr [a1] m)
noncomputable def zabn:SFun:=⟨1,zaoc,[.cell 2 (some 2)],true,false⟩
theorem zahm:SFOK tr.look F_Q70 zabn:=⟨i_Q70,(.sq .lf (.sq (.sq .lf (.cj (.sq .lf .lf) .lf)) (.sq .lf .lf))),[],look_Q70,rfl,rfl,rfl,rfl,rfl,by kernel_rfl⟩
noncomputable def zaod:FOr→Nat→(List IVal→SC)→List IVal→SC:=fun F _ kr=>sxv fun a0=>sxv fun a1=>sx0 (fun m =>
yfresh [a0,a1] [4] m fun m =>
y_box none 5 a0 F m fun a2 m =>
y_box none 1 a1 F m fun a3 m =>
zah (some 4) [(.int .i64 0),(.str []),(.str []), .nilslice, .nilslice] F m fun a4 m =>
zah none [(.int .i64 0),(.str []),(.str []), .nilslice, .nilslice] F m fun a5 m =>
zah none [(.bool false)] F m fun a6 m =>
zae 1 a6 (.p (.bool false)) F m fun _ m =>
yv (zcu 110 [(.const a3),(.const a5),(.const a6)]) F m fun a8 m =>
zad (.p (.func F_Q51)) [a2,a8] F m fun _ m =>
zab (some 5) a5 F m fun a10 m =>
zab none a6 F m fun a11 m =>
zae 5 a4 a10 F m fun _ m =>
yck F m (.load none (.const a6)) a11 <|
kr [a4,a11] m)
noncomputable def zabo:SFun:=⟨2,zaod,[.cell 4 (some 5), .tmp 5],true,false⟩
theorem zahn:SFOK tr.look F_Q71 zabo:=⟨i_Q71,(.sq .lf (.sq .lf (.sq .lf (.sq .lf (.sq .lf .lf))))),[],look_Q71,rfl,rfl,rfl,rfl,rfl,by kernel_rfl⟩
noncomputable def zcx:FOr→Nat→(List IVal→SC)→List IVal→SC:=fun F _ kr=>sxv fun a0=>sxv fun a1=>sx0 (fun m =>
y_len a0 F m fun a2 m =>
yv (zfx .u64 a2) F m fun a3 m =>
zad (.p (.func F_Q68)) [a3] F m fun a4 m =>
zad (.p (.func F_Q111)) [a0,(.p (.int .i64 0)),a2,a4,a1] F m fun _ m =>
kr [] m)
noncomputable def zbc:SFun:=⟨2,zcx,[],false,false⟩
theorem zcl:SFOK tr.look F_Q73 zbc:=⟨i_Q73,(.sq .lf .lf),[],look_Q73,rfl,rfl,rfl,rfl,rfl,by kernel_rfl⟩
noncomputable def zqe:FOr→Nat→(List IVal→SC)→List IVal→SC:=fun F L kr=>sxv fun a0=>sxv fun a1=>sx0 (fun m =>
yfresh [a0,a1] [3,4] m fun m =>
y_box (some 3) 2 a1 F m fun a2 m =>
zah (some 4) [(.int .i64 0),(.str []),(.str []), .nilslice, .nilslice] F m fun a3 m =>
zaa 0 a2 F m fun a4 m =>
zab none a4 F m fun a5 m =>
y_nil a0 F m fun a6 m =>
zaa 12 a6 F m fun a7 m =>
zaj 2 1 a7 a5 F m fun a8 m =>
zab none a8 F m fun a9 m =>
zaa 1 a2 F m fun a10 m =>
zab none a10 F m fun a11 m =>
zac 10 a9 a11 F m fun a12 m =>
zaa 5 a12 F m fun a13 m =>
zab (some 5) a13 F m fun a14 m =>
zah none [(.int .i64 0),(.str []),(.str []), .nilslice, .nilslice] F m fun a15 m =>
zae 5 a15 a14 F m fun _ m =>
zaa 0 a2 F m fun a17 m =>
zab none a17 F m fun a18 m =>
zaa 0 a2 F m fun a19 m =>
zab none a19 F m fun a20 m =>
y_nil a0 F m fun a21 m =>
zaa 23 a21 F m fun a22 m =>
zaj 2 1 a22 a20 F m fun a23 m =>
zab none a23 F m fun a24 m =>
zaa 1 a2 F m fun a25 m =>
zab none a25 F m fun a26 m =>
y_nil a0 F m fun a27 m =>
zaa 22 a27 F m fun a28 m =>
zab none a28 F m fun a29 m =>
zak [(.int .i64 0),(.int .i64 0)] [(0,1,a26),(1,1,a29)] F m fun a30 m =>
zag 2 1 [(.int .i64 0),(.int .i64 0)] [(0,2,a30)] F m fun a31 m =>
y_nil a0 F m fun a32 m =>
zaa 23 a32 F m fun a33 m =>
zam 2 a24 a31 F m fun a34 m =>
zaj 2 1 a33 a18 F m fun a35 m =>
yck F m (.load none (.const a17)) a18 <|
zae 1 a35 a34 F m fun _ m =>
yfresh [a35,a33,a32,a34,a31,a30,a29,a28,a27,a0,a26,a25,a24,a23,a22,a21,a20,a19,a0,a18,a17,a0,a15,a14,a13,a12,a11,a10,a9,a8,a7,a6,a5,a4,a0,a3,a2,a0,a1] [6] m fun m =>
y_nil a0 F m fun a37 m =>
zaa 20 a37 F m fun a38 m =>
zab none a38 F m fun a39 m =>
zab (some 2) a2 F m fun a40 m =>
zaq false (.agg [(.p (.int .i64 0)),(.p (.int .i64 0))]) ⟨true,[.int, .int]⟩ a39 a40 F m fun a41 m =>
zah (some 6) [(.int .i64 0),(.int .i64 0)] F m fun a42 m =>
zae 2 a42 a41 F m fun _ m =>
zab (some 2) a42 F m fun a44 m =>
zak [(.int .i64 0),(.int .i64 0)] [] F m fun a45 m =>
yv (x_eqv true ⟨true,[.int, .int]⟩ (.const a44) (.const a45)) F m fun a46 m =>
tblk (sxv fun a48=>sxv fun a49=>sxv fun a50=>sxv fun a51=>sx0 (fun m =>
y_nil a48 F m fun a52 m =>
zaa 22 a52 F m fun a53 m =>
zab none a53 F m fun a54 m =>
y_add a54 (.p (.int .i64 1)) F m fun a55 m =>
y_nil a48 F m fun a56 m =>
zaa 22 a56 F m fun a57 m =>
zae 1 a57 a55 F m fun _ m =>
zaa 1 a49 F m fun a59 m =>
zab none a59 F m fun a60 m =>
y_add a60 (.p (.int .i64 1)) F m fun a61 m =>
tblk (sxv fun a63=>sxv fun a64=>sxv fun a65=>sxv fun a66=>sx0 (fun m =>
zad (.p (.func F_Q37)) [a63,a65,a64] F m fun _ m =>
zab (some 5) a65 F m fun a68 m =>
zae 5 a66 a68 F m fun _ m =>
kr [a66] m)) fun j62 =>
tloop (fun j70=>sxv fun a71=>sxv fun a72=>sxv fun a73=>sxv fun a74=>sxv fun a75=>sxv fun a76=>sx0 (fun m =>
zaa 1 a73 F m fun a77 m =>
zab none a77 F m fun a78 m =>
zaa 0 a73 F m fun a79 m =>
zab none a79 F m fun a80 m =>
y_nil a72 F m fun a81 m =>
zaa 12 a81 F m fun a82 m =>
zaj 2 1 a82 a80 F m fun a83 m =>
zab none a83 F m fun a84 m =>
zaa 1 a73 F m fun a85 m =>
zab none a85 F m fun a86 m =>
zac 10 a84 a86 F m fun a87 m =>
zaa 1 a87 F m fun a88 m =>
zab none a88 F m fun a89 m =>
y_add a78 a89 F m fun a90 m =>
y_lss a71 a90 F m fun a91 m =>
ycond a91 (tblk (sxv fun a93=>sxv fun a94=>sxv fun a95=>sxv fun a96=>sxv fun a97=>sxv fun a98=>sx0 (fun m =>
zaa 0 a95 F m fun a99 m =>
zab none a99 F m fun a100 m =>
y_nil a94 F m fun a101 m =>
zaa 12 a101 F m fun a102 m =>
zaj 2 1 a102 a100 F m fun a103 m =>
zab none a103 F m fun a104 m =>
zac 10 a104 a93 F m fun a105 m =>
zaa 1 a105 F m fun a106 m =>
zab none a106 F m fun a107 m =>
y_add a93 a107 F m fun a108 m =>
j70 [a108,a94,a95,a96,a97,a98] m)) fun j92 =>
zaa 0 a73 F m fun a109 m =>
zab none a109 F m fun a110 m =>
y_nil a72 F m fun a111 m =>
zaa 18 a111 F m fun a112 m =>
zaj 2 1 a112 a110 F m fun a113 m =>
zab none a113 F m fun a114 m =>
zaq true (.p (.int .i64 0)) ⟨false,[.int]⟩ a114 a71 F m fun a115 m =>
zaf a115 0 F m fun a116 m =>
zaf a115 1 F m fun a117 m =>
y_not a117 F m fun a118 m =>
tblk (sxv fun a120=>sxv fun a121=>sxv fun a122=>sxv fun a123=>sxv fun a124=>sxv fun a125=>sxv fun a126=>sx0 (fun m =>
zag 1 1 [(.int .i64 0)] [(0,1,a121)] F m fun a127 m =>
zam 1 a120 a127 F m fun a128 m =>
j92 [a122,a123,a124,a128,a125,a126] m)) fun j119 =>
ycond a118 (y_sub (.p (.int .i64 (-2))) a71 F m fun a129 m =>
zaa 0 a73 F m fun a130 m =>
zab none a130 F m fun a131 m =>
yv (x_mul (.p (.int .i64 1048576)) a131) F m fun a132 m =>
y_sub a129 a132 F m fun a133 m =>
j119 [a74,a133,a71,a72,a73,a75,a76] m) <|
j119 [a74,a116,a71,a72,a73,a75,a76] m) <|
j62 [a72,a74,a75,a76] m)) L [a61,a48,a49,(.p .nilslice),a50,a51] m)) fun j47 =>
ycond a46 (zaa 0 a42 F m fun a134 m =>
zab none a134 F m fun a135 m =>
zaa 0 a42 F m fun a136 m =>
zab none a136 F m fun a137 m =>
y_nil a0 F m fun a138 m =>
zaa 23 a138 F m fun a139 m =>
zaj 2 1 a139 a137 F m fun a140 m =>
zab none a140 F m fun a141 m =>
zaa 1 a42 F m fun a142 m =>
zab none a142 F m fun a143 m =>
y_nil a0 F m fun a144 m =>
zaa 22 a144 F m fun a145 m =>
zab none a145 F m fun a146 m =>
zak [(.int .i64 0),(.int .i64 0)] [(0,1,a143),(1,1,a146)] F m fun a147 m =>
zag 2 1 [(.int .i64 0),(.int .i64 0)] [(0,2,a147)] F m fun a148 m =>
y_nil a0 F m fun a149 m =>
zaa 23 a149 F m fun a150 m =>
zam 2 a141 a148 F m fun a151 m =>
zaj 2 1 a150 a135 F m fun a152 m =>
yck F m (.load none (.const a134)) a135 <|
zae 1 a152 a151 F m fun _ m =>
j47 [a0,a2,a15,a3] m) <|
j47 [a0,a2,a15,a3] m)
noncomputable def zgt:SFun:=⟨2,zqe,[.cell 4 (some 5)],false,false⟩
theorem zmi:SFOK tr.look F_Q76 zgt:=⟨i_Q76,(.sq .lf (.sq .lf (.sq .lf (.sq (.sq .lf (.sq .lf (.cd [0,3,5,4] .lf .lf))) (.sq .lf (.sq .lf (.sq (.sq .lf (.bk [0,7,5,4] (.lp [8,0,3,7,5,4] (.sq (.sq .lf (.cj .lf .lf)) (.sq (.bk [8,0,3,7,5,4] (.sq .lf (.sq (.sq .lf (.cd [7,9,8,0,3,5,4] .lf .lf)) .lf))) .lf))))) (.sq .lf (.sq .lf .lf))))))))),[],look_Q76,rfl,rfl,rfl,rfl,rfl,by kernel_rfl⟩
noncomputable def zyb:FOr→Nat→(List IVal→SC)→List IVal→SC:=fun F _ kr=>sxv fun a0=>sx0 (fun m =>
y_neq a0 a0 F m fun a1 m =>
kr [a1] m)
noncomputable def zld:SFun:=⟨1,zyb,[.tmp 2],true,false⟩
theorem zry:SFOK tr.look F_Q78 zld:=⟨i_Q78,(.sq .lf (.sq .lf .lf)),[],look_Q78,rfl,rfl,rfl,rfl,rfl,by kernel_rfl⟩
noncomputable def zarx:FOr→Nat→(List IVal→SC)→List IVal→SC:=fun F _ kr=>sxv fun a0=>sx0 (fun m =>
yfresh [a0] [1] m fun m =>
y_box (some 1) 5 a0 F m fun a1 m =>
zab (some 5) a1 F m fun a2 m =>
zad (.p (.func F_Q15)) [a2] F m fun a3 m =>
y_not a3 F m fun a4 m =>
ycond a4 (kr [(.p .nilptr),(.p (.int .i64 1))] m) <|
zbw F m fun a5 m =>
zak [.nilslice, .nilmap] [(1,1,a5)] F m fun a6 m =>
y_box none 2 a6 F m fun a7 m =>
zab (some 5) a1 F m fun a8 m =>
zad (.p (.func F_Q121)) [a7,a8,(.p (.int .i64 (-1)))] F m fun _ m =>
kr [a7,(.p (.int .i64 0))] m)
noncomputable def zaho:SFun:=⟨1,zarx,[.tmp 2, .tmp 3],false,false⟩
theorem zakn:SFOK tr.look F_Q79 zaho:=⟨i_Q79,(.sq .lf (.sq (.sq .lf (.cj (.sq .lf .lf) .lf)) (.sq .lf (.sq .lf (.sq .lf .lf))))),[],look_Q79,rfl,rfl,rfl,rfl,rfl,by kernel_rfl⟩
noncomputable def zoe:FOr→Nat→(List IVal→SC)→List IVal→SC:=fun F _ kr=>sxv fun a0=>sxv fun a1=>sx0 (fun m =>
yfresh [a0,a1] [3] m fun m =>
y_box (some 3) 7 a1 F m fun a2 m =>
y_nil a0 F m fun a3 m =>
zaa 5 a3 F m fun a4 m =>
zab none a4 F m fun a5 m =>
ycond a5 (kr [] m) <|
zaa 0 a2 F m fun a6 m =>
zab none a6 F m fun a7 m =>
tblk (sxv fun a9=>sxv fun a10=>sxv fun a11=>sx0 (fun m =>
y_nil a11 F m fun a12 m =>
zaa 4 a12 F m fun a13 m =>
zab none a13 F m fun a14 m =>
y_nil a11 F m fun a15 m =>
zaa 4 a15 F m fun a16 m =>
zab none a16 F m fun a17 m =>
y_len a17 F m fun a18 m =>
y_nil a11 F m fun a19 m =>
zaa 4 a19 F m fun a20 m =>
zab none a20 F m fun a21 m =>
y_len a21 F m fun a22 m =>
zami 7 a14 a18 a22 F m fun a23 m =>
zab (some 7) a9 F m fun a24 m =>
zag 7 1 [(.int .i64 0),(.int .i64 0),(.int .i64 0),(.int .i64 0),(.int .i64 0),(.str []),(.str [])] [(0,7,a24)] F m fun a25 m =>
zam 7 a23 a25 F m fun a26 m =>
y_nil a11 F m fun a27 m =>
zaa 4 a27 F m fun a28 m =>
zae 1 a28 a26 F m fun _ m =>
y_neq a10 (.p (.int .i64 0)) F m fun a30 m =>
ygd a30 false (yv (x_mov a11)) F m fun a31 m =>
ygd a30 false (y_nil a31) F m fun a32 m =>
ygd a30 false (zaa 4 a32) F m fun a33 m =>
ygd a30 false (zab none a33) F m fun a34 m =>
ygd a30 false (y_len a34) F m fun a35 m =>
ygd a30 false (y_gtr a35 (.p (.int .i64 1500))) F m fun a36 m =>
zai a30 (.p (.bool true)) a36 F m fun a37 m =>
y_nil a11 F m fun a38 m =>
zaa 5 a38 F m fun a39 m =>
zae 1 a39 a37 F m fun _ m =>
kr [] m)) fun j8 =>
y_eql a7 (.p (.int .i64 1)) F m fun a41 m =>
tblk (sxv fun a43=>sxv fun a44=>sxv fun a45=>sx0 (fun m =>
j8 [a43,a44,a45] m)) fun j42 =>
ycond a41 (y_nil a0 F m fun a46 m =>
zaa 0 a46 F m fun a47 m =>
zab none a47 F m fun a48 m =>
zaa 1 a2 F m fun a49 m =>
zab none a49 F m fun a50 m =>
zaa 2 a2 F m fun a51 m =>
zab none a51 F m fun a52 m =>
zaa 3 a2 F m fun a53 m =>
zab none a53 F m fun a54 m =>
zaa 4 a2 F m fun a55 m =>
zab none a55 F m fun a56 m =>
zaa 5 a2 F m fun a57 m =>
zab none a57 F m fun a58 m =>
zaa 6 a2 F m fun a59 m =>
zab none a59 F m fun a60 m =>
zak [(.int .i64 0),(.str []),(.str []), .nilslice, .nilslice] [(0,1,a56),(1,1,a58),(2,1,a60)] F m fun a61 m =>
zad (.p (.func F_Q122)) [a48,a50,a52,a54,a61] F m fun a62 m =>
j42 [a2,a62,a0] m) <|
y_eql a7 (.p (.int .i64 2)) F m fun a63 m =>
tblk (sxv fun a65=>sxv fun a66=>sxv fun a67=>sx0 (fun m =>
j42 [a65,a66,a67] m)) fun j64 =>
ycond a63 (y_nil a0 F m fun a68 m =>
zaa 0 a68 F m fun a69 m =>
zab none a69 F m fun a70 m =>
zaa 1 a2 F m fun a71 m =>
zab none a71 F m fun a72 m =>
zad (.p (.func 123)) [a70,a72] F m fun a73 m =>
j64 [a2,a73,a0] m) <|
y_eql a7 (.p (.int .i64 3)) F m fun a74 m =>
tblk (sxv fun a76=>sxv fun a77=>sxv fun a78=>sx0 (fun m =>
j64 [a76,a77,a78] m)) fun j75 =>
ycond a74 (y_nil a0 F m fun a79 m =>
zaa 0 a79 F m fun a80 m =>
zab none a80 F m fun a81 m =>
zaa 1 a2 F m fun a82 m =>
zab none a82 F m fun a83 m =>
zaa 2 a2 F m fun a84 m =>
zab none a84 F m fun a85 m =>
zaa 3 a2 F m fun a86 m =>
zab none a86 F m fun a87 m =>
zad (.p (.func F_Q124)) [a81,a83,a85,a87] F m fun a88 m =>
j75 [a2,a88,a0] m) <|
y_eql a7 (.p (.int .i64 4)) F m fun a89 m =>
tblk (sxv fun a91=>sxv fun a92=>sxv fun a93=>sx0 (fun m =>
j75 [a91,a92,a93] m)) fun j90 =>
ycond a89 (y_nil a0 F m fun a94 m =>
zaa 0 a94 F m fun a95 m =>
zab none a95 F m fun a96 m =>
zaa 1 a2 F m fun a97 m =>
zab none a97 F m fun a98 m =>
zaa 5 a2 F m fun a99 m =>
zab none a99 F m fun a100 m =>
zaa 6 a2 F m fun a101 m =>
zab none a101 F m fun a102 m =>
zad (.p (.func F_Q125)) [a96,a98,a100,a102] F m fun a103 m =>
j90 [a2,a103,a0] m) <|
y_eql a7 (.p (.int .i64 5)) F m fun a104 m =>
tblk (sxv fun a106=>sxv fun a107=>sxv fun a108=>sx0 (fun m =>
j90 [a106,a107,a108] m)) fun j105 =>
ycond a104 (y_nil a0 F m fun a109 m =>
zaa 0 a109 F m fun a110 m =>
zab none a110 F m fun a111 m =>
zaa 1 a2 F m fun a112 m =>
zab none a112 F m fun a113 m =>
zaa 5 a2 F m fun a114 m =>
zab none a114 F m fun a115 m =>
zad (.p (.func 126)) [a111,a113,a115] F m fun a116 m =>
j105 [a2,a116,a0] m) <|
y_eql a7 (.p (.int .i64 6)) F m fun a117 m =>
tblk (sxv fun a119=>sxv fun a120=>sxv fun a121=>sx0 (fun m =>
j105 [a119,a120,a121] m)) fun j118 =>
ycond a117 (y_nil a0 F m fun a122 m =>
zaa 0 a122 F m fun a123 m =>
zab none a123 F m fun a124 m =>
zaa 1 a2 F m fun a125 m =>
zab none a125 F m fun a126 m =>
zaa 6 a2 F m fun a127 m =>
zab none a127 F m fun a128 m =>
zad (.p (.func F_Q127)) [a124,a126,a128] F m fun a129 m =>
j118 [a2,a129,a0] m) <|
j118 [a2,(.p (.int .i64 15)),a0] m)
noncomputable def zgf:SFun:=⟨2,zoe,[],false,false⟩
theorem zle:SFOK tr.look F_Q80 zgf:=⟨i_Q80,(.sq .lf (.sq (.sq .lf (.cj .lf .lf)) (.sq .lf (.sq (.sq .lf (.bk [3,4,0] (.sq .lf (.cd [3,4,0] .lf (.sq .lf (.cd [3,4,0] .lf (.sq .lf (.cd [3,4,0] .lf (.sq .lf (.cd [3,4,0] .lf (.sq .lf (.cd [3,4,0] .lf (.sq .lf (.cd [3,4,0] .lf .lf)))))))))))))) (.sq .lf .lf))))),[],look_Q80,rfl,rfl,rfl,rfl,rfl,by kernel_rfl⟩
noncomputable def zof:FOr→Nat→(List IVal→SC)→List IVal→SC:=fun F L kr=>sxv fun a0=>sxv fun a1=>sx0 (fun m =>
yfresh [a0,a1] [4] m fun m =>
y_nil a0 F m fun a2 m =>
zaa 1 a2 F m fun a3 m =>
zab none a3 F m fun a4 m =>
zac 10 a4 a1 F m fun a5 m =>
zab (some 10) a5 F m fun a6 m =>
zah (some 4) [(.int .i64 0),(.int .i64 0),(.int .i64 0),(.int .i64 0),(.int .i64 0),(.int .i64 0),(.str []),(.str []), .nilslice, .nilslice] F m fun a7 m =>
zae 10 a7 a6 F m fun _ m =>
y_nil a0 F m fun a9 m =>
zaa 2 a9 F m fun a10 m =>
zab none a10 F m fun a11 m =>
zaa 0 a7 F m fun a12 m =>
zab none a12 F m fun a13 m =>
zaq false (.p (.int .i64 0)) ⟨false,[.int]⟩ a11 a13 F m fun a14 m =>
y_nil a0 F m fun a15 m =>
zaa 2 a15 F m fun a16 m =>
zab none a16 F m fun a17 m =>
zaq true (.p (.int .i64 0)) ⟨false,[.int]⟩ a17 a1 F m fun a18 m =>
zaf a18 0 F m fun a19 m =>
zaf a18 1 F m fun a20 m =>
tblk (sxv fun a22=>sxv fun a23=>sxv fun a24=>sx0 (fun m =>
yfresh [a22,a23,a24] [8] m fun m =>
y_nil a23 F m fun a25 m =>
zaa 0 a25 F m fun a26 m =>
zab none a26 F m fun a27 m =>
zad (.p (.func F_Q130)) [a27,a22] F m fun a28 m =>
zaf a28 0 F m fun a29 m =>
zaf a28 1 F m fun _ m =>
zah (some 8) [(.int .i64 0),(.str []),(.str []), .nilslice, .nilslice] F m fun a31 m =>
zae 5 a31 a29 F m fun _ m =>
zaa 5 a24 F m fun a33 m =>
zaa 2 a33 F m fun a34 m =>
zab none a34 F m fun a35 m =>
zaa 2 a31 F m fun a36 m =>
zab none a36 F m fun a37 m =>
y_neq a35 a37 F m fun a38 m =>
tblk (sxv fun a40=>sxv fun a41=>sxv fun a42=>sxv fun a43=>sx0 (fun m =>
zaa 3 a43 F m fun a44 m =>
zab none a44 F m fun a45 m =>
y_len a45 F m fun a46 m =>
tblk (sxv fun a48=>sxv fun a49=>sxv fun a50=>sxv fun a51=>sx0 (fun m =>
zaa 5 a48 F m fun a52 m =>
zaa 3 a52 F m fun a53 m =>
zab none a53 F m fun a54 m =>
y_len a54 F m fun a55 m =>
tblk (sx0 (fun m =>
kr [] m)) fun j56 =>
tloop (fun j57=>sxv fun a58=>sxv fun a59=>sxv fun a60=>sxv fun a61=>sxv fun a62=>sxv fun a63=>sx0 (fun m =>
y_lss a58 a63 F m fun a64 m =>
ycond a64 (tblk (sxv fun a66=>sxv fun a67=>sxv fun a68=>sxv fun a69=>sxv fun a70=>sxv fun a71=>sx0 (fun m =>
y_add a66 (.p (.int .i64 1)) F m fun a72 m =>
j57 [a72,a67,a68,a69,a70,a71] m)) fun j65 =>
yfresh [a64,a58,a59,a60,a61,a62,a63] [15] m fun m =>
zac 2 a62 a58 F m fun a73 m =>
zab (some 2) a73 F m fun a74 m =>
zah (some 15) [(.str []),(.str [])] F m fun a75 m =>
zae 2 a75 a74 F m fun _ m =>
zab (some 5) a61 F m fun a77 m =>
zaa 0 a75 F m fun a78 m =>
zab none a78 F m fun a79 m =>
zad (.p (.func F_Q98)) [a77,a79] F m fun a80 m =>
zaf a80 0 F m fun a81 m =>
zaf a80 1 F m fun a82 m =>
y_not a82 F m fun a83 m =>
ygd a83 false (yv (x_mov a81)) F m fun a84 m =>
ygd a83 false (zaa 1 a75) F m fun a85 m =>
ygd a83 false (zab none a85) F m fun a86 m =>
ygd a83 false (y_neq a84 a86) F m fun a87 m =>
zai a83 (.p (.bool true)) a87 F m fun a88 m =>
tblk (sxv fun a90=>sxv fun a91=>sxv fun a92=>sxv fun a93=>sxv fun a94=>sxv fun a95=>sx0 (fun m =>
j65 [a90,a91,a92,a93,a94,a95] m)) fun j89 =>
ycond a88 (zaa 0 a75 F m fun a96 m =>
zab none a96 F m fun a97 m =>
zaa 1 a75 F m fun a98 m =>
zab none a98 F m fun a99 m =>
zak [(.int .i64 0),(.int .i64 0),(.int .i64 0),(.int .i64 0),(.int .i64 0),(.str []),(.str [])] [(0,1,(.p (.int .i64 4))),(1,1,a59),(5,1,a97),(6,1,a99)] F m fun a100 m =>
zad (.p (.func F_Q80)) [a60,a100] F m fun _ m =>
j89 [a58,a59,a60,a61,a62,a63] m) <|
j89 [a58,a59,a60,a61,a62,a63] m) <|
j56 [] m)) L [(.p (.int .i64 0)),a49,a50,a51,a54,a55] m)) fun j47 =>
tloop (fun j102=>sxv fun a103=>sxv fun a104=>sxv fun a105=>sxv fun a106=>sxv fun a107=>sxv fun a108=>sxv fun a109=>sx0 (fun m =>
y_lss a103 a109 F m fun a110 m =>
ycond a110 (tblk (sxv fun a112=>sxv fun a113=>sxv fun a114=>sxv fun a115=>sxv fun a116=>sxv fun a117=>sxv fun a118=>sx0 (fun m =>
y_add a112 (.p (.int .i64 1)) F m fun a119 m =>
j102 [a119,a113,a114,a115,a116,a117,a118] m)) fun j111 =>
yfresh [a110,a103,a104,a105,a106,a107,a108,a109] [11] m fun m =>
zac 2 a107 a103 F m fun a120 m =>
zab (some 2) a120 F m fun a121 m =>
zah (some 11) [(.str []),(.str [])] F m fun a122 m =>
zae 2 a122 a121 F m fun _ m =>
zaa 5 a106 F m fun a124 m =>
zab (some 5) a124 F m fun a125 m =>
zaa 0 a122 F m fun a126 m =>
zab none a126 F m fun a127 m =>
zad (.p (.func F_Q98)) [a125,a127] F m fun a128 m =>
zaf a128 0 F m fun _ m =>
zaf a128 1 F m fun a130 m =>
y_not a130 F m fun a131 m =>
tblk (sxv fun a133=>sxv fun a134=>sxv fun a135=>sxv fun a136=>sxv fun a137=>sxv fun a138=>sxv fun a139=>sx0 (fun m =>
j111 [a133,a134,a135,a136,a137,a138,a139] m)) fun j132 =>
ycond a131 (zaa 0 a122 F m fun a140 m =>
zab none a140 F m fun a141 m =>
zak [(.int .i64 0),(.int .i64 0),(.int .i64 0),(.int .i64 0),(.int .i64 0),(.str []),(.str [])] [(0,1,(.p (.int .i64 5))),(1,1,a104),(5,1,a141)] F m fun a142 m =>
zad (.p (.func F_Q80)) [a105,a142] F m fun _ m =>
j132 [a103,a104,a105,a106,a107,a108,a109] m) <|
j132 [a103,a104,a105,a106,a107,a108,a109] m) <|
j47 [a106,a104,a105,a108] m)) L [(.p (.int .i64 0)),a40,a41,a42,a45,a43,a46] m)) fun j39 =>
ycond a38 (zaa 5 a24 F m fun a144 m =>
zaa 2 a144 F m fun a145 m =>
zab none a145 F m fun a146 m =>
zak [(.int .i64 0),(.int .i64 0),(.int .i64 0),(.int .i64 0),(.int .i64 0),(.str []),(.str [])] [(0,1,(.p (.int .i64 6))),(1,1,a22),(6,1,a146)] F m fun a147 m =>
zad (.p (.func F_Q80)) [a23,a147] F m fun _ m =>
j39 [a22,a23,a24,a31] m) <|
j39 [a22,a23,a24,a31] m)) fun j21 =>
y_not a20 F m fun a149 m =>
tblk (sxv fun a151=>sxv fun a152=>sxv fun a153=>sx0 (fun m =>
j21 [a151,a152,a153] m)) fun j150 =>
ycond a149 (y_nil a0 F m fun a154 m =>
zaa 3 a154 F m fun a155 m =>
zab none a155 F m fun a156 m =>
y_nil a0 F m fun a157 m =>
zaa 3 a157 F m fun a158 m =>
zab none a158 F m fun a159 m =>
y_add a159 (.p (.int .i64 1)) F m fun a160 m =>
y_nil a0 F m fun a161 m =>
zaa 3 a161 F m fun a162 m =>
zae 1 a162 a160 F m fun _ m =>
y_nil a0 F m fun a164 m =>
zaa 2 a164 F m fun a165 m =>
zab none a165 F m fun a166 m =>
zbl ⟨false,[.int]⟩ a166 a1 a156 F m fun _ m =>
zaa 4 a7 F m fun a168 m =>
zab none a168 F m fun a169 m =>
zaa 5 a7 F m fun a170 m =>
zaa 0 a170 F m fun a171 m =>
zab none a171 F m fun a172 m =>
zaa 5 a7 F m fun a173 m =>
zaa 1 a173 F m fun a174 m =>
zab none a174 F m fun a175 m =>
zaa 5 a7 F m fun a176 m =>
zaa 2 a176 F m fun a177 m =>
zab none a177 F m fun a178 m =>
zak [(.int .i64 0),(.int .i64 0),(.int .i64 0),(.int .i64 0),(.int .i64 0),(.str []),(.str [])] [(0,1,(.p (.int .i64 1))),(1,1,a156),(2,1,a14),(3,1,a169),(4,1,a172),(5,1,a175),(6,1,a178)] F m fun a179 m =>
zad (.p (.func F_Q80)) [a0,a179] F m fun _ m =>
j150 [a156,a0,a7] m) <|
y_nil a0 F m fun a181 m =>
zaa 0 a181 F m fun a182 m =>
zab none a182 F m fun a183 m =>
zad (.p (.func F_Q128)) [a183,a19] F m fun a184 m =>
y_neq a184 a14 F m fun a185 m =>
ygd a185 false (yv (x_mov a0)) F m fun a186 m =>
ygd a185 false (y_nil a186) F m fun a187 m =>
ygd a185 false (zaa 0 a187) F m fun a188 m =>
ygd a185 false (zab none a188) F m fun a189 m =>
ygd a185 false (yv (x_mov a19)) F m fun a190 m =>
ygd a185 false (zaa 4 a7) F m fun a191 m =>
ygd a185 false (zab none a191) F m fun a192 m =>
ygd a185 false (zad (.p (.func F_Q129)) [a189,a190]) F m fun a193 m =>
ygd a185 false (y_neq a193 a192) F m fun a194 m =>
zai a185 (.p (.bool true)) a194 F m fun a195 m =>
yckg a185 false F m (.load none (.const a191)) a192 <|
tblk (sxv fun a197=>sxv fun a198=>sxv fun a199=>sx0 (fun m =>
j150 [a197,a198,a199] m)) fun j196 =>
ycond a195 (zaa 4 a7 F m fun a200 m =>
zab none a200 F m fun a201 m =>
zak [(.int .i64 0),(.int .i64 0),(.int .i64 0),(.int .i64 0),(.int .i64 0),(.str []),(.str [])] [(0,1,(.p (.int .i64 3))),(1,1,a19),(2,1,a14),(3,1,a201)] F m fun a202 m =>
zad (.p (.func F_Q80)) [a0,a202] F m fun _ m =>
j196 [a19,a0,a7] m) <|
j196 [a19,a0,a7] m)
noncomputable def zgg:SFun:=⟨2,zof,[],false,false⟩
theorem zlf:SFOK tr.look F_Q81 zgg:=⟨i_Q81,(.sq .lf (.sq .lf (.sq .lf (.sq (.bk [6,0,4] (.sq .lf (.cd [6,0,4] (.sq .lf (.sq .lf (.sq .lf .lf))) (.sq .lf (.cd [6,0,4] .lf .lf))))) (.sq .lf (.sq (.sq .lf (.cd [6,0,4,8] .lf .lf)) (.sq (.sq .lf (.bk [4,6,0,8] (.lp [129,6,0,4,127,8,128] (.sq .lf (.sq (.cj .lf .lf) (.sq (.bk [129,6,0,4,127,8,128] (.sq .lf (.sq .lf (.sq .lf (.cd [129,6,0,4,127,8,128] .lf .lf))))) .lf)))))) (.sq .lf (.bk [] (.lp [154,6,0,8,152,153] (.sq .lf (.sq (.cj .lf .lf) (.sq (.bk [154,6,0,8,152,153] (.sq .lf (.sq .lf (.sq .lf (.cd [154,6,0,8,152,153] .lf .lf))))) .lf))))))))))))),[],look_Q81,rfl,rfl,rfl,rfl,rfl,by kernel_rfl⟩
noncomputable def zes:FOr→Nat→(List IVal→SC)→List IVal→SC:=fun F _ kr=>sxv fun a0=>sxv fun a1=>sx0 (fun m =>
zad (.p (.func F_Q131)) [a0,a1] F m fun a2 m =>
y_geq a2 (.p (.int .i64 0)) F m fun a3 m =>
kr [a3] m)
noncomputable def zbv:SFun:=⟨2,zes,[.tmp 4],false,false⟩
theorem zdz:SFOK tr.look F_Q83 zbv:=⟨i_Q83,(.sq .lf (.sq .lf .lf)),[],look_Q83,rfl,rfl,rfl,rfl,rfl,by kernel_rfl⟩
noncomputable def zyc:FOr→Nat→(List IVal→SC)→List IVal→SC:=fun F _ kr=>sxv fun a0=>sxv fun a1=>sx0 (fun m =>
zab none a1 F m fun a2 m =>
zaq false (.p (.bool false)) ⟨false,[.int]⟩ a2 a0 F m fun a3 m =>
y_not a3 F m fun a4 m =>
kr [a4] m)
noncomputable def zlg:SFun:=⟨2,zyc,[.tmp 3],false,false⟩
theorem zrz:SFOK tr.look F_Q84 zlg:=⟨i_Q84,(.sq .lf (.sq .lf .lf)),[],look_Q84,rfl,rfl,rfl,rfl,rfl,by kernel_rfl⟩
noncomputable def zyd:FOr→Nat→(List IVal→SC)→List IVal→SC:=fun F _ kr=>sxv fun a0=>sxv fun a1=>sxv fun a2=>sx0 (fun m =>
zab none a1 F m fun a3 m =>
zaq false (.p (.bool false)) ⟨false,[.int]⟩ a3 a0 F m fun a4 m =>
y_not a4 F m fun a5 m =>
ygd a5 false (zab none a2) F m fun a6 m =>
ygd a5 false (yv (x_mov a0)) F m fun a7 m =>
ygd a5 false (zaq false (.p (.bool false)) ⟨false,[.int]⟩ a6 a7) F m fun a8 m =>
zai a5 (.p (.bool true)) a8 F m fun a9 m =>
kr [a9] m)
noncomputable def zlh:SFun:=⟨3,zyd,[.tmp 4],false,false⟩
theorem zsa:SFOK tr.look F_Q85 zlh:=⟨i_Q85,(.sq .lf (.sq .lf .lf)),[],look_Q85,rfl,rfl,rfl,rfl,rfl,by kernel_rfl⟩
noncomputable def zako:FOr→Nat→(List IVal→SC)→List IVal→SC:=fun F L kr=>sxv fun a0=>sx0 (fun m =>
y_eql a0 (.p (.str [])) F m fun a1 m =>
ygd a1 false (yv (x_mov a0)) F m fun a2 m =>
ygd a1 false (yv (zdk a2)) F m fun a3 m =>
ygd a1 false (y_gtr a3 (.p (.int .i64 32))) F m fun a4 m =>
zai a1 (.p (.bool true)) a4 F m fun a5 m =>
ycond a5 (kr [(.p (.bool false))] m) <|
yv (zdk a0) F m fun a6 m =>
tblk (sx0 (fun m =>
kr [(.p (.bool true))] m)) fun j7 =>
tloop (fun j8=>sxv fun a9=>sxv fun a10=>sxv fun a11=>sx0 (fun m =>
y_lss a9 a11 F m fun a12 m =>
ycond a12 (tblk (sxv fun a14=>sxv fun a15=>sxv fun a16=>sx0 (fun m =>
y_add a14 (.p (.int .i64 1)) F m fun a17 m =>
j8 [a17,a15,a16] m)) fun j13 =>
yv (zuo a10 a9) F m fun a18 m =>
tblk (sxv fun a20=>sxv fun a21=>sxv fun a22=>sx0 (fun m =>
j13 [a20,a21,a22] m)) fun j19 =>
y_eql a18 (.p (.int .u8 9)) F m fun a23 m =>
tblk (sxv fun a25=>sxv fun a26=>sxv fun a27=>sxv fun a28=>sxv fun a29=>sx0 (fun m =>
ycond a25 (kr [(.p (.bool false))] m) <|
y_geq a29 (.p (.int .u8 65)) F m fun a30 m =>
ygd a30 true (yv (x_mov a29)) F m fun a31 m =>
ygd a30 true (y_leq a31 (.p (.int .u8 90))) F m fun a32 m =>
zai a30 a32 (.p (.bool false)) F m fun a33 m =>
ycond a33 (kr [(.p (.bool false))] m) <|
j19 [a26,a27,a28] m)) fun j24 =>
ycond a23 (j24 [a23,a9,a10,a11,a18] m) <|
y_eql a18 (.p (.int .u8 10)) F m fun a34 m =>
tblk (sxv fun a36=>sxv fun a37=>sxv fun a38=>sxv fun a39=>sxv fun a40=>sx0 (fun m =>
j24 [a36,a37,a38,a39,a40] m)) fun j35 =>
ycond a34 (j35 [a34,a9,a10,a11,a18] m) <|
y_eql a18 (.p (.int .u8 12)) F m fun a41 m =>
tblk (sxv fun a43=>sxv fun a44=>sxv fun a45=>sxv fun a46=>sxv fun a47=>sx0 (fun m =>
j35 [a43,a44,a45,a46,a47] m)) fun j42 =>
ycond a41 (j42 [a41,a9,a10,a11,a18] m) <|
y_eql a18 (.p (.int .u8 32)) F m fun a48 m =>
tblk (sxv fun a50=>sxv fun a51=>sxv fun a52=>sxv fun a53=>sxv fun a54=>sx0 (fun m =>
j42 [a50,a51,a52,a53,a54] m)) fun j49 =>
ycond a48 (j49 [a48,a9,a10,a11,a18] m) <|
y_eql a18 (.p (.int .u8 0)) F m fun a55 m =>
tblk (sxv fun a57=>sxv fun a58=>sxv fun a59=>sxv fun a60=>sxv fun a61=>sx0 (fun m =>
j49 [a57,a58,a59,a60,a61] m)) fun j56 =>
ycond a55 (j56 [a55,a9,a10,a11,a18] m) <|
y_eql a18 (.p (.int .u8 34)) F m fun a62 m =>
tblk (sxv fun a64=>sxv fun a65=>sxv fun a66=>sxv fun a67=>sxv fun a68=>sx0 (fun m =>
j56 [a64,a65,a66,a67,a68] m)) fun j63 =>
ycond a62 (j63 [a62,a9,a10,a11,a18] m) <|
y_eql a18 (.p (.int .u8 39)) F m fun a69 m =>
tblk (sxv fun a71=>sxv fun a72=>sxv fun a73=>sxv fun a74=>sxv fun a75=>sx0 (fun m =>
j63 [a71,a72,a73,a74,a75] m)) fun j70 =>
ycond a69 (j70 [a69,a9,a10,a11,a18] m) <|
y_eql a18 (.p (.int .u8 62)) F m fun a76 m =>
tblk (sxv fun a78=>sxv fun a79=>sxv fun a80=>sxv fun a81=>sxv fun a82=>sx0 (fun m =>
j70 [a78,a79,a80,a81,a82] m)) fun j77 =>
ycond a76 (j77 [a76,a9,a10,a11,a18] m) <|
y_eql a18 (.p (.int .u8 47)) F m fun a83 m =>
tblk (sxv fun a85=>sxv fun a86=>sxv fun a87=>sxv fun a88=>sxv fun a89=>sx0 (fun m =>
j77 [a85,a86,a87,a88,a89] m)) fun j84 =>
ycond a83 (j84 [a83,a9,a10,a11,a18] m) <|
y_eql a18 (.p (.int .u8 61)) F m fun a90 m =>
tblk (sxv fun a92=>sxv fun a93=>sxv fun a94=>sxv fun a95=>sxv fun a96=>sx0 (fun m =>
j84 [a92,a93,a94,a95,a96] m)) fun j91 =>
ycond a90 (j91 [a90,a9,a10,a11,a18] m) <|
y_eql a18 (.p (.int .u8 60)) F m fun a97 m =>
j91 [a97,a9,a10,a11,a18] m) <|
j7 [] m)) L [(.p (.int .i64 0)),a0,a6] m)
noncomputable def zye:SFun:=⟨1,zako,[.tmp 2],true,false⟩
theorem zaek:SFOK tr.look F_Q86 zye:=⟨i_Q86,(.sq .lf (.sq (.sq .lf (.cj (.sq .lf .lf) .lf)) (.sq (.sq .lf (.bk [] (.lp [14,0,13] (.sq .lf (.sq (.cj .lf .lf) (.sq (.bk [14,0,13] (.sq .lf (.sq .lf (.sq .lf (.bk [14,0,13] (.sq (.sq .lf (.cd [27,14,0,13,4] .lf (.sq .lf (.cd [27,14,0,13,4] .lf (.sq .lf (.cd [27,14,0,13,4] .lf (.sq .lf (.cd [27,14,0,13,4] .lf (.sq .lf (.cd [27,14,0,13,4] .lf (.sq .lf (.cd [27,14,0,13,4] .lf (.sq .lf (.cd [27,14,0,13,4] .lf (.sq .lf (.cd [27,14,0,13,4] .lf (.sq .lf (.cd [27,14,0,13,4] .lf (.sq .lf (.cd [27,14,0,13,4] .lf .lf)))))))))))))))))))) (.cj (.sq .lf .lf) (.sq .lf (.cj (.sq .lf .lf) .lf))))))))) .lf)))))) (.sq .lf .lf)))),[],look_Q86,rfl,rfl,rfl,rfl,rfl,by kernel_rfl⟩
noncomputable def zahp:FOr→Nat→(List IVal→SC)→List IVal→SC:=fun F L kr=>sxv fun a0=>sx0 (fun m =>
y_len a0 F m fun a1 m =>
y_gtr a1 (.p (.int .i64 12)) F m fun a2 m =>
ycond a2 (kr [(.p (.bool false))] m) <|
y_len a0 F m fun a3 m =>
tblk (sx0 (fun m =>
kr [(.p (.bool true))] m)) fun j4 =>
tloop (fun j5=>sxv fun a6=>sxv fun a7=>sxv fun a8=>sxv fun a9=>sx0 (fun m =>
y_lss a6 a9 F m fun a10 m =>
ycond a10 (tblk (sxv fun a12=>sxv fun a13=>sxv fun a14=>sxv fun a15=>sx0 (fun m =>
y_add a12 (.p (.int .i64 1)) F m fun a16 m =>
j5 [a16,a13,a14,a15] m)) fun j11 =>
yfresh [a10,a6,a7,a8,a9] [5] m fun m =>
zac 2 a8 a6 F m fun a17 m =>
zab (some 2) a17 F m fun a18 m =>
zah (some 5) [(.str []),(.str [])] F m fun a19 m =>
zae 2 a19 a18 F m fun _ m =>
zaa 0 a19 F m fun a21 m =>
zab none a21 F m fun a22 m =>
y_leq a22 a7 F m fun a23 m =>
ygd a23 false (zaa 0 a19) F m fun a24 m =>
ygd a23 false (zab none a24) F m fun a25 m =>
ygd a23 false (zad (.p (.func F_Q86)) [a25]) F m fun a26 m =>
ygd a23 false (y_not a26) F m fun a27 m =>
zai a23 (.p (.bool true)) a27 F m fun a28 m =>
ygd a28 false (zaa 1 a19) F m fun a29 m =>
ygd a28 false (zab none a29) F m fun a30 m =>
ygd a28 false (yv (zdk a30)) F m fun a31 m =>
ygd a28 false (y_gtr a31 (.p (.int .i64 4096))) F m fun a32 m =>
zai a28 (.p (.bool true)) a32 F m fun a33 m =>
ycond a33 (kr [(.p (.bool false))] m) <|
zaa 0 a19 F m fun a34 m =>
zab none a34 F m fun a35 m =>
j11 [a6,a35,a8,a9] m) <|
j4 [] m)) L [(.p (.int .i64 0)),(.p (.str [])),a0,a3] m)
noncomputable def ztn:SFun:=⟨1,zahp,[.tmp 2],true,false⟩
theorem zzm:SFOK tr.look F_Q87 ztn:=⟨i_Q87,(.sq .lf (.sq (.sq .lf (.cj (.sq .lf .lf) .lf)) (.sq .lf (.sq (.sq .lf (.bk [] (.lp [11,3,9,10] (.sq .lf (.sq (.cj .lf .lf) (.sq (.bk [11,3,9,10] (.sq .lf (.sq (.sq .lf (.cj (.sq .lf .lf) .lf)) .lf))) .lf)))))) (.sq .lf .lf))))),[],look_Q87,rfl,rfl,rfl,rfl,rfl,by kernel_rfl⟩
noncomputable def zahq:FOr→Nat→(List IVal→SC)→List IVal→SC:=fun F L kr=>sxv fun a0=>sx0 (fun m =>
yfresh [a0] [1] m fun m =>
y_box (some 1) 5 a0 F m fun a1 m =>
zab (some 5) a1 F m fun a2 m =>
zab (some 5) a1 F m fun a3 m =>
zad (.p (.func F_Q27)) [a3] F m fun a4 m =>
zak [(.int .i64 0),(.str []),(.str []), .nilslice, .nilslice, .nilslice, .nilslice, .nilslice] [(0,5,a2),(5,1,a4)] F m fun a5 m =>
y_box none 8 a5 F m fun a6 m =>
yck F m (.load (some 5) (.const a1)) a2 <|
zab (some 5) a1 F m fun a7 m =>
zad (.p (.func F_Q132)) [a7] F m fun a8 m =>
y_len a8 F m fun a9 m =>
tblk (sxv fun a11=>sx0 (fun m =>
y_nil a11 F m fun a12 m =>
zaa 5 a12 F m fun a13 m =>
zab none a13 F m fun a14 m =>
y_len a14 F m fun a15 m =>
zco 1 [(.bool false)] a15 a15 F m fun a16 m =>
y_nil a11 F m fun a17 m =>
zaa 7 a17 F m fun a18 m =>
zae 1 a18 a16 F m fun _ m =>
kr [a11] m)) fun j10 =>
tloop (fun j20=>sxv fun a21=>sxv fun a22=>sxv fun a23=>sxv fun a24=>sx0 (fun m =>
y_lss a21 a24 F m fun a25 m =>
ycond a25 (tblk (sxv fun a27=>sxv fun a28=>sxv fun a29=>sxv fun a30=>sx0 (fun m =>
y_add a27 (.p (.int .i64 1)) F m fun a31 m =>
j20 [a31,a28,a29,a30] m)) fun j26 =>
zac 1 a23 a21 F m fun a32 m =>
zab none a32 F m fun a33 m =>
y_nil a22 F m fun a34 m =>
zaa 6 a34 F m fun a35 m =>
zab none a35 F m fun a36 m =>
y_nil a22 F m fun a37 m =>
zaa 5 a37 F m fun a38 m =>
zab none a38 F m fun a39 m =>
zac 10 a39 a21 F m fun a40 m =>
zaa 1 a40 F m fun a41 m =>
zab none a41 F m fun a42 m =>
yv (zfx .u64 a42) F m fun a43 m =>
yv (xgen .shl a43 (.p (.int .u64 32))) F m fun a44 m =>
y_nil a22 F m fun a45 m =>
zaa 5 a45 F m fun a46 m =>
zab none a46 F m fun a47 m =>
zac 10 a47 a21 F m fun a48 m =>
zaa 3 a48 F m fun a49 m =>
zab none a49 F m fun a50 m =>
yv (zfx .u64 a50) F m fun a51 m =>
yv (x_or a44 a51) F m fun a52 m =>
zak [(.int .u64 0),(.int .u64 0)] [(0,1,a33),(1,1,a52)] F m fun a53 m =>
zag 2 1 [(.int .u64 0),(.int .u64 0)] [(0,2,a53)] F m fun a54 m =>
zam 2 a36 a54 F m fun a55 m =>
y_nil a22 F m fun a56 m =>
zaa 6 a56 F m fun a57 m =>
zae 1 a57 a55 F m fun _ m =>
j26 [a21,a22,a23,a24] m) <|
j10 [a22] m)) L [(.p (.int .i64 0)),a6,a8,a9] m)
noncomputable def zto:SFun:=⟨1,zahq,[.tmp 2],false,false⟩
theorem zzn:SFOK tr.look F_Q88 zto:=⟨i_Q88,(.sq .lf (.sq .lf (.sq (.sq .lf (.bk [3] (.lp [14,3,12,13] (.sq .lf (.sq (.cj .lf .lf) (.sq (.bk [14,3,12,13] (.sq .lf .lf)) .lf)))))) (.sq .lf (.sq .lf .lf))))),[],look_Q88,rfl,rfl,rfl,rfl,rfl,by kernel_rfl⟩
noncomputable def zsb:FOr→Nat→(List IVal→SC)→List IVal→SC:=fun F L kr=>sxv fun a0=>sxv fun a1=>sxv fun a2=>sxv fun a3=>sxv fun a4=>sx0 (fun m =>
zab none a2 F m fun a5 m =>
y_nil a5 F m fun a6 m =>
zaa 5 a6 F m fun a7 m =>
zab none a7 F m fun a8 m =>
zac 10 a8 a0 F m fun a9 m =>
zaa 1 a9 F m fun a10 m =>
zab none a10 F m fun a11 m =>
tblk (sx0 (fun m =>
kr [] m)) fun j12 =>
tloop (fun j13=>sxv fun a14=>sxv fun a15=>sxv fun a16=>sxv fun a17=>sxv fun a18=>sxv fun a19=>sxv fun a20=>sx0 (fun m =>
y_lss a14 a20 F m fun a21 m =>
ycond a21 (tblk (sxv fun a23=>sxv fun a24=>sxv fun a25=>sxv fun a26=>sxv fun a27=>sxv fun a28=>sxv fun a29=>sx0 (fun m =>
y_add a23 (.p (.int .i64 1)) F m fun a30 m =>
j13 [a30,a24,a25,a26,a27,a28,a29] m)) fun j22 =>
zab none a19 F m fun a31 m =>
y_add a16 a14 F m fun a32 m =>
y_add a18 a14 F m fun a33 m =>
zak [(.int .i64 0),(.int .i64 0)] [(0,1,a32),(1,1,a33)] F m fun a34 m =>
zag 2 1 [(.int .i64 0),(.int .i64 0)] [(0,2,a34)] F m fun a35 m =>
zam 2 a31 a35 F m fun a36 m =>
zae 1 a19 a36 F m fun _ m =>
zab none a15 F m fun a38 m =>
y_nil a38 F m fun a39 m =>
zaa 7 a39 F m fun a40 m =>
zab none a40 F m fun a41 m =>
y_add a16 a14 F m fun a42 m =>
zab none a17 F m fun a43 m =>
y_nil a43 F m fun a44 m =>
zaa 7 a44 F m fun a45 m =>
zab none a45 F m fun a46 m =>
y_add a18 a14 F m fun a47 m =>
zac 1 a41 a42 F m fun a48 m =>
zae 1 a48 (.p (.bool true)) F m fun _ m =>
zac 1 a46 a47 F m fun a50 m =>
zae 1 a50 (.p (.bool true)) F m fun _ m =>
j22 [a14,a15,a16,a17,a18,a19,a20] m) <|
j12 [] m)) L [(.p (.int .i64 0)),a2,a0,a4,a1,a3,a11] m)
noncomputable def zhs:SFun:=⟨5,zsb,[],false,false⟩
theorem zog:SFOK tr.look F_Q89 zhs:=⟨i_Q89,(.sq .lf (.bk [] (.lp [16,2,0,4,1,3,15] (.sq .lf (.sq (.cj .lf .lf) (.sq (.bk [16,2,0,4,1,3,15] (.sq .lf (.sq .lf .lf))) .lf)))))),[],look_Q89,rfl,rfl,rfl,rfl,rfl,by kernel_rfl⟩
noncomputable def zqf:FOr→Nat→(List IVal→SC)→List IVal→SC:=fun F _ kr=>sxv fun a0=>sxv fun a1=>sx0 (fun m =>
yfresh [a0,a1] [4] m fun m =>
zah (some 4) [(.int .i64 0),(.str []),(.str []), .nilslice, .nilslice] F m fun a2 m =>
yfresh [a2,a0,a1] [5] m fun m =>
y_nil a0 F m fun a3 m =>
zaa 0 a3 F m fun a4 m =>
zab (some 5) a4 F m fun a5 m =>
zad (.p (.func F_Q71)) [a5,a1] F m fun a6 m =>
zaf a6 0 F m fun a7 m =>
zaf a6 1 F m fun _ m =>
zah (some 5) [(.int .i64 0),(.str []),(.str []), .nilslice, .nilslice] F m fun a9 m =>
zae 5 a9 a7 F m fun _ m =>
zab (some 5) a9 F m fun a11 m =>
zae 5 a2 a11 F m fun _ m =>
kr [a2] m)
noncomputable def zgu:SFun:=⟨2,zqf,[.cell 4 (some 5)],false,false⟩
theorem zmj:SFOK tr.look F_Q90 zgu:=⟨i_Q90,(.sq .lf (.sq .lf (.sq .lf .lf))),[],look_Q90,rfl,rfl,rfl,rfl,rfl,by kernel_rfl⟩
noncomputable def zsc:FOr→Nat→(List IVal→SC)→List IVal→SC:=fun F _ kr=>sxv fun a0=>sxv fun a1=>sx0 (fun m =>
yfresh [a0,a1] [2,3] m fun m =>
y_box (some 2) 2 a0 F m fun a2 m =>
y_box (some 3) 2 a1 F m fun a3 m =>
zaa 0 a2 F m fun a4 m =>
zab none a4 F m fun a5 m =>
zaa 0 a3 F m fun a6 m =>
zab none a6 F m fun a7 m =>
zad (.p (.func F_Q40)) [a5,a7] F m fun a8 m =>
kr [a8] m)
noncomputable def zht:SFun:=⟨2,zsc,[.tmp 4],true,false⟩
theorem zoh:SFOK tr.look F_Q91 zht:=⟨i_Q91,(.sq .lf (.sq .lf .lf)),[],look_Q91,rfl,rfl,rfl,rfl,rfl,by kernel_rfl⟩
noncomputable def zji:FOr→Nat→(List IVal→SC)→List IVal→SC:=fun F L kr=>sxv fun a0=>sxv fun a1=>sx0 (fun m =>
zbw F m fun a2 m =>
y_add a1 (.p (.int .i64 1)) F m fun a3 m =>
tblk (sxv fun a5=>sx0 (fun m =>
kr [a5] m)) fun j4 =>
tloop (fun j6=>sxv fun a7=>sxv fun a8=>sxv fun a9=>sxv fun a10=>sx0 (fun m =>
y_nil a8 F m fun a11 m =>
zaa 10 a11 F m fun a12 m =>
zab none a12 F m fun a13 m =>
zac 10 a13 a10 F m fun a14 m =>
zaa 1 a14 F m fun a15 m =>
zab none a15 F m fun a16 m =>
y_add a10 a16 F m fun a17 m =>
y_lss a7 a17 F m fun a18 m =>
ycond a18 (tblk (sxv fun a20=>sxv fun a21=>sxv fun a22=>sxv fun a23=>sx0 (fun m =>
y_add a20 (.p (.int .i64 1)) F m fun a24 m =>
j6 [a24,a21,a22,a23] m)) fun j19 =>
y_nil a8 F m fun a25 m =>
zaa 14 a25 F m fun a26 m =>
zab none a26 F m fun a27 m =>
zaq true (.p (.int .i64 0)) ⟨false,[.int]⟩ a27 a7 F m fun a28 m =>
zaf a28 0 F m fun a29 m =>
zaf a28 1 F m fun a30 m =>
y_not a30 F m fun a31 m =>
ycond a31 (j19 [a7,a8,a9,a10] m) <|
y_nil a8 F m fun a32 m =>
zaa 11 a32 F m fun a33 m =>
zab none a33 F m fun a34 m =>
zac 10 a34 a29 F m fun a35 m =>
zaa 0 a35 F m fun a36 m =>
zab none a36 F m fun a37 m =>
tblk (sxv fun a39=>sxv fun a40=>sxv fun a41=>sxv fun a42=>sx0 (fun m =>
j19 [a39,a40,a41,a42] m)) fun j38 =>
tloop (fun j43=>sxv fun a44=>sxv fun a45=>sxv fun a46=>sxv fun a47=>sxv fun a48=>sx0 (fun m =>
y_geq a44 (.p (.int .i64 0)) F m fun a49 m =>
ycond a49 (tblk (sxv fun a51=>sxv fun a52=>sxv fun a53=>sxv fun a54=>sxv fun a55=>sx0 (fun m =>
y_nil a52 F m fun a56 m =>
zaa 11 a56 F m fun a57 m =>
zab none a57 F m fun a58 m =>
zac 10 a58 a51 F m fun a59 m =>
zaa 0 a59 F m fun a60 m =>
zab none a60 F m fun a61 m =>
j43 [a61,a52,a53,a54,a55] m)) fun j50 =>
zaq false (.p (.int .i64 0)) ⟨false,[.int]⟩ a46 a44 F m fun a62 m =>
y_add a62 (.p (.int .i64 1)) F m fun a63 m =>
zbl ⟨false,[.int]⟩ a46 a44 a63 F m fun _ m =>
j50 [a44,a45,a46,a47,a48] m) <|
j38 [a47,a45,a46,a48] m)) L [a37,a8,a9,a7,a10] m) <|
j4 [a9] m)) L [a3,a0,a2,a1] m)
noncomputable def zdt:SFun:=⟨2,zji,[.tmp 4],false,false⟩
theorem zhu:SFOK tr.look F_Q92 zdt:=⟨i_Q92,(.sq .lf (.sq .lf (.sq (.sq .lf (.bk [5] (.lp [6,0,5,1] (.sq (.sq .lf (.cj .lf .lf)) (.sq (.bk [6,0,5,1] (.sq .lf (.sq (.sq .lf (.cj .lf .lf)) (.sq .lf (.bk [6,0,5,1] (.lp [9,0,5,6,1] (.sq (.sq .lf (.cj .lf .lf)) (.sq (.bk [9,0,5,6,1] .lf) .lf)))))))) .lf))))) (.sq .lf .lf)))),[],look_Q92,rfl,rfl,rfl,rfl,rfl,by kernel_rfl⟩
noncomputable def zjj:FOr→Nat→(List IVal→SC)→List IVal→SC:=fun F _ kr=>sxv fun a0=>sxv fun a1=>sxv fun a2=>sx0 (fun m =>
zab none a1 F m fun a3 m =>
y_nil a3 F m fun a4 m =>
zaa 10 a4 F m fun a5 m =>
zab none a5 F m fun a6 m =>
zab none a2 F m fun a7 m =>
zac 10 a6 a7 F m fun a8 m =>
zaa 1 a8 F m fun a9 m =>
zab none a9 F m fun a10 m =>
zab none a1 F m fun a11 m =>
y_nil a11 F m fun a12 m =>
zaa 11 a12 F m fun a13 m =>
zab none a13 F m fun a14 m =>
zac 10 a14 a0 F m fun a15 m =>
zaa 1 a15 F m fun a16 m =>
zab none a16 F m fun a17 m =>
y_add a10 a17 F m fun a18 m =>
y_sub a18 (.p (.int .i64 2)) F m fun a19 m =>
kr [a19] m)
noncomputable def zdu:SFun:=⟨3,zjj,[.tmp 4],false,false⟩
theorem zhv:SFOK tr.look F_Q93 zdu:=⟨i_Q93,(.sq .lf (.sq .lf .lf)),[],look_Q93,rfl,rfl,rfl,rfl,rfl,by kernel_rfl⟩
noncomputable def zaoe:FOr→Nat→(List IVal→SC)→List IVal→SC:=fun F _ kr=>sxv fun a0=>sx0 (fun m =>
yfresh [a0] [1,2] m fun m =>
y_box (some 1) 10 a0 F m fun a1 m =>
zah (some 2) [(.int .i64 0),(.str [])] F m fun a2 m =>
zaa 5 a1 F m fun a3 m =>
zaa 0 a3 F m fun a4 m =>
zab none a4 F m fun a5 m =>
zaa 5 a1 F m fun a6 m =>
zaa 1 a6 F m fun a7 m =>
zab none a7 F m fun a8 m =>
zak [(.int .i64 0),(.str [])] [(0,1,a5),(1,1,a8)] F m fun a9 m =>
zae 2 a2 a9 F m fun _ m =>
kr [a2] m)
noncomputable def zabp:SFun:=⟨1,zaoe,[.cell 2 (some 2)],true,false⟩
theorem zahr:SFOK tr.look F_Q94 zabp:=⟨i_Q94,(.sq .lf (.sq .lf .lf)),[],look_Q94,rfl,rfl,rfl,rfl,rfl,by kernel_rfl⟩
noncomputable def zzo:FOr→Nat→(List IVal→SC)→List IVal→SC:=fun F _ kr=>sxv fun a0=>sxv fun a1=>sx0 (fun m =>
yv (x_mul (.p (.int .i64 4)) a0) F m fun a2 m =>
y_gtr a2 a1 F m fun a3 m =>
kr [a3] m)
noncomputable def znb:SFun:=⟨2,zzo,[.tmp 4],true,false⟩
theorem ztz:SFOK tr.look F_Q96 znb:=⟨i_Q96,(.sq .lf (.sq .lf .lf)),[],look_Q96,rfl,rfl,rfl,rfl,rfl,by kernel_rfl⟩
noncomputable def zyf:FOr→Nat→(List IVal→SC)→List IVal→SC:=fun F _ kr=>sxv fun a0=>sxv fun a1=>sx0 (fun m =>
yfresh [a0,a1] [2,3] m fun m =>
y_box (some 2) 5 a0 F m fun a2 m =>
y_box (some 3) 5 a1 F m fun a3 m =>
yfresh [(.p (.int .i64 0)),(.p .nilslice),a3,a2,a0,a1] [7,8] m fun m =>
zab (some 5) a2 F m fun a4 m =>
zab (some 5) a3 F m fun a5 m =>
zad (.p (.func F_Q133)) [a4,a5] F m fun a6 m =>
zaf a6 0 F m fun a7 m =>
zaf a6 1 F m fun a8 m =>
zaf a6 2 F m fun a9 m =>
zaf a6 3 F m fun a10 m =>
zah (some 7) [(.int .i64 0),(.int .i64 0)] F m fun a11 m =>
zah (some 8) [(.int .i64 0),(.int .i64 0)] F m fun a12 m =>
zae 2 a11 a8 F m fun _ m =>
zae 2 a12 a9 F m fun _ m =>
y_not a10 F m fun a15 m =>
ycond a15 (kr [(.p .nilslice),(.p (.int .i64 2))] m) <|
zab (some 2) a11 F m fun a16 m =>
zab (some 2) a12 F m fun a17 m =>
zad (.p (.func F_Q134)) [a7,a16,a17] F m fun a18 m =>
zad (.p (.func F_Q38)) [a18,(.p (.func F_Q135))] F m fun _ m =>
kr [a18,(.p (.int .i64 0))] m)
noncomputable def zli:SFun:=⟨2,zyf,[.tmp 4, .tmp 5],true,true⟩
theorem zsd:SFOK tr.look F_Q97 zli:=⟨i_Q97,(.sq .lf (.sq .lf (.sq (.sq .lf (.cj (.sq .lf .lf) .lf)) (.sq .lf (.sq .lf (.sq .lf .lf)))))),[],look_Q97,rfl,rfl,rfl,rfl,rfl,by kernel_rfl⟩
noncomputable def zcq:FOr→Nat→(List IVal→SC)→List IVal→SC:=fun F L kr=>sxv fun a0=>sxv fun a1=>sxv fun a2=>sx0 (fun m =>
y_add a1 (.p (.int .i64 1)) F m fun a3 m =>
tblk (sx0 (fun m =>
kr [] m)) fun j4 =>
tloop (fun j5=>sxv fun a6=>sxv fun a7=>sxv fun a8=>sxv fun a9=>sx0 (fun m =>
y_lss a7 a9 F m fun a10 m =>
ycond a10 (tblk (sxv fun a12=>sxv fun a13=>sxv fun a14=>sxv fun a15=>sx0 (fun m =>
y_add a12 (.p (.int .i64 1)) F m fun a16 m =>
j5 [a13,a16,a14,a15] m)) fun j11 =>
tblk (sxv fun a18=>sxv fun a19=>sxv fun a20=>sxv fun a21=>sx0 (fun m =>
j11 [a18,a19,a20,a21] m)) fun j17 =>
tloop (fun j22=>sxv fun a23=>sxv fun a24=>sxv fun a25=>sxv fun a26=>sxv fun a27=>sx0 (fun m =>
y_gtr a23 a26 F m fun a28 m =>
ygd a28 true (yv (x_mov a24)) F m fun a29 m =>
ygd a28 true (yv (x_mov a23)) F m fun a30 m =>
ygd a28 true (zac 1 a29 a30) F m fun a31 m =>
ygd a28 true (zab none a31) F m fun a32 m =>
ygd a28 true (yv (x_mov a24)) F m fun a33 m =>
ygd a28 true (yv (x_mov a23)) F m fun a34 m =>
ygd a28 true (y_sub a34 (.p (.int .i64 1))) F m fun a35 m =>
ygd a28 true (zac 1 a33 a35) F m fun a36 m =>
ygd a28 true (zab none a36) F m fun a37 m =>
ygd a28 true (zad (.p (.func 105)) [a32,a37]) F m fun a38 m =>
zai a28 a38 (.p (.bool false)) F m fun a39 m =>
ycond a39 (tblk (sxv fun a41=>sxv fun a42=>sxv fun a43=>sxv fun a44=>sxv fun a45=>sx0 (fun m =>
y_sub a41 (.p (.int .i64 1)) F m fun a46 m =>
j22 [a46,a42,a43,a44,a45] m)) fun j40 =>
y_sub a23 (.p (.int .i64 1)) F m fun a47 m =>
y_sub a23 (.p (.int .i64 1)) F m fun a48 m =>
zac 1 a24 a48 F m fun a49 m =>
zab none a49 F m fun a50 m =>
zac 1 a24 a23 F m fun a51 m =>
zab none a51 F m fun a52 m =>
zac 1 a24 a23 F m fun a53 m =>
zae 1 a53 a50 F m fun _ m =>
zac 1 a24 a47 F m fun a55 m =>
zae 1 a55 a52 F m fun _ m =>
j40 [a23,a24,a25,a26,a27] m) <|
j17 [a25,a26,a24,a27] m)) L [a7,a8,a7,a6,a9] m) <|
j4 [] m)) L [a1,a3,a0,a2] m)
noncomputable def zba:SFun:=⟨3,zcq,[],true,false⟩
theorem zch:SFOK tr.look F_Q99 zba:=⟨i_Q99,(.sq .lf (.bk [] (.lp [1,6,0,2] (.sq (.sq .lf (.cj .lf .lf)) (.sq (.bk [6,1,0,2] (.sq .lf (.bk [6,1,0,2] (.lp [7,0,6,1,2] (.sq (.sq .lf (.cj .lf .lf)) (.sq (.bk [7,0,6,1,2] .lf) .lf)))))) .lf))))),[],look_Q99,rfl,rfl,rfl,rfl,rfl,by kernel_rfl⟩
noncomputable def zse:FOr→Nat→(List IVal→SC)→List IVal→SC:=fun F _ kr=>sxv fun a0=>sx0 (fun m =>
y_geq a0 (.p (.int .u64 4294967296)) F m fun a1 m =>
tblk (sxv fun a3=>sxv fun a4=>sx0 (fun m =>
y_geq a3 (.p (.int .u64 65536)) F m fun a5 m =>
tblk (sxv fun a7=>sxv fun a8=>sx0 (fun m =>
y_geq a7 (.p (.int .u64 256)) F m fun a9 m =>
tblk (sxv fun a11=>sxv fun a12=>sx0 (fun m =>
yv (zfx .u8 a12) F m fun a13 m =>
yv (zuo (.p (.str [0,1,2,2,3,3,3,3,4,4,4,4,4,4,4,4,5,5,5,5,5,5,5,5,5,5,5,5,5,5,5,5,6,6,6,6,6,6,6,6,6,6,6,6,6,6,6,6,6,6,6,6,6,6,6,6,6,6,6,6,6,6,6,6,7,7,7,7,7,7,7,7,7,7,7,7,7,7,7,7,7,7,7,7,7,7,7,7,7,7,7,7,7,7,7,7,7,7,7,7,7,7,7,7,7,7,7,7,7,7,7,7,7,7,7,7,7,7,7,7,7,7,7,7,7,7,7,7,8,8,8,8,8,8,8,8,8,8,8,8,8,8,8,8,8,8,8,8,8,8,8,8,8,8,8,8,8,8,8,8,8,8,8,8,8,8,8,8,8,8,8,8,8,8,8,8,8,8,8,8,8,8,8,8,8,8,8,8,8,8,8,8,8,8,8,8,8,8,8,8,8,8,8,8,8,8,8,8,8,8,8,8,8,8,8,8,8,8,8,8,8,8,8,8,8,8,8,8,8,8,8,8,8,8,8,8,8,8,8,8,8,8,8,8,8,8,8,8,8,8,8,8,8,8,8,8])) a13) F m fun a14 m =>
yv (zfx .i64 a14) F m fun a15 m =>
y_add a11 a15 F m fun a16 m =>
kr [a16] m)) fun j10 =>
ycond a9 (yv (xgen .shr a7 (.p (.int .u64 8))) F m fun a17 m =>
y_add a8 (.p (.int .i64 8)) F m fun a18 m =>
j10 [a18,a17] m) <|
j10 [a8,a7] m)) fun j6 =>
ycond a5 (yv (xgen .shr a3 (.p (.int .u64 16))) F m fun a19 m =>
y_add a4 (.p (.int .i64 16)) F m fun a20 m =>
j6 [a19,a20] m) <|
j6 [a3,a4] m)) fun j2 =>
ycond a1 (yv (xgen .shr a0 (.p (.int .u64 32))) F m fun a21 m =>
j2 [a21,(.p (.int .i64 32))] m) <|
j2 [a0,(.p (.int .i64 0))] m)
noncomputable def zhw:SFun:=⟨1,zse,[.tmp 2],true,false⟩
theorem zoi:SFOK tr.look F_Q109 zhw:=⟨i_Q109,(.sq .lf (.sq (.sq .lf (.cd [0,2] (.sq .lf .lf) .lf)) (.sq (.sq .lf (.cd [0,2] (.sq .lf .lf) .lf)) (.sq (.sq .lf (.cd [2,0] (.sq .lf .lf) .lf)) (.sq .lf .lf))))),[],look_Q109,rfl,rfl,rfl,rfl,rfl,by kernel_rfl⟩
noncomputable def zahs:FOr→Nat→(List IVal→SC)→List IVal→SC:=fun F _ kr=>sxv fun a0=>sxv fun a1=>sxv fun a2=>sxv fun a3=>sxv fun a4=>sx0 (fun m =>
yfresh [a0,a1,a2,a3,a4] [6] m fun m =>
y_box (some 6) 4 a1 F m fun a5 m =>
zab none a2 F m fun a6 m =>
y_eql a0 a6 F m fun a7 m =>
tblk (sxv fun a9=>sx0 (fun m =>
zab none a9 F m fun a10 m =>
y_not a10 F m fun a11 m =>
kr [a11] m)) fun j8 =>
ycond a7 (zaa 0 a5 F m fun a12 m =>
zab none a12 F m fun a13 m =>
y_nil a13 F m fun a14 m =>
zab (some 5) a14 F m fun a15 m =>
zae 5 a3 a15 F m fun _ m =>
zae 1 a4 (.p (.bool true)) F m fun _ m =>
j8 [a4] m) <|
j8 [a4] m)
noncomputable def ztp:SFun:=⟨5,zahs,[.tmp 7],false,false⟩
theorem zzp:SFOK tr.look F_Q110 ztp:=⟨i_Q110,(.sq .lf (.sq (.sq .lf (.cd [4] .lf .lf)) (.sq .lf .lf))),[],look_Q110,rfl,rfl,rfl,rfl,rfl,by kernel_rfl⟩
noncomputable def zdp:FOr→Nat→(List IVal→SC)→List IVal→SC:=fun F L kr=>sxv fun a0=>sxv fun a1=>sxv fun a2=>sxv fun a3=>sxv fun a4=>sx0 (fun m =>
tblk (sx0 (fun m =>
kr [] m)) fun _ =>
tloop (fun j6=>sxv fun a7=>sxv fun a8=>sxv fun a9=>sxv fun a10=>sxv fun a11=>sxv fun a12=>sxv fun a13=>sx0 (fun m =>
tblk (sxv fun a15=>sxv fun a16=>sxv fun a17=>sxv fun a18=>sxv fun a19=>sxv fun a20=>sxv fun a21=>sx0 (fun m =>
j6 [a15,a16,a17,a18,a19,a20,a21] m)) fun j14 =>
y_sub a8 a9 F m fun a22 m =>
y_leq a22 (.p (.int .i64 12)) F m fun a23 m =>
ycond a23 (zad (.p (.func F_Q141)) [a10,a9,a8,a7] F m fun _ m =>
kr [] m) <|
y_eql a13 (.p (.int .i64 0)) F m fun a25 m =>
ycond a25 (zad (.p (.func 142)) [a10,a9,a8,a7] F m fun _ m =>
kr [] m) <|
y_not a12 F m fun a27 m =>
tblk (sxv fun a29=>sxv fun a30=>sxv fun a31=>sxv fun a32=>sxv fun a33=>sxv fun a34=>sxv fun a35=>sxv fun a36=>sx0 (fun m =>
zad (.p (.func 144)) [a32,a35,a33,a34] F m fun a37 m =>
zaf a37 0 F m fun a38 m =>
zaf a37 1 F m fun a39 m =>
y_eql a39 (.p (.int .i64 2)) F m fun a40 m =>
tblk (sxv fun a42=>sxv fun a43=>sxv fun a44=>sxv fun a45=>sxv fun a46=>sxv fun a47=>sxv fun a48=>sxv fun a49=>sxv fun a50=>sxv fun a51=>sx0 (fun m =>
ygd a44 true (yv (x_mov a45)) F m fun a52 m =>
zai a44 a52 (.p (.bool false)) F m fun a53 m =>
ygd a53 true (yv (x_mov a42)) F m fun a54 m =>
ygd a53 true (y_eql a54 (.p (.int .i64 1))) F m fun a55 m =>
zai a53 a55 (.p (.bool false)) F m fun a56 m =>
tblk (sxv fun a58=>sxv fun a59=>sxv fun a60=>sxv fun a61=>sxv fun a62=>sxv fun a63=>sxv fun a64=>sxv fun a65=>sxv fun a66=>sx0 (fun m =>
y_gtr a59 (.p (.int .i64 0)) F m fun a67 m =>
ygd a67 true (yv (x_mov a61)) F m fun a68 m =>
ygd a67 true (yv (x_mov a63)) F m fun a69 m =>
ygd a67 true (yv (x_mov a59)) F m fun a70 m =>
ygd a67 true (y_sub a70 (.p (.int .i64 1))) F m fun a71 m =>
ygd a67 true (zac 2 a69 a71) F m fun a72 m =>
ygd a67 true (zab (some 2) a72) F m fun a73 m =>
ygd a67 true (yv (x_mov a63)) F m fun a74 m =>
ygd a67 true (yv (x_mov a60)) F m fun a75 m =>
ygd a67 true (zac 2 a74 a75) F m fun a76 m =>
ygd a67 true (zab (some 2) a76) F m fun a77 m =>
ygd a67 true (zad a68 [a73,a77]) F m fun a78 m =>
ygd a67 true (y_lss a78 (.p (.int .i64 0))) F m fun a79 m =>
ygd a67 true (y_not a79) F m fun a80 m =>
zai a67 a80 (.p (.bool false)) F m fun a81 m =>
ycond a81 (zad (.p (.func 147)) [a63,a59,a62,a60,a61] F m fun a82 m =>
j14 [a61,a62,a82,a63,a64,a65,a66] m) <|
zad (.p (.func 148)) [a63,a59,a62,a60,a61] F m fun a83 m =>
zaf a83 0 F m fun a84 m =>
zaf a83 1 F m fun a85 m =>
y_sub a84 a59 F m fun a86 m =>
y_sub a62 a84 F m fun a87 m =>
yv (xgen .quo a58 (.p (.int .i64 8))) F m fun a88 m =>
y_lss a86 a87 F m fun a89 m =>
tblk (sxv fun a91=>sxv fun a92=>sxv fun a93=>sxv fun a94=>sxv fun a95=>sxv fun a96=>sxv fun a97=>sx0 (fun m =>
j14 [a91,a92,a93,a94,a95,a96,a97] m)) fun j90 =>
ycond a89 (y_geq a86 a88 F m fun a98 m =>
zad (.p (.func F_Q111)) [a63,a59,a84,a66,a61] F m fun _ m =>
y_add a84 (.p (.int .i64 1)) F m fun a100 m =>
j90 [a61,a62,a100,a63,a85,a98,a66] m) <|
y_geq a87 a88 F m fun a101 m =>
y_add a84 (.p (.int .i64 1)) F m fun a102 m =>
zad (.p (.func F_Q111)) [a63,a102,a62,a66,a61] F m fun _ m =>
j90 [a61,a84,a59,a63,a85,a101,a66] m)) fun j57 =>
ycond a56 (zad (.p (.func 146)) [a46,a50,a47,a48] F m fun a104 m =>
ycond a104 (kr [] m) <|
j57 [a51,a50,a49,a48,a47,a46,a45,a44,a43] m) <|
j57 [a51,a50,a49,a48,a47,a46,a45,a44,a43] m)) fun j41 =>
ycond a40 (zad (.p (.func 145)) [a32,a35,a33,a34] F m fun _ m =>
y_sub a33 (.p (.int .i64 1)) F m fun a106 m =>
y_sub a38 a35 F m fun a107 m =>
y_sub a106 a107 F m fun a108 m =>
j41 [(.p (.int .i64 1)),a29,a30,a31,a32,a33,a34,a108,a35,a36] m) <|
j41 [a39,a29,a30,a31,a32,a33,a34,a38,a35,a36] m)) fun j28 =>
ycond a27 (zad (.p (.func 143)) [a10,a9,a8,a7] F m fun _ m =>
y_sub a13 (.p (.int .i64 1)) F m fun a110 m =>
j28 [a110,a12,a11,a10,a8,a7,a9,a22] m) <|
j28 [a13,a12,a11,a10,a8,a7,a9,a22] m)) L [a4,a2,a1,a0,(.p (.bool true)),(.p (.bool true)),a3] m)
noncomputable def zbj:SFun:=⟨5,zdp,[],false,false⟩
theorem zdb:SFOK tr.look F_Q111 zbj:=⟨i_Q111,(.sq .lf (.sq .lf (.bk [] (.lp [4,2,1,0,11,10,3] (.bk [4,2,1,0,11,10,3] (.sq .lf (.sq (.sq .lf (.cj (.sq .lf .lf) .lf)) (.sq (.sq .lf (.cj (.sq .lf .lf) .lf)) (.sq (.sq .lf (.cd [3,10,11,0,2,4,1,12] (.sq .lf .lf) .lf)) (.sq .lf (.sq (.sq .lf (.cd [14,3,10,11,0,2,4,13,1,12] (.sq .lf (.sq .lf .lf)) .lf)) (.sq (.sq .lf (.cd [12,1,13,4,2,0,11,10,3] (.sq .lf (.cj .lf .lf)) .lf)) (.sq (.sq .lf (.cj (.sq .lf (.sq .lf .lf)) .lf)) (.sq .lf (.sq .lf (.sq .lf (.sq .lf (.sq .lf (.cd [4,2,1,0,11,10,3] (.sq .lf (.sq .lf .lf)) (.sq .lf (.sq .lf .lf))))))))))))))))))))),[],look_Q111,rfl,rfl,rfl,rfl,rfl,by kernel_rfl⟩
noncomputable def zael:FOr→Nat→(List IVal→SC)→List IVal→SC:=fun F L kr=>sxv fun a0=>sxv fun a1=>sxv fun a2=>sx0 (fun m =>
yfresh [a0,a1,a2] [4] m fun m =>
y_box (some 4) 5 a1 F m fun a3 m =>
y_nil a0 F m fun a4 m =>
zaa 0 a4 F m fun a5 m =>
zab none a5 F m fun a6 m =>
y_len a6 F m fun a7 m =>
zab (some 5) a3 F m fun a8 m =>
zad (.p (.func F_Q152)) [a0,a7,a2,a8] F m fun _ m =>
zaa 4 a3 F m fun a10 m =>
zab none a10 F m fun a11 m =>
y_len a11 F m fun a12 m =>
tblk (sxv fun a14=>sx0 (fun m =>
kr [a14] m)) fun j13 =>
tloop (fun j15=>sxv fun a16=>sxv fun a17=>sxv fun a18=>sxv fun a19=>sxv fun a20=>sx0 (fun m =>
y_lss a16 a20 F m fun a21 m =>
ycond a21 (tblk (sxv fun a23=>sxv fun a24=>sxv fun a25=>sxv fun a26=>sxv fun a27=>sx0 (fun m =>
y_add a23 (.p (.int .i64 1)) F m fun a28 m =>
j15 [a28,a24,a25,a26,a27] m)) fun j22 =>
yfresh [a21,a16,a17,a18,a19,a20] [9] m fun m =>
zac 5 a19 a16 F m fun a29 m =>
zab (some 5) a29 F m fun a30 m =>
zah (some 9) [(.int .i64 0),(.str []),(.str []), .nilslice, .nilslice] F m fun a31 m =>
zae 5 a31 a30 F m fun _ m =>
zab (some 5) a31 F m fun a33 m =>
zad (.p (.func F_Q121)) [a17,a33,a18] F m fun a34 m =>
y_nil a17 F m fun a35 m =>
zaa 0 a35 F m fun a36 m =>
zab none a36 F m fun a37 m =>
y_nil a17 F m fun a38 m =>
zaa 0 a38 F m fun a39 m =>
zab none a39 F m fun a40 m =>
zac 8 a40 a18 F m fun a41 m =>
zaa 7 a41 F m fun a42 m =>
zab none a42 F m fun a43 m =>
zag 1 1 [(.int .i64 0)] [(0,1,a34)] F m fun a44 m =>
zam 1 a43 a44 F m fun a45 m =>
zac 8 a37 a18 F m fun a46 m =>
zaa 7 a46 F m fun a47 m =>
yck F m (.load none (.const a36)) a37 <|
zae 1 a47 a45 F m fun _ m =>
j22 [a16,a17,a18,a19,a20] m) <|
j13 [a18] m)) L [(.p (.int .i64 0)),a0,a7,a11,a12] m)
noncomputable def zqg:SFun:=⟨3,zael,[.tmp 6],false,false⟩
theorem zyg:SFOK tr.look F_Q121 zqg:=⟨i_Q121,(.sq .lf (.sq .lf (.sq .lf (.sq (.sq .lf (.bk [7] (.lp [24,0,7,22,23] (.sq .lf (.sq (.cj .lf .lf) (.sq (.bk [24,0,7,22,23] (.sq .lf (.sq .lf .lf))) .lf)))))) (.sq .lf .lf))))),[],look_Q121,rfl,rfl,rfl,rfl,rfl,by kernel_rfl⟩
noncomputable def zua:FOr→Nat→(List IVal→SC)→List IVal→SC:=fun F _ kr=>sxv fun a0=>sxv fun a1=>sxv fun a2=>sxv fun a3=>sxv fun a4=>sx0 (fun m =>
yfresh [a0,a1,a2,a3,a4] [9] m fun m =>
y_box (some 9) 5 a4 F m fun a5 m =>
zad (.p (.func F_Q153)) [a0,a2] F m fun a6 m =>
tblk (sxv fun a8=>sxv fun a9=>sxv fun a10=>sxv fun a11=>sxv fun a12=>sx0 (fun m =>
zab (some 5) a8 F m fun a13 m =>
zad (.p (.func F_Q152)) [a9,a12,a10,a13] F m fun _ m =>
zad (.p (.func F_Q153)) [a9,a10] F m fun a15 m =>
y_nil a15 F m fun a16 m =>
zaa 7 a16 F m fun a17 m =>
zab none a17 F m fun a18 m =>
zag 1 1 [(.int .i64 0)] [(0,1,a12)] F m fun a19 m =>
zad (.p (.func F_Q157)) [a18,a11,a19] F m fun a20 m =>
y_nil a15 F m fun a21 m =>
zaa 7 a21 F m fun a22 m =>
zae 1 a22 a20 F m fun _ m =>
kr [(.p (.int .i64 0))] m)) fun j7 =>
zad (.p (.func F_Q154)) [a0,a1] F m fun a24 m =>
ygd a24 false (yv (x_mov a1)) F m fun a25 m =>
ygd a24 false (y_lss a25 (.p (.int .i64 1))) F m fun a26 m =>
zai a24 (.p (.bool true)) a26 F m fun a27 m =>
ygd a27 false (yv (x_mov a1)) F m fun a28 m =>
ygd a27 false (y_gtr a28 (.p (.int .i64 1048576))) F m fun a29 m =>
zai a27 (.p (.bool true)) a29 F m fun a30 m =>
tblk (sxv fun a32=>sxv fun a33=>sxv fun a34=>sxv fun a35=>sxv fun a36=>sxv fun a37=>sxv fun a38=>sx0 (fun m =>
ycond a32 (kr [(.p (.int .i64 1))] m) <|
y_nil a35 F m fun a39 m =>
zaa 0 a39 F m fun a40 m =>
zab none a40 F m fun a41 m =>
y_len a41 F m fun a42 m =>
y_geq a42 (.p (.int .i64 300)) F m fun a43 m =>
ycond a43 (kr [(.p (.int .i64 2))] m) <|
yv (zhc false (.const a33) (.const (.p .nilptr))) F m fun a44 m =>
ycond a44 (kr [(.p (.int .i64 3))] m) <|
zaa 0 a34 F m fun a45 m =>
zab none a45 F m fun a46 m =>
zad (.p (.func F_Q155)) [a33,a46] F m fun a47 m =>
y_not a47 F m fun a48 m =>
ycond a48 (kr [(.p (.int .i64 4))] m) <|
y_lss a37 (.p (.int .i64 0)) F m fun a49 m =>
ygd a49 false (yv (x_mov a37)) F m fun a50 m =>
ygd a49 false (yv (x_mov a33)) F m fun a51 m =>
ygd a49 false (y_nil a51) F m fun a52 m =>
ygd a49 false (zaa 7 a52) F m fun a53 m =>
ygd a49 false (zab none a53) F m fun a54 m =>
ygd a49 false (y_len a54) F m fun a55 m =>
ygd a49 false (y_gtr a50 a55) F m fun a56 m =>
zai a49 (.p (.bool true)) a56 F m fun a57 m =>
ycond a57 (kr [(.p (.int .i64 5))] m) <|
zad (.p (.func F_Q156)) [a35,a36] F m fun a58 m =>
y_geq a58 (.p (.int .i64 60)) F m fun a59 m =>
ycond a59 (kr [(.p (.int .i64 2))] m) <|
j7 [a34,a35,a36,a37,a38] m)) fun j31 =>
ycond a30 (j31 [a30,a6,a5,a0,a2,a3,a1] m) <|
zaa 4 a5 F m fun a60 m =>
zab none a60 F m fun a61 m =>
y_len a61 F m fun a62 m =>
y_gtr a62 (.p (.int .i64 0)) F m fun a63 m =>
ygd a63 false (zaa 3 a5) F m fun a64 m =>
ygd a63 false (zab none a64) F m fun a65 m =>
ygd a63 false (y_len a65) F m fun a66 m =>
ygd a63 false (y_gtr a66 (.p (.int .i64 0))) F m fun a67 m =>
zai a63 (.p (.bool true)) a67 F m fun a68 m =>
ygd a68 false (zab (some 5) a5) F m fun a69 m =>
ygd a68 false (zag 5 1 [(.int .i64 0),(.str []),(.str []), .nilslice, .nilslice] [(0,5,a69)]) F m fun a70 m =>
ygd a68 false (zak [(.int .i64 0),(.str []),(.str []), .nilslice, .nilslice] [(0,1,(.p (.int .i64 1))),(4,1,a70)]) F m fun a71 m =>
ygd a68 false (zad (.p (.func F_Q15)) [a71]) F m fun a72 m =>
ygd a68 false (y_not a72) F m fun a73 m =>
zai a68 (.p (.bool true)) a73 F m fun a74 m =>
j31 [a74,a6,a5,a0,a2,a3,a1] m)
noncomputable def ziv:SFun:=⟨5,zua,[.tmp 10],false,false⟩
theorem zqh:SFOK tr.look F_Q122 ziv:=⟨i_Q122,(.sq .lf (.sq .lf (.sq (.bk [9,0,2,3,1] (.sq (.sq .lf (.cd [15,11,9,0,2,3,1] .lf .lf)) (.cj (.sq .lf .lf) (.sq .lf (.cj (.sq .lf .lf) (.sq .lf (.cj (.sq .lf .lf) (.sq .lf (.cj (.sq .lf .lf) (.sq .lf (.cj (.sq .lf .lf) (.sq .lf (.cj (.sq .lf .lf) .lf))))))))))))) (.sq .lf (.sq .lf (.sq .lf (.sq .lf .lf))))))),[],look_Q122,rfl,rfl,rfl,rfl,rfl,by kernel_rfl⟩
noncomputable def zzq:FOr→Nat→(List IVal→SC)→List IVal→SC:=fun F _ kr=>sxv fun a0=>sxv fun a1=>sxv fun a2=>sxv fun a3=>sx0 (fun m =>
zad (.p (.func F_Q153)) [a0,a1] F m fun a4 m =>
zad (.p (.func F_Q153)) [a0,a2] F m fun a5 m =>
tblk (sxv fun a7=>sxv fun a8=>sxv fun a9=>sxv fun a10=>sxv fun a11=>sxv fun a12=>sx0 (fun m =>
y_nil a10 F m fun a13 m =>
zaa 7 a13 F m fun a14 m =>
zab none a14 F m fun a15 m =>
y_len a15 F m fun a16 m =>
y_nil a8 F m fun a17 m =>
zaa 1 a17 F m fun a18 m =>
zab none a18 F m fun a19 m =>
y_eql a19 a9 F m fun a20 m =>
tblk (sxv fun a22=>sxv fun a23=>sxv fun a24=>sxv fun a25=>sxv fun a26=>sxv fun a27=>sxv fun a28=>sx0 (fun m =>
tblk (sxv fun a30=>sxv fun a31=>sxv fun a32=>sxv fun a33=>sxv fun a34=>sxv fun a35=>sx0 (fun m =>
zad (.p (.func F_Q158)) [a30,a35] F m fun _ m =>
y_nil a31 F m fun a37 m =>
zaa 1 a37 F m fun a38 m =>
zae 1 a38 a32 F m fun _ m =>
y_nil a33 F m fun a40 m =>
zaa 7 a40 F m fun a41 m =>
zab none a41 F m fun a42 m =>
zag 1 1 [(.int .i64 0)] [(0,1,a35)] F m fun a43 m =>
zad (.p (.func F_Q157)) [a42,a34,a43] F m fun a44 m =>
y_nil a33 F m fun a45 m =>
zaa 7 a45 F m fun a46 m =>
zae 1 a46 a44 F m fun _ m =>
kr [(.p (.int .i64 0))] m)) fun j29 =>
y_lss a27 (.p (.int .i64 0)) F m fun a48 m =>
ygd a48 false (yv (x_mov a27)) F m fun a49 m =>
ygd a48 false (yv (x_mov a22)) F m fun a50 m =>
ygd a48 false (y_gtr a49 a50) F m fun a51 m =>
zai a48 (.p (.bool true)) a51 F m fun a52 m =>
ycond a52 (kr [(.p (.int .i64 5))] m) <|
zad (.p (.func F_Q156)) [a23,a25] F m fun a53 m =>
zad (.p (.func F_Q160)) [a23,a28] F m fun a54 m =>
y_add a53 a54 F m fun a55 m =>
y_gtr a55 (.p (.int .i64 60)) F m fun a56 m =>
ycond a56 (kr [(.p (.int .i64 2))] m) <|
j29 [a23,a24,a25,a26,a27,a28] m)) fun j21 =>
ycond a20 (y_sub a16 (.p (.int .i64 1)) F m fun a57 m =>
j21 [a57,a7,a8,a9,a10,a11,a12] m) <|
j21 [a16,a7,a8,a9,a10,a11,a12] m)) fun j6 =>
yv (zhc false (.const a4) (.const (.p .nilptr))) F m fun a58 m =>
ygd a58 false (yv (x_mov a5)) F m fun a59 m =>
ygd a58 false (yv (zhc false (.const a59) (.const (.p .nilptr)))) F m fun a60 m =>
zai a58 (.p (.bool true)) a60 F m fun a61 m =>
ycond a61 (kr [(.p (.int .i64 3))] m) <|
y_nil a4 F m fun a62 m =>
zaa 2 a62 F m fun a63 m =>
zaa 0 a63 F m fun a64 m =>
zab none a64 F m fun a65 m =>
y_eql a65 (.p (.int .i64 1)) F m fun a66 m =>
ygd a66 false (yv (x_mov a5)) F m fun a67 m =>
ygd a66 false (yv (x_mov a4)) F m fun a68 m =>
ygd a66 false (y_nil a68) F m fun a69 m =>
ygd a66 false (zaa 2 a69) F m fun a70 m =>
ygd a66 false (zaa 0 a70) F m fun a71 m =>
ygd a66 false (zab none a71) F m fun a72 m =>
ygd a66 false (zad (.p (.func F_Q155)) [a67,a72]) F m fun a73 m =>
ygd a66 false (y_not a73) F m fun a74 m =>
zai a66 (.p (.bool true)) a74 F m fun a75 m =>
ycond a75 (kr [(.p (.int .i64 4))] m) <|
zad (.p (.func F_Q159)) [a0,a1,a2] F m fun a76 m =>
ycond a76 (kr [(.p (.int .i64 6))] m) <|
j6 [a0,a4,a2,a5,a3,a1] m)
noncomputable def znc:SFun:=⟨4,zzq,[.tmp 8],false,false⟩
theorem zub:SFOK tr.look F_Q124 znc:=⟨i_Q124,(.sq .lf (.sq .lf (.sq (.bk [0,9,2,10,3,1] (.sq .lf (.cj (.sq .lf .lf) (.sq .lf (.cj (.sq .lf .lf) (.sq .lf (.cj (.sq .lf .lf) .lf))))))) (.sq .lf (.sq (.sq .lf (.cd [11,0,9,2,10,3,1] .lf .lf)) (.sq (.bk [0,9,2,10,3,1] (.sq .lf (.cj (.sq .lf .lf) (.sq .lf (.cj (.sq .lf .lf) .lf))))) (.sq .lf (.sq .lf (.sq .lf (.sq .lf .lf)))))))))),[],look_Q124,rfl,rfl,rfl,rfl,rfl,by kernel_rfl⟩
noncomputable def zzr:FOr→Nat→(List IVal→SC)→List IVal→SC:=fun F _ kr=>sxv fun a0=>sxv fun a1=>sxv fun a2=>sx0 (fun m =>
zad (.p (.func F_Q153)) [a0,a1] F m fun a3 m =>
tblk (sxv fun a5=>sxv fun a6=>sx0 (fun m =>
y_nil a5 F m fun a7 m =>
zaa 2 a7 F m fun a8 m =>
zaa 2 a8 F m fun a9 m =>
zae 1 a9 a6 F m fun _ m =>
kr [(.p (.int .i64 0))] m)) fun j4 =>
yv (zhc false (.const a3) (.const (.p .nilptr))) F m fun a11 m =>
ycond a11 (kr [(.p (.int .i64 3))] m) <|
y_nil a3 F m fun a12 m =>
zaa 2 a12 F m fun a13 m =>
zaa 0 a13 F m fun a14 m =>
zab none a14 F m fun a15 m =>
y_neq a15 (.p (.int .i64 3)) F m fun a16 m =>
ygd a16 true (yv (x_mov a3)) F m fun a17 m =>
ygd a16 true (y_nil a17) F m fun a18 m =>
ygd a16 true (zaa 2 a18) F m fun a19 m =>
ygd a16 true (zaa 0 a19) F m fun a20 m =>
ygd a16 true (zab none a20) F m fun a21 m =>
ygd a16 true (y_neq a21 (.p (.int .i64 4))) F m fun a22 m =>
zai a16 a22 (.p (.bool false)) F m fun a23 m =>
ycond a23 (kr [(.p (.int .i64 4))] m) <|
y_nil a3 F m fun a24 m =>
zaa 2 a24 F m fun a25 m =>
zaa 0 a25 F m fun a26 m =>
zab none a26 F m fun a27 m =>
y_eql a27 (.p (.int .i64 3)) F m fun a28 m =>
ygd a28 true (yv (x_mov a2)) F m fun a29 m =>
ygd a28 true (y_eql a29 (.p (.str []))) F m fun a30 m =>
zai a28 a30 (.p (.bool false)) F m fun a31 m =>
ycond a31 (kr [(.p (.int .i64 1))] m) <|
yv (zdk a2) F m fun a32 m =>
y_gtr a32 (.p (.int .i64 4096)) F m fun a33 m =>
ycond a33 (kr [(.p (.int .i64 2))] m) <|
j4 [a3,a2] m)
noncomputable def znd:SFun:=⟨3,zzr,[.tmp 6],false,false⟩
theorem zuc:SFOK tr.look F_Q127 znd:=⟨i_Q127,(.sq .lf (.sq .lf (.sq (.bk [7,2] (.sq .lf (.cj (.sq .lf .lf) (.sq .lf (.cj (.sq .lf .lf) (.sq .lf (.cj (.sq .lf .lf) (.sq .lf (.cj (.sq .lf .lf) .lf))))))))) (.sq .lf (.sq .lf .lf))))),[],look_Q127,rfl,rfl,rfl,rfl,rfl,by kernel_rfl⟩
noncomputable def zud:FOr→Nat→(List IVal→SC)→List IVal→SC:=fun F _ kr=>sxv fun a0=>sxv fun a1=>sx0 (fun m =>
zad (.p (.func F_Q153)) [a0,a1] F m fun a2 m =>
yv (zhc false (.const a2) (.const (.p .nilptr))) F m fun a3 m =>
ycond a3 (kr [(.p (.int .i64 (-1)))] m) <|
y_nil a2 F m fun a4 m =>
zaa 1 a4 F m fun a5 m =>
zab none a5 F m fun a6 m =>
kr [a6] m)
noncomputable def ziw:SFun:=⟨2,zud,[.tmp 4],false,false⟩
theorem zqi:SFOK tr.look F_Q128 ziw:=⟨i_Q128,(.sq .lf (.sq .lf (.sq (.sq .lf (.cj (.sq .lf .lf) .lf)) (.sq .lf .lf)))),[],look_Q128,rfl,rfl,rfl,rfl,rfl,by kernel_rfl⟩
noncomputable def zyh:FOr→Nat→(List IVal→SC)→List IVal→SC:=fun F _ kr=>sxv fun a0=>sxv fun a1=>sx0 (fun m =>
zad (.p (.func F_Q128)) [a0,a1] F m fun a2 m =>
zad (.p (.func F_Q153)) [a0,a2] F m fun a3 m =>
yv (zhc false (.const a3) (.const (.p .nilptr))) F m fun a4 m =>
ycond a4 (kr [(.p (.int .i64 (-1)))] m) <|
y_nil a3 F m fun a5 m =>
zaa 7 a5 F m fun a6 m =>
zab none a6 F m fun a7 m =>
zad (.p (.func F_Q163)) [a7,a1] F m fun a8 m =>
kr [a8] m)
noncomputable def zlj:SFun:=⟨2,zyh,[.tmp 4],false,false⟩
theorem zsf:SFOK tr.look F_Q129 zlj:=⟨i_Q129,(.sq .lf (.sq .lf (.sq (.sq .lf (.cj (.sq .lf .lf) .lf)) (.sq .lf .lf)))),[],look_Q129,rfl,rfl,rfl,rfl,rfl,by kernel_rfl⟩
noncomputable def zzs:FOr→Nat→(List IVal→SC)→List IVal→SC:=fun F _ kr=>sxv fun a0=>sxv fun a1=>sx0 (fun m =>
yfresh [a0,a1] [4] m fun m =>
zah (some 4) [(.int .i64 0),(.str []),(.str []), .nilslice, .nilslice] F m fun a2 m =>
zad (.p (.func F_Q153)) [a0,a1] F m fun a3 m =>
yv (zhc false (.const a3) (.const (.p .nilptr))) F m fun a4 m =>
ycond a4 (zak [(.int .i64 0),(.str []),(.str []), .nilslice, .nilslice] [] F m fun a5 m =>
zae 5 a2 a5 F m fun _ m =>
kr [a2,(.p (.bool false))] m) <|
yfresh [a4,a3,a3,a3,a1,a0,(.p (.bool false)),a2,a0,a1] [7] m fun m =>
y_nil a3 F m fun a7 m =>
zaa 2 a7 F m fun a8 m =>
zab (some 5) a8 F m fun a9 m =>
zah (some 7) [(.int .i64 0),(.str []),(.str []), .nilslice, .nilslice] F m fun a10 m =>
zae 5 a10 a9 F m fun _ m =>
zaa 3 a10 F m fun a12 m =>
zab none a12 F m fun a13 m =>
zad (.p (.func F_Q53)) [a13] F m fun a14 m =>
zaa 3 a10 F m fun a15 m =>
zae 1 a15 a14 F m fun _ m =>
zab (some 5) a10 F m fun a17 m =>
zae 5 a2 a17 F m fun _ m =>
kr [a2,(.p (.bool true))] m)
noncomputable def zne:SFun:=⟨2,zzs,[.cell 4 (some 5), .tmp 5],false,false⟩
theorem zue:SFOK tr.look F_Q130 zne:=⟨i_Q130,(.sq .lf (.sq .lf (.sq (.sq .lf (.cj (.sq .lf .lf) .lf)) (.sq .lf (.sq .lf (.sq .lf .lf)))))),[],look_Q130,rfl,rfl,rfl,rfl,rfl,by kernel_rfl⟩
noncomputable def zgi:FOr→Nat→(List IVal→SC)→List IVal→SC:=fun F L kr=>sxv fun a0=>sxv fun a1=>sx0 (fun m =>
y_len a0 F m fun a2 m =>
tblk (sx0 (fun m =>
kr [(.p (.int .i64 (-1)))] m)) fun j3 =>
tloop (fun j4=>sxv fun a5=>sxv fun a6=>sxv fun a7=>sxv fun a8=>sx0 (fun m =>
y_lss a5 a8 F m fun a9 m =>
ycond a9 (tblk (sxv fun a11=>sxv fun a12=>sxv fun a13=>sxv fun a14=>sx0 (fun m =>
y_add a11 (.p (.int .i64 1)) F m fun a15 m =>
j4 [a15,a12,a13,a14] m)) fun j10 =>
zac 1 a6 a5 F m fun a16 m =>
zab none a16 F m fun a17 m =>
zad a7 [a17] F m fun a18 m =>
ycond a18 (kr [a5] m) <|
j10 [a5,a6,a7,a8] m) <|
j3 [] m)) L [(.p (.int .i64 0)),a0,a1,a2] m)
noncomputable def zcj:SFun:=⟨2,zgi,[.tmp 4],false,false⟩
theorem zfk:SFOK tr.look F_Q131 zcj:=⟨i_Q131,(.sq .lf (.sq (.sq .lf (.bk [] (.lp [8,0,1,7] (.sq .lf (.sq (.cj .lf .lf) (.sq (.bk [8,0,1,7] (.sq .lf (.sq .lf (.cj (.sq .lf .lf) .lf)))) .lf)))))) (.sq .lf .lf))),[],look_Q131,rfl,rfl,rfl,rfl,rfl,by kernel_rfl⟩
noncomputable def zaof:FOr→Nat→(List IVal→SC)→List IVal→SC:=fun F L kr=>sxv fun a0=>sx0 (fun m =>
yfresh [a0] [1] m fun m =>
y_box (some 1) 5 a0 F m fun a1 m =>
zab (some 5) a1 F m fun a2 m =>
zad (.p (.func F_Q27)) [a2] F m fun a3 m =>
y_len a3 F m fun a4 m =>
zco 1 [(.int .u64 0)] a4 a4 F m fun a5 m =>
y_len a3 F m fun a6 m =>
y_sub a6 (.p (.int .i64 1)) F m fun a7 m =>
tblk (sxv fun a9=>sx0 (fun m =>
kr [a9] m)) fun j8 =>
tloop (fun j10=>sxv fun a11=>sxv fun a12=>sxv fun a13=>sx0 (fun m =>
y_geq a11 (.p (.int .i64 0)) F m fun a14 m =>
ycond a14 (tblk (sxv fun a16=>sxv fun a17=>sxv fun a18=>sx0 (fun m =>
y_sub a16 (.p (.int .i64 1)) F m fun a19 m =>
j10 [a19,a17,a18] m)) fun j15 =>
y_add a11 (.p (.int .i64 1)) F m fun a20 m =>
tblk (sxv fun a22=>sxv fun a23=>sxv fun a24=>sxv fun a25=>sx0 (fun m =>
zac 10 a25 a23 F m fun a26 m =>
zaa 5 a26 F m fun a27 m =>
zab (some 5) a27 F m fun a28 m =>
zad (.p (.func F_Q164)) [a28,a22] F m fun a29 m =>
zac 1 a24 a23 F m fun a30 m =>
zae 1 a30 a29 F m fun _ m =>
j15 [a23,a24,a25] m)) fun j21 =>
tloop (fun j32=>sxv fun a33=>sxv fun a34=>sxv fun a35=>sxv fun a36=>sxv fun a37=>sx0 (fun m =>
zac 10 a34 a37 F m fun a38 m =>
zaa 1 a38 F m fun a39 m =>
zab none a39 F m fun a40 m =>
y_add a37 a40 F m fun a41 m =>
y_lss a33 a41 F m fun a42 m =>
ycond a42 (tblk (sxv fun a44=>sxv fun a45=>sxv fun a46=>sxv fun a47=>sxv fun a48=>sx0 (fun m =>
zac 10 a45 a44 F m fun a49 m =>
zaa 1 a49 F m fun a50 m =>
zab none a50 F m fun a51 m =>
y_add a44 a51 F m fun a52 m =>
j32 [a52,a45,a46,a47,a48] m)) fun j43 =>
zac 1 a35 a33 F m fun a53 m =>
zab none a53 F m fun a54 m =>
zag 1 1 [(.int .u64 0)] [(0,1,a54)] F m fun a55 m =>
zam 1 a36 a55 F m fun a56 m =>
j43 [a33,a34,a35,a56,a37] m) <|
j21 [a36,a37,a35,a34] m)) L [a20,a13,a12,(.p .nilslice),a11] m) <|
j8 [a12] m)) L [a7,a5,a3] m)
noncomputable def zabq:SFun:=⟨1,zaof,[.tmp 2],true,true⟩
theorem zaht:SFOK tr.look F_Q132 zabq:=⟨i_Q132,(.sq .lf (.sq .lf (.sq .lf (.sq (.sq .lf (.bk [4] (.lp [5,4,3] (.sq (.sq .lf (.cj .lf .lf)) (.sq (.bk [5,4,3] (.sq .lf (.sq (.sq .lf (.bk [6,5,4,3] (.lp [7,3,4,6,5] (.sq (.sq .lf (.cj .lf .lf)) (.sq (.bk [7,3,4,6,5] .lf) .lf))))) .lf))) .lf))))) (.sq .lf .lf))))),[],look_Q132,rfl,rfl,rfl,rfl,rfl,by kernel_rfl⟩
noncomputable def zaem:FOr→Nat→(List IVal→SC)→List IVal→SC:=fun F _ kr=>sxv fun a0=>sxv fun a1=>sx0 (fun m =>
yfresh [a0,a1] [2,3,5,6] m fun m =>
y_box (some 2) 5 a0 F m fun a2 m =>
y_box (some 3) 5 a1 F m fun a3 m =>
zah (some 5) [(.int .i64 0),(.int .i64 0)] F m fun a4 m =>
zah (some 6) [(.int .i64 0),(.int .i64 0)] F m fun a5 m =>
zab (some 5) a2 F m fun a6 m =>
zab (some 5) a3 F m fun a7 m =>
zbw F m fun a8 m =>
zad (.p (.func F_Q165)) [a6] F m fun a9 m =>
yck F m (.load (some 5) (.const a3)) a7 <|
yck F m (.mkMap) a8 <|
zad (.p (.func F_Q165)) [a7] F m fun a10 m =>
zak [.nilptr, .nilptr, .nilmap] [(0,1,a9),(1,1,a10),(2,1,a8)] F m fun a11 m =>
y_box none 3 a11 F m fun a12 m =>
yck F m (.mkMap) a8 <|
y_nil a12 F m fun a13 m =>
zaa 0 a13 F m fun a14 m =>
zab none a14 F m fun a15 m =>
y_nil a15 F m fun a16 m =>
zaa 0 a16 F m fun a17 m =>
zab none a17 F m fun a18 m =>
y_len a18 F m fun a19 m =>
y_nil a12 F m fun a20 m =>
zaa 1 a20 F m fun a21 m =>
zab none a21 F m fun a22 m =>
y_nil a22 F m fun a23 m =>
zaa 0 a23 F m fun a24 m =>
zab none a24 F m fun a25 m =>
y_len a25 F m fun a26 m =>
y_sub a19 (.p (.int .i64 1)) F m fun a27 m =>
zad (.p (.func F_Q166)) [(.p (.int .i64 0)),a27] F m fun a28 m =>
y_sub a26 (.p (.int .i64 1)) F m fun a29 m =>
zad (.p (.func F_Q166)) [(.p (.int .i64 0)),a29] F m fun a30 m =>
y_leq a19 (.p (.int .i64 8)) F m fun a31 m =>
ygd a31 true (yv (x_mov a26)) F m fun a32 m =>
ygd a31 true (y_leq a32 (.p (.int .i64 8))) F m fun a33 m =>
zai a31 a33 (.p (.bool false)) F m fun a34 m =>
zae 2 a4 a28 F m fun _ m =>
zae 2 a5 a30 F m fun _ m =>
kr [a12,a4,a5,a34] m)
noncomputable def zqj:SFun:=⟨2,zaem,[.tmp 4, .cell 5 (some 2), .cell 6 (some 2), .tmp 7],false,false⟩
theorem zyi:SFOK tr.look F_Q133 zqj:=⟨i_Q133,(.sq .lf (.sq .lf (.sq .lf (.sq .lf .lf)))),[],look_Q133,rfl,rfl,rfl,rfl,rfl,by kernel_rfl⟩
noncomputable def zqk:FOr→Nat→(List IVal→SC)→List IVal→SC:=fun F _ kr=>sxv fun a0=>sxv fun a1=>sxv fun a2=>sx0 (fun m =>
yfresh [a0,a1,a2] [4,5] m fun m =>
y_box (some 4) 2 a1 F m fun a3 m =>
y_box (some 5) 2 a2 F m fun a4 m =>
zab (some 2) a3 F m fun a5 m =>
zad (.p (.func F_Q167)) [] F m fun a6 m =>
yv (x_eqv false ⟨true,[.int, .int]⟩ (.const a5) (.const a6)) F m fun a7 m =>
ygd a7 false (zab (some 2) a4) F m fun a8 m =>
yck F m (.load (some 2) (.const a3)) a5 <|
ygd a7 false (zad (.p (.func F_Q167)) []) F m fun a9 m =>
ygd a7 false (yv (x_eqv false ⟨true,[.int, .int]⟩ (.const a8) (.const a9))) F m fun a10 m =>
zai a7 (.p (.bool true)) a10 F m fun a11 m =>
yckg a7 false F m (.load (some 2) (.const a4)) a8 <|
ycond a11 (kr [(.p .nilslice)] m) <|
zab (some 2) a3 F m fun a12 m =>
zab (some 2) a4 F m fun a13 m =>
zad (.p (.func F_Q168)) [a0,a12,a13] F m fun a14 m =>
tblk (sxv fun a16=>sxv fun a17=>sxv fun a18=>sx0 (fun m =>
zab (some 2) a17 F m fun a19 m =>
zab (some 2) a16 F m fun a20 m =>
zad (.p (.func F_Q173)) [a20] F m fun a21 m =>
yck F m (.load (some 2) (.const a17)) a19 <|
zad (.p (.func F_Q134)) [a18,a19,a21] F m fun a22 m =>
kr [a22] m)) fun j15 =>
zab (some 2) a3 F m fun a23 m =>
zab (some 2) a4 F m fun a24 m =>
zad (.p (.func F_Q169)) [a0,a23,a24] F m fun a25 m =>
y_eql a14 a25 F m fun a26 m =>
ycond a26 (y_nil a0 F m fun a27 m =>
zaa 0 a27 F m fun a28 m =>
zab none a28 F m fun a29 m =>
zab (some 2) a3 F m fun a30 m =>
y_nil a0 F m fun a31 m =>
zaa 1 a31 F m fun a32 m =>
zab none a32 F m fun a33 m =>
zab (some 2) a4 F m fun a34 m =>
y_nil a0 F m fun a35 m =>
zaa 0 a35 F m fun a36 m =>
zab none a36 F m fun a37 m =>
zab (some 2) a3 F m fun a38 m =>
y_nil a0 F m fun a39 m =>
zaa 1 a39 F m fun a40 m =>
zab none a40 F m fun a41 m =>
zab (some 2) a4 F m fun a42 m =>
zad (.p (.func F_Q170)) [a29,a30] F m fun a43 m =>
yck F m (.load none (.const a32)) a33 <|
yck F m (.load (some 2) (.const a4)) a34 <|
yck F m (.load none (.const a36)) a37 <|
yck F m (.load (some 2) (.const a3)) a38 <|
yck F m (.load none (.const a40)) a41 <|
yck F m (.load (some 2) (.const a4)) a42 <|
zad (.p (.func F_Q170)) [a33,a34] F m fun a44 m =>
yck F m (.load none (.const a36)) a37 <|
yck F m (.load (some 2) (.const a3)) a38 <|
yck F m (.load none (.const a40)) a41 <|
yck F m (.load (some 2) (.const a4)) a42 <|
zad (.p (.func F_Q134)) [a0,a43,a44] F m fun a45 m =>
yck F m (.load none (.const a36)) a37 <|
yck F m (.load (some 2) (.const a3)) a38 <|
yck F m (.load none (.const a40)) a41 <|
yck F m (.load (some 2) (.const a4)) a42 <|
zad (.p (.func F_Q171)) [a37,a38] F m fun a46 m =>
yck F m (.load none (.const a40)) a41 <|
yck F m (.load (some 2) (.const a4)) a42 <|
zad (.p (.func F_Q171)) [a41,a42] F m fun a47 m =>
zad (.p (.func F_Q134)) [a0,a46,a47] F m fun a48 m =>
zam 2 a45 a48 F m fun a49 m =>
y_nil a0 F m fun a50 m =>
zaa 0 a50 F m fun a51 m =>
zab none a51 F m fun a52 m =>
y_nil a52 F m fun a53 m =>
zaa 0 a53 F m fun a54 m =>
zab none a54 F m fun a55 m =>
zaj 2 1 a3 (.p (.int .i64 1)) F m fun a56 m =>
zab none a56 F m fun a57 m =>
zac 5 a55 a57 F m fun a58 m =>
zab (some 5) a58 F m fun a59 m =>
y_nil a0 F m fun a60 m =>
zaa 1 a60 F m fun a61 m =>
zab none a61 F m fun a62 m =>
y_nil a62 F m fun a63 m =>
zaa 0 a63 F m fun a64 m =>
zab none a64 F m fun a65 m =>
zaj 2 1 a4 (.p (.int .i64 1)) F m fun a66 m =>
zab none a66 F m fun a67 m =>
zac 5 a65 a67 F m fun a68 m =>
zab (some 5) a68 F m fun a69 m =>
zad (.p (.func F_Q172)) [a59,a69] F m fun a70 m =>
y_lss a70 (.p (.int .i64 3)) F m fun a71 m =>
tblk (sxv fun a73=>sx0 (fun m =>
kr [a73] m)) fun j72 =>
ycond a71 (y_nil a0 F m fun a74 m =>
zaa 0 a74 F m fun a75 m =>
zab none a75 F m fun a76 m =>
y_nil a76 F m fun a77 m =>
zaa 1 a77 F m fun a78 m =>
zab none a78 F m fun a79 m =>
zaj 2 1 a3 (.p (.int .i64 1)) F m fun a80 m =>
zab none a80 F m fun a81 m =>
zac 1 a79 a81 F m fun a82 m =>
zab none a82 F m fun a83 m =>
y_nil a0 F m fun a84 m =>
zaa 1 a84 F m fun a85 m =>
zab none a85 F m fun a86 m =>
y_nil a86 F m fun a87 m =>
zaa 1 a87 F m fun a88 m =>
zab none a88 F m fun a89 m =>
zaj 2 1 a4 (.p (.int .i64 1)) F m fun a90 m =>
zab none a90 F m fun a91 m =>
zac 1 a89 a91 F m fun a92 m =>
zab none a92 F m fun a93 m =>
zak [(.int .i64 0),(.int .i64 0)] [(0,1,a83),(1,1,a93)] F m fun a94 m =>
zag 2 1 [(.int .i64 0),(.int .i64 0)] [(0,2,a94)] F m fun a95 m =>
zam 2 a49 a95 F m fun a96 m =>
j72 [a96] m) <|
j72 [a49] m) <|
zab (some 2) a3 F m fun a97 m =>
zab (some 2) a4 F m fun a98 m =>
zad (.p (.func F_Q173)) [a97] F m fun a99 m =>
yck F m (.load (some 2) (.const a4)) a98 <|
zad (.p (.func F_Q168)) [a0,a99,a98] F m fun a100 m =>
y_add a100 (.p (.int .i64 1)) F m fun a101 m =>
y_eql a14 a101 F m fun a102 m =>
ycond a102 (zab (some 2) a3 F m fun a103 m =>
zab (some 2) a4 F m fun a104 m =>
zad (.p (.func F_Q173)) [a103] F m fun a105 m =>
yck F m (.load (some 2) (.const a4)) a104 <|
zad (.p (.func F_Q134)) [a0,a105,a104] F m fun a106 m =>
kr [a106] m) <|
j15 [a4,a3,a0] m)
noncomputable def zgv:SFun:=⟨3,zqk,[.tmp 6],false,false⟩
theorem zmk:SFOK tr.look F_Q134 zgv:=⟨i_Q134,(.sq .lf (.sq (.sq .lf (.cj (.sq .lf .lf) .lf)) (.sq .lf (.sq (.sq .lf (.bk [5,4,0] (.sq .lf (.cj (.sq .lf (.sq (.sq .lf (.cd [8] .lf .lf)) (.sq .lf .lf))) (.sq .lf (.cj (.sq .lf .lf) .lf)))))) (.sq .lf .lf))))),[],look_Q134,rfl,rfl,rfl,rfl,rfl,by kernel_rfl⟩
end Go.Ideal
