/-
  THE FUNCTIONS OF THIS SEAT, OVER LEAN's OWN VARIABLES: printed by a program of the prover's own out of the ideal program.
-/
import Derived.Test.YtbhblbkehmlcfaaGreatW9
import Derived.Test.YtbhblbkehmlcfaaGreatW6
namespace Go.Ideal
open Go Go.Proofs
set_option maxRecDepth 100000
noncomputable def zsg:FOr→Nat→(List IVal→SC)→List IVal→SC:=fun F _ kr=>sxv fun a0=>sxv fun a1=>sx0 (fun m =>
yfresh [a0,a1] [2,3] m fun m =>
y_box (some 2) 2 a0 F m fun a2 m =>
y_box (some 3) 2 a1 F m fun a3 m =>
zaa 0 a2 F m fun a4 m =>
zab none a4 F m fun a5 m =>
zaa 0 a3 F m fun a6 m =>
zab none a6 F m fun a7 m =>
zad (.p (.func F_Q40)) [a5,a7] F m fun a8 m =>
kr [a8] m)
noncomputable def zhx:SFun:=⟨2,zsg,[.tmp 4],true,false⟩
theorem zoj:SFOK tr.look F_Q135 zhx:=⟨i_Q135,(.sq .lf (.sq .lf .lf)),[],look_Q135,rfl,rfl,rfl,rfl,rfl,by kernel_rfl⟩
noncomputable def zci:FOr→Nat→(List IVal→SC)→List IVal→SC:=fun F L kr=>sxv fun a0=>sxv fun a1=>sxv fun a2=>sxv fun a3=>sx0 (fun m =>
y_add a1 (.p (.int .i64 1)) F m fun a4 m =>
tblk (sx0 (fun m =>
kr [] m)) fun j5 =>
tloop (fun j6=>sxv fun a7=>sxv fun a8=>sxv fun a9=>sxv fun a10=>sxv fun a11=>sx0 (fun m =>
y_lss a9 a11 F m fun a12 m =>
ycond a12 (tblk (sxv fun a14=>sxv fun a15=>sxv fun a16=>sxv fun a17=>sxv fun a18=>sx0 (fun m =>
y_add a14 (.p (.int .i64 1)) F m fun a19 m =>
j6 [a15,a16,a19,a17,a18] m)) fun j13 =>
tblk (sxv fun a21=>sxv fun a22=>sxv fun a23=>sxv fun a24=>sxv fun a25=>sx0 (fun m =>
j13 [a21,a22,a23,a24,a25] m)) fun j20 =>
tloop (fun j26=>sxv fun a27=>sxv fun a28=>sxv fun a29=>sxv fun a30=>sxv fun a31=>sxv fun a32=>sx0 (fun m =>
y_gtr a27 a31 F m fun a33 m =>
ygd a33 true (yv (x_mov a30)) F m fun a34 m =>
ygd a33 true (yv (x_mov a28)) F m fun a35 m =>
ygd a33 true (yv (x_mov a27)) F m fun a36 m =>
ygd a33 true (zac 2 a35 a36) F m fun a37 m =>
ygd a33 true (zab (some 2) a37) F m fun a38 m =>
ygd a33 true (yv (x_mov a28)) F m fun a39 m =>
ygd a33 true (yv (x_mov a27)) F m fun a40 m =>
ygd a33 true (y_sub a40 (.p (.int .i64 1))) F m fun a41 m =>
ygd a33 true (zac 2 a39 a41) F m fun a42 m =>
ygd a33 true (zab (some 2) a42) F m fun a43 m =>
ygd a33 true (zad a34 [a38,a43]) F m fun a44 m =>
ygd a33 true (y_lss a44 (.p (.int .i64 0))) F m fun a45 m =>
zai a33 a45 (.p (.bool false)) F m fun a46 m =>
ycond a46 (tblk (sxv fun a48=>sxv fun a49=>sxv fun a50=>sxv fun a51=>sxv fun a52=>sxv fun a53=>sx0 (fun m =>
y_sub a48 (.p (.int .i64 1)) F m fun a54 m =>
j26 [a54,a49,a50,a51,a52,a53] m)) fun j47 =>
y_sub a27 (.p (.int .i64 1)) F m fun a55 m =>
y_sub a27 (.p (.int .i64 1)) F m fun a56 m =>
zac 2 a28 a56 F m fun a57 m =>
zab (some 2) a57 F m fun a58 m =>
zac 2 a28 a27 F m fun a59 m =>
zab (some 2) a59 F m fun a60 m =>
zac 2 a28 a27 F m fun a61 m =>
zae 2 a61 a58 F m fun _ m =>
zac 2 a28 a55 F m fun a63 m =>
zae 2 a63 a60 F m fun _ m =>
j47 [a27,a28,a29,a30,a31,a32] m) <|
j20 [a29,a30,a31,a28,a32] m)) L [a9,a10,a9,a7,a8,a11] m) <|
j5 [] m)) L [a3,a1,a4,a0,a2] m)
noncomputable def zav:SFun:=⟨4,zci,[],false,false⟩
theorem zbx:SFOK tr.look F_Q141 zav:=⟨i_Q141,(.sq .lf (.bk [] (.lp [3,1,8,0,2] (.sq (.sq .lf (.cj .lf .lf)) (.sq (.bk [8,3,1,0,2] (.sq .lf (.bk [8,3,1,0,2] (.lp [9,0,8,3,1,2] (.sq (.sq .lf (.cj .lf .lf)) (.sq (.bk [9,0,8,3,1,2] .lf) .lf)))))) .lf))))),[],look_Q141,rfl,rfl,rfl,rfl,rfl,by kernel_rfl⟩
noncomputable def zaen:FOr→Nat→(List IVal→SC)→List IVal→SC:=fun F _ kr=>sxv fun a0=>sxv fun a1=>sxv fun a2=>sxv fun a3=>sx0 (fun m =>
yfresh [a0,a1,a2,a3] [7] m fun m =>
y_box (some 7) 5 a3 F m fun a4 m =>
zaa 4 a4 F m fun a5 m =>
zae 1 a5 (.p .nilslice) F m fun _ m =>
zaa 3 a4 F m fun a7 m =>
zab none a7 F m fun a8 m =>
zad (.p (.func F_Q53)) [a8] F m fun a9 m =>
zaa 3 a4 F m fun a10 m =>
zae 1 a10 a9 F m fun _ m =>
y_nil a0 F m fun a12 m =>
zaa 1 a12 F m fun a13 m =>
zab none a13 F m fun a14 m =>
y_nil a0 F m fun a15 m =>
zaa 0 a15 F m fun a16 m =>
zab none a16 F m fun a17 m =>
y_len a17 F m fun a18 m =>
zbl ⟨false,[.int]⟩ a14 a1 a18 F m fun _ m =>
y_nil a0 F m fun a20 m =>
zaa 0 a20 F m fun a21 m =>
zab none a21 F m fun a22 m =>
zab (some 5) a4 F m fun a23 m =>
zak [(.int .i64 0),(.int .i64 0),(.int .i64 0),(.str []),(.str []), .nilslice, .nilslice, .nilslice] [(0,1,a1),(1,1,a2),(2,5,a23)] F m fun a24 m =>
zag 8 1 [(.int .i64 0),(.int .i64 0),(.int .i64 0),(.str []),(.str []), .nilslice, .nilslice, .nilslice] [(0,8,a24)] F m fun a25 m =>
zam 8 a22 a25 F m fun a26 m =>
y_nil a0 F m fun a27 m =>
zaa 0 a27 F m fun a28 m =>
zae 1 a28 a26 F m fun _ m =>
kr [] m)
noncomputable def zql:SFun:=⟨4,zaen,[],false,false⟩
theorem zyj:SFOK tr.look F_Q152 zql:=⟨i_Q152,(.sq .lf (.sq .lf (.sq .lf (.sq .lf .lf)))),[],look_Q152,rfl,rfl,rfl,rfl,rfl,by kernel_rfl⟩
noncomputable def zzt:FOr→Nat→(List IVal→SC)→List IVal→SC:=fun F _ kr=>sxv fun a0=>sxv fun a1=>sx0 (fun m =>
y_nil a0 F m fun a2 m =>
zaa 1 a2 F m fun a3 m =>
zab none a3 F m fun a4 m =>
zaq true (.p (.int .i64 0)) ⟨false,[.int]⟩ a4 a1 F m fun a5 m =>
zaf a5 0 F m fun a6 m =>
zaf a5 1 F m fun a7 m =>
y_not a7 F m fun a8 m =>
ycond a8 (kr [(.p .nilptr)] m) <|
y_nil a0 F m fun a9 m =>
zaa 0 a9 F m fun a10 m =>
zab none a10 F m fun a11 m =>
zac 8 a11 a6 F m fun a12 m =>
kr [a12] m)
noncomputable def znf:SFun:=⟨2,zzt,[.tmp 4],false,false⟩
theorem zuf:SFOK tr.look F_Q153 znf:=⟨i_Q153,(.sq .lf (.sq .lf (.sq (.sq .lf (.cj (.sq .lf .lf) .lf)) (.sq .lf .lf)))),[],look_Q153,rfl,rfl,rfl,rfl,rfl,by kernel_rfl⟩
noncomputable def zaeo:FOr→Nat→(List IVal→SC)→List IVal→SC:=fun F _ kr=>sxv fun a0=>sxv fun a1=>sx0 (fun m =>
zad (.p (.func F_Q153)) [a0,a1] F m fun a2 m =>
yv (zhc true (.const a2) (.const (.p .nilptr))) F m fun a3 m =>
kr [a3] m)
noncomputable def zqm:SFun:=⟨2,zaeo,[.tmp 4],false,false⟩
theorem zyk:SFOK tr.look F_Q154 zqm:=⟨i_Q154,(.sq .lf (.sq .lf .lf)),[],look_Q154,rfl,rfl,rfl,rfl,rfl,by kernel_rfl⟩
noncomputable def zug:FOr→Nat→(List IVal→SC)→List IVal→SC:=fun F _ kr=>sxv fun a0=>sxv fun a1=>sx0 (fun m =>
y_nil a0 F m fun a2 m =>
zaa 2 a2 F m fun a3 m =>
zaa 0 a3 F m fun a4 m =>
zab none a4 F m fun a5 m =>
y_eql a5 (.p (.int .i64 1)) F m fun a6 m =>
ygd a6 false (yv (x_mov a0)) F m fun a7 m =>
ygd a6 false (y_nil a7) F m fun a8 m =>
ygd a6 false (zaa 2 a8) F m fun a9 m =>
ygd a6 false (zaa 0 a9) F m fun a10 m =>
ygd a6 false (zab none a10) F m fun a11 m =>
ygd a6 false (y_eql a11 (.p (.int .i64 2))) F m fun a12 m =>
ygd a6 false (yv (x_mov a12)) F m fun a13 m =>
ygd a13 true (yv (x_mov a1)) F m fun a14 m =>
ygd a13 true (y_neq a14 (.p (.int .i64 5))) F m fun a15 m =>
ygd a6 false (zai a13 a15 (.p (.bool false))) F m fun a16 m =>
zai a6 (.p (.bool true)) a16 F m fun a17 m =>
kr [a17] m)
noncomputable def zix:SFun:=⟨2,zug,[.tmp 4],false,false⟩
theorem zqn:SFOK tr.look F_Q155 zix:=⟨i_Q155,(.sq .lf (.sq .lf .lf)),[],look_Q155,rfl,rfl,rfl,rfl,rfl,by kernel_rfl⟩
noncomputable def zyl:FOr→Nat→(List IVal→SC)→List IVal→SC:=fun F L kr=>sxv fun a0=>sxv fun a1=>sx0 (fun m =>
tblk (sxv fun a3=>sx0 (fun m =>
kr [a3] m)) fun j2 =>
tloop (fun j4=>sxv fun a5=>sxv fun a6=>sxv fun a7=>sx0 (fun m =>
zad (.p (.func F_Q154)) [a6,a5] F m fun a8 m =>
ycond a8 (tblk (sxv fun a10=>sxv fun a11=>sxv fun a12=>sx0 (fun m =>
j4 [a10,a11,a12] m)) fun j9 =>
y_add a7 (.p (.int .i64 1)) F m fun a13 m =>
zad (.p (.func F_Q128)) [a6,a5] F m fun a14 m =>
j9 [a14,a6,a13] m) <|
j2 [a7] m)) L [a1,a0,(.p (.int .i64 0))] m)
noncomputable def zlk:SFun:=⟨2,zyl,[.tmp 4],false,false⟩
theorem zsh:SFOK tr.look F_Q156 zlk:=⟨i_Q156,(.sq .lf (.sq .lf (.sq (.bk [5] (.lp [1,0,5] (.sq (.sq .lf (.cj .lf .lf)) (.bk [1,0,5] (.sq .lf .lf))))) (.sq .lf .lf)))),[],look_Q156,rfl,rfl,rfl,rfl,rfl,by kernel_rfl⟩
noncomputable def zaep:FOr→Nat→(List IVal→SC)→List IVal→SC:=fun F _ kr=>sxv fun a0=>sxv fun a1=>sx0 (fun m =>
y_box none 1 a1 F m fun a2 m =>
zab none a2 F m fun a3 m =>
zad (.p (.func F_Q128)) [a0,a3] F m fun a4 m =>
zad (.p (.func F_Q153)) [a0,a4] F m fun a5 m =>
y_nil a5 F m fun a6 m =>
zaa 7 a6 F m fun a7 m =>
zab none a7 F m fun a8 m =>
yv (zcu 182 [(.const a2)]) F m fun a9 m =>
zad (.p (.func F_Q181)) [a8,a9] F m fun a10 m =>
y_nil a5 F m fun a11 m =>
zaa 7 a11 F m fun a12 m =>
zae 1 a12 a10 F m fun _ m =>
kr [] m)
noncomputable def zqo:SFun:=⟨2,zaep,[],false,false⟩
theorem zym:SFOK tr.look F_Q158 zqo:=⟨i_Q158,(.sq .lf (.sq .lf .lf)),[],look_Q158,rfl,rfl,rfl,rfl,rfl,by kernel_rfl⟩
noncomputable def zuh:FOr→Nat→(List IVal→SC)→List IVal→SC:=fun F L kr=>sxv fun a0=>sxv fun a1=>sxv fun a2=>sx0 (fun m =>
tblk (sx0 (fun m =>
kr [(.p (.bool false))] m)) fun j3 =>
tloop (fun j4=>sxv fun a5=>sxv fun a6=>sxv fun a7=>sx0 (fun m =>
zad (.p (.func F_Q154)) [a5,a7] F m fun a8 m =>
ygd a8 true (yv (x_mov a5)) F m fun a9 m =>
ygd a8 true (yv (x_mov a6)) F m fun a10 m =>
ygd a8 true (zad (.p (.func F_Q154)) [a9,a10]) F m fun a11 m =>
zai a8 a11 (.p (.bool false)) F m fun a12 m =>
ycond a12 (tblk (sxv fun a14=>sxv fun a15=>sxv fun a16=>sx0 (fun m =>
j4 [a14,a15,a16] m)) fun j13 =>
y_eql a6 a7 F m fun a17 m =>
ycond a17 (kr [(.p (.bool true))] m) <|
zad (.p (.func F_Q128)) [a5,a6] F m fun a18 m =>
j13 [a5,a18,a7] m) <|
j3 [] m)) L [a0,a2,a1] m)
noncomputable def ziy:SFun:=⟨3,zuh,[.tmp 6],false,false⟩
theorem zqp:SFOK tr.look F_Q159 ziy:=⟨i_Q159,(.sq .lf (.sq (.bk [] (.lp [0,2,1] (.sq (.sq .lf (.cj .lf .lf)) (.bk [0,2,1] (.sq (.sq .lf (.cj (.sq .lf .lf) .lf)) .lf))))) (.sq .lf .lf))),[],look_Q159,rfl,rfl,rfl,rfl,rfl,by kernel_rfl⟩
noncomputable def zui:FOr→Nat→(List IVal→SC)→List IVal→SC:=fun F L kr=>sxv fun a0=>sxv fun a1=>sx0 (fun m =>
zad (.p (.func F_Q153)) [a0,a1] F m fun a2 m =>
y_nil a2 F m fun a3 m =>
zaa 7 a3 F m fun a4 m =>
zab none a4 F m fun a5 m =>
y_len a5 F m fun a6 m =>
tblk (sxv fun a8=>sx0 (fun m =>
y_add a8 (.p (.int .i64 1)) F m fun a9 m =>
kr [a9] m)) fun j7 =>
tloop (fun j10=>sxv fun a11=>sxv fun a12=>sxv fun a13=>sxv fun a14=>sxv fun a15=>sx0 (fun m =>
y_lss a11 a15 F m fun a16 m =>
ycond a16 (tblk (sxv fun a18=>sxv fun a19=>sxv fun a20=>sxv fun a21=>sxv fun a22=>sx0 (fun m =>
y_add a18 (.p (.int .i64 1)) F m fun a23 m =>
j10 [a23,a19,a20,a21,a22] m)) fun j17 =>
zac 1 a14 a11 F m fun a24 m =>
zab none a24 F m fun a25 m =>
zad (.p (.func F_Q160)) [a12,a25] F m fun a26 m =>
yv (zabe [(.const a13),(.const a26)]) F m fun a27 m =>
j17 [a11,a12,a27,a14,a15] m) <|
j7 [a13] m)) L [(.p (.int .i64 0)),a0,(.p (.int .i64 0)),a5,a6] m)
noncomputable def ziz:SFun:=⟨2,zui,[.tmp 4],false,false⟩
theorem zqq:SFOK tr.look F_Q160 ziz:=⟨i_Q160,(.sq .lf (.sq .lf (.sq (.sq .lf (.bk [5] (.lp [15,0,5,13,14] (.sq .lf (.sq (.cj .lf .lf) (.sq (.bk [15,0,5,13,14] (.sq .lf .lf)) .lf)))))) (.sq .lf .lf)))),[],look_Q160,rfl,rfl,rfl,rfl,rfl,by kernel_rfl⟩
noncomputable def zjk:FOr→Nat→(List IVal→SC)→List IVal→SC:=fun F L kr=>sxv fun a0=>sxv fun a1=>sx0 (fun m =>
y_len a0 F m fun a2 m =>
tblk (sx0 (fun m =>
kr [(.p (.int .i64 (-1)))] m)) fun j3 =>
tloop (fun j4=>sxv fun a5=>sxv fun a6=>sxv fun a7=>sxv fun a8=>sx0 (fun m =>
y_lss a5 a8 F m fun a9 m =>
ycond a9 (tblk (sxv fun a11=>sxv fun a12=>sxv fun a13=>sxv fun a14=>sx0 (fun m =>
y_add a11 (.p (.int .i64 1)) F m fun a15 m =>
j4 [a15,a12,a13,a14] m)) fun j10 =>
zac 1 a6 a5 F m fun a16 m =>
zab none a16 F m fun a17 m =>
y_eql a7 a17 F m fun a18 m =>
ycond a18 (kr [a5] m) <|
j10 [a5,a6,a7,a8] m) <|
j3 [] m)) L [(.p (.int .i64 0)),a0,a1,a2] m)
noncomputable def zdv:SFun:=⟨2,zjk,[.tmp 4],true,false⟩
theorem zhy:SFOK tr.look F_Q163 zdv:=⟨i_Q163,(.sq .lf (.sq (.sq .lf (.bk [] (.lp [8,0,1,7] (.sq .lf (.sq (.cj .lf .lf) (.sq (.bk [8,0,1,7] (.sq .lf (.sq .lf (.cj (.sq .lf .lf) .lf)))) .lf)))))) (.sq .lf .lf))),[],look_Q163,rfl,rfl,rfl,rfl,rfl,by kernel_rfl⟩
noncomputable def zakp:FOr→Nat→(List IVal→SC)→List IVal→SC:=fun F L kr=>sxv fun a0=>sxv fun a1=>sx0 (fun m =>
yfresh [a0,a1] [2] m fun m =>
y_box (some 2) 5 a0 F m fun a2 m =>
zaa 0 a2 F m fun a3 m =>
zab none a3 F m fun a4 m =>
yv (zfx .u64 a4) F m fun a5 m =>
zaa 1 a2 F m fun a6 m =>
zab none a6 F m fun a7 m =>
zad (.p (.func F_Q189)) [a7] F m fun a8 m =>
zad (.p (.func F_Q188)) [a5,a8] F m fun a9 m =>
zaa 2 a2 F m fun a10 m =>
zab none a10 F m fun a11 m =>
zad (.p (.func F_Q189)) [a11] F m fun a12 m =>
zad (.p (.func F_Q188)) [a9,a12] F m fun a13 m =>
zaa 3 a2 F m fun a14 m =>
zab none a14 F m fun a15 m =>
y_len a15 F m fun a16 m =>
yv (zfx .u64 a16) F m fun a17 m =>
zad (.p (.func F_Q188)) [a13,a17] F m fun a18 m =>
zaa 3 a2 F m fun a19 m =>
zab none a19 F m fun a20 m =>
y_len a20 F m fun a21 m =>
tblk (sxv fun a23=>sxv fun a24=>sx0 (fun m =>
y_len a24 F m fun a25 m =>
yv (zfx .u64 a25) F m fun a26 m =>
zad (.p (.func F_Q188)) [a23,a26] F m fun a27 m =>
y_len a24 F m fun a28 m =>
tblk (sxv fun a30=>sx0 (fun m =>
kr [a30] m)) fun j29 =>
tloop (fun j31=>sxv fun a32=>sxv fun a33=>sxv fun a34=>sxv fun a35=>sx0 (fun m =>
y_lss a32 a35 F m fun a36 m =>
ycond a36 (tblk (sxv fun a38=>sxv fun a39=>sxv fun a40=>sxv fun a41=>sx0 (fun m =>
y_add a38 (.p (.int .i64 1)) F m fun a42 m =>
j31 [a42,a39,a40,a41] m)) fun j37 =>
zac 1 a34 a32 F m fun a43 m =>
zab none a43 F m fun a44 m =>
zad (.p (.func F_Q188)) [a33,a44] F m fun a45 m =>
j37 [a32,a45,a34,a35] m) <|
j29 [a33] m)) L [(.p (.int .i64 0)),a27,a24,a28] m)) fun j22 =>
tloop (fun j46=>sxv fun a47=>sxv fun a48=>sxv fun a49=>sxv fun a50=>sxv fun a51=>sx0 (fun m =>
y_lss a47 a51 F m fun a52 m =>
ycond a52 (tblk (sxv fun a54=>sxv fun a55=>sxv fun a56=>sxv fun a57=>sxv fun a58=>sx0 (fun m =>
y_add a54 (.p (.int .i64 1)) F m fun a59 m =>
j46 [a59,a55,a56,a57,a58] m)) fun j53 =>
yfresh [a52,a47,a48,a49,a50,a51] [7] m fun m =>
zac 2 a49 a47 F m fun a60 m =>
zab (some 2) a60 F m fun a61 m =>
zah (some 7) [(.str []),(.str [])] F m fun a62 m =>
zae 2 a62 a61 F m fun _ m =>
zaa 0 a62 F m fun a64 m =>
zab none a64 F m fun a65 m =>
zad (.p (.func F_Q189)) [a65] F m fun a66 m =>
zad (.p (.func F_Q188)) [a48,a66] F m fun a67 m =>
zaa 1 a62 F m fun a68 m =>
zab none a68 F m fun a69 m =>
zad (.p (.func F_Q189)) [a69] F m fun a70 m =>
zad (.p (.func F_Q188)) [a67,a70] F m fun a71 m =>
j53 [a47,a71,a49,a50,a51] m) <|
j22 [a48,a50] m)) L [(.p (.int .i64 0)),a18,a20,a1,a21] m)
noncomputable def zyn:SFun:=⟨2,zakp,[.tmp 4],true,false⟩
theorem zaeq:SFOK tr.look F_Q164 zyn:=⟨i_Q164,(.sq .lf (.sq .lf (.sq .lf (.sq .lf (.sq .lf (.sq (.sq .lf (.bk [5,1] (.lp [32,5,30,1,31] (.sq .lf (.sq (.cj .lf .lf) (.sq (.bk [32,5,30,1,31] (.sq .lf (.sq .lf .lf))) .lf)))))) (.sq .lf (.sq (.sq .lf (.bk [5] (.lp [54,5,52,53] (.sq .lf (.sq (.cj .lf .lf) (.sq (.bk [54,5,52,53] (.sq .lf .lf)) .lf)))))) (.sq .lf .lf))))))))),[],look_Q164,rfl,rfl,rfl,rfl,rfl,by kernel_rfl⟩
noncomputable def zaog:FOr→Nat→(List IVal→SC)→List IVal→SC:=fun F L kr=>sxv fun a0=>sx0 (fun m =>
yfresh [a0] [1] m fun m =>
y_box (some 1) 5 a0 F m fun a1 m =>
zab (some 5) a1 F m fun a2 m =>
zad (.p (.func F_Q27)) [a2] F m fun a3 m =>
zab (some 5) a1 F m fun a4 m =>
zad (.p (.func F_Q58)) [a4] F m fun a5 m =>
zak [.nilslice, .nilslice, .nilslice] [(1,1,a5)] F m fun a6 m =>
y_box none 3 a6 F m fun a7 m =>
y_nil a7 F m fun a8 m =>
zaa 1 a8 F m fun a9 m =>
zab none a9 F m fun a10 m =>
y_len a10 F m fun a11 m =>
tblk (sxv fun a13=>sx0 (fun m =>
kr [a13] m)) fun j12 =>
tloop (fun j14=>sxv fun a15=>sxv fun a16=>sxv fun a17=>sxv fun a18=>sxv fun a19=>sx0 (fun m =>
y_lss a15 a19 F m fun a20 m =>
ycond a20 (tblk (sxv fun a22=>sxv fun a23=>sxv fun a24=>sxv fun a25=>sxv fun a26=>sx0 (fun m =>
y_add a22 (.p (.int .i64 1)) F m fun a27 m =>
j14 [a27,a23,a24,a25,a26] m)) fun j21 =>
zac 1 a18 a15 F m fun a28 m =>
zab none a28 F m fun a29 m =>
yblock 0 (yboth (y_nil a16 F m fun a30 m =>
zaa 0 a30 F m fun a31 m =>
zab none a31 F m fun a32 m =>
zac 10 a17 a29 F m fun a33 m =>
zaa 5 a33 F m fun a34 m =>
zab (some 5) a34 F m fun a35 m =>
y_len a32 F m fun a36 m =>
zag 5 1 [(.int .i64 0),(.str []),(.str []), .nilslice, .nilslice] [(0,5,(.agg [(.p (.int .i64 0)),(.p (.str [])),(.p (.str [])),(.p .nilslice),(.p .nilslice)]))] F m fun a37 m =>
zam 5 a32 a37 F m fun a38 m =>
zac 5 a38 a36 F m fun a39 m =>
y_nil a16 F m fun a40 m =>
zaa 0 a40 F m fun a41 m =>
zae 5 a39 a35 F m fun a42 m =>
zae 1 a41 a38 F m fun a43 m =>
some (.normal,[a16,a30,a31,a32,a17,a29,a33,a34,a35,a36,a37,a38,a39,a42,a40,a41,a43],m)) (y_nil a16 F m fun a44 m =>
zaa 0 a44 F m fun a45 m =>
zab none a45 F m fun a46 m =>
zac 10 a17 a29 F m fun a47 m =>
zaa 5 a47 F m fun a48 m =>
zab (some 5) a48 F m fun a49 m =>
y_len a46 F m fun a50 m =>
zag 5 1 [(.int .i64 0),(.str []),(.str []), .nilslice, .nilslice] [(0,5,(.agg [(.p (.int .i64 0)),(.p (.str [])),(.p (.str [])),(.p .nilslice),(.p .nilslice)]))] F m fun a51 m =>
zam 5 a46 a51 F m fun a52 m =>
zac 5 a52 a50 F m fun a53 m =>
y_nil a16 F m fun a54 m =>
zaa 0 a54 F m fun a55 m =>
zae 1 a55 a52 F m fun a56 m =>
zae 5 a53 a49 F m fun a57 m =>
some (.normal,[a16,a44,a45,a46,a17,a29,a47,a48,a49,a50,a51,a52,a53,a57,a54,a55,a56],m)) fun z m=>some (.normal,z,m)) <| sxv fun _=>sxv fun _=>sxv fun _=>sxv fun _=>sxv fun _=>sxv fun _=>sxv fun _=>sxv fun _=>sxv fun _=>sxv fun _=>sxv fun _=>sxv fun _=>sxv fun _=>sxv fun _=>sxv fun _=>sxv fun _=>sxv fun _=>sx0 (fun m =>
y_nil a16 F m fun a75 m =>
zaa 2 a75 F m fun a76 m =>
zab none a76 F m fun a77 m =>
y_add a15 (.p (.int .i64 1)) F m fun a78 m =>
zac 10 a17 a29 F m fun a79 m =>
zaa 1 a79 F m fun a80 m =>
zab none a80 F m fun a81 m =>
y_sub a78 a81 F m fun a82 m =>
zag 1 1 [(.int .i64 0)] [(0,1,a82)] F m fun a83 m =>
zam 1 a77 a83 F m fun a84 m =>
y_nil a16 F m fun a85 m =>
zaa 2 a85 F m fun a86 m =>
zae 1 a86 a84 F m fun _ m =>
j21 [a15,a16,a17,a18,a19] m)) <|
j12 [a16] m)) L [(.p (.int .i64 0)),a7,a3,a10,a11] m)
noncomputable def zabr:SFun:=⟨1,zaog,[.tmp 2],false,false⟩
theorem zahu:SFOK tr.look F_Q165 zabr:=⟨i_Q165,(.sq .lf (.sq .lf (.sq .lf (.sq (.sq .lf (.bk [4] (.lp [18,4,3,16,17] (.sq .lf (.sq (.cj .lf .lf) (.sq (.bk [18,4,3,16,17] (.sq .lf (.sq .lf .lf))) .lf)))))) (.sq .lf .lf))))),[],look_Q165,rfl,rfl,rfl,rfl,rfl,by kernel_rfl⟩
noncomputable def zahv:FOr→Nat→(List IVal→SC)→List IVal→SC:=fun F _ kr=>sxv fun a0=>sxv fun a1=>sx0 (fun m =>
yfresh [a0,a1] [4] m fun m =>
zah (some 4) [(.int .i64 0),(.int .i64 0)] F m fun a2 m =>
y_gtr a0 a1 F m fun a3 m =>
ycond a3 (zad (.p (.func F_Q167)) [] F m fun a4 m =>
zae 2 a2 a4 F m fun _ m =>
kr [a2] m) <|
zak [(.int .i64 0),(.int .i64 0)] [(0,1,a0),(1,1,a1)] F m fun a6 m =>
zae 2 a2 a6 F m fun _ m =>
kr [a2] m)
noncomputable def ztq:SFun:=⟨2,zahv,[.cell 4 (some 2)],true,false⟩
theorem zzu:SFOK tr.look F_Q166 ztq:=⟨i_Q166,(.sq .lf (.sq (.sq .lf (.cj (.sq .lf .lf) .lf)) (.sq .lf .lf))),[],look_Q166,rfl,rfl,rfl,rfl,rfl,by kernel_rfl⟩
noncomputable def zahw:FOr→Nat→(List IVal→SC)→List IVal→SC:=fun F _ kr=>sx0 (fun m =>
yfresh [] [0] m fun m =>
zah (some 0) [(.int .i64 0),(.int .i64 0)] F m fun a0 m =>
zak [(.int .i64 0),(.int .i64 0)] [(0,1,(.p (.int .i64 0))),(1,1,(.p (.int .i64 (-1))))] F m fun a1 m =>
zae 2 a0 a1 F m fun _ m =>
kr [a0] m)
noncomputable def ztr:SFun:=⟨0,zahw,[.cell 0 (some 2)],true,false⟩
theorem zzv:SFOK tr.look F_Q167 ztr:=⟨i_Q167,(.sq .lf (.sq .lf .lf)),[],look_Q167,rfl,rfl,rfl,rfl,rfl,by kernel_rfl⟩
noncomputable def zqr:FOr→Nat→(List IVal→SC)→List IVal→SC:=fun F _ kr=>sxv fun a0=>sxv fun a1=>sxv fun a2=>sx0 (fun m =>
yfresh [a0,a1,a2] [4,5] m fun m =>
y_box (some 4) 2 a1 F m fun a3 m =>
y_box (some 5) 2 a2 F m fun a4 m =>
tblk (sxv fun a6=>sxv fun a7=>sxv fun a8=>sx0 (fun m =>
yfresh [a6,a7,a8] [7] m fun m =>
zab (some 2) a7 F m fun a9 m =>
zab (some 2) a6 F m fun a10 m =>
zak [(.int .i64 0),(.int .i64 0),(.int .i64 0),(.int .i64 0)] [(0,2,a9),(2,2,a10)] F m fun a11 m =>
zah (some 7) [(.int .i64 0),(.int .i64 0),(.int .i64 0),(.int .i64 0)] F m fun a12 m =>
zae 4 a12 a11 F m fun _ m =>
y_nil a8 F m fun a14 m =>
zaa 2 a14 F m fun a15 m =>
zab none a15 F m fun a16 m =>
zab (some 4) a12 F m fun a17 m =>
zaq true (.p (.int .i64 0)) ⟨true,[.int, .int, .int, .int]⟩ a16 a17 F m fun a18 m =>
zaf a18 0 F m fun a19 m =>
zaf a18 1 F m fun a20 m =>
y_not a20 F m fun a21 m =>
tblk (sxv fun a23=>sx0 (fun m =>
kr [a23] m)) fun j22 =>
ycond a21 (zab (some 2) a7 F m fun a24 m =>
zab (some 2) a6 F m fun a25 m =>
zab (some 2) a7 F m fun a26 m =>
zab (some 2) a6 F m fun a27 m =>
zab (some 2) a7 F m fun a28 m =>
zab (some 2) a6 F m fun a29 m =>
zad (.p (.func F_Q169)) [a8,a24,a25] F m fun a30 m =>
yck F m (.load (some 2) (.const a7)) a26 <|
yck F m (.load (some 2) (.const a6)) a27 <|
yck F m (.load (some 2) (.const a7)) a28 <|
yck F m (.load (some 2) (.const a6)) a29 <|
zad (.p (.func F_Q173)) [a26] F m fun a31 m =>
yck F m (.load (some 2) (.const a6)) a27 <|
yck F m (.load (some 2) (.const a7)) a28 <|
yck F m (.load (some 2) (.const a6)) a29 <|
zad (.p (.func F_Q168)) [a8,a31,a27] F m fun a32 m =>
y_add a32 (.p (.int .i64 1)) F m fun a33 m =>
yck F m (.load (some 2) (.const a7)) a28 <|
yck F m (.load (some 2) (.const a6)) a29 <|
zad (.p (.func F_Q173)) [a29] F m fun a34 m =>
yck F m (.load (some 2) (.const a7)) a28 <|
zad (.p (.func F_Q168)) [a8,a28,a34] F m fun a35 m =>
y_add a35 (.p (.int .i64 1)) F m fun a36 m =>
yv (zamf [(.const a30),(.const a33),(.const a36)]) F m fun a37 m =>
y_nil a8 F m fun a38 m =>
zaa 2 a38 F m fun a39 m =>
zab none a39 F m fun a40 m =>
zab (some 4) a12 F m fun a41 m =>
zbl ⟨true,[.int, .int, .int, .int]⟩ a40 a41 a37 F m fun _ m =>
j22 [a37] m) <|
j22 [a19] m)) fun j5 =>
zab (some 2) a3 F m fun a43 m =>
zad (.p (.func F_Q167)) [] F m fun a44 m =>
yv (x_eqv false ⟨true,[.int, .int]⟩ (.const a43) (.const a44)) F m fun a45 m =>
ygd a45 true (zab (some 2) a4) F m fun a46 m =>
yck F m (.load (some 2) (.const a3)) a43 <|
ygd a45 true (zad (.p (.func F_Q167)) []) F m fun a47 m =>
ygd a45 true (yv (x_eqv false ⟨true,[.int, .int]⟩ (.const a46) (.const a47))) F m fun a48 m =>
zai a45 a48 (.p (.bool false)) F m fun a49 m =>
yckg a45 true F m (.load (some 2) (.const a4)) a46 <|
ycond a49 (kr [(.p (.int .i64 0))] m) <|
zab (some 2) a3 F m fun a50 m =>
zad (.p (.func F_Q167)) [] F m fun a51 m =>
yv (x_eqv false ⟨true,[.int, .int]⟩ (.const a50) (.const a51)) F m fun a52 m =>
yck F m (.load (some 2) (.const a3)) a50 <|
ycond a52 (zaj 2 1 a4 (.p (.int .i64 1)) F m fun a53 m =>
zab none a53 F m fun a54 m =>
zaj 2 1 a4 (.p (.int .i64 0)) F m fun a55 m =>
zab none a55 F m fun a56 m =>
y_sub a54 a56 F m fun a57 m =>
y_add a57 (.p (.int .i64 1)) F m fun a58 m =>
kr [a58] m) <|
zab (some 2) a4 F m fun a59 m =>
zad (.p (.func F_Q167)) [] F m fun a60 m =>
yv (x_eqv false ⟨true,[.int, .int]⟩ (.const a59) (.const a60)) F m fun a61 m =>
yck F m (.load (some 2) (.const a4)) a59 <|
ycond a61 (zaj 2 1 a3 (.p (.int .i64 1)) F m fun a62 m =>
zab none a62 F m fun a63 m =>
zaj 2 1 a3 (.p (.int .i64 0)) F m fun a64 m =>
zab none a64 F m fun a65 m =>
y_sub a63 a65 F m fun a66 m =>
y_add a66 (.p (.int .i64 1)) F m fun a67 m =>
kr [a67] m) <|
j5 [a4,a3,a0] m)
noncomputable def zgw:SFun:=⟨3,zqr,[.tmp 6],false,false⟩
theorem zml:SFOK tr.look F_Q168 zgw:=⟨i_Q168,(.sq .lf (.sq (.bk [5,4,0] (.sq .lf (.cj (.sq .lf .lf) (.sq .lf (.cj (.sq .lf .lf) (.sq .lf (.cj (.sq .lf .lf) .lf))))))) (.sq .lf (.sq .lf (.sq (.sq .lf (.cd [8] (.sq .lf .lf) .lf)) (.sq .lf .lf)))))),[],look_Q168,rfl,rfl,rfl,rfl,rfl,by kernel_rfl⟩
noncomputable def zmm:FOr→Nat→(List IVal→SC)→List IVal→SC:=fun F _ kr=>sxv fun a0=>sxv fun a1=>sxv fun a2=>sx0 (fun m =>
yfresh [a0,a1,a2] [4,5] m fun m =>
y_box (some 4) 2 a1 F m fun a3 m =>
y_box (some 5) 2 a2 F m fun a4 m =>
y_nil a0 F m fun a5 m =>
zaa 0 a5 F m fun a6 m =>
zab none a6 F m fun a7 m =>
zab (some 2) a3 F m fun a8 m =>
y_nil a0 F m fun a9 m =>
zaa 1 a9 F m fun a10 m =>
zab none a10 F m fun a11 m =>
zab (some 2) a4 F m fun a12 m =>
y_nil a0 F m fun a13 m =>
zaa 0 a13 F m fun a14 m =>
zab none a14 F m fun a15 m =>
zab (some 2) a3 F m fun a16 m =>
y_nil a0 F m fun a17 m =>
zaa 1 a17 F m fun a18 m =>
zab none a18 F m fun a19 m =>
zab (some 2) a4 F m fun a20 m =>
y_nil a0 F m fun a21 m =>
zaa 0 a21 F m fun a22 m =>
zab none a22 F m fun a23 m =>
y_nil a23 F m fun a24 m =>
zaa 0 a24 F m fun a25 m =>
zab none a25 F m fun a26 m =>
zaj 2 1 a3 (.p (.int .i64 1)) F m fun a27 m =>
zab none a27 F m fun a28 m =>
zac 5 a26 a28 F m fun a29 m =>
zab (some 5) a29 F m fun a30 m =>
y_nil a0 F m fun a31 m =>
zaa 1 a31 F m fun a32 m =>
zab none a32 F m fun a33 m =>
y_nil a33 F m fun a34 m =>
zaa 0 a34 F m fun a35 m =>
zab none a35 F m fun a36 m =>
zaj 2 1 a4 (.p (.int .i64 1)) F m fun a37 m =>
zab none a37 F m fun a38 m =>
zac 5 a36 a38 F m fun a39 m =>
zab (some 5) a39 F m fun a40 m =>
zad (.p (.func F_Q170)) [a7,a8] F m fun a41 m =>
yck F m (.load none (.const a10)) a11 <|
yck F m (.load (some 2) (.const a4)) a12 <|
yck F m (.load none (.const a14)) a15 <|
yck F m (.load (some 2) (.const a3)) a16 <|
yck F m (.load none (.const a18)) a19 <|
yck F m (.load (some 2) (.const a4)) a20 <|
yck F m (.load none (.const a22)) a23 <|
yck F m (.load none (.const a25)) a26 <|
yck F m (.load none (.const a27)) a28 <|
yck F m (.load (some 5) (.const a29)) a30 <|
yck F m (.load none (.const a32)) a33 <|
yck F m (.load none (.const a35)) a36 <|
yck F m (.load none (.const a37)) a38 <|
yck F m (.load (some 5) (.const a39)) a40 <|
zad (.p (.func F_Q170)) [a11,a12] F m fun a42 m =>
yck F m (.load none (.const a14)) a15 <|
yck F m (.load (some 2) (.const a3)) a16 <|
yck F m (.load none (.const a18)) a19 <|
yck F m (.load (some 2) (.const a4)) a20 <|
yck F m (.load none (.const a22)) a23 <|
yck F m (.load none (.const a25)) a26 <|
yck F m (.load none (.const a27)) a28 <|
yck F m (.load (some 5) (.const a29)) a30 <|
yck F m (.load none (.const a32)) a33 <|
yck F m (.load none (.const a35)) a36 <|
yck F m (.load none (.const a37)) a38 <|
yck F m (.load (some 5) (.const a39)) a40 <|
zad (.p (.func F_Q168)) [a0,a41,a42] F m fun a43 m =>
yck F m (.load none (.const a14)) a15 <|
yck F m (.load (some 2) (.const a3)) a16 <|
yck F m (.load none (.const a18)) a19 <|
yck F m (.load (some 2) (.const a4)) a20 <|
yck F m (.load none (.const a22)) a23 <|
yck F m (.load none (.const a25)) a26 <|
yck F m (.load none (.const a27)) a28 <|
yck F m (.load (some 5) (.const a29)) a30 <|
yck F m (.load none (.const a32)) a33 <|
yck F m (.load none (.const a35)) a36 <|
yck F m (.load none (.const a37)) a38 <|
yck F m (.load (some 5) (.const a39)) a40 <|
zad (.p (.func F_Q171)) [a15,a16] F m fun a44 m =>
yck F m (.load none (.const a18)) a19 <|
yck F m (.load (some 2) (.const a4)) a20 <|
yck F m (.load none (.const a22)) a23 <|
yck F m (.load none (.const a25)) a26 <|
yck F m (.load none (.const a27)) a28 <|
yck F m (.load (some 5) (.const a29)) a30 <|
yck F m (.load none (.const a32)) a33 <|
yck F m (.load none (.const a35)) a36 <|
yck F m (.load none (.const a37)) a38 <|
yck F m (.load (some 5) (.const a39)) a40 <|
zad (.p (.func F_Q171)) [a19,a20] F m fun a45 m =>
yck F m (.load none (.const a22)) a23 <|
yck F m (.load none (.const a25)) a26 <|
yck F m (.load none (.const a27)) a28 <|
yck F m (.load (some 5) (.const a29)) a30 <|
yck F m (.load none (.const a32)) a33 <|
yck F m (.load none (.const a35)) a36 <|
yck F m (.load none (.const a37)) a38 <|
yck F m (.load (some 5) (.const a39)) a40 <|
zad (.p (.func F_Q168)) [a0,a44,a45] F m fun a46 m =>
y_add a43 a46 F m fun a47 m =>
yck F m (.load none (.const a22)) a23 <|
yck F m (.load none (.const a25)) a26 <|
yck F m (.load none (.const a27)) a28 <|
yck F m (.load (some 5) (.const a29)) a30 <|
yck F m (.load none (.const a32)) a33 <|
yck F m (.load none (.const a35)) a36 <|
yck F m (.load none (.const a37)) a38 <|
yck F m (.load (some 5) (.const a39)) a40 <|
zad (.p (.func F_Q172)) [a30,a40] F m fun a48 m =>
y_add a47 a48 F m fun a49 m =>
kr [a49] m)
noncomputable def zfc:SFun:=⟨3,zmm,[.tmp 6],false,false⟩
theorem zjl:SFOK tr.look F_Q169 zfc:=⟨i_Q169,(.sq .lf (.sq .lf .lf)),[],look_Q169,rfl,rfl,rfl,rfl,rfl,by kernel_rfl⟩
noncomputable def zsi:FOr→Nat→(List IVal→SC)→List IVal→SC:=fun F _ kr=>sxv fun a0=>sxv fun a1=>sx0 (fun m =>
yfresh [a0,a1] [3,4] m fun m =>
y_box (some 3) 2 a1 F m fun a2 m =>
zah (some 4) [(.int .i64 0),(.int .i64 0)] F m fun a3 m =>
y_nil a0 F m fun a4 m =>
zaa 2 a4 F m fun a5 m =>
zab none a5 F m fun a6 m =>
zaj 2 1 a2 (.p (.int .i64 1)) F m fun a7 m =>
zab none a7 F m fun a8 m =>
zac 1 a6 a8 F m fun a9 m =>
zab none a9 F m fun a10 m =>
zaj 2 1 a2 (.p (.int .i64 1)) F m fun a11 m =>
zab none a11 F m fun a12 m =>
y_sub a12 (.p (.int .i64 1)) F m fun a13 m =>
zad (.p (.func F_Q166)) [a10,a13] F m fun a14 m =>
zae 2 a3 a14 F m fun _ m =>
kr [a3] m)
noncomputable def zhz:SFun:=⟨2,zsi,[.cell 4 (some 2)],false,false⟩
theorem zok:SFOK tr.look F_Q170 zhz:=⟨i_Q170,(.sq .lf (.sq .lf .lf)),[],look_Q170,rfl,rfl,rfl,rfl,rfl,by kernel_rfl⟩
noncomputable def zmn:FOr→Nat→(List IVal→SC)→List IVal→SC:=fun F _ kr=>sxv fun a0=>sxv fun a1=>sx0 (fun m =>
yfresh [a0,a1] [3,4] m fun m =>
y_box (some 3) 2 a1 F m fun a2 m =>
zah (some 4) [(.int .i64 0),(.int .i64 0)] F m fun a3 m =>
zaj 2 1 a2 (.p (.int .i64 0)) F m fun a4 m =>
zab none a4 F m fun a5 m =>
y_nil a0 F m fun a6 m =>
zaa 2 a6 F m fun a7 m =>
zab none a7 F m fun a8 m =>
zaj 2 1 a2 (.p (.int .i64 1)) F m fun a9 m =>
zab none a9 F m fun a10 m =>
zac 1 a8 a10 F m fun a11 m =>
zab none a11 F m fun a12 m =>
y_sub a12 (.p (.int .i64 1)) F m fun a13 m =>
zad (.p (.func F_Q166)) [a5,a13] F m fun a14 m =>
zae 2 a3 a14 F m fun _ m =>
kr [a3] m)
noncomputable def zfd:SFun:=⟨2,zmn,[.cell 4 (some 2)],false,false⟩
theorem zjm:SFOK tr.look F_Q171 zfd:=⟨i_Q171,(.sq .lf (.sq .lf .lf)),[],look_Q171,rfl,rfl,rfl,rfl,rfl,by kernel_rfl⟩
noncomputable def zahx:FOr→Nat→(List IVal→SC)→List IVal→SC:=fun F _ kr=>sxv fun a0=>sxv fun a1=>sx0 (fun m =>
yfresh [a0,a1] [2,3] m fun m =>
y_box (some 2) 5 a0 F m fun a2 m =>
y_box (some 3) 5 a1 F m fun a3 m =>
tblk (sx0 (fun m =>
kr [(.p (.int .i64 0))] m)) fun j4 =>
zaa 0 a2 F m fun a5 m =>
zab none a5 F m fun a6 m =>
zaa 0 a3 F m fun a7 m =>
zab none a7 F m fun a8 m =>
y_neq a6 a8 F m fun a9 m =>
ygd a9 false (zaa 1 a2) F m fun a10 m =>
ygd a9 false (zab none a10) F m fun a11 m =>
ygd a9 false (zaa 1 a3) F m fun a12 m =>
ygd a9 false (zab none a12) F m fun a13 m =>
ygd a9 false (y_neq a11 a13) F m fun a14 m =>
zai a9 (.p (.bool true)) a14 F m fun a15 m =>
ycond a15 (kr [(.p (.int .i64 3))] m) <|
zaa 2 a2 F m fun a16 m =>
zab none a16 F m fun a17 m =>
zaa 2 a3 F m fun a18 m =>
zab none a18 F m fun a19 m =>
y_neq a17 a19 F m fun a20 m =>
ygd a20 false (zaa 3 a2) F m fun a21 m =>
ygd a20 false (zab none a21) F m fun a22 m =>
ygd a20 false (zaa 3 a3) F m fun a23 m =>
ygd a20 false (zab none a23) F m fun a24 m =>
ygd a20 false (zad (.p (.func F_Q190)) [a22,a24]) F m fun a25 m =>
ygd a20 false (y_not a25) F m fun a26 m =>
zai a20 (.p (.bool true)) a26 F m fun a27 m =>
ycond a27 (kr [(.p (.int .i64 1))] m) <|
j4 [] m)
noncomputable def zts:SFun:=⟨2,zahx,[.tmp 4],true,false⟩
theorem zzw:SFOK tr.look F_Q172 zts:=⟨i_Q172,(.sq .lf (.sq (.bk [] (.sq .lf (.cj (.sq .lf .lf) (.sq .lf (.cj (.sq .lf .lf) .lf))))) (.sq .lf .lf))),[],look_Q172,rfl,rfl,rfl,rfl,rfl,by kernel_rfl⟩
noncomputable def zahy:FOr→Nat→(List IVal→SC)→List IVal→SC:=fun F _ kr=>sxv fun a0=>sx0 (fun m =>
yfresh [a0] [1,2] m fun m =>
y_box (some 1) 2 a0 F m fun a1 m =>
zah (some 2) [(.int .i64 0),(.int .i64 0)] F m fun a2 m =>
zaj 2 1 a1 (.p (.int .i64 0)) F m fun a3 m =>
zab none a3 F m fun a4 m =>
zaj 2 1 a1 (.p (.int .i64 1)) F m fun a5 m =>
zab none a5 F m fun a6 m =>
y_sub a6 (.p (.int .i64 1)) F m fun a7 m =>
zad (.p (.func F_Q166)) [a4,a7] F m fun a8 m =>
zae 2 a2 a8 F m fun _ m =>
kr [a2] m)
noncomputable def ztt:SFun:=⟨1,zahy,[.cell 2 (some 2)],true,false⟩
theorem zzx:SFOK tr.look F_Q173 ztt:=⟨i_Q173,(.sq .lf (.sq .lf .lf)),[],look_Q173,rfl,rfl,rfl,rfl,rfl,by kernel_rfl⟩
noncomputable def zgh:FOr→Nat→(List IVal→SC)→List IVal→SC:=fun F L kr=>sxv fun a0=>sxv fun a1=>sx0 (fun m =>
zad (.p (.func F_Q131)) [a0,a1] F m fun a2 m =>
y_eql a2 (.p (.int .i64 (-1))) F m fun a3 m =>
ycond a3 (kr [a0] m) <|
y_add a2 (.p (.int .i64 1)) F m fun a4 m =>
tblk (sxv fun a6=>sxv fun a7=>sx0 (fun m =>
zfz 1 a6 (some a7) none F m fun a8 m =>
zadh [(.int .i64 0)] a8 F m fun _ m =>
zfz 1 a6 none (some a7) F m fun a10 m =>
kr [a10] m)) fun j5 =>
tloop (fun j11=>sxv fun a12=>sxv fun a13=>sxv fun a14=>sxv fun a15=>sx0 (fun m =>
y_len a14 F m fun a16 m =>
y_lss a12 a16 F m fun a17 m =>
ycond a17 (tblk (sxv fun a19=>sxv fun a20=>sxv fun a21=>sxv fun a22=>sx0 (fun m =>
y_add a19 (.p (.int .i64 1)) F m fun a23 m =>
j11 [a23,a20,a21,a22] m)) fun j18 =>
zac 1 a14 a12 F m fun a24 m =>
zab none a24 F m fun a25 m =>
zad a15 [a25] F m fun a26 m =>
y_not a26 F m fun a27 m =>
tblk (sxv fun a29=>sxv fun a30=>sxv fun a31=>sxv fun a32=>sx0 (fun m =>
j18 [a29,a30,a31,a32] m)) fun j28 =>
ycond a27 (zac 1 a14 a13 F m fun a33 m =>
zae 1 a33 a25 F m fun _ m =>
y_add a13 (.p (.int .i64 1)) F m fun a35 m =>
j28 [a12,a35,a14,a15] m) <|
j28 [a12,a13,a14,a15] m) <|
j5 [a14,a13] m)) L [a4,a2,a0,a1] m)
noncomputable def zcd:SFun:=⟨2,zgh,[.tmp 4],false,false⟩
theorem zet:SFOK tr.look F_Q181 zcd:=⟨i_Q181,(.sq .lf (.sq .lf (.sq (.sq .lf (.cj (.sq .lf .lf) .lf)) (.sq (.sq .lf (.bk [0,5] (.lp [6,5,0,1] (.sq (.sq .lf (.cj .lf .lf)) (.sq (.bk [6,5,0,1] (.sq .lf (.sq .lf (.cd [6,5,0,1] (.sq .lf .lf) .lf)))) .lf))))) (.sq .lf (.sq .lf .lf)))))),[],look_Q181,rfl,rfl,rfl,rfl,rfl,by kernel_rfl⟩
noncomputable def zyo:FOr→Nat→(List IVal→SC)→List IVal→SC:=fun F _ kr=>sxv fun a0=>sxv fun a1=>sx0 (fun m =>
zab none a1 F m fun a2 m =>
y_eql a0 a2 F m fun a3 m =>
kr [a3] m)
noncomputable def zll:SFun:=⟨2,zyo,[.tmp 3],false,false⟩
theorem zsj:SFOK tr.look F_Q182 zll:=⟨i_Q182,(.sq .lf (.sq .lf .lf)),[],look_Q182,rfl,rfl,rfl,rfl,rfl,by kernel_rfl⟩
noncomputable def zaoh:FOr→Nat→(List IVal→SC)→List IVal→SC:=fun F _ kr=>sxv fun a0=>sxv fun a1=>sx0 (fun m =>
yv (x_xor a0 a1) F m fun a2 m =>
yv (x_mul a2 (.p (.int .u64 11400714819323198485))) F m fun a3 m =>
yv (xgen .shr a3 (.p (.int .u64 29))) F m fun a4 m =>
yv (x_xor a3 a4) F m fun a5 m =>
zad (.p (.func F_Q195)) [a5,(.p (.int .i64 31))] F m fun a6 m =>
kr [a6] m)
noncomputable def zabs:SFun:=⟨2,zaoh,[.tmp 4],true,false⟩
theorem zahz:SFOK tr.look F_Q188 zabs:=⟨i_Q188,(.sq .lf (.sq .lf (.sq .lf .lf))),[],look_Q188,rfl,rfl,rfl,rfl,rfl,by kernel_rfl⟩
noncomputable def zakq:FOr→Nat→(List IVal→SC)→List IVal→SC:=fun F L kr=>sxv fun a0=>sx0 (fun m =>
yv (zdk a0) F m fun a1 m =>
yv (zfx .u64 a1) F m fun a2 m =>
tblk (sxv fun a4=>sx0 (fun m =>
kr [a4] m)) fun j3 =>
tloop (fun j5=>sxv fun a6=>sxv fun a7=>sxv fun a8=>sx0 (fun m =>
yv (zdk a8) F m fun a9 m =>
y_lss a6 a9 F m fun a10 m =>
ycond a10 (tblk (sxv fun a12=>sxv fun a13=>sxv fun a14=>sx0 (fun m =>
y_add a12 (.p (.int .i64 8)) F m fun a15 m =>
j5 [a15,a13,a14] m)) fun j11 =>
zup [(.int .u8 0),(.int .u8 0),(.int .u8 0),(.int .u8 0),(.int .u8 0),(.int .u8 0),(.int .u8 0),(.int .u8 0)] 1 F m fun a16 m =>
zmb 8 1 a16 none none F m fun a17 m =>
yv (zma a8 (some a6) none) F m fun a18 m =>
zagw 1 a17 a18 F m fun _ m =>
zab (some 8) a16 F m fun a20 m =>
zad (.p (.func F_Q196)) [a20] F m fun a21 m =>
zad (.p (.func F_Q188)) [a7,a21] F m fun a22 m =>
j11 [a6,a22,a8] m) <|
j3 [a7] m)) L [(.p (.int .i64 0)),a2,a0] m)
noncomputable def zyp:SFun:=⟨1,zakq,[.tmp 2],true,false⟩
theorem zaer:SFOK tr.look F_Q189 zyp:=⟨i_Q189,(.sq .lf (.sq .lf (.sq (.sq .lf (.bk [3] (.lp [4,3,0] (.sq (.sq .lf (.cj .lf .lf)) (.sq (.bk [4,3,0] (.sq .lf (.sq .lf .lf))) .lf))))) (.sq .lf .lf)))),[],look_Q189,rfl,rfl,rfl,rfl,rfl,by kernel_rfl⟩
noncomputable def zdq:FOr→Nat→(List IVal→SC)→List IVal→SC:=fun F L kr=>sxv fun a0=>sxv fun a1=>sx0 (fun m =>
y_len a0 F m fun a2 m =>
y_len a1 F m fun a3 m =>
y_neq a2 a3 F m fun a4 m =>
ycond a4 (kr [(.p (.bool false))] m) <|
y_len a0 F m fun a5 m =>
tblk (sx0 (fun m =>
kr [(.p (.bool true))] m)) fun j6 =>
tloop (fun j7=>sxv fun a8=>sxv fun a9=>sxv fun a10=>sxv fun a11=>sx0 (fun m =>
y_lss a8 a11 F m fun a12 m =>
ycond a12 (tblk (sxv fun a14=>sxv fun a15=>sxv fun a16=>sxv fun a17=>sx0 (fun m =>
y_add a14 (.p (.int .i64 1)) F m fun a18 m =>
j7 [a18,a15,a16,a17] m)) fun j13 =>
zac 2 a9 a8 F m fun a19 m =>
zab (some 2) a19 F m fun a20 m =>
zac 2 a10 a8 F m fun a21 m =>
zab (some 2) a21 F m fun a22 m =>
yv (x_eqv true ⟨true,[.str, .str]⟩ (.const a20) (.const a22)) F m fun a23 m =>
ycond a23 (kr [(.p (.bool false))] m) <|
j13 [a8,a9,a10,a11] m) <|
j6 [] m)) L [(.p (.int .i64 0)),a0,a1,a5] m)
noncomputable def zbk:SFun:=⟨2,zdq,[.tmp 4],true,false⟩
theorem zdc:SFOK tr.look F_Q190 zbk:=⟨i_Q190,(.sq .lf (.sq (.sq .lf (.cj (.sq .lf .lf) .lf)) (.sq (.sq .lf (.bk [] (.lp [13,0,1,12] (.sq .lf (.sq (.cj .lf .lf) (.sq (.bk [13,0,1,12] (.sq .lf (.sq .lf (.cj (.sq .lf .lf) .lf)))) .lf)))))) (.sq .lf .lf)))),[],look_Q190,rfl,rfl,rfl,rfl,rfl,by kernel_rfl⟩
noncomputable def zakr:FOr→Nat→(List IVal→SC)→List IVal→SC:=fun F _ kr=>sxv fun a0=>sxv fun a1=>sx0 (fun m =>
yv (zfx .u64 a1) F m fun a2 m =>
yv (x_and a2 (.p (.int .u64 63))) F m fun a3 m =>
yv (xgen .shl a0 a3) F m fun a4 m =>
y_sub (.p (.int .u64 64)) a3 F m fun a5 m =>
yv (xgen .shr a0 a5) F m fun a6 m =>
yv (x_or a4 a6) F m fun a7 m =>
kr [a7] m)
noncomputable def zyq:SFun:=⟨2,zakr,[.tmp 4],true,false⟩
theorem zaes:SFOK tr.look F_Q195 zyq:=⟨i_Q195,(.sq .lf (.sq .lf (.sq .lf .lf))),[],look_Q195,rfl,rfl,rfl,rfl,rfl,by kernel_rfl⟩
noncomputable def zary:FOr→Nat→(List IVal→SC)→List IVal→SC:=fun F L kr=>sxv fun a0=>sx0 (fun m =>
yfresh [a0] [1] m fun m =>
y_box (some 1) 8 a0 F m fun a1 m =>
tblk (sxv fun a3=>sx0 (fun m =>
kr [a3] m)) fun j2 =>
tloop (fun j4=>sxv fun a5=>sxv fun a6=>sxv fun a7=>sx0 (fun m =>
y_lss a5 (.p (.int .i64 8)) F m fun a8 m =>
ycond a8 (tblk (sxv fun a10=>sxv fun a11=>sxv fun a12=>sx0 (fun m =>
y_add a10 (.p (.int .i64 1)) F m fun a13 m =>
j4 [a13,a11,a12] m)) fun j9 =>
zaj 8 1 a6 a5 F m fun a14 m =>
zab none a14 F m fun a15 m =>
yv (zfx .u64 a15) F m fun a16 m =>
yv (x_mul (.p (.int .i64 8)) a5) F m fun a17 m =>
yv (xgen .shl a16 a17) F m fun a18 m =>
yv (x_or a7 a18) F m fun a19 m =>
j9 [a5,a6,a19] m) <|
j2 [a7] m)) L [(.p (.int .i64 0)),a1,(.p (.int .u64 0))] m)
noncomputable def zaia:SFun:=⟨1,zary,[.tmp 2],true,false⟩
theorem zaks:SFOK tr.look F_Q196 zaia:=⟨i_Q196,(.sq .lf (.sq .lf (.sq (.sq .lf (.bk [3] (.lp [5,1,3] (.sq .lf (.sq (.cj .lf .lf) (.sq (.bk [5,1,3] (.sq .lf .lf)) .lf)))))) (.sq .lf .lf)))),[],look_Q196,rfl,rfl,rfl,rfl,rfl,by kernel_rfl⟩
noncomputable def st:STr:=(.node 76 (.node 41 (.node 23 (.node 14 (.node 9 (.node 7 (.one F_Q6 zbh) (.node 8 (.one F_Q7 zps) (.one F_Q8 ztd))) (.node 11 (.node 10 (.one F_Q9 zpt) (.one F_Q10 zxe)) (.node 12 (.one F_Q11 zpu) (.one F_Q12 zxg)))) (.node 18 (.node 16 (.node 15 (.one F_Q14 zpv) (.one F_Q15 zte)) (.node 17 (.one F_Q16 zpw) (.one F_Q17 zdr))) (.node 20 (.node 19 (.one F_Q18 zga) (.one F_Q19 zek)) (.node 22 (.one F_Q20 zpx) (.one F_Q22 ziu))))) (.node 32 (.node 26 (.node 24 (.one F_Q23 zxk) (.node 25 (.one F_Q24 ztf) (.one F_Q25 ztg))) (.node 28 (.node 27 (.one F_Q26 zxl) (.one F_Q27 zxm)) (.node 30 (.one F_Q28 zth) (.one F_Q30 zabm)))) (.node 36 (.node 34 (.node 33 (.one F_Q32 zgb) (.one F_Q33 zew)) (.node 35 (.one F_Q34 zcc) (.one F_Q35 zgd))) (.node 39 (.node 37 (.one F_Q36 zex) (.one F_Q37 zge)) (.node 40 (.one F_Q39 zdm) (.one F_Q40 zhq)))))) (.node 56 (.node 48 (.node 44 (.node 42 (.one F_Q41 zpz) (.node 43 (.one F_Q42 zqa) (.one F_Q43 zxp))) (.node 46 (.node 45 (.one F_Q44 zkx) (.one F_Q45 zti)) (.node 47 (.one F_Q46 zds) (.one F_Q47 zna)))) (.node 52 (.node 50 (.node 49 (.one F_Q48 ztj) (.one F_Q49 zqb)) (.node 51 (.one F_Q50 zxs) (.one F_Q51 zxt))) (.node 54 (.node 53 (.one F_Q52 zqc) (.one F_Q53 zbi)) (.node 55 (.one F_Q54 ztk) (.one F_Q55 ztl))))) (.node 64 (.node 60 (.node 58 (.node 57 (.one F_Q56 zky) (.one F_Q57 zey)) (.node 59 (.one F_Q58 zxw) (.one F_Q59 zez))) (.node 62 (.node 61 (.one F_Q60 zel) (.one F_Q61 zfa)) (.node 63 (.one F_Q62 zfb) (.one F_Q63 zla)))) (.node 68 (.node 66 (.node 65 (.one F_Q64 zqd) (.one F_Q65 ztm)) (.node 67 (.one F_Q66 zlb) (.one F_Q67 zbp))) (.node 71 (.node 70 (.one F_Q68 zlc) (.one F_Q70 zabn)) (.node 73 (.one F_Q71 zabo) (.one F_Q73 zbc))))))) (.node 132 (.node 93 (.node 85 (.node 80 (.node 78 (.one F_Q76 zgt) (.node 79 (.one F_Q78 zld) (.one F_Q79 zaho))) (.node 83 (.node 81 (.one F_Q80 zgf) (.one F_Q81 zgg)) (.node 84 (.one F_Q83 zbv) (.one F_Q84 zlg)))) (.node 89 (.node 87 (.node 86 (.one F_Q85 zlh) (.one F_Q86 zye)) (.node 88 (.one F_Q87 ztn) (.one F_Q88 zto))) (.node 91 (.node 90 (.one F_Q89 zhs) (.one F_Q90 zgu)) (.node 92 (.one F_Q91 zht) (.one F_Q92 zdt))))) (.node 121 (.node 99 (.node 96 (.node 94 (.one F_Q93 zdu) (.one F_Q94 zabp)) (.node 97 (.one F_Q96 znb) (.one F_Q97 zli))) (.node 110 (.node 109 (.one F_Q99 zba) (.one F_Q109 zhw)) (.node 111 (.one F_Q110 ztp) (.one F_Q111 zbj)))) (.node 128 (.node 124 (.node 122 (.one F_Q121 zqg) (.one F_Q122 ziv)) (.node 127 (.one F_Q124 znc) (.one F_Q127 znd))) (.node 130 (.node 129 (.one F_Q128 ziw) (.one F_Q129 zlj)) (.node 131 (.one F_Q130 zne) (.one F_Q131 zcj)))))) (.node 165 (.node 154 (.node 135 (.node 133 (.one F_Q132 zabq) (.node 134 (.one F_Q133 zqj) (.one F_Q134 zgv))) (.node 152 (.node 141 (.one F_Q135 zhx) (.one F_Q141 zav)) (.node 153 (.one F_Q152 zql) (.one F_Q153 znf)))) (.node 159 (.node 156 (.node 155 (.one F_Q154 zqm) (.one F_Q155 zix)) (.node 158 (.one F_Q156 zlk) (.one F_Q158 zqo))) (.node 163 (.node 160 (.one F_Q159 ziy) (.one F_Q160 ziz)) (.node 164 (.one F_Q163 zdv) (.one F_Q164 zyn))))) (.node 173 (.node 169 (.node 167 (.node 166 (.one F_Q165 zabr) (.one F_Q166 ztq)) (.node 168 (.one F_Q167 ztr) (.one F_Q168 zgw))) (.node 171 (.node 170 (.one F_Q169 zfc) (.one F_Q170 zhz)) (.node 172 (.one F_Q171 zfd) (.one F_Q172 zts)))) (.node 189 (.node 182 (.node 181 (.one F_Q173 ztt) (.one F_Q181 zcd)) (.node 188 (.one F_Q182 zll) (.one F_Q188 zabs))) (.node 195 (.node 190 (.one F_Q189 zyp) (.one F_Q190 zbk)) (.node 196 (.one F_Q195 zyq) (.one F_Q196 zaia))))))))
theorem st_ok:st.all (SFOK tr.look):=⟨⟨⟨⟨⟨⟨zev,⟨zxc,zzb⟩⟩,⟨⟨zxd,zads⟩,⟨zxf,zadu⟩⟩⟩,⟨⟨⟨zxh,zzc⟩,⟨zxi,zhp⟩⟩,⟨⟨zks,zip⟩,⟨zxj,zpy⟩⟩⟩⟩,⟨⟨⟨zady,⟨zzd,zze⟩⟩,⟨⟨zadz,zaea⟩,⟨zzf,zahg⟩⟩⟩,⟨⟨⟨zku,zjb⟩,⟨zer,zkv⟩⟩,⟨⟨zjc,zkw⟩,⟨zhd,zod⟩⟩⟩⟩⟩,⟨⟨⟨⟨zxn,⟨zxo,zaed⟩⟩,⟨⟨zrt,zzg⟩,⟨zhr,zty⟩⟩⟩,⟨⟨⟨zzi,zxr⟩,⟨zaef,zaeg⟩⟩,⟨⟨zxu,zda⟩,⟨zzj,zzk⟩⟩⟩⟩,⟨⟨⟨⟨zru,zje⟩,⟨zaei,zjf⟩⟩,⟨⟨zir,zjg⟩,⟨zjh,zrv⟩⟩⟩,⟨⟨⟨zxy,zzl⟩,⟨zrw,zdo⟩⟩,⟨⟨zrx,zahm⟩,⟨zahn,zcl⟩⟩⟩⟩⟩⟩,⟨⟨⟨⟨⟨zmi,⟨zry,zakn⟩⟩,⟨⟨zle,zlf⟩,⟨zdz,zrz⟩⟩⟩,⟨⟨⟨zsa,zaek⟩,⟨zzm,zzn⟩⟩,⟨⟨zog,zmj⟩,⟨zoh,zhu⟩⟩⟩⟩,⟨⟨⟨⟨zhv,zahr⟩,⟨ztz,zsd⟩⟩,⟨⟨zch,zoi⟩,⟨zzp,zdb⟩⟩⟩,⟨⟨⟨zyg,zqh⟩,⟨zub,zuc⟩⟩,⟨⟨zqi,zsf⟩,⟨zue,zfk⟩⟩⟩⟩⟩,⟨⟨⟨⟨zaht,⟨zyi,zmk⟩⟩,⟨⟨zoj,zbx⟩,⟨zyj,zuf⟩⟩⟩,⟨⟨⟨zyk,zqn⟩,⟨zsh,zym⟩⟩,⟨⟨zqp,zqq⟩,⟨zhy,zaeq⟩⟩⟩⟩,⟨⟨⟨⟨zahu,zzu⟩,⟨zzv,zml⟩⟩,⟨⟨zjl,zok⟩,⟨zjm,zzw⟩⟩⟩,⟨⟨⟨zzx,zet⟩,⟨zsj,zahz⟩⟩,⟨⟨zaer,zdc⟩,⟨zaes,zaks⟩⟩⟩⟩⟩⟩⟩
end Go.Ideal

/-
  WHAT HAS NO BODY, over the memory as a tree; ALL CALLS OF THIS SEAT, RECKONED FAST.
-/
namespace Go.Ideal
open Go
set_option maxHeartbeats 4000000
set_option maxRecDepth 20000
attribute [-simp] getElem?_pos
instance:Kept:=⟨Memo tr.look⟩
noncomputable def sortS (args:List IVal) (h:FH):Option (IVal×FH) :=
 match args with
 | [v, .p (.func g)]=>match isCmp g with
   |true=>match v with
    | .p .nilslice=>some (.tup [],h)
    | .slice k ver off n=>match Nat.beq off 0,hfetch h k with
      |true,some (.cells cs e w op)=>match Nat.beq ver w&&Nat.beq e 2,rdPairs n cs with
       |true,some L=>match nodupN L&&(Nat.ble (n+1) 1000000&&!(Nat.beq n 0))with
        |true=>lall (gsplice cs 0 (prow (sortN L))) fun cs'=>fputK ⟨[],h⟩ (.heap k) (.cells cs' 2 w op) fun m=>some (.tup [],m.h)
        |false=>none
       |_,_=>none
      |_,_=>none
    |_=>none
   |false=>none
 |_=>none
theorem zavn {args:List IVal} {h:FH} {H:List IBlk} (hh:RH h H) {v:IVal} {h':FH} (e:sortS args h=some (v,h')):∃H',sortE args H=some (v,H')∧RH h' H':=by
 unfold sortS at e
 unfold sortE
 split at e
 ·rename_i v0 g
  dsimp only
  split at e
  ·rename_i hg
   rw[hg]
   dsimp only
   split at e
   ·injection e with e;injection e with a b;subst a b;exact⟨H,rfl,hh⟩
   ·rename_i k ver off n
    rw[zkr hh]at e
    dsimp only
    rw[zeq]
    split at e
    ·rename_i cs es w op h1 h2
     rw[h1,h2]
     dsimp only
     split at e
     ·rename_i L h3 h4
      rw[h3,h4]
      dsimp only
      split at e
      ·rename_i h5
       rw[h5]
       dsimp only
       rw[zan]at e
       obtain⟨m',g1,g2⟩:=zbe (m:=⟨[],h⟩) (M:=⟨[],H⟩) ⟨rfl,hh⟩ (k := .heap k) (x := .cells (gsplice cs 0 (prow (sortN L))) 2 w op) (b0 := .cells cs es w op) h2 (fun m=>(some (IVal.tup [],m.h):Option (IVal×FH)))
       rw[g1]at e
       injection e with e
       injection e with a b
       subst a b
       refine⟨_,?_,g2.h⟩
       rw[zan,zan,zacm];rfl
      ·cases e
     ·cases e
    ·cases e
   ·cases e
  ·cases e
 ·cases e
noncomputable def insS (args:List IVal) (h:FH):Option (IVal×FH) :=
 match args with
 | [x, .p (.int .i64 i), .slice kv vv vo 1]=>match hfetch h kv with
   |some (.cells vs ev wv _)=>match(Nat.beq vv wv&&Nat.beq ev 1),vs[vo]? with
    |true,some (.p (.int .i64 u))=>match x with
     | .p .nilslice=>match decide (i=0)with
       |true=>fpushK ⟨[],h⟩ (.cells [.p (.int .i64 u)] 1 0 true) fun n m=>some (.slice n 0 0 1,m.h)
       |false=>none
     | .slice k ver off n=>match hfetch h k with
       |some (.cells cs e w _)=>match(Nat.beq ver w&&Nat.beq e 1)&&(Nat.ble (off+n) cs.length&&!(Nat.beq k kv))&&(decide (0≤i∧i≤n∧n≤4294967296)&&allNum ((cs.drop off).take n))with
        |true=>lall (((cs.drop off).take n).take i.toNat++(.p (.int .i64 u)::((cs.drop off).take n).drop i.toNat)) fun cs'=>nforce (w+1) fun w'=>nforce (n+1) fun n'=>fputK ⟨[],h⟩ (.heap k) (.cells cs' 1 w' true) fun m=>some (.slice k w' 0 n',m.h)
        |false=>none
       |_=>none
     |_=>none
    |_,_=>none
   |_=>none
 |_=>none
theorem zbbm {args:List IVal} {h:FH} {H:List IBlk} (hh:RH h H) {v:IVal} {h':FH} (e:insS args h=some (v,h')):∃H',insSpec args H=some (v,H')∧RH h' H':=by
 unfold insS at e
 split at e
 ·rename_i x i kv vv vo
  rw[zkr hh]at e
  split at e
  ·rename_i vs ev wv q h1
   split at e
   ·rename_i u h2 h3
    split at e
    ·split at e
     ·rename_i h4
      obtain⟨m',g1,g2⟩:=zcw (m:=⟨[],h⟩) (M:=⟨[],H⟩) ⟨rfl,hh⟩ e
      injection g1 with g1
      injection g1 with a b
      subst a b
      exact⟨_,by simp only[insSpec,h1,h2,h3,h4],g2.h⟩
     ·cases e
    ·rename_i k ver off n
     rw[zkr hh]at e
     split at e
     ·rename_i cs es w o h4
      split at e
      ·rename_i h5
       rw[zan,zbb,zbb]at e
       obtain⟨m',g1,g2⟩:=zbe (m:=⟨[],h⟩) (M:=⟨[],H⟩) ⟨rfl,hh⟩ (k := .heap k) (x := .cells (((cs.drop off).take n).take i.toNat++(.p (.int .i64 u)::((cs.drop off).take n).drop i.toNat)) 1 (w+1) true) (b0 := .cells cs es w o) h4 (fun m=>(some (IVal.slice k (w+1) 0 (n+1),m.h):Option (IVal×FH)))
       rw[g1]at e
       injection e with e
       injection e with a b
       subst a b
       exact⟨_,by simp only[insSpec,h1,h2,h3,h4,h5];rfl,g2.h⟩
      ·cases e
     ·cases e
    ·cases e
   ·cases e
  ·cases e
 ·cases e
noncomputable def atOnce (r:Option (IVal×FH)) (k:IVal→FH→YR):YR:=Option.rec (motive:=fun _=>YR) none (fun p=>Prod.rec (motive:=fun _=>YR) (fun v h=>k v h) p) r
theorem zyr {r:Option (IVal×FH)} {k:IVal→FH→YR} {x:XS} (e:atOnce r k=some x):∃v h,r=some (v,h)∧k v h=some x:=by
 cases r with
 |none=>cases e
 |some p=>exact⟨p.1,p.2,rfl,e⟩
noncomputable def matchK (az:List IVal) (h:FH) (k:IVal→FH→YR) (vs:List IVal):SC:=fun m =>
 match vs with
 | [.map 0, .p .nilslice]=>match fheap m 0 with
   |some (.map es ck)=>match rdEnts es 0 with
    |some l=>match(nodupN l&&Nat.beq ck (llen es))&&(Nat.ble (llen l+1) 1000000&&!(Nat.beq (llen l) 0))with
     |true=>nforce (llen l) fun n=>lall (prc (sortN l)) fun q=>mputK ⟨F_Q29,az, .p (.slice 2 n q)⟩ (mkey F_Q29) (hmm m.h) fun c=>hkeep h c fun h=>k (.p (.slice 2 n q)) h
     |false=>none
    |none=>none
   |_=>none
 |_=>none
noncomputable def matchS (F:FOr) (L:Nat) (args:List IVal) (h:FH) (k:IVal→FH→YR):YR :=
 match zall h args with
 |none=>none
 |some az=>match Nat.beq (llen az) 2 with
  |false=>none
  |true=>fhopen h fun _ _ c=>mlook F_Q29 az (mtget (mkey F_Q29) c) (fun r=>k r h) (zee F L (matchK az h k) az ⟨[],hnew h⟩)
theorem zarz {F:FOr} (hF:FLe F (CW tr.look)) {L:Nat} {args:List IVal} {h:FH} {H:List IBlk} (hh:RH h H) {k:IVal→FH→YR} {x:XS} (e:matchS F L args h k=some x):∃v h',CW tr.look F_Q29 args H=some (v,H)∧RH h' H∧k v h'=some x:=by
 unfold matchS at e
 rw[zado hh]at e
 split at e
 ·cases e
 ·rename_i az haz
  split at e
  ·cases e
  ·rename_i hlen
   rw[zap]at hlen
   have hlen:=Nat.eq_of_beq_eq_true hlen
   have e:mlook F_Q29 az (mtget (mkey F_Q29) h.c) (fun r=>k r h) (zee F L (matchK az h k) az ⟨[],hnew h⟩)=some x:=e
   rcases zrr F_Q29 az (fun r=>k r h) (zee F L (matchK az h k) az ⟨[],hnew h⟩) (mtget (mkey F_Q29) h.c)with h0|⟨r,h1,h2⟩
   ·rw[h0]at e
    rw[ztx]at e
    obtain⟨vs,m,T,M,hx,q1,hm,q2,q5⟩:=zavm (R:=i_Q29) hF hlen (by decide) rfl hh e
    unfold matchK at hx
    split at hx
    ·obtain⟨v1,w1,e1,q3,v2,w2,e2,q4,e3⟩:=q5
     injection e1 with a1 a2
     subst a1 a2
     injection e2 with a1 a2
     subst a1 a2
     rw[zada hm]at hx
     split at hx
     ·rename_i es ck hmap
      split at hx
      ·rename_i l hl
       split at hx
       ·rename_i hchk
        rw[zbb,zan]at hx
        simp only[zap,Bool.and_eq_true]at hchk
        have hn:=zwp l hchk.1.1
        have hck:=Nat.eq_of_beq_eq_true hchk.1.2
        have hlt:=Nat.le_of_ble_eq_true hchk.2.1
        have h0:l≠[]:=fun e=>by rw[e]at hchk;simp at hchk
        have hW:=zar (fun _ _ _ _ h=>h) (zaao (n:=L)) q1
        rw[zap]at hx
        have q3':T.getD 127 .undef = .map 0:=by rw[List.getD_eq_getElem?_getD,q3];rfl
        have q4':T.getD 16 .undef = .p .nilslice:=by rw[List.getD_eq_getElem?_getD,q4];rfl
        have key:∀args H,freezeAll H args=some az→CW tr.look F_Q29 args H=some (.p (.slice 2 l.length (prc (sortN l))),H):=fun args H haz=>zaqw haz hlen hW q2 q3' q4' hmap hl hn hck hlt h0
        obtain⟨c',p1,p2⟩:=MT.OK.put (x:=⟨F_Q29,az, .p (.slice 2 l.length (prc (sortN l)))⟩) key (mkey F_Q29) hm.h.c
        have hx:mputK ⟨F_Q29,az, .p (.slice 2 l.length (prc (sortN l)))⟩ (mkey F_Q29) m.h.c (fun c=>hkeep h c fun h=>k (.p (.slice 2 l.length (prc (sortN l)))) h)=some x:=hx
        rw[p2]at hx
        exact⟨_,⟨h.t,h.n,c'⟩,key args H haz,⟨hh.n,hh.le,hh.at',p1⟩,hx⟩
       ·cases hx
      ·cases hx
     ·cases hx
    ·cases hx
   ·rw[h2]at e
    exact⟨r,h,(MT.OK.get _ hh.c _ h1) args H haz,hh,e⟩
noncomputable def dS (L:Nat) (F:FOr):FOr:=fun f args h k =>
 Bool.rec (Bool.rec (Bool.rec none (atOnce (insS args h) k) (Nat.beq f F_Q157)) (atOnce (sortS args h) k) (Nat.beq f F_Q38)) (matchS F L args h k) (Nat.beq f F_Q29)
theorem dS_le (L:Nat) (F:FOr) (hF:FLe F (CW tr.look)):FLe (dS L F) (CW tr.look):=fun f args h H k x hh e=>by
 unfold dS at e
 cases h1:Nat.beq f F_Q29 with
 |true =>
  rw[h1]at e
  obtain⟨v,h',g1,g3,g2⟩:=zarz hF hh e
  rw[Nat.eq_of_beq_eq_true h1]
  exact⟨v,h',H,g1,g3,g2⟩
 |false =>
  rw[h1]at e
  cases h2:Nat.beq f F_Q38 with
  |true =>
   rw[h2]at e
   obtain⟨v,h',e,hk⟩:=zyr e
   obtain⟨H',g1,g2⟩:=zavn hh e
   rw[Nat.eq_of_beq_eq_true h2]
   exact⟨v,h',H',zaus g1,g2,hk⟩
  |false =>
   rw[h2]at e
   cases h3:Nat.beq f F_Q157 with
   |true =>
    rw[h3]at e
    obtain⟨v,h',e,hk⟩:=zyr e
    obtain⟨H',g1,g2⟩:=zbbm hh e
    rw[Nat.eq_of_beq_eq_true h3]
    exact⟨v,h',H',zqw none_Q157 (zauj g1),g2,hk⟩
   |false=>rw[h3]at e;cases e
noncomputable def callB (n:Nat):FOr:=scall st.look (dS 1000000) 1000000 n
theorem zavo (n:Nat):FLe (callB n) (CW tr.look):=zamp (fun _=>Iff.rfl) (fun _ _ e=>STr.zij st_ok e) (fun F=>dS_le 1000000 F) n
end Go.Ideal

/-
  THE LAWS OF THIS SEAT: WHAT THE CALLS OF Place GIVE; A LAW's CASES ONE AFTER THE OTHER, WITH ONE MEMORY OF CALLS.
-/
namespace Go.Ideal
open Go
set_option maxHeartbeats 4000000
set_option maxRecDepth 20000
attribute [-simp] getElem?_pos
theorem zavp (v:Int) (n:Nat) (hn:0<n) (hb:n<1000000000000) (H:List IBlk):CW tr.look F_Q7 [.p (.int .i64 v), .p (.int .i64 n)] H=some (.p (.int .i64 (v % n)),H):=by
 refine znr look_Q7 rfl (by simp) rfl ?_
 dsimp only[i_Q7,c_Q7]
 have hn0:(n:Int)≠0:=by omega
 have hn1:¬n=0:=by omega
 by_cases h:v.tmod n<0
 ·have e:v.tmod n+n=v % n:=by
   rw[Int.tmod_eq_emod]at h ⊢
   split at h
   ·have:=Int.emod_nonneg v hn0;omega
   ·rename_i hc
    rw[if_neg hc]
    simp
  have:=Int.emod_nonneg v hn0
  have:=Int.emod_lt_of_pos v (show(0:Int)<n by omega)
  simp(disch:=omega) [hn1,zaty,e]
 ·have e:v.tmod n=v % n:=by
   rw[Int.tmod_eq_emod]at h ⊢
   split at h
   ·rename_i hc;rw[if_pos hc];simp
   ·rename_i hc
    have:=Int.emod_lt_of_pos v (show(0:Int)<n by omega)
    simp at h
    omega
  rw[e]at h
  simp(disch:=omega) [hn1,e]
noncomputable def okb (b:Int):Bool:=Int.rec (motive:=fun _=>Bool) (fun n=>Bool.rec false (Nat.ble n 100000) (Nat.ble 1 n)) (fun _=>false) b
theorem zbhh {b:Int} (h:okb b=true):∃n:Nat,b=(n:Int)∧0<n∧n<1000000000000:=by
 cases b with
 |negSucc n=>cases h
 |ofNat n =>
  have h:(Bool.rec false (Nat.ble n 100000) (Nat.ble 1 n):Bool)=true:=h
  cases h1:Nat.ble 1 n with
  |false=>rw[h1]at h;cases h
  |true =>
   rw[h1]at h
   have:=Nat.le_of_ble_eq_true h1
   have:=Nat.le_of_ble_eq_true h
   exact⟨n,rfl,by omega,by omega⟩
noncomputable def Qp (g:Int→Int) (c:IVal) (k:IVal→YR):YR:=match c with
 | .p (.int .i64 b)=>Bool.rec none (iforce (g b) fun w=>k (.p (.int .i64 w))) (okb b)
 |_=>none
theorem zbbn {g:Int→Int} {c:IVal} {k:IVal→YR} {x:XS} (e:Qp g c k=some x):∃n:Nat,c = .p (.int .i64 (n:Int))∧0<n∧n<1000000000000∧k (.p (.int .i64 (g n)))=some x:=by
 unfold Qp at e
 split at e
 ·rename_i b
  cases hb:okb b with
  |false=>rw[hb]at e;cases e
  |true =>
   rw[hb]at e
   dsimp only at e
   rw[zagg]at e
   obtain⟨n,rfl,h2,h3⟩:=zbhh hb
   exact⟨n,rfl,h2,h3,e⟩
 ·cases e
noncomputable def plc (args:List IVal) (h:FH) (k:IVal→FH→YR):YR:=match args with
 | [.p (.int .i64 a),c]=>Qp (fun b=>a % b) c fun v=>k v h
 |_=>none
noncomputable def cG:FOr:=fun f args h k=>Bool.rec (callB 60 f args h k) (plc args h k) (Nat.beq f F_Q7)
theorem cG_le:FLe cG (CW tr.look):=fun f args h H k x hh e=>by
 unfold cG at e
 cases h1:Nat.beq f F_Q7 with
 |false=>rw[h1]at e;exact zavo 60 _ _ _ _ _ _ hh e
 |true =>
  rw[h1]at e
  have e:plc args h k=some x:=e
  rw[Nat.eq_of_beq_eq_true h1]
  have key:∃(a:Int) (c:IVal),args=[.p (.int .i64 a),c]∧Qp (fun b=>a % b) c (fun v=>k v h)=some x:=by
   unfold plc at e
   split at e
   ·exact⟨_,_,rfl,e⟩
   ·cases e
  obtain⟨a,c,rfl,e2⟩:=key
  obtain⟨n,rfl,h2,h3,h4⟩:=zbbn e2
  exact⟨_,h,H,zavp a n h2 h3 H,hh,h4⟩
theorem zavq (a:Int) (c:IVal) (m:FM) (k:SK):zad (.p (.func F_Q7)) [.p (.int .i64 a),c] cG m k=Qp (fun b=>a % b) c fun v=>k v m:=by
 obtain⟨bx,t,n,mm⟩:=m
 have h:zad (.p (.func F_Q7)) [.p (.int .i64 a),c] cG ⟨bx,t,n,mm⟩ k=Bool.rec none (Qp (fun b=>a % b) c fun v=>k v ⟨bx,t,n,mm⟩) (Bool.rec false true (passB c)):=rfl
 rw[h]
 cases hc:passB c with
 |true=>rfl
 |false =>
  show none=_
  unfold Qp
  split
  ·cases hc
  ·rfl
noncomputable def pt (b:Nat) (x:Nat) (u:Int→Int):Int→Int:=fun z=>Int.rec (motive:=fun _=>Int) (fun n=>Bool.rec (u (.ofNat n)) (.ofNat x) (Nat.beq n b)) (fun n=>u (.negSucc n)) z
theorem pt_eq {b x:Nat} {u:Int→Int} (h:u b=x):pt b x u=u:=by
 funext z
 cases z with
 |negSucc n=>rfl
 |ofNat n =>
  show(Bool.rec (u (.ofNat n)) (.ofNat x) (Nat.beq n b):Int)=_
  cases hb:Nat.beq n b with
  |false=>rfl
  |true=>rw[Nat.eq_of_beq_eq_true hb];exact h.symm
noncomputable def vi (n:Int):IVal := .p (.int .i64 n)
noncomputable def isT (v:IVal) (e:YR):YR:=qonB v (fun b=>Bool.rec none e b) none
theorem zavr {v:IVal} {e:YR} {x:XS} (h:isT v e=some x):v = .p (.bool true)∧e=some x:=by
 cases v with
 |p u =>
  cases u with
  |bool b=>cases b with
   |true=>exact⟨rfl,h⟩
   |false=>cases h
  |_=>cases h
 |_=>cases h
noncomputable def endX:YR:=some (.ret,[],⟨[],⟨.e,0, .e⟩⟩)
noncomputable def nextK (ih:MT→YR) (v:IVal) (K:FH):YR:=isT v (fhopen K fun _ _ c=>ih c)
theorem RH.zero {c:MT} (hc:c.OK):RH ⟨.e,0,c⟩ []:=RH.new (K:=⟨.e,0,c⟩) (H:=[]) ⟨rfl,by simp,fun i hi=>by
 have:∀p:HP,hget p .e=none:=fun p=>by induction p with|z=>rfl|a p ih=>exact ih|b p ih=>exact ih|c p ih=>exact ih|d p ih=>exact ih
 show hget (hp i) .e=_
 rw[this];rfl,hc⟩
theorem zlm {H:List IBlk}:∀l:List PVal,freezeAll H (l.map .p)=some (l.map .p)∧plainArgs (l.map .p)=true
 | []=>⟨rfl,rfl⟩
 |v::r=>by
  obtain⟨h1,h2⟩:=zlm (H:=H) r
  refine⟨?_,?_⟩
  ·rw[List.map_cons,freezeAll,h1];rfl
  ·rw[List.map_cons,plainArgs,h2];rfl
theorem zbbo {f:FuncId} {j:SFun} (hk:SFOK tr.look f j) (hp:j.pure=true) {l:List PVal} {c:MT} (hc:c.OK) {ih:MT→YR} {x:XS} (e:sfrun cG 1000000 j (l.map .p) ⟨.e,0,c⟩ (nextK ih)=some x) :
 (∀ H,CW tr.look f (l.map .p) H=some (.p (.bool true),H))∧∃c':MT,c'.OK∧ih c'=some x:=by
 obtain⟨Fn,v,K',H',h1,h2,h3,h4,h5⟩:=zaha hk cG_le (RH.zero hc) e
 obtain⟨rfl,h5⟩:=zavr h5
 refine⟨fun H=>CW_of ?_,K'.c,h4.c,h5⟩
 unfold callBody
 simp only[h1]
 rw[← h2,hp]
 dsimp only
 rw[(zlm l).1]
 dsimp only
 rw[h3]
 dsimp only
 have:freezeRes H' (.p (.bool true))=some (.p (.bool true)):=rfl
 rw[this]
 dsimp only
 rw[(zlm (H:=H) l).2]
 rfl
end Go.Ideal

/-
  MergeMoves: THE CALLS OF Place CUT OUT; THE CASES ONE BEHIND THE OTHER.
-/
namespace Go.Ideal
open Go
set_option maxRecDepth 100000
noncomputable def gmv (q1 q2 q3:IVal→FM→SK→YR):FOr→Nat→(List IVal→SC)→List IVal→SC:=fun F _ kr=>sxv fun a0=>sxv fun a1=>sxv fun a2=>sx0 (fun m =>
q1 ((.p (.int .i64 5))) m fun a3 m =>
y_add (.p (.int .i64 3)) a3 F m fun a4 m =>
yfresh [a4,a4,a3,a0,(.p (.bool false)),a0,a1,a2] [8] m fun m =>
zad (.p (.func F_Q12)) [a4] F m fun a5 m =>
zah (some 8) [(.int .i64 0),(.str []),(.str []), .nilslice, .nilslice] F m fun a6 m =>
zae 5 a6 a5 F m fun _ m =>
y_sub a4 (.p (.int .i64 1)) F m fun a8 m =>
q2 (a8) m fun a9 m =>
y_sub a4 (.p (.int .i64 1)) F m fun a10 m =>
q3 (a10) m fun a11 m =>
yfresh [a11,a9,a11,a10,a4,a2,a9,a8,a4,a1,a6,a5,a4,a4,a4,a3,a0,(.p (.bool false)),a0,a1,a2] [11,12,13] m fun m =>
zab (some 5) a6 F m fun a12 m =>
zab (some 5) a6 F m fun a13 m =>
zab (some 5) a6 F m fun a14 m =>
zah (some 11) [(.int .i64 0),(.str []),(.str []), .nilslice, .nilslice] F m fun a15 m =>
zah (some 12) [(.int .i64 0),(.str []),(.str []), .nilslice, .nilslice] F m fun a16 m =>
zah (some 13) [(.int .i64 0),(.str []),(.str []), .nilslice, .nilslice] F m fun a17 m =>
zad (.p (.func F_Q8)) [a12] F m fun a18 m =>
yck F m (.load (some 5) (.const a6)) a13 <|
yck F m (.load (some 5) (.const a6)) a14 <|
yck F m (.alloc (some 11) [(.int .i64 0),(.str []),(.str []), .nilslice, .nilslice]) a15 <|
yck F m (.alloc (some 12) [(.int .i64 0),(.str []),(.str []), .nilslice, .nilslice]) a16 <|
yck F m (.alloc (some 13) [(.int .i64 0),(.str []),(.str []), .nilslice, .nilslice]) a17 <|
zad (.p (.func F_Q8)) [a13] F m fun a19 m =>
yck F m (.load (some 5) (.const a6)) a14 <|
yck F m (.alloc (some 11) [(.int .i64 0),(.str []),(.str []), .nilslice, .nilslice]) a15 <|
yck F m (.alloc (some 12) [(.int .i64 0),(.str []),(.str []), .nilslice, .nilslice]) a16 <|
yck F m (.alloc (some 13) [(.int .i64 0),(.str []),(.str []), .nilslice, .nilslice]) a17 <|
zad (.p (.func F_Q8)) [a14] F m fun a20 m =>
yck F m (.alloc (some 11) [(.int .i64 0),(.str []),(.str []), .nilslice, .nilslice]) a15 <|
yck F m (.alloc (some 12) [(.int .i64 0),(.str []),(.str []), .nilslice, .nilslice]) a16 <|
yck F m (.alloc (some 13) [(.int .i64 0),(.str []),(.str []), .nilslice, .nilslice]) a17 <|
zae 5 a15 a18 F m fun _ m =>
zae 5 a16 a19 F m fun _ m =>
zae 5 a17 a20 F m fun _ m =>
zaa 4 a15 F m fun a24 m =>
zab none a24 F m fun a25 m =>
zaa 4 a15 F m fun a26 m =>
zab none a26 F m fun a27 m =>
y_add a9 (.p (.int .i64 1)) F m fun a28 m =>
zaa 4 a15 F m fun a29 m =>
zab none a29 F m fun a30 m =>
y_add a9 (.p (.int .i64 1)) F m fun a31 m =>
zac 5 a30 a31 F m fun a32 m =>
zab (some 5) a32 F m fun a33 m =>
zaa 4 a15 F m fun a34 m =>
zab none a34 F m fun a35 m =>
zac 5 a35 a9 F m fun a36 m =>
zab (some 5) a36 F m fun a37 m =>
zac 5 a25 a9 F m fun a38 m =>
zae 5 a38 a33 F m fun _ m =>
zac 5 a27 a28 F m fun a40 m =>
yck F m (.load none (.const a26)) a27 <|
zae 5 a40 a37 F m fun _ m =>
zaa 4 a16 F m fun a42 m =>
zab none a42 F m fun a43 m =>
zac 5 a43 a11 F m fun a44 m =>
zaa 4 a44 F m fun a45 m =>
zab none a45 F m fun a46 m =>
zac 5 a46 (.p (.int .i64 0)) F m fun a47 m =>
zaa 2 a47 F m fun a48 m =>
zae 1 a48 (.p (.str [117])) F m fun _ m =>
zaa 4 a17 F m fun a50 m =>
zab none a50 F m fun a51 m =>
zaa 4 a17 F m fun a52 m =>
zab none a52 F m fun a53 m =>
y_add a11 (.p (.int .i64 1)) F m fun a54 m =>
zaa 4 a17 F m fun a55 m =>
zab none a55 F m fun a56 m =>
y_add a11 (.p (.int .i64 1)) F m fun a57 m =>
zac 5 a56 a57 F m fun a58 m =>
zab (some 5) a58 F m fun a59 m =>
zaa 4 a17 F m fun a60 m =>
zab none a60 F m fun a61 m =>
zac 5 a61 a11 F m fun a62 m =>
zab (some 5) a62 F m fun a63 m =>
zac 5 a51 a11 F m fun a64 m =>
zae 5 a64 a59 F m fun _ m =>
zac 5 a53 a54 F m fun a66 m =>
yck F m (.load none (.const a52)) a53 <|
zae 5 a66 a63 F m fun _ m =>
yfresh [a66,a64,a63,a62,a11,a61,a60,a59,a58,a57,a11,a56,a55,a54,a11,a53,a52,a11,a51,a50,a48,a47,a46,a45,a44,a11,a43,a42,a40,a38,a37,a36,a9,a35,a34,a33,a32,a31,a9,a30,a29,a28,a9,a27,a26,a9,a25,a24,a17,a16,a15,a20,a14,a19,a13,a18,a12,a11,a9,a11,a10,a4,a2,a9,a8,a4,a1,a6,a5,a4,a4,a4,a3,a0,(.p (.bool false)),a0,a1,a2] [14] m fun m =>
zab (some 5) a6 F m fun a68 m =>
zab (some 5) a15 F m fun a69 m =>
zab (some 5) a16 F m fun a70 m =>
zad (.p (.func F_Q9)) [a68,a69,a70] F m fun a71 m =>
zaf a71 0 F m fun a72 m =>
zaf a71 1 F m fun a73 m =>
zah (some 14) [(.int .i64 0),(.str []),(.str []), .nilslice, .nilslice, .nilslice, .nilslice, .nilslice] F m fun a74 m =>
zae 8 a74 a72 F m fun _ m =>
yfresh [a73,a74,a73,a72,a71,a71,a70,a69,a68,a66,a64,a63,a62,a11,a61,a60,a59,a58,a57,a11,a56,a55,a54,a11,a53,a52,a11,a51,a50,a48,a47,a46,a45,a44,a11,a43,a42,a40,a38,a37,a36,a9,a35,a34,a33,a32,a31,a9,a30,a29,a28,a9,a27,a26,a9,a25,a24,a17,a16,a15,a20,a14,a19,a13,a18,a12,a11,a9,a11,a10,a4,a2,a9,a8,a4,a1,a6,a5,a4,a4,a4,a3,a0,(.p (.bool false)),a0,a1,a2] [16] m fun m =>
zab (some 5) a6 F m fun a76 m =>
zab (some 5) a15 F m fun a77 m =>
zab (some 5) a17 F m fun a78 m =>
zad (.p (.func F_Q9)) [a76,a77,a78] F m fun a79 m =>
zaf a79 0 F m fun a80 m =>
zaf a79 1 F m fun a81 m =>
zah (some 16) [(.int .i64 0),(.str []),(.str []), .nilslice, .nilslice, .nilslice, .nilslice, .nilslice] F m fun a82 m =>
zae 8 a82 a80 F m fun _ m =>
yfresh [a81,a82,a81,a80,a79,a79,a78,a77,a76,a73,a74,a73,a72,a71,a71,a70,a69,a68,a66,a64,a63,a62,a11,a61,a60,a59,a58,a57,a11,a56,a55,a54,a11,a53,a52,a11,a51,a50,a48,a47,a46,a45,a44,a11,a43,a42,a40,a38,a37,a36,a9,a35,a34,a33,a32,a31,a9,a30,a29,a28,a9,a27,a26,a9,a25,a24,a17,a16,a15,a20,a14,a19,a13,a18,a12,a11,a9,a11,a10,a4,a2,a9,a8,a4,a1,a6,a5,a4,a4,a4,a3,a0,(.p (.bool false)),a0,a1,a2] [18] m fun m =>
zab (some 5) a16 F m fun a84 m =>
zad (.p (.func F_Q8)) [a84] F m fun a85 m =>
zah (some 18) [(.int .i64 0),(.str []),(.str []), .nilslice, .nilslice] F m fun a86 m =>
zae 5 a86 a85 F m fun _ m =>
zaa 4 a86 F m fun a88 m =>
zab none a88 F m fun a89 m =>
zaa 4 a86 F m fun a90 m =>
zab none a90 F m fun a91 m =>
y_add a9 (.p (.int .i64 1)) F m fun a92 m =>
zaa 4 a86 F m fun a93 m =>
zab none a93 F m fun a94 m =>
y_add a9 (.p (.int .i64 1)) F m fun a95 m =>
zac 5 a94 a95 F m fun a96 m =>
zab (some 5) a96 F m fun a97 m =>
zaa 4 a86 F m fun a98 m =>
zab none a98 F m fun a99 m =>
zac 5 a99 a9 F m fun a100 m =>
zab (some 5) a100 F m fun a101 m =>
zac 5 a89 a9 F m fun a102 m =>
zae 5 a102 a97 F m fun _ m =>
zac 5 a91 a92 F m fun a104 m =>
yck F m (.load none (.const a90)) a91 <|
zae 5 a104 a101 F m fun _ m =>
y_neq a73 (.p (.int .i64 0)) F m fun a106 m =>
ygd a106 false (zaa 0 a74) F m fun a107 m =>
ygd a106 false (zab (some 5) a107) F m fun a108 m =>
ygd a106 false (zab (some 5) a86) F m fun a109 m =>
ygd a106 false (zad (.p (.func F_Q10)) [a108,a109]) F m fun a110 m =>
ygd a106 false (y_not a110) F m fun a111 m =>
zai a106 (.p (.bool true)) a111 F m fun a112 m =>
ycond a112 (kr [(.p (.bool false))] m) <|
y_eql a9 a11 F m fun a113 m =>
ycond a113 (y_eql a81 (.p (.int .i64 0)) F m fun a114 m =>
ygd a114 true (zaa 0 a82) F m fun a115 m =>
ygd a114 true (zab (some 5) a115) F m fun a116 m =>
ygd a114 true (zab (some 5) a15) F m fun a117 m =>
ygd a114 true (zad (.p (.func F_Q10)) [a116,a117]) F m fun a118 m =>
zai a114 a118 (.p (.bool false)) F m fun a119 m =>
ygd a119 true (zad (.p (.func F_Q11)) []) F m fun a120 m =>
zai a119 a120 (.p (.bool false)) F m fun a121 m =>
kr [a121] m) <|
y_eql a81 (.p (.int .i64 13)) F m fun a122 m =>
ygd a122 true (zaa 5 a82) F m fun a123 m =>
ygd a122 true (zab none a123) F m fun a124 m =>
ygd a122 true (y_len a124) F m fun a125 m =>
ygd a122 true (y_eql a125 (.p (.int .i64 1))) F m fun a126 m =>
zai a122 a126 (.p (.bool false)) F m fun a127 m =>
ygd a127 true (zaa 5 a82) F m fun a128 m =>
ygd a127 true (zab none a128) F m fun a129 m =>
ygd a127 true (zac 3 a129 (.p (.int .i64 0))) F m fun a130 m =>
ygd a127 true (zab (some 3) a130) F m fun a131 m =>
ygd a127 true (zak [(.int .i64 0),(.int .i64 0),(.str [])] [(0,1,(.p (.int .i64 5)))]) F m fun a132 m =>
ygd a127 true (yv (x_eqv false ⟨true,[.int, .int, .str]⟩ (.const a131) (.const a132))) F m fun a133 m =>
zai a127 a133 (.p (.bool false)) F m fun a134 m =>
ygd a134 true (zad (.p (.func F_Q11)) []) F m fun a135 m =>
zai a134 a135 (.p (.bool false)) F m fun a136 m =>
kr [a136] m)
theorem zavs (g:IVal→List IVal→SC) (v:IVal) (r:List IVal):sxv g (v::r)=g v r:=(rfl)
theorem zbbp (c:SC) (l:List IVal):sx0 c l=c:=(rfl)
noncomputable def Qm (g:Int→Int) (c:IVal) (m:FM) (k:SK):YR:=Qp g c fun v=>k v m
theorem zbhi (F:FOr) (L:Nat) (kr:List IVal→SC) (x y z:Int) (m:FM):zdl F L kr [vi x,vi y,vi z] m=gmv (fun c m k=>zad (.p (.func F_Q7)) [vi x,c] F m k) (fun c m k=>zad (.p (.func F_Q7)) [vi y,c] F m k) (fun c m k=>zad (.p (.func F_Q7)) [vi z,c] F m k) F L kr [vi x,vi y,vi z] m:=by
 delta zdl gmv
 simp only[zavs,zbbp]
theorem zakt (a:Int):(fun c m k=>zad (.p (.func F_Q7)) [vi a,c] cG m k)=Qm (fun b=>a % b):=by
 funext c m k
 exact zavq a c m k
abbrev mvC:=Nat×(Nat×Nat)×(Nat×Nat)×(Nat×Nat)
noncomputable def mvRun (n i j:Nat→Int) (u v w0:Nat→Int→Int) (l:List mvC):MT→YR :=
 List.rec (motive:=fun _=>MT→YR) (fun _=>endX) (fun e _ ih mm=>Prod.rec (fun t r=>Prod.rec (fun ax r=>Prod.rec (fun bp dq=>Prod.rec (fun a x=>Prod.rec (fun b p=>Prod.rec (fun d q=>gmv (Qm (pt a x (u t))) (Qm (pt b p (v t))) (Qm (pt d q (w0 t))) cG 1000000 (yend zbh (nextK ih)) [vi (n t),vi (i t),vi (j t)] ⟨[],⟨.e,0,mm⟩⟩) dq) bp) ax) r) r) e) l
theorem zaoi (n i j:Nat→Int) (u v w0:Nat→Int→Int) (t a x b p d q:Nat) (l:List mvC) (mm:MT):mvRun n i j u v w0 ((t,(a,x),(b,p),(d,q))::l) mm=gmv (Qm (pt a x (u t))) (Qm (pt b p (v t))) (Qm (pt d q (w0 t))) cG 1000000 (yend zbh (nextK (mvRun n i j u v w0 l))) [vi (n t),vi (i t),vi (j t)] ⟨[],⟨.e,0,mm⟩⟩:=rfl
theorem zamq (n i j:Nat→Int):∀(l:List mvC) (mm:MT),mm.OK→(∀ e∈l,n e.1 % (e.2.1.1:Int)=e.2.1.2∧i e.1 % (e.2.2.1.1:Int)=e.2.2.1.2∧j e.1 % (e.2.2.2.1:Int)=e.2.2.2.2) →
 ∀ {x},mvRun n i j (fun t b=>n t % b) (fun t b=>i t % b) (fun t b=>j t % b) l mm=some x→∀e∈l,∀H,CW tr.look F_Q6 [vi (n e.1),vi (i e.1),vi (j e.1)] H=some (.p (.bool true),H)
 | [],_,_,_,_,_,e,he=>by cases he
 |(t,(a,x),(b,p),(d,q))::l,mm,hm,hp,y,hr,e,he=>by
  have h0:=hp _ List.mem_cons_self
  rw[zaoi,pt_eq (show(fun t b=>n t % b) t a=x from h0.1),pt_eq (show(fun t b=>i t % b) t b=p from h0.2.1),pt_eq (show(fun t b=>j t % b) t d=q from h0.2.2)]at hr
  rw[← zakt (n t),←zakt (i t),←zakt (j t),←zbhi]at hr
  obtain⟨h1,c',h2,h3⟩:=zbbo (l:=[.int .i64 (n t), .int .i64 (i t), .int .i64 (j t)]) zev rfl hm (show sfrun cG 1000000 zbh (List.map .p [.int .i64 (n t), .int .i64 (i t), .int .i64 (j t)]) ⟨.e,0,mm⟩ (nextK (mvRun n i j (fun t b=>n t % b) (fun t b=>i t % b) (fun t b=>j t % b) l))=some y from hr)
  rcases List.mem_cons.1 he with rfl|he
  ·exact h1
  ·exact zamq n i j l c' h2 (fun e he=>hp e (List.mem_cons_of_mem _ he)) h3 e he
end Go.Ideal
