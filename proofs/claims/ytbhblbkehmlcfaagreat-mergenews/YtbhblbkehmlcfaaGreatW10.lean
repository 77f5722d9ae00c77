/-
  THE FUNCTIONS OF THIS SEAT, OVER LEAN's OWN VARIABLES, shapes known: printed by a program of the prover's own out of the ideal program.
-/
import Derived.Test.YtbhblbkehmlcfaaGreatW9
import Derived.Test.YtbhblbkehmlcfaaGreatW6
namespace Go.Ideal
open Go Go.Proofs
set_option maxRecDepth 100000
noncomputable def zahd:KC:=fun _ L v h kr =>
wcons v <| ooP fun c0 r0 =>
wnil r0 <|
v_len (.p c0) <| oN fun c1 =>
nbl 12 c1 fun c2 =>
wif c2 ((none:WR)) <|
v_len (.p c0) <| oN fun c3 =>
wblock (fun(h0:FH) =>
kr (iB true) h0) fun j0 =>
wloop (fun _ _ _ _ _=>none) (fun _ (c4:Nat) (_:LB) (_:PVal) (c5:Nat) (h1:FH) =>
nbl c4 c5 fun c6 =>
wif c6 ((none:WR)) <|
j0 h1) L 0 [] c0 c3 h
noncomputable def zsu:KFun:=⟨zahd,true,false⟩
theorem zyt:KOK tr.look F_Q87 zsu:=⟨i_Q87,(.sq (.rg [qb]) (.sq (.sq (.rg [qp,qn,qb]) (.cj (.sq .lf .lf) .lf)) (.sq (.rg [qs]) (.sq (.sq (.rg [qp,qn,qn]) (.bk [] (.lp [.slot 11 qn, .slot 3 qs, .slot 9 qp, .slot 10 qn] (.sq (.rg [qb]) (.sq (.cj .lf .lf) (.sq .lf .lf)))))) (.sq (.rg [qb]) .lf))))),[qp],[5],[],look_Q87,rfl,rfl,rfl,rfl,by kernel_rfl⟩
noncomputable def zahe:KC:=fun F L v h kr =>
wcons v <| ooA fun r0 r3 =>
wnil r3 <|
wle r0 5 <|
wcut r0 0 5 fun r1 =>
wcut r0 0 5 fun r4 =>
F 27 [(.agg r4)] h <| ooP fun c11 h3 =>
wle r1 5 <|
wspl [(iN 0),(iS []),(iS []),(.p .nilslice),(.p .nilslice),(.p .nilslice),(.p .nilslice),(.p .nilslice)] 0 r1 fun r5 =>
wspl r5 5 [(.p c11)] fun r2 =>
wle r2 8 <|
hpush h3 (.cells r2 8 0 false) fun c12 h1 =>
ift (wchk F ⟨[b_ 1 r0 5,nb_ 1],h1⟩ (.load (some 5) (.const (iX 1 0))) (.agg r1)) <|
wcut r0 0 5 fun r6 =>
F 132 [(.agg r6)] h1 <| ooP fun c7 h4 =>
v_len (.p c7) <| oN fun c13 =>
wblock (fun(c4 c5 c6:Nat) (h2:FH) =>
nae c6 5 fun c14 =>
hld none c4 c5 c14 h2 <| oP fun c15 =>
v_len (.p c15) <| oN fun c8 =>
zbr 1 [(.bool false)] (iN c8) (iN c8) h2 <| ooL fun c16 c17 c18 c19 h5 =>
nae c6 7 fun c20 =>
hwr h5 c4 c5 c20 [(.slice c16 c17 c18 c19)] fun h6 =>
kr (iH c4 c5 c6) h6) fun j0 =>
wloop (fun _ _ _ _ _ _ _=>none) (fun j1 (c3 c0 c1 c2:Nat) (c9:PVal) (c10:Nat) (h0:FH) =>
nbl c3 c10 fun c21 =>
wif c21 (wblock (fun(c22 c23 c24 c25:Nat) (c26:PVal) (c27:Nat) (h7:FH) =>
nad c22 1 fun c28 =>
j1 c28 c23 c24 c25 c26 c27 h7) fun j2 =>
zab 1 (.p c9) (iN c3) <| oP fun c29 =>
zac none (.p c29) ⟨[],h0⟩ <| oP fun c30 =>
nae c2 6 fun c31 =>
hld none c0 c1 c31 h0 fun a0 =>
nae c2 5 fun c32 =>
hld none c0 c1 c32 h0 <| oP fun c33 =>
zab 10 (.p c33) (iN c3) <| oP fun c34 =>
zaa 1 (.p c34) <| oP fun c35 =>
zac none (.p c35) ⟨[],h0⟩ <| oN fun c36 =>
vv (zfn .u64 (iN c36)) <| oP fun c37 =>
vv (xgen .shl (.p c37) (.p (.int .u64 32))) <| oP fun c38 =>
nae c2 5 fun c39 =>
hld none c0 c1 c39 h0 <| oP fun c40 =>
zab 10 (.p c40) (iN c3) <| oP fun c41 =>
zaa 3 (.p c41) <| oP fun c42 =>
zac none (.p c42) ⟨[],h0⟩ <| oN fun c43 =>
vv (zfn .u64 (iN c43)) <| oP fun c44 =>
vv (x_or (.p c38) (.p c44)) <| oP fun c45 =>
hpush h0 (.cells [(.p c30),(.p c45)] 2 0 false) fun c46 h8 =>
zad 2 a0 (.slice c46 0 0 1) h8 <| ooL fun c47 c48 c49 c50 h9 =>
nae c2 6 fun c51 =>
hwr h9 c0 c1 c51 [(.slice c47 c48 c49 c50)] fun h10 =>
j2 c3 c0 c1 c2 c9 c10 h10) <|
j0 c0 c1 c2 h0) L 0 c12 0 0 c7 c13 h4
noncomputable def zsv:KFun:=⟨zahe,false,false⟩
theorem zyu:KOK tr.look F_Q88 zsv:=⟨i_Q88,(.sq (.rg [(qx 1 0),qp]) (.sq (.rg [qv,qv,qp,qv,qh,qh]) (.sq (.sq (.rg [qv,qp,qn,qn]) (.bk [.slot 3 qh] (.lp [.slot 14 qn, .slot 3 qh, .slot 12 qp, .slot 13 qn] (.sq (.rg [qb]) (.sq (.cj .lf .lf) (.sq (.bk [.slot 14 qn, .slot 3 qh, .slot 12 qp, .slot 13 qn] (.sq (.rg [qn,qp,qp,qn,qp]) (.rg [qh,qh,qh,qh,qa,qp,qh,qh,qh,qp,qn,qp,qp,qn,qp,qp,qh,qh,qh,qp,qn,qp,qp,qn,qp,qp,qv,ql,ql,qh,qh,(.tup [])]))) (.rg [qn,qn]))))))) (.sq (.rg [qh,qh,qh,qh,qp,qn,ql,qh,qh,(.tup [])]) (.sq (.rg [qh,qh]) .lf))))),[qv],[1],[],look_Q88,rfl,rfl,rfl,rfl,by kernel_rfl⟩
noncomputable def zri:KC:=fun _ L v h kr =>
wcons v <| ooN fun c6 r0 =>
wcons r0 <| ooN fun c19 r1 =>
wcons r1 <| ooH fun c7 c8 c9 r2 =>
wcons r2 <| ooH fun c20 c21 c22 r3 =>
wcons r3 <| ooH fun c23 c24 c25 r4 =>
wnil r4 <|
hld none c7 c8 c9 h <| oH fun c26 c27 c28 =>
nae c28 5 fun c29 =>
hld none c26 c27 c29 h <| oP fun c30 =>
zab 10 (.p c30) (iN c6) <| oP fun c31 =>
zaa 1 (.p c31) <| oP fun c32 =>
zac none (.p c32) ⟨[],h⟩ <| oN fun c33 =>
wblock (fun(h2:FH) =>
kr (.tup []) h2) fun j0 =>
wloop (fun _ _ _ _ _ _ _ _ _ _ _ _ _ _=>none) (fun j1 (c0 c10 c11 c12 c1 c13 c14 c15 c2 c3 c4 c5 c16:Nat) (h1:FH) =>
nbl c0 c16 fun c34 =>
wif c34 (wblock (fun(c35 c36 c37 c38 c39 c40 c41 c42 c43 c44 c45 c46 c47:Nat) (h3:FH) =>
nad c35 1 fun c48 =>
j1 c48 c36 c37 c38 c39 c40 c41 c42 c43 c44 c45 c46 c47 h3) fun j2 =>
hld none c3 c4 c5 h1 fun a0 =>
nad c1 c0 fun c49 =>
nad c2 c0 fun c50 =>
hpush h1 (.cells [(iN c49),(iN c50)] 2 0 false) fun c51 h4 =>
zad 2 a0 (.slice c51 0 0 1) h4 <| ooL fun c52 c53 c54 c55 h5 =>
hwr h5 c3 c4 c5 [(.slice c52 c53 c54 c55)] fun h0 =>
hld none c10 c11 c12 h0 <| oH fun c56 c57 c58 =>
nae c58 7 fun c59 =>
hld none c56 c57 c59 h0 <| oL fun c60 c61 c62 c63 =>
nad c1 c0 fun c17 =>
hld none c13 c14 c15 h0 <| oH fun c64 c65 c66 =>
nae c66 7 fun c67 =>
hld none c64 c65 c67 h0 <| oL fun c68 c69 c70 c71 =>
nad c2 c0 fun c18 =>
nlt c17 c63 <|
nam c62 c17 1 fun c72 =>
hwr h0 c60 c61 c72 [(iB true)] fun h6 =>
nlt c18 c71 <|
nam c70 c18 1 fun c73 =>
hwr h6 c68 c69 c73 [(iB true)] fun h7 =>
j2 c0 c10 c11 c12 c1 c13 c14 c15 c2 c3 c4 c5 c16 h7) <|
j0 h1) L 0 c7 c8 c9 c6 c23 c24 c25 c19 c20 c21 c22 c33 h
noncomputable def zhg:KFun:=⟨zri,false,false⟩
theorem znq:KOK tr.look F_Q89 zhg:=⟨i_Q89,(.sq (.rg [qh,qh,qh,qp,qn,qp,qp,qn,qn]) (.bk [] (.lp [.slot 16 qn, .slot 2 qh, .slot 0 qn, .slot 4 qh, .slot 1 qn, .slot 3 qh, .slot 15 qn] (.sq (.rg [qb]) (.sq (.cj .lf .lf) (.sq (.bk [.slot 16 qn, .slot 2 qh, .slot 0 qn, .slot 4 qh, .slot 1 qn, .slot 3 qh, .slot 15 qn] (.sq (.rg [qn,qn]) (.sq (.rg [qa,qn,qn,qn,qn,qn,qn,qv,ql,ql,(.tup [])]) (.rg [qh,qh,qh,ql,qn,qn,qn,qh,qh,qh,ql,qn,qn,qn,qh,(.tup []),qh,(.tup [])])))) (.rg [qn,qn]))))))),[qn,qn,qh,qh,qh],[],[],look_Q89,rfl,rfl,rfl,rfl,by kernel_rfl⟩
noncomputable def zpu:KC:=fun F _ v h kr =>
wcons v <| ooH fun c0 c1 c2 r2 =>
wcons r2 <| ooN fun c3 r3 =>
wnil r3 <|
hld (some 5) c0 c1 c2 h <| oA fun r4 =>
F 71 [(.agg r4),(iN c3)] h <| ooT fun r5 h0 =>
wcons r5 <| ooA fun r0 r6 =>
wcons r6 <| ooB fun _ r7 =>
wnil r7 <|
wle r0 5 <|
wcut r0 0 5 fun r1 =>
wle r1 5 <|
wcut r1 0 5 fun r8 =>
kr (.agg r8) h0
noncomputable def zgf:KFun:=⟨zpu,false,false⟩
theorem zlv:KOK tr.look F_Q90 zgf:=⟨i_Q90,(.sq (.rg [(qx 4 0)]) (.sq (.rg [qh,qh,qh,qv,qn,(.tup [.aggv,(.c .bool)]),(.tup [.aggv,(.c .bool)]),qv,qb,(qx 5 0),(.tup []),qb]) (.sq (.rg [qv,(.tup [])]) .lf))),[qh,qn],[5,4],[],look_Q90,rfl,rfl,rfl,rfl,by kernel_rfl⟩
noncomputable def zrj:KC:=fun F _ v h kr =>
wcons v <| ooA fun r0 r2 =>
wcons r2 <| ooA fun r1 r3 =>
wnil r3 <|
wle r0 2 <|
wle r1 2 <|
wg 0 r0 <| oN fun c0 =>
wg 0 r1 <| oN fun c1 =>
F 40 [(iN c0),(iN c1)] h <| ooN fun c2 h0 =>
kr (iN c2) h0
noncomputable def zhh:KFun:=⟨zrj,true,false⟩
theorem znr:KOK tr.look F_Q91 zhh:=⟨i_Q91,(.sq (.rg [(qx 2 0),(qx 3 0),qn]) (.sq (.rg [(qx 2 0),qn,(qx 3 0),qn,qn,qn]) .lf)),[qv,qv],[2,3],[],look_Q91,rfl,rfl,rfl,rfl,by kernel_rfl⟩
noncomputable def zix:KC:=fun _ L v h kr =>
wcons v <| ooH fun c17 c18 c19 r0 =>
wcons r0 <| ooN fun c8 r1 =>
wnil r1 <|
hpush h (.map [] 0) fun c20 h4 =>
nad c8 1 fun c21 =>
wblock (fun(c22:Nat) (h5:FH) =>
kr (.map c22) h5) fun j1 =>
wloop (fun _ _ _ _ _ _ _=>none) (fun j2 (c3 c0 c1 c2 c7 c4:Nat) (h0:FH) =>
nae c2 10 fun c23 =>
hld none c0 c1 c23 h0 <| oP fun c24 =>
zab 10 (.p c24) (iN c4) <| oP fun c25 =>
zaa 1 (.p c25) <| oP fun c26 =>
zac none (.p c26) ⟨[],h0⟩ <| oN fun c27 =>
nad c4 c27 fun c28 =>
nbl c3 c28 fun c29 =>
wif c29 (wblock (fun(c30 c31 c32 c33 c34 c35:Nat) (h6:FH) =>
nad c30 1 fun c36 =>
j2 c36 c31 c32 c33 c34 c35 h6) fun j0 =>
nae c2 14 fun c37 =>
hld none c0 c1 c37 h0 <| oM fun c38 =>
zak true (.p (.int .i64 0)) ⟨false,[.int]⟩ (.map c38) (iN c3) h0 <| ooT fun r2 h1 =>
wcons r2 <| ooN fun c39 r3 =>
wcons r3 <| ooB fun c40 r4 =>
wnil r4 <|
bf (gnot c40) fun c41 =>
wif c41 (j0 c3 c0 c1 c2 c7 c4 h1) <|
nae c2 11 fun c42 =>
hld none c0 c1 c42 h1 <| oP fun c43 =>
zab 10 (.p c43) (iN c39) <| oP fun c44 =>
zaa 0 (.p c44) <| oP fun c45 =>
zac none (.p c45) ⟨[],h1⟩ <| oN fun c46 =>
wblock (fun(c47 c48 c49 c50 c51 c52:Nat) (h7:FH) =>
j0 c47 c48 c49 c50 c51 c52 h7) fun j3 =>
wloop (fun _ _ _ _ _ _ _ _=>none) (fun j4 (c5:Int) (c9 c10 c11 c6 c12 c13:Nat) (h3:FH) =>
v_geq (iI c5) (iN 0) <| oB fun c53 =>
wif c53 (wblock (fun(c54 c14 c15 c16 c55 c56 c57:Nat) (h2:FH) =>
nae c16 11 fun c58 =>
hld none c14 c15 c58 h2 <| oP fun c59 =>
zab 10 (.p c59) (iN c54) <| oP fun c60 =>
zaa 0 (.p c60) <| oP fun c61 =>
zac none (.p c61) ⟨[],h2⟩ <| oI fun c62 =>
j4 c62 c14 c15 c16 c55 c56 c57 h2) fun j5 =>
zak false (.p (.int .i64 0)) ⟨false,[.int]⟩ (.map c6) (iI c5) h3 <| ooN fun c63 h8 =>
nad c63 1 fun c64 =>
zbw ⟨false,[.int]⟩ (.map c6) (iI c5) (iN c64) h8 <| ooT fun r5 h9 =>
wnil r5 <|
tN (iI c5) fun c65 =>
j5 c65 c9 c10 c11 c6 c12 c13 h9) <|
j3 c12 c9 c10 c11 c6 c13 h3) L (.ofNat c46) c0 c1 c2 c7 c3 c4 h1) <|
j1 c7 h0) L c21 c17 c18 c19 c20 c8 h4
noncomputable def zdh:KFun:=⟨zix,false,false⟩
theorem zhi:KOK tr.look F_Q92 zdh:=⟨i_Q92,(.sq (.rg [qp]) (.sq (.rg [qm,qm]) (.sq (.sq (.rg [qn,qn,qn]) (.bk [.slot 5 qm] (.lp [.slot 6 qn, .slot 0 qh, .slot 5 qm, .slot 1 qn] (.sq (.sq (.rg [qn,qn,qh,qh,qh,qp,qn,qp,qp,qn,qn,qb]) (.cj .lf .lf)) (.sq (.bk [.slot 6 qn, .slot 0 qh, .slot 5 qm, .slot 1 qn] (.sq (.rg [qh,qh,qh,qm,qn,(.tup [(.c .nat),(.c .bool)]),(.tup [(.c .nat),(.c .bool)]),qn,qb,qn,qb]) (.sq (.sq (.rg [qb,qb]) (.cj .lf .lf)) (.sq (.rg [qh,qh,qh,qp,qn,qp,qp,qn,qn]) (.bk [.slot 6 qn, .slot 0 qh, .slot 5 qm, .slot 1 qn] (.lp [.slot 9 qi, .slot 0 qh, .slot 5 qm, .slot 6 qn, .slot 1 qn] (.sq (.sq (.rg [qi,qb]) (.cj .lf .lf)) (.sq (.bk [.slot 9 qn, .slot 0 qh, .slot 5 qm, .slot 6 qn, .slot 1 qn] (.rg [qm,qn,qn,qn,(.tup [])])) (.rg [qh,qh,qh,qp,qn,qp,qp,qi,qi]))))))))) (.rg [qn,qn,qn])))))) (.sq (.rg [qm,qm]) .lf)))),[qh,qn],[],[],look_Q92,rfl,rfl,rfl,rfl,by kernel_rfl⟩
noncomputable def ziy:KC:=fun _ _ v h kr =>
wcons v <| ooN fun c5 r0 =>
wcons r0 <| ooH fun c0 c1 c2 r1 =>
wcons r1 <| ooH fun c6 c7 c8 r2 =>
wnil r2 <|
hld none c0 c1 c2 h <| oH fun c9 c10 c11 =>
nae c11 10 fun c12 =>
hld none c9 c10 c12 h <| oP fun c13 =>
hld none c6 c7 c8 h <| oN fun c14 =>
zab 10 (.p c13) (iN c14) <| oP fun c15 =>
zaa 1 (.p c15) <| oP fun c16 =>
zac none (.p c16) ⟨[],h⟩ <| oN fun c17 =>
hld none c0 c1 c2 h <| oH fun c18 c19 c20 =>
nae c20 11 fun c21 =>
hld none c18 c19 c21 h <| oP fun c22 =>
zab 10 (.p c22) (iN c5) <| oP fun c23 =>
zaa 1 (.p c23) <| oP fun c24 =>
zac none (.p c24) ⟨[],h⟩ <| oN fun c25 =>
nad c17 c25 fun c3 =>
ift (Nat.ble 2 c3) <|
nforce (Nat.sub c3 2) fun c4 =>
nlt c4 lim63 <|
kr (iN c4) h
noncomputable def zdi:KFun:=⟨ziy,false,false⟩
theorem zhj:KOK tr.look F_Q93 zdi:=⟨i_Q93,(.sq (.rg [qn]) (.sq (.rg [qh,qh,qh,qp,qn,qp,qp,qn,qh,qh,qh,qp,qn,qp,qp,qn,qn,qn,qn]) .lf)),[qn,qh,qh],[],[],look_Q93,rfl,rfl,rfl,rfl,by kernel_rfl⟩
noncomputable def zaoc:KC:=fun _ _ v h kr =>
wcons v <| ooA fun r0 r1 =>
wnil r1 <|
wle r0 10 <|
wg 5 r0 <| oN fun c0 =>
wg 6 r0 <| oS fun c1 =>
kr (.agg [(iN c0),(iS c1)]) h
noncomputable def zaav:KFun:=⟨zaoc,true,false⟩
theorem zahf:KOK tr.look F_Q94 zaav:=⟨i_Q94,(.sq (.rg [(qx 1 0),(qx 2 0)]) (.sq (.rg [(qx 1 5),(qx 1 5),qn,(qx 1 5),(qx 1 6),qs,qv,(.tup [])]) .lf)),[qv],[1,2],[],look_Q94,rfl,rfl,rfl,rfl,by kernel_rfl⟩
noncomputable def zyv:KC:=fun _ _ v h kr =>
wcons v <| ooN fun c0 r0 =>
wcons r0 <| ooN fun c1 r1 =>
wnil r1 <|
vv (x_mul (iN 4) (iN c0)) <| oN fun c2 =>
nbl c1 c2 fun c3 =>
kr (iB c3) h
noncomputable def zmo:KFun:=⟨zyv,true,false⟩
theorem ztg:KOK tr.look F_Q96 zmo:=⟨i_Q96,(.sq (.rg [qb]) (.sq (.rg [qn,qn,qn,qb,qb]) .lf)),[qn,qn],[],[],look_Q96,rfl,rfl,rfl,rfl,by kernel_rfl⟩
noncomputable def zxn:KC:=fun F _ v h kr =>
wcons v <| ooA fun r0 r4 =>
wcons r4 <| ooA fun r1 r5 =>
wnil r5 <|
wle r0 5 <|
wle r1 5 <|
wcut r0 0 5 fun r6 =>
wcut r1 0 5 fun r7 =>
F 133 [(.agg r6),(.agg r7)] h <| ooT fun r8 h0 =>
wcons r8 <| ooH fun c4 c5 c6 r9 =>
wcons r9 <| ooA fun r2 r10 =>
wcons r10 <| ooA fun r3 r11 =>
wcons r11 <| ooB fun c7 r12 =>
wnil r12 <|
wle r2 2 <|
wle r3 2 <|
bf (gnot c7) fun c8 =>
wif c8 (kr (.tup [(.p .nilslice),(iN 2)]) h0) <|
wcut r2 0 2 fun r13 =>
wcut r3 0 2 fun r14 =>
F 134 [(iH c4 c5 c6),(.agg r13),(.agg r14)] h0 <| ooL fun c0 c1 c2 c3 h1 =>
F 38 [(.slice c0 c1 c2 c3),(.p (.func 135))] h1 <| ooT fun r15 h2 =>
wnil r15 <|
kr (.tup [(.slice c0 c1 c2 c3),(iN 0)]) h2
noncomputable def zky:KFun:=⟨zxn,true,true⟩
theorem zrk:KOK tr.look F_Q97 zky:=⟨i_Q97,(.sq (.rg [(qx 2 0),(qx 3 0),qp,qn]) (.sq (.rg [qv,qv,(.tup [(.c .hp), .aggv, .aggv,(.c .bool)]),(.tup [(.c .hp), .aggv, .aggv,(.c .bool)]),qh,qv,qv,qb,(qx 7 0),(qx 8 0),qh,(.tup []),(.tup []),qb]) (.sq (.sq (.rg [qb,qb]) (.cj (.sq (.rg [qp,qn]) .lf) .lf)) (.sq (.rg [qh,qv,qv,ql,ql]) (.sq (.rg [ql,(.tup [])]) (.sq (.rg [ql,ql,qn]) .lf)))))),[qv,qv],[8,7,2,3],[],look_Q97,rfl,rfl,rfl,rfl,by kernel_rfl⟩
noncomputable def zcf:KC:=fun _ L v h kr =>
wcons v <| ooP fun c1 r0 =>
wcons r0 <| ooN fun c0 r1 =>
wcons r1 <| ooN fun c2 r2 =>
wnil r2 <|
nad c0 1 fun c3 =>
wblock (fun(h0:FH) =>
kr (.tup []) h0) fun j0 =>
wloop (fun _ _ _ _ _=>none) (fun _ (_ c4:Nat) (_:PVal) (c5:Nat) (h1:FH) =>
nbl c4 c5 fun c6 =>
wif c6 ((none:WR)) <|
j0 h1) L c0 c3 c1 c2 h
noncomputable def zau:KFun:=⟨zcf,true,false⟩
theorem zbx:KOK tr.look F_Q99 zau:=⟨i_Q99,(.sq (.rg [qn,qn,qn]) (.bk [] (.lp [.slot 1 qn, .slot 6 qn, .slot 0 qp, .slot 2 qn] (.sq (.sq (.rg [qn,qn,qb]) (.cj .lf .lf)) (.sq .lf .lf))))),[qp,qn,qn],[],[],look_Q99,rfl,rfl,rfl,rfl,by kernel_rfl⟩
noncomputable def zrl:KC:=fun _ _ v h kr =>
wcons v <| ooP fun c0 r0 =>
wnil r0 <|
v_geq (.p c0) (.p (.int .u64 4294967296)) <| oB fun c3 =>
wblock (fun(c1:PVal) (c4:Nat) (h0:FH) =>
v_geq (.p c1) (.p (.int .u64 65536)) <| oB fun c5 =>
wblock (fun(c2:PVal) (c6:Nat) (h1:FH) =>
v_geq (.p c2) (.p (.int .u64 256)) <| oB fun c7 =>
wblock (fun(c8:Nat) (c9:PVal) (h2:FH) =>
vv (zfn .u8 (.p c9)) <| oP fun c10 =>
vv (zow (iS [0,1,2,2,3,3,3,3,4,4,4,4,4,4,4,4,5,5,5,5,5,5,5,5,5,5,5,5,5,5,5,5,6,6,6,6,6,6,6,6,6,6,6,6,6,6,6,6,6,6,6,6,6,6,6,6,6,6,6,6,6,6,6,6,7,7,7,7,7,7,7,7,7,7,7,7,7,7,7,7,7,7,7,7,7,7,7,7,7,7,7,7,7,7,7,7,7,7,7,7,7,7,7,7,7,7,7,7,7,7,7,7,7,7,7,7,7,7,7,7,7,7,7,7,7,7,7,7,8,8,8,8,8,8,8,8,8,8,8,8,8,8,8,8,8,8,8,8,8,8,8,8,8,8,8,8,8,8,8,8,8,8,8,8,8,8,8,8,8,8,8,8,8,8,8,8,8,8,8,8,8,8,8,8,8,8,8,8,8,8,8,8,8,8,8,8,8,8,8,8,8,8,8,8,8,8,8,8,8,8,8,8,8,8,8,8,8,8,8,8,8,8,8,8,8,8,8,8,8,8,8,8,8,8,8,8,8,8,8,8,8,8,8,8,8,8,8,8,8,8,8,8,8,8,8,8]) (.p c10)) <| oP fun c11 =>
vv (zfn .i64 (.p c11)) <| oN fun c12 =>
nad c8 c12 fun c13 =>
kr (iN c13) h2) fun j0 =>
wif c7 ((none:WR)) <|
j0 c6 c2 h1) fun j1 =>
wif c5 ((none:WR)) <|
j1 c1 c4 h0) fun j2 =>
wif c3 ((none:WR)) <|
j2 c0 0 h
noncomputable def zhk:KFun:=⟨zrl,true,false⟩
theorem zns:KOK tr.look F_Q109 zhk:=⟨i_Q109,(.sq (.rg [qn]) (.sq (.sq (.rg [qp,qb]) (.cd [.slot 0 qp, .slot 2 qn] (.sq .lf .lf) .lf)) (.sq (.sq (.rg [qp,qb]) (.cd [.slot 0 qp, .slot 2 qn] (.sq .lf .lf) .lf)) (.sq (.sq (.rg [qp,qb]) (.cd [.slot 2 qn, .slot 0 qp] (.sq .lf .lf) .lf)) (.sq (.rg [qn,qp,qp,qp,qn,qn,qn]) .lf))))),[qp],[],[],look_Q109,rfl,rfl,rfl,rfl,by kernel_rfl⟩
noncomputable def zahg:KC:=fun _ _ v h kr =>
wcons v <| ooN fun c3 r2 =>
wcons r2 <| ooA fun r0 r3 =>
wcons r3 <| ooH fun c4 c5 c6 r4 =>
wcons r4 <| ooH fun c7 c8 c9 r5 =>
wcons r5 <| ooH fun c0 c1 c2 r6 =>
wnil r6 <|
wle r0 4 <|
hld none c4 c5 c6 h <| oN fun c10 =>
nbe c3 c10 fun c11 =>
wblock (fun(c12 c13 c14:Nat) (h0:FH) =>
hld none c12 c13 c14 h0 <| oB fun c15 =>
bf (gnot c15) fun c16 =>
kr (iB c16) h0) fun j0 =>
wif c11 (wg 0 r0 fun a0 =>
v_nil a0 fun a1 =>
zac (some 5) a1 ⟨[b_ 6 r0 4,nb_ 6],h⟩ <| oA fun r1 =>
wle r1 5 <|
hwr h c7 c8 c9 r1 fun h1 =>
hwr h1 c0 c1 c2 [(iB true)] fun h2 =>
j0 c0 c1 c2 h2) <|
j0 c0 c1 c2 h
noncomputable def zsw:KFun:=⟨zahg,false,false⟩
theorem zyw:KOK tr.look F_Q110 zsw:=⟨i_Q110,(.sq (.rg [(qx 6 0),qb]) (.sq (.sq (.rg [qn,qn,qb]) (.cd [.slot 4 qh] (.rg [(qx 6 0),qa,qa,qv,(.tup []),(.tup [])]) .lf)) (.sq (.rg [qb,qb,qb]) .lf))),[qn,qv,qh,qh,qh],[6],[],look_Q110,rfl,rfl,rfl,rfl,by kernel_rfl⟩
noncomputable def zdd:KC:=fun F L v h kr =>
wcons v <| ooP fun c3 r0 =>
wcons r0 <| ooN fun c4 r1 =>
wcons r1 <| ooN fun c5 r2 =>
wcons r2 <| ooN fun c6 r3 =>
wcons r3 <| ooP fun c7 r4 =>
wnil r4 <|
wblock (fun(h0:FH) =>
kr (.tup []) h0) fun _ =>
wloop (fun _ _ _ _ _ _ _ _=>none) (fun j0 (c8:PVal) (c0 c1:Nat) (c9:PVal) (_ _:Bool) (_:Nat) (h1:FH) =>
wblock (fun(a0 a1 a2 a3 a4 a5 a6:IVal) (h2:FH) =>
tP a0 fun c10 =>
tN a1 fun c11 =>
tN a2 fun c12 =>
tP a3 fun c13 =>
tB a4 fun c14 =>
tB a5 fun c15 =>
tN a6 fun c16 =>
j0 c10 c11 c12 c13 c14 c15 c16 h2) fun _ =>
ift (Nat.ble c1 c0) <|
nforce (Nat.sub c0 c1) fun c2 =>
nlt c2 lim63 <|
bf (Nat.ble c2 12) fun c17 =>
wif c17 (F 141 [(.p c9),(iN c1),(iN c0),(.p c8)] h1 <| ooT fun r5 h3 =>
wnil r5 <|
kr (.tup []) h3) <|
(none:WR)) L c7 c5 c4 c3 true true c6 h
noncomputable def zba:KFun:=⟨zdd,false,false⟩
theorem zcq:KOK tr.look F_Q111 zba:=⟨i_Q111,(.sq (.rg [qb]) (.sq (.rg [qb]) (.bk [] (.lp [.slot 4 qp, .slot 2 qn, .slot 1 qn, .slot 0 qp, .slot 11 qb, .slot 10 qb, .slot 3 qn] (.bk [.slot 4 qa, .slot 2 qa, .slot 1 qa, .slot 0 qa, .slot 11 qa, .slot 10 qa, .slot 3 qa] (.sq (.rg [qn,qn,qn,qn]) (.sq (.sq (.rg [qn,qb]) (.cj (.sq (.rg [qp,qn,qn,qp,(.tup [])]) .lf) .lf)) (.sq (.sq .lf (.cj (.sq .lf .lf) .lf)) (.sq (.sq .lf .lf) (.sq .lf (.sq (.sq .lf .lf) (.sq (.sq .lf .lf) (.sq (.sq .lf (.cj (.sq .lf (.sq .lf .lf)) .lf)) (.sq .lf (.sq .lf (.sq .lf (.sq .lf (.sq .lf .lf)))))))))))))))))),[qp,qn,qn,qn,qp],[],[],look_Q111,rfl,rfl,rfl,rfl,by kernel_rfl⟩
noncomputable def zadv:KC:=fun F L v h kr =>
wcons v <| ooH fun c4 c5 c6 r2 =>
wcons r2 <| ooA fun r0 r3 =>
wcons r3 <| ooI fun c16 r4 =>
wnil r4 <|
wle r0 5 <|
hld none c4 c5 c6 h fun a0 =>
v_len a0 <| oN fun c8 =>
wcut r0 0 5 fun r5 =>
F 152 [(iH c4 c5 c6),(iN c8),(iI c16),(.agg r5)] h <| ooT fun r6 h3 =>
wnil r6 <|
wg 4 r0 <| oP fun c9 =>
v_len (.p c9) <| oN fun c17 =>
wblock (fun(c18:Nat) (h4:FH) =>
kr (iN c18) h4) fun j0 =>
wloop (fun _ _ _ _ _ _ _ _=>none) (fun j1 (c7 c1 c2 c3 c0:Nat) (c10:PVal) (c11:Nat) (h1:FH) =>
nbl c7 c11 fun c19 =>
wif c19 (wblock (fun(c20 c21 c22 c23 c24:Nat) (c25:PVal) (c26:Nat) (h5:FH) =>
nad c20 1 fun c27 =>
j1 c27 c21 c22 c23 c24 c25 c26 h5) fun j2 =>
zab 5 (.p c10) (iN c7) <| oP fun c28 =>
zac (some 5) (.p c28) ⟨[nb_ 9],h1⟩ <| oA fun r1 =>
wle r1 5 <|
wcut r1 0 5 fun r7 =>
F 121 [(iH c1 c2 c3),(.agg r7),(iN c0)] h1 <| ooN fun c29 h0 =>
hld none c1 c2 c3 h0 <| oL fun c12 c13 c14 c15 =>
hld none c1 c2 c3 h0 <| oL fun c30 c31 c32 c33 =>
nlt c0 c33 <|
nam c32 c0 8 fun c34 =>
nae c34 7 fun c35 =>
hld none c30 c31 c35 h0 fun a1 =>
hpush h0 (.cells [(iN c29)] 1 0 false) fun c36 h6 =>
zad 1 a1 (.slice c36 0 0 1) h6 <| ooL fun c37 c38 c39 c40 h2 =>
nlt c0 c15 <|
nam c14 c0 8 fun c41 =>
nae c41 7 fun c42 =>
ift (wchk F ⟨[b_ 9 r1 5,b_ 9 zt5 5,nb_ 9],h2⟩ (.load none (.const (iH c1 c2 c3))) (.slice c12 c13 c14 c15)) <|
hwr h2 c12 c13 c42 [(.slice c37 c38 c39 c40)] fun h7 =>
j2 c7 c1 c2 c3 c0 c10 c11 h7) <|
j0 c0 h1) L 0 c4 c5 c6 c8 c9 c17 h3
noncomputable def zpv:KFun:=⟨zadv,false,false⟩
theorem zxo:KOK tr.look F_Q121 zpv:=⟨i_Q121,(.sq (.rg [(qx 4 0),qn]) (.sq (.rg [qh,qh,qh,qa,qn,qn]) (.sq (.rg [qh,qn,qi,qv,(.tup [])]) (.sq (.sq (.rg [(qx 4 4),qp,qn,qn]) (.bk [.slot 7 qn] (.lp [.slot 24 qn, .slot 0 qh, .slot 7 qn, .slot 22 qp, .slot 23 qn] (.sq (.rg [qb]) (.sq (.cj .lf .lf) (.sq (.bk [.slot 24 qn, .slot 0 qh, .slot 7 qn, .slot 22 qp, .slot 23 qn] (.sq (.rg [qp,qv,(qx 9 0),(.tup [])]) (.sq (.rg [qh,qv,qn,qn,qn]) (.rg [qh,qh,qh,ql,qn,qh,qh,qh,ql,qn,qh,qh,qa,qn,ql,ql,qh,qh,(.tup [])])))) (.rg [qn,qn]))))))) (.sq (.rg [qn,qn]) .lf))))),[qh,qv,qi],[9,4],[],look_Q121,rfl,rfl,rfl,rfl,by kernel_rfl⟩
noncomputable def zth:KC:=fun F _ v h kr =>
wcons v <| ooH fun c4 c5 c6 r2 =>
wcons r2 <| ooN fun c2 r3 =>
wcons r3 <| ooN fun c7 r4 =>
wcons r4 <| ooN fun c17 r5 =>
wcons r5 <| ooA fun r0 r6 =>
wnil r6 <|
wle r0 5 <|
F 153 [(iH c4 c5 c6),(iN c7)] h <| ooH fun c18 c19 c20 h4 =>
wblock (fun(c21 c22 c23 c24 c31 c25:Nat) (r7:LI) (h5:FH) =>
wcut r7 0 5 fun r8 =>
F 152 [(iH c21 c22 c23),(iN c25),(iN c24),(.agg r8)] h5 <| ooT fun r9 h6 =>
wnil r9 <|
F 153 [(iH c21 c22 c23),(iN c24)] h6 <| ooH fun c26 c27 c28 h1 =>
nae c28 7 fun c32 =>
hld none c26 c27 c32 h1 fun a0 =>
hpush h1 (.cells [(iN c25)] 1 0 false) fun c33 h7 =>
ift (passB a0) <|
F 157 [a0,(iN c31),(.slice c33 0 0 1)] h7 <| ooL fun c34 c35 c36 c37 h8 =>
nae c28 7 fun c38 =>
hwr h8 c26 c27 c38 [(.slice c34 c35 c36 c37)] fun h9 =>
kr (iN 0) h9) fun j1 =>
F 154 [(iH c4 c5 c6),(iN c2)] h4 <| ooB fun c8 h0 =>
wgV (iB c8) false (vv (x_mov (iN c2))) fun a1 =>
wgV (iB c8) false (v_lss a1 (iN 1)) fun a2 =>
pk c8 (iB true) a2 <| oB fun c9 =>
wgV (iB c9) false (vv (x_mov (iN c2))) fun a3 =>
wgV (iB c9) false (v_gtr a3 (iN 1048576)) fun a4 =>
pk c9 (iB true) a4 <| oB fun c29 =>
wblock (fun(c39:Bool) (c10 c11 c12 c13 c14 c15 c30 c16 c40:Nat) (r1:LI) (h2:FH) =>
wif c39 ((none:WR)) <|
hld none c13 c14 c15 h2 <| oL fun _ _ _ c41 =>
bf (Nat.ble 300 c41) fun c42 =>
wif c42 ((none:WR)) <|
vv (zkf false (.const (iH c10 c11 c12)) (.const (.p .nilptr))) <| oB fun c43 =>
wif c43 ((none:WR)) <|
wg 0 r1 <| oN fun c44 =>
F 155 [(iH c10 c11 c12),(iN c44)] h2 <| ooB fun c45 h3 =>
bf (gnot c45) fun c46 =>
wif c46 ((none:WR)) <|
nbl c16 0 fun c0 =>
wgV (iB c0) false (vv (x_mov (iN c16))) fun a5 =>
wgV (iB c0) false (vv (x_mov (iH c10 c11 c12))) fun a6 =>
wgV (iB c0) false (v_nil a6) fun a7 =>
wgV (iB c0) false (zaa 7 a7) fun a8 =>
wgV (iB c0) false (zac none a8 ⟨[b_ 9 r1 5],h3⟩) fun a9 =>
wgV (iB c0) false (v_len a9) fun a10 =>
wgV (iB c0) false (v_gtr a5 a10) fun a11 =>
pk c0 (iB true) a11 <| oB fun c47 =>
wif c47 ((none:WR)) <|
F 156 [(iH c13 c14 c15),(iN c30)] h3 <| ooN fun c48 h10 =>
bf (Nat.ble 60 c48) fun c49 =>
wif c49 ((none:WR)) <|
j1 c13 c14 c15 c30 c16 c40 r1 h10) fun j0 =>
wif c29 (j0 c29 c18 c19 c20 c4 c5 c6 c7 c17 c2 r0 h0) <|
wg 4 r0 <| oP fun c50 =>
v_len (.p c50) <| oN fun c51 =>
nbl 0 c51 fun c3 =>
wgV (iB c3) false (zaa 3 (iX 9 0)) fun a12 =>
wgV (iB c3) false (zac none a12 ⟨[b_ 9 r0 5,nb_ 9],h0⟩) fun a13 =>
wgV (iB c3) false (v_len a13) fun a14 =>
wgV (iB c3) false (v_gtr a14 (iN 0)) fun a15 =>
pk c3 (iB true) a15 <| oB fun c1 =>
wgV (iB c1) false (zac (some 5) (iX 9 0) ⟨[b_ 9 r0 5,nb_ 9],h0⟩) fun a16 =>
wgH (iB c1) false (zco 5 1 [(.int .i64 0),(.str []),(.str []), .nilslice, .nilslice] [(0,5,a16)]) h0 fun a17 h11 =>
wgV (iB c1) false (zki [(.int .i64 0),(.str []),(.str []), .nilslice, .nilslice] [(0,1,(iN 1)),(4,1,a17)]) fun a18 =>
wgH (iB c1) false (wcallH (.p (.func 15)) [a18] F) h11 fun a19 h12 =>
wgV (iB c1) false (v_not a19) fun a20 =>
pk c1 (iB true) a20 <| oB fun c52 =>
j0 c52 c18 c19 c20 c4 c5 c6 c7 c17 c2 r0 h12
noncomputable def zim:KFun:=⟨zth,false,false⟩
theorem zpw:KOK tr.look F_Q122 zim:=⟨i_Q122,(.sq (.rg [(qx 9 0),qn]) (.sq (.rg [qh,qn,qh,qh]) (.sq (.bk [sx 9, .slot 0 qh, .slot 2 qn, .slot 3 qn, .slot 1 qn,bl 9 5] (.sq (.sq (.rg [qh,qn,qb,qb,qa,qa,qb,qb,qa,qa,qb,qb]) (.cd [.slot 15 qb, .slot 11 qh,sx 9, .slot 0 qh, .slot 2 qn, .slot 3 qn, .slot 1 qn,bl 9 5] .lf (.rg [(qx 9 4),qp,qn,qb,qb,qa,qa,qa,qa,qb,qb,qa,qa,qa,qa,qa,qb,qb]))) (.cj (.sq .lf .lf) (.sq (.rg [qh,qh,qh,ql,qn,qb,qb]) (.cj (.sq .lf .lf) (.sq (.rg [qh,qb,qb]) (.cj (.sq .lf .lf) (.sq (.rg [qh,(qx 9 0),qn,qb,qb,qb]) (.cj (.sq .lf .lf) (.sq (.rg [qn,qb,qb,qa,qa,qa,qa,qa,qa,qa,qb,qb]) (.cj (.sq .lf .lf) (.sq (.rg [qh,qn,qn,qb,qb]) (.cj (.sq .lf .lf) .lf))))))))))))) (.sq (.rg [qh,qn,qn,qv,(.tup [])]) (.sq (.rg [qh,qn,qh,qh]) (.sq (.rg [qh,qh,qh,qh,qa,qn,qn,ql,ql,qh,qh,(.tup [])]) (.sq (.rg [qn]) .lf))))))),[qh,qn,qn,qn,qv],[9],[],look_Q122,rfl,rfl,rfl,rfl,by kernel_rfl⟩
noncomputable def zti:KC:=fun F _ v h kr =>
wcons v <| ooH fun c3 c4 c5 r0 =>
wcons r0 <| ooN fun c6 r1 =>
wnil r1 <|
F 153 [(iH c3 c4 c5),(iN c6)] h <| ooH fun c0 c1 c2 h0 =>
vv (zkf false (.const (iH c0 c1 c2)) (.const (.p .nilptr))) <| oB fun c7 =>
wif c7 ((none:WR)) <|
nae c2 1 fun c8 =>
hld none c0 c1 c8 h0 <| oI fun c9 =>
kr (iI c9) h0
noncomputable def zin:KFun:=⟨zti,false,false⟩
theorem zpx:KOK tr.look F_Q128 zin:=⟨i_Q128,(.sq (.rg [qn]) (.sq (.rg [qh,qn,qh,qh]) (.sq (.sq (.rg [qh,qb]) (.cj (.sq .lf .lf) .lf)) (.sq (.rg [qh,qh,qh,qi,qi]) .lf)))),[qh,qn],[],[],look_Q128,rfl,rfl,rfl,rfl,by kernel_rfl⟩
noncomputable def zxp:KC:=fun F _ v h kr =>
wcons v <| ooH fun c0 c1 c2 r0 =>
wcons r0 <| ooN fun c3 r1 =>
wnil r1 <|
F 128 [(iH c0 c1 c2),(iN c3)] h <| ooN fun c7 h1 =>
F 153 [(iH c0 c1 c2),(iN c7)] h1 <| ooH fun c4 c5 c6 h0 =>
vv (zkf false (.const (iH c4 c5 c6)) (.const (.p .nilptr))) <| oB fun c8 =>
wif c8 ((none:WR)) <|
nae c6 7 fun c9 =>
hld none c4 c5 c9 h0 <| oL fun c10 c11 c12 c13 =>
F 163 [(.slice c10 c11 c12 c13),(iN c3)] h0 <| ooN fun c14 h2 =>
kr (iN c14) h2
noncomputable def zkz:KFun:=⟨zxp,false,false⟩
theorem zrm:KOK tr.look F_Q129 zkz:=⟨i_Q129,(.sq (.rg [qn]) (.sq (.rg [qh,qh,qn,qn,qh,qh]) (.sq (.sq (.rg [qh,qb]) (.cj (.sq .lf .lf) .lf)) (.sq (.rg [qh,qh,qh,ql,qn,qn,qn]) .lf)))),[qh,qn],[],[],look_Q129,rfl,rfl,rfl,rfl,by kernel_rfl⟩
noncomputable def zyx:KC:=fun F _ v h kr =>
wcons v <| ooH fun c3 c4 c5 r2 =>
wcons r2 <| ooN fun c6 r3 =>
wnil r3 <|
F 153 [(iH c3 c4 c5),(iN c6)] h <| ooH fun c0 c1 c2 h0 =>
vv (zkf false (.const (iH c0 c1 c2)) (.const (.p .nilptr))) <| oB fun c7 =>
wif c7 ((none:WR)) <|
nae c2 2 fun c8 =>
hld (some 5) c0 c1 c8 h0 <| oA fun r0 =>
wle r0 5 <|
wg 3 r0 <| oP fun c9 =>
F 53 [(.p c9)] h0 <| ooP fun c10 h1 =>
wspl r0 3 [(.p c10)] fun r4 =>
wcut r4 0 5 fun r1 =>
wle r1 5 <|
wcut r1 0 5 fun r5 =>
kr (.tup [(.agg r5),(iB true)]) h1
noncomputable def zmp:KFun:=⟨zyx,false,false⟩
theorem ztj:KOK tr.look F_Q130 zmp:=⟨i_Q130,(.sq (.rg [(qx 4 0),qb]) (.sq (.rg [qh,qn,qh,qh]) (.sq (.sq (.rg [qh,qb]) (.cj (.sq .lf .lf) .lf)) (.sq (.rg [qh,qh,qh,qv,(qx 7 0),(.tup [])]) (.sq (.rg [(qx 7 3),qp,qp,(qx 7 3),(.tup [])]) (.sq (.rg [qv,(.tup []),qb]) .lf)))))),[qh,qn],[7,4],[],look_Q130,rfl,rfl,rfl,rfl,by kernel_rfl⟩
noncomputable def zaod:KC:=fun F L v h kr =>
wcons v <| ooA fun r0 r1 =>
wnil r1 <|
wle r0 5 <|
wcut r0 0 5 fun r2 =>
F 27 [(.agg r2)] h <| ooP fun c3 h4 =>
v_len (.p c3) <| oN fun c10 =>
zbr 1 [(.int .u64 0)] (iN c10) (iN c10) h4 <| ooL fun c24 c25 c26 c27 h5 =>
v_len (.p c3) <| oN fun c11 =>
ift (Nat.ble 1 c11) <|
nforce (Nat.sub c11 1) fun c12 =>
nlt c12 lim63 <|
wblock (fun(c28 c29 c30 c31:Nat) (h6:FH) =>
kr (.slice c28 c29 c30 c31) h6) fun j0 =>
wloop (fun _ _ _ _ _ _ _=>none) (fun j1 (c4:Int) (c13 c14 c15 c16:Nat) (c32:PVal) (h1:FH) =>
v_geq (iI c4) (iN 0) <| oB fun c33 =>
wif c33 (wblock (fun(c34 c35 c36 c37 c38:Nat) (c39:PVal) (h7:FH) =>
v_sub (iN c34) (iN 1) <| oI fun c40 =>
j1 c40 c35 c36 c37 c38 c39 h7) fun j2 =>
v_add (iI c4) (iN 1) <| oN fun c41 =>
wblock (fun(a0:IVal) (c0 c17 c18 c19 c20:Nat) (c21:PVal) (h2:FH) =>
zab 10 (.p c21) (iN c0) <| oP fun c42 =>
zaa 5 (.p c42) <| oP fun c43 =>
zac (some 5) (.p c43) ⟨[],h2⟩ <| oA fun r3 =>
ift (passB a0) <|
F 164 [(.agg r3),a0] h2 <| ooP fun c44 h8 =>
nlt c0 c20 <|
nam c19 c0 1 fun c45 =>
hwr h8 c17 c18 c45 [(.p c44)] fun h9 =>
j2 c0 c17 c18 c19 c20 c21 h9) fun j3 =>
tN (iI c4) fun c46 =>
wloop (fun _ _ _ _ _ _ _ _ _=>none) (fun j4 (c1:Nat) (c5:PVal) (c6 c7 c8 c9:Nat) (a1:IVal) (c2:Nat) (h0:FH) =>
zab 10 (.p c5) (iN c2) <| oP fun c47 =>
zaa 1 (.p c47) <| oP fun c48 =>
zac none (.p c48) ⟨[],h0⟩ <| oN fun c49 =>
nad c2 c49 fun c50 =>
nbl c1 c50 fun c51 =>
wif c51 (wblock (fun(c22:Nat) (c23:PVal) (c52 c53 c54 c55 c56 c57 c58 c59 c60:Nat) (h3:FH) =>
zab 10 (.p c23) (iN c22) <| oP fun c61 =>
zaa 1 (.p c61) <| oP fun c62 =>
zac none (.p c62) ⟨[],h3⟩ <| oN fun c63 =>
nad c22 c63 fun c64 =>
j4 c64 c23 c52 c53 c54 c55 (.slice c56 c57 c58 c59) c60 h3) fun j5 =>
nlt c1 c9 <|
nam c8 c1 1 fun c65 =>
hld none c6 c7 c65 h0 <| oP fun c66 =>
hpush h0 (.cells [(.p c66)] 1 0 false) fun c67 h10 =>
zad 1 a1 (.slice c67 0 0 1) h10 <| ooL fun c68 c69 c70 c71 h11 =>
j5 c1 c5 c6 c7 c8 c9 c68 c69 c70 c71 c2 h11) <|
j3 a1 c2 c6 c7 c8 c9 c5 h0) L c41 c32 c13 c14 c15 c16 (.p .nilslice) c46 h1) <|
j0 c13 c14 c15 c16 h1) L (.ofNat c12) c24 c25 c26 c27 c3 h5
noncomputable def zaaw:KFun:=⟨zaod,true,true⟩
theorem zahh:KOK tr.look F_Q132 zaaw:=⟨i_Q132,(.sq (.rg [(qx 1 0),qp]) (.sq (.rg [qv,qp,qp]) (.sq (.rg [qp,qn,ql,ql]) (.sq (.sq (.rg [qp,qn,qn,qn]) (.bk [.slot 4 ql] (.lp [.slot 5 qi, .slot 4 ql, .slot 3 qp] (.sq (.sq (.rg [qi,qb]) (.cj .lf .lf)) (.sq (.bk [.slot 5 qn, .slot 4 ql, .slot 3 qp] (.sq (.rg [qp]) (.sq (.sq (.rg [qn,qn,qn]) (.bk [.slot 6 qa, .slot 5 qn, .slot 4 ql, .slot 3 qp] (.lp [.slot 7 qn, .slot 3 qp, .slot 4 ql, .slot 6 qa, .slot 5 qn] (.sq (.sq (.rg [qn,qn,qp,qn,qp,qp,qn,qn,qb]) (.cj .lf .lf)) (.sq (.bk [.slot 7 qn, .slot 3 qp, .slot 4 ql, .slot 6 ql, .slot 5 qn] (.rg [qa,ql,qn,qh,qp,ql,ql,ql])) (.rg [qn,qp,qn,qp,qp,qn,qn,qn])))))) (.rg [ql,qn,qp,qn,qp,qp,qv,qa,qp,qh,(.tup [])])))) (.rg [qn,qi,qi])))))) (.sq (.rg [ql,ql]) .lf))))),[qv],[1],[],look_Q132,rfl,rfl,rfl,rfl,by kernel_rfl⟩
noncomputable def zadw:KC:=fun F _ v h kr =>
wcons v <| ooA fun r0 r5 =>
wcons r5 <| ooA fun r1 r6 =>
wnil r6 <|
wle r0 5 <|
wle r1 5 <|
wcut r0 0 5 fun r7 =>
wcut r1 0 5 fun r2 =>
hpush h (.map [] 0) fun c0 h2 =>
F 165 [(.agg r7)] h2 <| ooH fun c7 c8 c9 h1 =>
ift (wchk F ⟨[b_ 6 [(iN 0),(iN 0)] 2,b_ 5 [(iN 0),(iN 0)] 2,b_ 3 r1 5,b_ 2 r0 5,nb_ 2,nb_ 3,nb_ 5,nb_ 6],h1⟩ (.load (some 5) (.const (iX 3 0))) (.agg r2)) <|
ift (wchk F ⟨[b_ 6 [(iN 0),(iN 0)] 2,b_ 5 [(iN 0),(iN 0)] 2,b_ 3 r1 5,b_ 2 r0 5,nb_ 2,nb_ 3,nb_ 5,nb_ 6],h1⟩ (.mkMap) (.map c0)) <|
F 165 [(.agg r2)] h1 <| ooH fun c10 c11 c12 h3 =>
hpush h3 (.cells [(iH c7 c8 c9),(iH c10 c11 c12),(.map c0)] 3 0 false) fun c1 h0 =>
ift (wchk F ⟨[b_ 6 [(iN 0),(iN 0)] 2,b_ 5 [(iN 0),(iN 0)] 2,b_ 3 r1 5,b_ 2 r0 5,nb_ 2,nb_ 3,nb_ 5,nb_ 6],h0⟩ (.mkMap) (.map c0)) <|
hld none c1 0 0 h0 <| oH fun c13 c14 c15 =>
hld none c13 c14 c15 h0 <| oL fun _ _ _ c2 =>
hld none c1 0 1 h0 <| oH fun c16 c17 c18 =>
hld none c16 c17 c18 h0 <| oL fun _ _ _ c3 =>
ift (Nat.ble 1 c2) <|
nforce (Nat.sub c2 1) fun c5 =>
nlt c5 lim63 <|
F 166 [(iN 0),(iN c5)] h0 <| ooA fun r3 h4 =>
ift (Nat.ble 1 c3) <|
nforce (Nat.sub c3 1) fun c6 =>
nlt c6 lim63 <|
F 166 [(iN 0),(iN c6)] h4 <| ooA fun r4 h5 =>
bf (Nat.ble c2 8) fun c4 =>
wgV (iB c4) true (vv (x_mov (iN c3))) fun a0 =>
wgV (iB c4) true (v_leq a0 (iN 8)) fun a1 =>
pk c4 a1 (iB false) <| oB fun c19 =>
wle r3 2 <|
wle r4 2 <|
wcut r3 0 2 fun r8 =>
wcut r4 0 2 fun r9 =>
kr (.tup [(iH c1 0 0),(.agg r8),(.agg r9),(iB c19)]) h5
noncomputable def zpy:KFun:=⟨zadw,false,false⟩
theorem zxq:KOK tr.look F_Q133 zpy:=⟨i_Q133,(.sq (.rg [(qx 2 0),(qx 3 0),qp,(qx 5 0),(qx 6 0),qb]) (.sq (.rg [qv,qh,qv,qh,qm,qv,qh,qh]) (.sq (.rg [qh,qh,qh,qh,qh,qh,ql,qn,qh,qh,qh,qh,qh,qh,ql,qn,qn,qn]) (.sq (.rg [qh,qn,qn,qv,qn,qn,qv,qn,qb,qb,qa,qa,qb,qh,(.tup []),(.tup []),qb]) .lf)))),[qv,qv],[2,3,5,6],[],look_Q133,rfl,rfl,rfl,rfl,by kernel_rfl⟩
noncomputable def zpz:KC:=fun F _ v h kr =>
wcons v <| ooH fun c0 c1 c2 r7 =>
wcons r7 <| ooA fun r0 r8 =>
wcons r8 <| ooA fun r1 r9 =>
wnil r9 <|
wle r0 2 <|
wle r1 2 <|
wcut r0 0 2 fun r4 =>
F 167 [] h <| ooA fun r10 h6 =>
vv (x_eqv false ⟨true,[.int, .int]⟩ (.const (.agg r4)) (.const (.agg r10))) <| oB fun c3 =>
wgV (iB c3) false (zac (some 2) (iX 5 0) ⟨[b_ 5 r1 2,b_ 4 r0 2,nb_ 4,nb_ 5],h6⟩) fun a0 =>
ift (wchk F ⟨[b_ 5 r1 2,b_ 4 r0 2,nb_ 4,nb_ 5],h6⟩ (.load (some 2) (.const (iX 4 0))) (.agg r4)) <|
wgH (iB c3) false (wcallH (.p (.func 167)) [] F) h6 fun a2 h7 =>
wgV (iB c3) false (vv (x_eqv false ⟨true,[.int, .int]⟩ (.const a0) (.const a2))) fun a3 =>
pk c3 (iB true) a3 <| oB fun c22 =>
ift (wgb (iB c3) false (wchk F ⟨[b_ 5 r1 2,b_ 4 r0 2,nb_ 4,nb_ 5],h7⟩ (.load (some 2) (.const (iX 5 0))) a0)) <|
wif c22 (kr (.p .nilslice) h7) <|
wcut r0 0 2 fun r11 =>
wcut r1 0 2 fun r12 =>
F 168 [(iH c0 c1 c2),(.agg r11),(.agg r12)] h7 <| ooN fun c13 h11 =>
wblock (fun(c23 c24 c25 c14 c15 c11 c12:Nat) (h12:FH) =>
F 173 [(.agg [(iN c14),(iN c15)])] h12 <| ooA fun r13 h9 =>
ift (wchk F ⟨[b_ 5 [(iN c14),(iN c15)] 2,b_ 4 [(iN c11),(iN c12)] 2],h9⟩ (.load (some 2) (.const (iX 4 0))) (.agg [(iN c11),(iN c12)])) <|
F 134 [(iH c23 c24 c25),(.agg [(iN c11),(iN c12)]),(.agg r13)] h9 <| ooL fun c26 c27 c28 c29 h13 =>
kr (.slice c26 c27 c28 c29) h13) fun j1 =>
wcut r0 0 2 fun r14 =>
wcut r1 0 2 fun r15 =>
F 169 [(iH c0 c1 c2),(.agg r14),(.agg r15)] h11 <| ooN fun c30 h3 =>
nbe c13 c30 fun c31 =>
wif c31 (hld none c0 c1 c2 h3 <| oH fun c32 c33 c34 =>
wcut r0 0 2 fun r16 =>
nae c2 1 fun c16 =>
hld none c0 c1 c16 h3 <| oH fun c17 c18 c19 =>
wcut r1 0 2 fun r5 =>
hld none c0 c1 c2 h3 <| oH fun c8 c9 c10 =>
wcut r0 0 2 fun r3 =>
nae c2 1 fun c4 =>
hld none c0 c1 c4 h3 <| oH fun c5 c6 c7 =>
wcut r1 0 2 fun r2 =>
F 170 [(iH c32 c33 c34),(.agg r16)] h3 <| ooA fun r17 h1 =>
ift (wchk F ⟨[b_ 5 r1 2,b_ 4 r0 2,nb_ 4,nb_ 5],h1⟩ (.load none (.const (iH c0 c1 c16))) (iH c17 c18 c19)) <|
ift (wchk F ⟨[b_ 5 r1 2,b_ 4 r0 2,nb_ 4,nb_ 5],h1⟩ (.load (some 2) (.const (iX 5 0))) (.agg r5)) <|
ift (wchk F ⟨[b_ 5 r1 2,b_ 4 r0 2,nb_ 4,nb_ 5],h1⟩ (.load none (.const (iH c0 c1 c2))) (iH c8 c9 c10)) <|
ift (wchk F ⟨[b_ 5 r1 2,b_ 4 r0 2,nb_ 4,nb_ 5],h1⟩ (.load (some 2) (.const (iX 4 0))) (.agg r3)) <|
ift (wchk F ⟨[b_ 5 r1 2,b_ 4 r0 2,nb_ 4,nb_ 5],h1⟩ (.load none (.const (iH c0 c1 c4))) (iH c5 c6 c7)) <|
ift (wchk F ⟨[b_ 5 r1 2,b_ 4 r0 2,nb_ 4,nb_ 5],h1⟩ (.load (some 2) (.const (iX 5 0))) (.agg r2)) <|
F 170 [(iH c17 c18 c19),(.agg r5)] h1 <| ooA fun r18 h4 =>
ift (wchk F ⟨[b_ 5 r1 2,b_ 4 r0 2,nb_ 4,nb_ 5],h4⟩ (.load none (.const (iH c0 c1 c2))) (iH c8 c9 c10)) <|
ift (wchk F ⟨[b_ 5 r1 2,b_ 4 r0 2,nb_ 4,nb_ 5],h4⟩ (.load (some 2) (.const (iX 4 0))) (.agg r3)) <|
ift (wchk F ⟨[b_ 5 r1 2,b_ 4 r0 2,nb_ 4,nb_ 5],h4⟩ (.load none (.const (iH c0 c1 c4))) (iH c5 c6 c7)) <|
ift (wchk F ⟨[b_ 5 r1 2,b_ 4 r0 2,nb_ 4,nb_ 5],h4⟩ (.load (some 2) (.const (iX 5 0))) (.agg r2)) <|
F 134 [(iH c0 c1 c2),(.agg r17),(.agg r18)] h4 fun a4 h5 =>
ift (wchk F ⟨[b_ 5 r1 2,b_ 4 r0 2,nb_ 4,nb_ 5],h5⟩ (.load none (.const (iH c0 c1 c2))) (iH c8 c9 c10)) <|
ift (wchk F ⟨[b_ 5 r1 2,b_ 4 r0 2,nb_ 4,nb_ 5],h5⟩ (.load (some 2) (.const (iX 4 0))) (.agg r3)) <|
ift (wchk F ⟨[b_ 5 r1 2,b_ 4 r0 2,nb_ 4,nb_ 5],h5⟩ (.load none (.const (iH c0 c1 c4))) (iH c5 c6 c7)) <|
ift (wchk F ⟨[b_ 5 r1 2,b_ 4 r0 2,nb_ 4,nb_ 5],h5⟩ (.load (some 2) (.const (iX 5 0))) (.agg r2)) <|
F 171 [(iH c8 c9 c10),(.agg r3)] h5 <| ooA fun r19 h8 =>
ift (wchk F ⟨[b_ 5 r1 2,b_ 4 r0 2,nb_ 4,nb_ 5],h8⟩ (.load none (.const (iH c0 c1 c4))) (iH c5 c6 c7)) <|
ift (wchk F ⟨[b_ 5 r1 2,b_ 4 r0 2,nb_ 4,nb_ 5],h8⟩ (.load (some 2) (.const (iX 5 0))) (.agg r2)) <|
F 171 [(iH c5 c6 c7),(.agg r2)] h8 <| ooA fun r20 h14 =>
F 134 [(iH c0 c1 c2),(.agg r19),(.agg r20)] h14 fun a5 h15 =>
zad 2 a4 a5 h15 fun a1 h2 =>
hld none c0 c1 c2 h2 <| oH fun c35 c36 c37 =>
hld none c35 c36 c37 h2 <| oL fun c38 c39 c40 c41 =>
wg 1 r0 <| oN fun c20 =>
nlt c20 c41 <|
nam c40 c20 5 fun c42 =>
hld (some 5) c38 c39 c42 h2 <| oA fun r21 =>
nae c2 1 fun c43 =>
hld none c0 c1 c43 h2 <| oH fun c44 c45 c46 =>
hld none c44 c45 c46 h2 <| oL fun c47 c48 c49 c50 =>
wg 1 r1 <| oN fun c21 =>
nlt c21 c50 <|
nam c49 c21 5 fun c51 =>
hld (some 5) c47 c48 c51 h2 <| oA fun r22 =>
F 172 [(.agg r21),(.agg r22)] h2 <| ooN fun c52 h0 =>
nbl c52 3 fun c53 =>
wblock (fun(c54 c55 c56 c57:Nat) (h16:FH) =>
kr (.slice c54 c55 c56 c57) h16) fun j0 =>
wif c53 (hld none c0 c1 c2 h0 <| oH fun c58 c59 c60 =>
nae c60 1 fun c61 =>
hld none c58 c59 c61 h0 <| oP fun c62 =>
wg 1 r0 <| oN fun c63 =>
zab 1 (.p c62) (iN c63) <| oP fun c64 =>
zac none (.p c64) ⟨[b_ 5 r1 2,b_ 4 r0 2,nb_ 4,nb_ 5],h0⟩ <| oN fun c65 =>
nae c2 1 fun c66 =>
hld none c0 c1 c66 h0 <| oH fun c67 c68 c69 =>
nae c69 1 fun c70 =>
hld none c67 c68 c70 h0 <| oP fun c71 =>
wg 1 r1 <| oN fun c72 =>
zab 1 (.p c71) (iN c72) <| oP fun c73 =>
zac none (.p c73) ⟨[b_ 5 r1 2,b_ 4 r0 2,nb_ 4,nb_ 5],h0⟩ <| oN fun c74 =>
hpush h0 (.cells [(iN c65),(iN c74)] 2 0 false) fun c75 h17 =>
zad 2 a1 (.slice c75 0 0 1) h17 <| ooL fun c76 c77 c78 c79 h18 =>
j0 c76 c77 c78 c79 h18) <|
tL a1 fun c80 c81 c82 c83 =>
j0 c80 c81 c82 c83 h0) <|
wcut r0 0 2 fun r23 =>
wcut r1 0 2 fun r6 =>
F 173 [(.agg r23)] h3 <| ooA fun r24 h10 =>
ift (wchk F ⟨[b_ 5 r1 2,b_ 4 r0 2,nb_ 4,nb_ 5],h10⟩ (.load (some 2) (.const (iX 5 0))) (.agg r6)) <|
F 168 [(iH c0 c1 c2),(.agg r24),(.agg r6)] h10 <| ooN fun c84 h19 =>
nad c84 1 fun c85 =>
nbe c13 c85 fun c86 =>
wif c86 ((none:WR)) <|
wcons r1 <| ooN fun c87 r25 =>
wcons r25 <| ooN fun c88 r26 =>
wnil r26 <|
wcons r0 <| ooN fun c89 r27 =>
wcons r27 <| ooN fun c90 r28 =>
wnil r28 <|
j1 c0 c1 c2 c87 c88 c89 c90 h19
noncomputable def zgg:KFun:=⟨zpz,false,false⟩
theorem zlw:KOK tr.look F_Q134 zgg:=⟨i_Q134,(.sq (.rg [(qx 4 0),(qx 5 0),qp]) (.sq (.sq (.rg [qv,qv,qb,qb,qa,qa,qa,qb]) (.cj (.sq (.rg [qp]) .lf) .lf)) (.sq (.rg [qh,qv,qv,qn,qn]) (.sq (.sq (.rg [qn]) (.bk [sx 5,sx 4, .slot 0 qh,(.box 5 (.cells 2 [.nat, .nat])),(.box 4 (.cells 2 [.nat, .nat]))] (.sq (.rg [qh,qv,qv,qn,qb,qb]) (.cj (.sq (.rg [qh,qh,qh,qh,qh,qv,qv,qh,qh,qh,qh,qv,qv,qa,qh,qh,qh,qh,qh,qv,qv,qh,qh,qh,qh,qv,qv]) (.sq (.sq (.rg [qh,qh,qh,qh,qh,qh,ql,(qx 4 1),qn,qh,qv,qh,qh,qh,qh,qh,qh,ql,(qx 5 1),qn,qh,qv,qn,qb]) (.cd [.slot 8 ql] (.rg [qa,qh,qh,qh,qh,qh,qh,qp,(qx 4 1),qn,qp,qn,qh,qh,qh,qh,qh,qh,qp,(qx 5 1),qn,qp,qn,qv,ql,ql,ql]) .lf)) (.sq (.rg [ql,ql]) .lf))) (.sq (.rg [qh,qv,qv,qv,qn,qn,qb,qb]) (.cj (.sq .lf .lf) .lf)))))) (.sq (.rg [qh,qv,qv,qv,ql,ql]) .lf))))),[qh,qv,qv],[4,5],[],look_Q134,rfl,rfl,rfl,rfl,by kernel_rfl⟩
noncomputable def zrn:KC:=fun F _ v h kr =>
wcons v <| ooA fun r0 r2 =>
wcons r2 <| ooA fun r1 r3 =>
wnil r3 <|
wle r0 2 <|
wle r1 2 <|
wg 0 r0 <| oN fun c0 =>
wg 0 r1 <| oN fun c1 =>
F 40 [(iN c0),(iN c1)] h <| ooI fun c2 h0 =>
kr (iI c2) h0
noncomputable def zhl:KFun:=⟨zrn,true,false⟩
theorem znt:KOK tr.look F_Q135 zhl:=⟨i_Q135,(.sq (.rg [(qx 2 0),(qx 3 0),qn]) (.sq (.rg [(qx 2 0),qn,(qx 3 0),qn,qi,qi]) .lf)),[qv,qv],[2,3],[],look_Q135,rfl,rfl,rfl,rfl,by kernel_rfl⟩
noncomputable def zby:KC:=fun _ L v h kr =>
wcons v <| ooP fun c1 r0 =>
wcons r0 <| ooN fun c0 r1 =>
wcons r1 <| ooN fun c2 r2 =>
wcons r2 <| ooP fun c3 r3 =>
wnil r3 <|
nad c0 1 fun c4 =>
wblock (fun(h0:FH) =>
kr (.tup []) h0) fun j0 =>
wloop (fun _ _ _ _ _ _=>none) (fun _ (_:PVal) (_ c5:Nat) (_:PVal) (c6:Nat) (h1:FH) =>
nbl c5 c6 fun c7 =>
wif c7 ((none:WR)) <|
j0 h1) L c3 c0 c4 c1 c2 h
noncomputable def zap:KFun:=⟨zby,false,false⟩
theorem zbm:KOK tr.look F_Q141 zap:=⟨i_Q141,(.sq (.rg [qn,qn,qn]) (.bk [] (.lp [.slot 3 qp, .slot 1 qn, .slot 8 qn, .slot 0 qp, .slot 2 qn] (.sq (.sq (.rg [qn,qn,qb]) (.cj .lf .lf)) (.sq .lf .lf))))),[qp,qn,qn,qp],[],[],look_Q141,rfl,rfl,rfl,rfl,by kernel_rfl⟩
noncomputable def zadx:KC:=fun F _ v h kr =>
wcons v <| ooH fun c0 c1 c2 r4 =>
wcons r4 <| ooN fun c3 r5 =>
wcons r5 <| ooI fun c4 r6 =>
wcons r6 <| ooA fun r0 r7 =>
wnil r7 <|
wle r0 5 <|
wspl r0 4 [(.p .nilslice)] fun r1 =>
wg 3 r1 <| oP fun c5 =>
F 53 [(.p c5)] h <| ooP fun c6 h0 =>
wspl r1 3 [(.p c6)] fun r8 =>
nae c2 1 fun c7 =>
hld none c0 c1 c7 h0 <| oM fun c8 =>
hld none c0 c1 c2 h0 fun a0 =>
v_len a0 <| oN fun c9 =>
zbw ⟨false,[.int]⟩ (.map c8) (iN c3) (iN c9) h0 <| ooT fun r9 h1 =>
wnil r9 <|
hld none c0 c1 c2 h1 fun a1 =>
wcut r8 0 5 fun r2 =>
wle r2 5 <|
wspl [(iN c3),(iI c4),(iN 0),(iS []),(iS []),(.p .nilslice),(.p .nilslice),(.p .nilslice)] 2 r2 fun r3 =>
wle r3 8 <|
wspl [(iN 0),(iN 0),(iN 0),(iS []),(iS []),(.p .nilslice),(.p .nilslice),(.p .nilslice)] 0 r3 fun r10 =>
hpush h1 (.cells r10 8 0 false) fun c10 h2 =>
zad 8 a1 (.slice c10 0 0 1) h2 <| ooL fun c11 c12 c13 c14 h3 =>
hwr h3 c0 c1 c2 [(.slice c11 c12 c13 c14)] fun h4 =>
kr (.tup []) h4
noncomputable def zqa:KFun:=⟨zadx,false,false⟩
theorem zxr:KOK tr.look F_Q152 zqa:=⟨i_Q152,(.sq (.rg [(qx 7 0)]) (.sq (.rg [(qx 7 4),(.tup [])]) (.sq (.rg [(qx 7 3),qp,qp,(qx 7 3),(.tup [])]) (.sq (.rg [qh,qh,qh,qm,qn,qh,qh,qh,qa,qn,(.tup [])]) (.rg [qh,qh,qh,qh,qa,qn,qi,qv,qv,ql,ql,qh,qh,(.tup [])]))))),[qh,qn,qi,qv],[7],[],look_Q152,rfl,rfl,rfl,rfl,by kernel_rfl⟩
noncomputable def zyy:KC:=fun _ _ v h kr =>
wcons v <| ooH fun c0 c1 c2 r0 =>
wcons r0 <| ooI fun c4 r1 =>
wnil r1 <|
nae c2 1 fun c5 =>
hld none c0 c1 c5 h <| oM fun c6 =>
zak true (.p (.int .i64 0)) ⟨false,[.int]⟩ (.map c6) (iI c4) h <| ooT fun r2 h0 =>
wcons r2 <| ooN fun c3 r3 =>
wcons r3 <| ooB fun c7 r4 =>
wnil r4 <|
bf (gnot c7) fun c8 =>
wif c8 (kr (.p .nilptr) h0) <|
hld none c0 c1 c2 h0 <| oL fun c9 c10 c11 c12 =>
nlt c3 c12 <|
nam c11 c3 8 fun c13 =>
kr (iH c9 c10 c13) h0
noncomputable def zmq:KFun:=⟨zyy,false,false⟩
theorem ztk:KOK tr.look F_Q153 zmq:=⟨i_Q153,(.sq (.rg [qp]) (.sq (.rg [qh,qh,qh,qm,qi,(.tup [(.c .nat),(.c .bool)]),(.tup [(.c .nat),(.c .bool)]),qn,qb,qn,qb]) (.sq (.sq (.rg [qb,qb]) (.cj (.sq (.rg [qp]) .lf) .lf)) (.sq (.rg [qh,qh,qh,ql,qn,qh,qh]) .lf)))),[qh,qi],[],[],look_Q153,rfl,rfl,rfl,rfl,by kernel_rfl⟩
noncomputable def zady:KC:=fun F _ v h kr =>
wcons v <| ooH fun c0 c1 c2 r0 =>
wcons r0 <| ooI fun c3 r1 =>
wnil r1 <|
F 153 [(iH c0 c1 c2),(iI c3)] h fun a0 h0 =>
vv (zkf true (.const a0) (.const (.p .nilptr))) <| oB fun c4 =>
kr (iB c4) h0
noncomputable def zqb:KFun:=⟨zady,false,false⟩
theorem zxs:KOK tr.look F_Q154 zqb:=⟨i_Q154,(.sq (.rg [qb]) (.sq (.rg [qh,qi,qa,qb,qb]) .lf)),[qh,qi],[],[],look_Q154,rfl,rfl,rfl,rfl,by kernel_rfl⟩
noncomputable def ztl:KC:=fun _ _ v h kr =>
wcons v <| ooH fun c1 c2 c3 r0 =>
wcons r0 <| ooN fun c4 r1 =>
wnil r1 <|
nae c3 2 fun c5 =>
hld none c1 c2 c5 h <| oN fun c6 =>
nbe c6 1 fun c0 =>
wgV (iB c0) false (vv (x_mov (iH c1 c2 c3))) fun a1 =>
wgV (iB c0) false (v_nil a1) fun a2 =>
wgV (iB c0) false (zaa 2 a2) fun a3 =>
wgV (iB c0) false (zaa 0 a3) fun a4 =>
wgV (iB c0) false (zac none a4 ⟨[],h⟩) fun a5 =>
wgV (iB c0) false (v_eql a5 (iN 2)) fun a6 =>
wgV (iB c0) false (vv (x_mov a6)) fun a0 =>
wgV a0 true (vv (x_mov (iN c4))) fun a7 =>
wgV a0 true (v_neq a7 (iN 5)) fun a8 =>
wgV (iB c0) false (zsi a0 a8 (iB false)) fun a9 =>
pk c0 (iB true) a9 <| oB fun c7 =>
kr (iB c7) h
noncomputable def zio:KFun:=⟨ztl,false,false⟩
theorem zqc:KOK tr.look F_Q155 zio:=⟨i_Q155,(.sq (.rg [qb]) (.sq (.rg [qh,qh,qh,qh,qn,qb,qb,qa,qa,qa,qa,qa,qa,qa,qa,qa,qa,qb,qb]) .lf)),[qh,qn],[],[],look_Q155,rfl,rfl,rfl,rfl,by kernel_rfl⟩
noncomputable def zxt:KC:=fun F L v h kr =>
wcons v <| ooH fun c5 c6 c7 r0 =>
wcons r0 <| ooN fun c8 r1 =>
wnil r1 <|
wblock (fun(c9:Nat) (h1:FH) =>
kr (iN c9) h1) fun j0 =>
wloop (fun _ _ _ _ _ _=>none) (fun j1 (c3:Int) (c0 c1 c2 c4:Nat) (h2:FH) =>
F 154 [(iH c0 c1 c2),(iI c3)] h2 <| ooB fun c10 h0 =>
wif c10 (wblock (fun(c11:Int) (c12 c13 c14 c15:Nat) (h3:FH) =>
j1 c11 c12 c13 c14 c15 h3) fun j2 =>
nad c4 1 fun c16 =>
F 128 [(iH c0 c1 c2),(iI c3)] h0 <| ooI fun c17 h4 =>
j2 c17 c0 c1 c2 c16 h4) <|
j0 c4 h0) L (.ofNat c8) c5 c6 c7 0 h
noncomputable def zla:KFun:=⟨zxt,false,false⟩
theorem zro:KOK tr.look F_Q156 zla:=⟨i_Q156,(.sq (.rg [qn]) (.sq (.rg [qn]) (.sq (.bk [.slot 5 qn] (.lp [.slot 1 qi, .slot 0 qh, .slot 5 qn] (.sq (.sq (.rg [qh,qi,qb]) (.cj .lf .lf)) (.bk [.slot 1 qi, .slot 0 qh, .slot 5 qn] (.sq (.rg [qn,qn,qn]) (.rg [qh,qn,qi,qi])))))) (.sq (.rg [qn,qn]) .lf)))),[qh,qn],[],[],look_Q156,rfl,rfl,rfl,rfl,by kernel_rfl⟩
noncomputable def ziz:KC:=fun _ L v h kr =>
wcons v <| ooP fun c1 r0 =>
wcons r0 <| ooN fun c5 r1 =>
wnil r1 <|
v_len (.p c1) <| oN fun c6 =>
wblock (fun(_:FH) =>
(none:WR)) fun j0 =>
wloop (fun _ _ _ _ _=>none) (fun j1 (c0:Nat) (c2:PVal) (c3 c4:Nat) (h0:FH) =>
nbl c0 c4 fun c7 =>
wif c7 (wblock (fun(c8:Nat) (c9:PVal) (c10 c11:Nat) (h1:FH) =>
nad c8 1 fun c12 =>
j1 c12 c9 c10 c11 h1) fun j2 =>
zab 1 (.p c2) (iN c0) <| oP fun c13 =>
zac none (.p c13) ⟨[],h0⟩ <| oN fun c14 =>
nbe c3 c14 fun c15 =>
wif c15 (kr (iN c0) h0) <|
j2 c0 c2 c3 c4 h0) <|
j0 h0) L 0 c1 c5 c6 h
noncomputable def zdj:KFun:=⟨ziz,true,false⟩
theorem zhm:KOK tr.look F_Q163 zdj:=⟨i_Q163,(.sq (.rg [qn]) (.sq (.sq (.rg [qp,qn,qn]) (.bk [] (.lp [.slot 8 qn, .slot 0 qp, .slot 1 qn, .slot 7 qn] (.sq (.rg [qb]) (.sq (.cj .lf .lf) (.sq (.bk [.slot 8 qn, .slot 0 qp, .slot 1 qn, .slot 7 qn] (.sq (.rg [qn,qn]) (.sq (.rg [qn,qp,qn,qp,qn,qb]) (.cj (.sq (.rg [qn,qn]) .lf) .lf)))) (.rg [qn,qn]))))))) (.sq .lf .lf))),[qp,qn],[],[],look_Q163,rfl,rfl,rfl,rfl,by kernel_rfl⟩
noncomputable def zake:KC:=fun F L v h kr =>
wcons v <| ooA fun r0 r1 =>
wcons r1 <| ooP fun c6 r2 =>
wnil r2 <|
wle r0 5 <|
wg 0 r0 <| oN fun c7 =>
vv (zfn .u64 (iN c7)) <| oP fun c8 =>
wg 1 r0 <| oS fun c9 =>
F 189 [(iS c9)] h <| ooP fun c10 h1 =>
F 188 [(.p c8),(.p c10)] h1 <| ooP fun c11 h2 =>
wg 2 r0 <| oS fun c12 =>
F 189 [(iS c12)] h2 <| ooP fun c13 h3 =>
F 188 [(.p c11),(.p c13)] h3 <| ooP fun c14 h4 =>
wg 3 r0 <| oP fun c15 =>
v_len (.p c15) <| oN fun c16 =>
vv (zfn .u64 (iN c16)) <| oP fun c17 =>
F 188 [(.p c14),(.p c17)] h4 <| ooP fun c18 h5 =>
wg 3 r0 <| oP fun c2 =>
v_len (.p c2) <| oN fun c19 =>
wblock (fun(c20 c0:PVal) (h6:FH) =>
v_len (.p c0) <| oN fun c21 =>
vv (zfn .u64 (iN c21)) <| oP fun c22 =>
F 188 [(.p c20),(.p c22)] h6 <| ooP fun c23 h7 =>
v_len (.p c0) <| oN fun c24 =>
wblock (fun(c25:PVal) (h8:FH) =>
kr (.p c25) h8) fun j0 =>
wloop (fun _ _ _ _ _=>none) (fun j1 (c1:Nat) (c3 c4:PVal) (c5:Nat) (h0:FH) =>
nbl c1 c5 fun c26 =>
wif c26 (wblock (fun(c27:Nat) (c28 c29:PVal) (c30:Nat) (h9:FH) =>
nad c27 1 fun c31 =>
j1 c31 c28 c29 c30 h9) fun j2 =>
zab 1 (.p c4) (iN c1) <| oP fun c32 =>
zac none (.p c32) ⟨[],h0⟩ <| oP fun c33 =>
F 188 [(.p c3),(.p c33)] h0 <| ooP fun c34 h10 =>
j2 c1 c34 c4 c5 h10) <|
j0 c3 h0) L 0 c23 c0 c24 h7) fun j3 =>
wloop (fun _ _ _ _ _ _=>none) (fun _ (c35:Nat) (c36 _ c37:PVal) (c38:Nat) (h11:FH) =>
nbl c35 c38 fun c39 =>
wif c39 ((none:WR)) <|
j3 c36 c37 h11) L 0 c18 c2 c6 c19 h5
noncomputable def zxu:KFun:=⟨zake,true,false⟩
theorem zadz:KOK tr.look F_Q164 zxu:=⟨i_Q164,(.sq (.rg [(qx 2 0),qp]) (.sq (.rg [(qx 2 0),qn,qp,qp]) (.sq (.rg [qp,(qx 2 1),qs,qp,qp,qp]) (.sq (.rg [qp,(qx 2 2),qs,qp,qp,qp]) (.sq (.rg [qp,(qx 2 3),qp,qn,qp,qp,qp]) (.sq (.sq (.rg [(qx 2 3),qp,qn,qn]) (.bk [.slot 5 qp, .slot 1 qp] (.lp [.slot 32 qn, .slot 5 qp, .slot 30 qp, .slot 1 qp, .slot 31 qn] (.sq (.rg [qb]) (.sq (.cj .lf .lf) (.sq .lf .lf)))))) (.sq (.rg [qp,qp,qn,qp,qp,qp]) (.sq (.sq (.rg [qp,qn,qn]) (.bk [.slot 5 qp] (.lp [.slot 54 qn, .slot 5 qp, .slot 52 qp, .slot 53 qn] (.sq (.rg [qb]) (.sq (.cj .lf .lf) (.sq (.bk [.slot 54 qn, .slot 5 qp, .slot 52 qp, .slot 53 qn] (.sq (.rg [qp,qp,qp]) (.rg [qp,qp,qp,qp]))) (.rg [qn,qn]))))))) (.sq (.rg [qp,qp]) .lf))))))))),[qv,qp],[7,2],[],look_Q164,rfl,rfl,rfl,rfl,by kernel_rfl⟩
noncomputable def zaoe:KC:=fun F L v h kr =>
wcons v <| ooA fun r0 r3 =>
wnil r3 <|
wle r0 5 <|
wcut r0 0 5 fun r4 =>
F 27 [(.agg r4)] h <| ooP fun c31 h3 =>
wcut r0 0 5 fun r5 =>
F 58 [(.agg r5)] h3 <| ooP fun c32 h4 =>
hpush h4 (.cells [(.p .nilslice),(.p c32),(.p .nilslice)] 3 0 false) fun c16 h2 =>
hld none c16 0 1 h2 <| oP fun c17 =>
v_len (.p c17) <| oN fun c33 =>
wblock (fun(c34 c35 c36:Nat) (h5:FH) =>
kr (iH c34 c35 c36) h5) fun j0 =>
wloop (fun _ _ _ _ _ _ _ _=>none) (fun j1 (c5 c0 c1 c2:Nat) (c3 c18:PVal) (c19:Nat) (h0:FH) =>
nbl c5 c19 fun c37 =>
wif c37 (wblock (fun(c38 c39 c40 c41:Nat) (c42 c43:PVal) (c44:Nat) (h6:FH) =>
nad c38 1 fun c45 =>
j1 c45 c39 c40 c41 c42 c43 c44 h6) fun j2 =>
zab 1 (.p c18) (iN c5) <| oP fun c46 =>
zac none (.p c46) ⟨[],h0⟩ <| oN fun c4 =>
wmul (wboth 0 (hld none c0 c1 c2 h0 fun a0 =>
zab 10 (.p c3) (iN c4) <| oP fun c20 =>
zaa 5 (.p c20) <| oP fun c21 =>
zac (some 5) (.p c21) ⟨[],h0⟩ <| oA fun r1 =>
v_len a0 <| oN fun c10 =>
hpush h0 (.cells zt5 5 0 false) fun c22 h7 =>
zad 5 a0 (.slice c22 0 0 1) h7 <| ooL fun c6 c7 c11 c12 h8 =>
nlt c10 c12 <|
nam c11 c10 5 fun c23 =>
wle r1 5 <|
hwr h8 c6 c7 c23 r1 fun h9 =>
hwr h9 c0 c1 c2 [(.slice c6 c7 c11 c12)] fun h10 =>
some ([(iH c0 c1 c2),(iH c0 c1 c2),(iH c0 c1 c2),a0,(.p c3),(iN c4),(.p c20),(.p c21),(.agg r1),(iN c10),(.slice c22 0 0 1),(.slice c6 c7 c11 c12),(iH c6 c7 c23),(.tup []),(iH c0 c1 c2),(iH c0 c1 c2),(.tup [])],⟨[],h10⟩)) (hld none c0 c1 c2 h0 fun a1 =>
zab 10 (.p c3) (iN c4) <| oP fun c24 =>
zaa 5 (.p c24) <| oP fun c25 =>
zac (some 5) (.p c25) ⟨[],h0⟩ <| oA fun r2 =>
v_len a1 <| oN fun c13 =>
hpush h0 (.cells zt5 5 0 false) fun c26 h11 =>
zad 5 a1 (.slice c26 0 0 1) h11 <| ooL fun c8 c9 c14 c15 h12 =>
nlt c13 c15 <|
nam c14 c13 5 fun c27 =>
hwr h12 c0 c1 c2 [(.slice c8 c9 c14 c15)] fun h13 =>
wle r2 5 <|
hwr h13 c8 c9 c27 r2 fun h14 =>
some ([(iH c0 c1 c2),(iH c0 c1 c2),(iH c0 c1 c2),a1,(.p c3),(iN c4),(.p c24),(.p c25),(.agg r2),(iN c13),(.slice c26 0 0 1),(.slice c8 c9 c14 c15),(iH c8 c9 c27),(.tup []),(iH c0 c1 c2),(iH c0 c1 c2),(.tup [])],⟨[],h14⟩))) fun r6 h1 =>
wcons r6 <| ooH fun _ _ _ r7 =>
wcons r7 <| ooH fun _ _ _ r8 =>
wcons r8 <| ooH fun _ _ _ r9 =>
wcons r9 fun _ r10 =>
wcons r10 <| ooP fun _ r11 =>
wcons r11 <| ooN fun _ r12 =>
wcons r12 <| ooP fun _ r13 =>
wcons r13 <| ooP fun _ r14 =>
wcons r14 <| ooA fun _ r15 =>
wcons r15 <| ooN fun _ r16 =>
wcons r16 <| ooL fun _ _ _ _ r17 =>
wcons r17 <| ooL fun _ _ _ _ r18 =>
wcons r18 <| ooH fun _ _ _ r19 =>
wcons r19 <| ooT fun r20 r21 =>
wnil r20 <|
wcons r21 <| ooH fun _ _ _ r22 =>
wcons r22 <| ooH fun _ _ _ r23 =>
wcons r23 <| ooT fun r24 r25 =>
wnil r24 <|
wnil r25 <|
nae c2 2 fun c47 =>
hld none c0 c1 c47 h1 fun a2 =>
nad c5 1 fun c28 =>
zab 10 (.p c3) (iN c4) <| oP fun c48 =>
zaa 1 (.p c48) <| oP fun c49 =>
zac none (.p c49) ⟨[],h1⟩ <| oN fun c29 =>
ift (Nat.ble c29 c28) <|
nforce (Nat.sub c28 c29) fun c30 =>
nlt c30 lim63 <|
hpush h1 (.cells [(iN c30)] 1 0 false) fun c50 h15 =>
zad 1 a2 (.slice c50 0 0 1) h15 <| ooL fun c51 c52 c53 c54 h16 =>
nae c2 2 fun c55 =>
hwr h16 c0 c1 c55 [(.slice c51 c52 c53 c54)] fun h17 =>
j2 c5 c0 c1 c2 c3 c18 c19 h17) <|
j0 c0 c1 c2 h0) L 0 c16 0 0 c31 c17 c33 h2
noncomputable def zaax:KFun:=⟨zaoe,false,false⟩
theorem zahi:KOK tr.look F_Q165 zaax:=⟨i_Q165,(.sq (.rg [(qx 1 0),qp]) (.sq (.rg [qv,qp,qp]) (.sq (.rg [qv,qp,qv,qh,qh]) (.sq (.sq (.rg [qh,qh,qh,qp,qn,qn]) (.bk [.slot 4 qh] (.lp [.slot 18 qn, .slot 4 qh, .slot 3 qp, .slot 16 qp, .slot 17 qn] (.sq (.rg [qb]) (.sq (.cj .lf .lf) (.sq (.bk [.slot 18 qn, .slot 4 qh, .slot 3 qp, .slot 16 qp, .slot 17 qn] (.sq (.rg [qn,qp,qn,qn,qn]) (.sq (.rg [qh,qh,qh,qa,qp,qn,qp,qp,qv,qn,ql,ql,qh,(.tup []),qh,qh,(.tup [])]) (.rg [qh,qh,qh,qh,qa,qn,qn,qp,qn,qp,qp,qn,qn,ql,ql,qh,qh,(.tup [])])))) (.rg [qn,qn]))))))) (.sq (.rg [qh,qh]) .lf))))),[qv],[1],[],look_Q165,rfl,rfl,rfl,rfl,by kernel_rfl⟩
noncomputable def zahj:KC:=fun F _ v h kr =>
wcons v <| ooN fun c0 r1 =>
wcons r1 <| ooI fun c1 r2 =>
wnil r2 <|
v_gtr (iN c0) (iI c1) <| oB fun c2 =>
wif c2 (F 167 [] h <| ooA fun r0 h0 =>
wle r0 2 <|
wcut r0 0 2 fun r3 =>
kr (.agg r3) h0) <|
kr (.agg [(iN c0),(iI c1)]) h
noncomputable def zsx:KFun:=⟨zahj,true,false⟩
theorem zyz:KOK tr.look F_Q166 zsx:=⟨i_Q166,(.sq (.rg [(qx 4 0)]) (.sq (.sq (.rg [qn,qi,qb]) (.cj (.sq (.rg [qv,(.tup [])]) .lf) .lf)) (.sq (.rg [qn,qn,qv,(.tup [])]) .lf))),[qn,qi],[4],[],look_Q166,rfl,rfl,rfl,rfl,by kernel_rfl⟩
noncomputable def zahk:KC:=fun _ _ v h kr =>
wnil v <|
kr (.agg [(iN 0),(iI (-1))]) h
noncomputable def zsy:KFun:=⟨zahk,true,false⟩
theorem zza:KOK tr.look F_Q167 zsy:=⟨i_Q167,(.sq (.rg [(qx 0 0)]) (.sq (.rg [qv,(.tup [])]) .lf)),[],[0],[],look_Q167,rfl,rfl,rfl,rfl,by kernel_rfl⟩
noncomputable def zqd:KC:=fun F _ v h kr =>
wcons v <| ooH fun c15 c16 c17 r5 =>
wcons r5 <| ooA fun r0 r6 =>
wcons r6 <| ooA fun r1 r7 =>
wnil r7 <|
wle r0 2 <|
wle r1 2 <|
wblock (fun(c4 c5 c6 c0 c1 c2 c3:Nat) (h7:FH) =>
nae c6 2 fun c18 =>
hld none c4 c5 c18 h7 <| oM fun c19 =>
zak true (.p (.int .i64 0)) ⟨true,[.int, .int, .int, .int]⟩ (.map c19) (.agg [(iN c2),(iN c3),(iN c0),(iN c1)]) h7 <| ooT fun r8 h8 =>
wcons r8 <| ooN fun c20 r9 =>
wcons r9 <| ooB fun c21 r10 =>
wnil r10 <|
bf (gnot c21) fun c22 =>
wblock (fun(c23:Nat) (h11:FH) =>
kr (iN c23) h11) fun j0 =>
wif c22 (F 169 [(iH c4 c5 c6),(.agg [(iN c2),(iN c3)]),(.agg [(iN c0),(iN c1)])] h8 <| ooN fun c24 h0 =>
ift (wchk F ⟨[b_ 7 [(iN c2),(iN c3),(iN c0),(iN c1)] 4,b_ 7 [(iN 0),(iN 0),(iN 0),(iN 0)] 4,nb_ 7,b_ 5 [(iN c0),(iN c1)] 2,b_ 4 [(iN c2),(iN c3)] 2],h0⟩ (.load (some 2) (.const (iX 4 0))) (.agg [(iN c2),(iN c3)])) <|
ift (wchk F ⟨[b_ 7 [(iN c2),(iN c3),(iN c0),(iN c1)] 4,b_ 7 [(iN 0),(iN 0),(iN 0),(iN 0)] 4,nb_ 7,b_ 5 [(iN c0),(iN c1)] 2,b_ 4 [(iN c2),(iN c3)] 2],h0⟩ (.load (some 2) (.const (iX 5 0))) (.agg [(iN c0),(iN c1)])) <|
ift (wchk F ⟨[b_ 7 [(iN c2),(iN c3),(iN c0),(iN c1)] 4,b_ 7 [(iN 0),(iN 0),(iN 0),(iN 0)] 4,nb_ 7,b_ 5 [(iN c0),(iN c1)] 2,b_ 4 [(iN c2),(iN c3)] 2],h0⟩ (.load (some 2) (.const (iX 4 0))) (.agg [(iN c2),(iN c3)])) <|
ift (wchk F ⟨[b_ 7 [(iN c2),(iN c3),(iN c0),(iN c1)] 4,b_ 7 [(iN 0),(iN 0),(iN 0),(iN 0)] 4,nb_ 7,b_ 5 [(iN c0),(iN c1)] 2,b_ 4 [(iN c2),(iN c3)] 2],h0⟩ (.load (some 2) (.const (iX 5 0))) (.agg [(iN c0),(iN c1)])) <|
F 173 [(.agg [(iN c2),(iN c3)])] h0 <| ooA fun r11 h1 =>
ift (wchk F ⟨[b_ 7 [(iN c2),(iN c3),(iN c0),(iN c1)] 4,b_ 7 [(iN 0),(iN 0),(iN 0),(iN 0)] 4,nb_ 7,b_ 5 [(iN c0),(iN c1)] 2,b_ 4 [(iN c2),(iN c3)] 2],h1⟩ (.load (some 2) (.const (iX 5 0))) (.agg [(iN c0),(iN c1)])) <|
ift (wchk F ⟨[b_ 7 [(iN c2),(iN c3),(iN c0),(iN c1)] 4,b_ 7 [(iN 0),(iN 0),(iN 0),(iN 0)] 4,nb_ 7,b_ 5 [(iN c0),(iN c1)] 2,b_ 4 [(iN c2),(iN c3)] 2],h1⟩ (.load (some 2) (.const (iX 4 0))) (.agg [(iN c2),(iN c3)])) <|
ift (wchk F ⟨[b_ 7 [(iN c2),(iN c3),(iN c0),(iN c1)] 4,b_ 7 [(iN 0),(iN 0),(iN 0),(iN 0)] 4,nb_ 7,b_ 5 [(iN c0),(iN c1)] 2,b_ 4 [(iN c2),(iN c3)] 2],h1⟩ (.load (some 2) (.const (iX 5 0))) (.agg [(iN c0),(iN c1)])) <|
F 168 [(iH c4 c5 c6),(.agg r11),(.agg [(iN c0),(iN c1)])] h1 <| ooN fun c25 h2 =>
nad c25 1 fun c26 =>
ift (wchk F ⟨[b_ 7 [(iN c2),(iN c3),(iN c0),(iN c1)] 4,b_ 7 [(iN 0),(iN 0),(iN 0),(iN 0)] 4,nb_ 7,b_ 5 [(iN c0),(iN c1)] 2,b_ 4 [(iN c2),(iN c3)] 2],h2⟩ (.load (some 2) (.const (iX 4 0))) (.agg [(iN c2),(iN c3)])) <|
ift (wchk F ⟨[b_ 7 [(iN c2),(iN c3),(iN c0),(iN c1)] 4,b_ 7 [(iN 0),(iN 0),(iN 0),(iN 0)] 4,nb_ 7,b_ 5 [(iN c0),(iN c1)] 2,b_ 4 [(iN c2),(iN c3)] 2],h2⟩ (.load (some 2) (.const (iX 5 0))) (.agg [(iN c0),(iN c1)])) <|
F 173 [(.agg [(iN c0),(iN c1)])] h2 <| ooA fun r12 h9 =>
ift (wchk F ⟨[b_ 7 [(iN c2),(iN c3),(iN c0),(iN c1)] 4,b_ 7 [(iN 0),(iN 0),(iN 0),(iN 0)] 4,nb_ 7,b_ 5 [(iN c0),(iN c1)] 2,b_ 4 [(iN c2),(iN c3)] 2],h9⟩ (.load (some 2) (.const (iX 4 0))) (.agg [(iN c2),(iN c3)])) <|
F 168 [(iH c4 c5 c6),(.agg [(iN c2),(iN c3)]),(.agg r12)] h9 <| ooN fun c27 h10 =>
nad c27 1 fun c28 =>
vv (zaga [(.const (iN c24)),(.const (iN c26)),(.const (iN c28))]) <| oN fun c8 =>
nae c6 2 fun c29 =>
hld none c4 c5 c29 h10 <| oM fun c30 =>
zbw ⟨true,[.int, .int, .int, .int]⟩ (.map c30) (.agg [(iN c2),(iN c3),(iN c0),(iN c1)]) (iN c8) h10 <| ooT fun r13 h12 =>
wnil r13 <|
j0 c8 h12) <|
j0 c20 h8) fun j1 =>
wcut r0 0 2 fun r2 =>
F 167 [] h <| ooA fun r14 h3 =>
vv (x_eqv false ⟨true,[.int, .int]⟩ (.const (.agg r2)) (.const (.agg r14))) <| oB fun c7 =>
wgV (iB c7) true (zac (some 2) (iX 5 0) ⟨[b_ 5 r1 2,b_ 4 r0 2,nb_ 7,nb_ 4,nb_ 5],h3⟩) fun a0 =>
ift (wchk F ⟨[b_ 5 r1 2,b_ 4 r0 2,nb_ 7,nb_ 4,nb_ 5],h3⟩ (.load (some 2) (.const (iX 4 0))) (.agg r2)) <|
wgH (iB c7) true (wcallH (.p (.func 167)) [] F) h3 fun a1 h4 =>
wgV (iB c7) true (vv (x_eqv false ⟨true,[.int, .int]⟩ (.const a0) (.const a1))) fun a2 =>
pk c7 a2 (iB false) <| oB fun c31 =>
ift (wgb (iB c7) true (wchk F ⟨[b_ 5 r1 2,b_ 4 r0 2,nb_ 7,nb_ 4,nb_ 5],h4⟩ (.load (some 2) (.const (iX 5 0))) a0)) <|
wif c31 (kr (iN 0) h4) <|
wcut r0 0 2 fun r3 =>
F 167 [] h4 <| ooA fun r15 h5 =>
vv (x_eqv false ⟨true,[.int, .int]⟩ (.const (.agg r3)) (.const (.agg r15))) <| oB fun c32 =>
ift (wchk F ⟨[b_ 5 r1 2,b_ 4 r0 2,nb_ 7,nb_ 4,nb_ 5],h5⟩ (.load (some 2) (.const (iX 4 0))) (.agg r3)) <|
wif c32 (wg 1 r1 <| oN fun c9 =>
wg 0 r1 <| oN fun c10 =>
ift (Nat.ble c10 c9) <|
nforce (Nat.sub c9 c10) fun c11 =>
nlt c11 lim63 <|
nad c11 1 fun c33 =>
kr (iN c33) h5) <|
wcut r1 0 2 fun r4 =>
F 167 [] h5 <| ooA fun r16 h6 =>
vv (x_eqv false ⟨true,[.int, .int]⟩ (.const (.agg r4)) (.const (.agg r16))) <| oB fun c34 =>
ift (wchk F ⟨[b_ 5 r1 2,b_ 4 r0 2,nb_ 7,nb_ 4,nb_ 5],h6⟩ (.load (some 2) (.const (iX 5 0))) (.agg r4)) <|
wif c34 (wg 1 r0 <| oN fun c12 =>
wg 0 r0 <| oN fun c13 =>
ift (Nat.ble c13 c12) <|
nforce (Nat.sub c12 c13) fun c14 =>
nlt c14 lim63 <|
nad c14 1 fun c35 =>
kr (iN c35) h6) <|
wcons r1 <| ooN fun c36 r17 =>
wcons r17 <| ooN fun c37 r18 =>
wnil r18 <|
wcons r0 <| ooN fun c38 r19 =>
wcons r19 <| ooN fun c39 r20 =>
wnil r20 <|
j1 c15 c16 c17 c36 c37 c38 c39 h6
noncomputable def zgh:KFun:=⟨zqd,false,false⟩
theorem zlx:KOK tr.look F_Q168 zgh:=⟨i_Q168,(.sq (.rg [(qx 4 0),(qx 5 0),qn]) (.sq (.bk [sx 5,sx 4, .slot 0 qh,(.box 5 (.cells 2 [.nat, .nat])),(.box 4 (.cells 2 [.nat, .nat]))] (.sq (.rg [qv,qv,qb,qb,qa,qa,qa,qb,qb]) (.cj (.sq (.rg [qn]) .lf) (.sq (.rg [qv,qv,qb,qb]) (.cj (.sq (.rg [(qx 5 1),qn,(qx 5 0),qn,qn,qn,qn]) .lf) (.sq (.rg [qv,qv,qb,qb]) (.cj (.sq (.rg [(qx 4 1),qn,(qx 4 0),qn,qn,qn,qn]) .lf) .lf))))))) (.sq (.rg [qv,qv,qv,(qx 7 0),(.tup [])]) (.sq (.rg [qh,qh,qh,qm,qv,(.tup [(.c .nat),(.c .bool)]),(.tup [(.c .nat),(.c .bool)]),qn,qb,qn,qb]) (.sq (.sq (.rg [qb,qb]) (.cd [.slot 8 qn] (.sq (.rg [qh,qv,qv,qn,qh,qv,qv,qv,qn,qn,qh,qv,qv,qv,qn,qn,qn,qn]) (.rg [qh,qh,qh,qm,qv,qn,(.tup [])])) .lf)) (.sq (.rg [qn,qn]) .lf)))))),[qh,qv,qv],[7,4,5],[],look_Q168,rfl,rfl,rfl,rfl,by kernel_rfl⟩
noncomputable def zly:KC:=fun F _ v h kr =>
wcons v <| ooH fun c0 c1 c2 r7 =>
wcons r7 <| ooA fun r0 r8 =>
wcons r8 <| ooA fun r1 r9 =>
wnil r9 <|
wle r0 2 <|
wle r1 2 <|
hld none c0 c1 c2 h <| oH fun c33 c34 c35 =>
wcut r0 0 2 fun r10 =>
nae c2 1 fun c29 =>
hld none c0 c1 c29 h <| oH fun c30 c31 c32 =>
wcut r1 0 2 fun r6 =>
hld none c0 c1 c2 h <| oH fun c26 c27 c28 =>
wcut r0 0 2 fun r5 =>
nae c2 1 fun c22 =>
hld none c0 c1 c22 h <| oH fun c23 c24 c25 =>
wcut r1 0 2 fun r4 =>
hld none c0 c1 c2 h <| oH fun c3 c4 c5 =>
hld none c3 c4 c5 h <| oL fun c6 c7 c15 c16 =>
wg 1 r0 <| oN fun c13 =>
nlt c13 c16 <|
nam c15 c13 5 fun c17 =>
hld (some 5) c6 c7 c17 h <| oA fun r2 =>
nae c2 1 fun c18 =>
hld none c0 c1 c18 h <| oH fun c8 c9 c10 =>
hld none c8 c9 c10 h <| oL fun c11 c12 c19 c20 =>
wg 1 r1 <| oN fun c14 =>
nlt c14 c20 <|
nam c19 c14 5 fun c21 =>
hld (some 5) c11 c12 c21 h <| oA fun r3 =>
F 170 [(iH c33 c34 c35),(.agg r10)] h <| ooA fun r11 h0 =>
ift (wchk F ⟨[b_ 5 r1 2,b_ 4 r0 2,nb_ 4,nb_ 5],h0⟩ (.load none (.const (iH c0 c1 c29))) (iH c30 c31 c32)) <|
ift (wchk F ⟨[b_ 5 r1 2,b_ 4 r0 2,nb_ 4,nb_ 5],h0⟩ (.load (some 2) (.const (iX 5 0))) (.agg r6)) <|
ift (wchk F ⟨[b_ 5 r1 2,b_ 4 r0 2,nb_ 4,nb_ 5],h0⟩ (.load none (.const (iH c0 c1 c2))) (iH c26 c27 c28)) <|
ift (wchk F ⟨[b_ 5 r1 2,b_ 4 r0 2,nb_ 4,nb_ 5],h0⟩ (.load (some 2) (.const (iX 4 0))) (.agg r5)) <|
ift (wchk F ⟨[b_ 5 r1 2,b_ 4 r0 2,nb_ 4,nb_ 5],h0⟩ (.load none (.const (iH c0 c1 c22))) (iH c23 c24 c25)) <|
ift (wchk F ⟨[b_ 5 r1 2,b_ 4 r0 2,nb_ 4,nb_ 5],h0⟩ (.load (some 2) (.const (iX 5 0))) (.agg r4)) <|
ift (wchk F ⟨[b_ 5 r1 2,b_ 4 r0 2,nb_ 4,nb_ 5],h0⟩ (.load none (.const (iH c0 c1 c2))) (iH c3 c4 c5)) <|
ift (wchk F ⟨[b_ 5 r1 2,b_ 4 r0 2,nb_ 4,nb_ 5],h0⟩ (.load none (.const (iH c3 c4 c5))) (.slice c6 c7 c15 c16)) <|
ift (wchk F ⟨[b_ 5 r1 2,b_ 4 r0 2,nb_ 4,nb_ 5],h0⟩ (.load none (.const (iX 4 1))) (iN c13)) <|
ift (wchk F ⟨[b_ 5 r1 2,b_ 4 r0 2,nb_ 4,nb_ 5],h0⟩ (.load (some 5) (.const (iH c6 c7 c17))) (.agg r2)) <|
ift (wchk F ⟨[b_ 5 r1 2,b_ 4 r0 2,nb_ 4,nb_ 5],h0⟩ (.load none (.const (iH c0 c1 c18))) (iH c8 c9 c10)) <|
ift (wchk F ⟨[b_ 5 r1 2,b_ 4 r0 2,nb_ 4,nb_ 5],h0⟩ (.load none (.const (iH c8 c9 c10))) (.slice c11 c12 c19 c20)) <|
ift (wchk F ⟨[b_ 5 r1 2,b_ 4 r0 2,nb_ 4,nb_ 5],h0⟩ (.load none (.const (iX 5 1))) (iN c14)) <|
ift (wchk F ⟨[b_ 5 r1 2,b_ 4 r0 2,nb_ 4,nb_ 5],h0⟩ (.load (some 5) (.const (iH c11 c12 c21))) (.agg r3)) <|
F 170 [(iH c30 c31 c32),(.agg r6)] h0 <| ooA fun r12 h1 =>
ift (wchk F ⟨[b_ 5 r1 2,b_ 4 r0 2,nb_ 4,nb_ 5],h1⟩ (.load none (.const (iH c0 c1 c2))) (iH c26 c27 c28)) <|
ift (wchk F ⟨[b_ 5 r1 2,b_ 4 r0 2,nb_ 4,nb_ 5],h1⟩ (.load (some 2) (.const (iX 4 0))) (.agg r5)) <|
ift (wchk F ⟨[b_ 5 r1 2,b_ 4 r0 2,nb_ 4,nb_ 5],h1⟩ (.load none (.const (iH c0 c1 c22))) (iH c23 c24 c25)) <|
ift (wchk F ⟨[b_ 5 r1 2,b_ 4 r0 2,nb_ 4,nb_ 5],h1⟩ (.load (some 2) (.const (iX 5 0))) (.agg r4)) <|
ift (wchk F ⟨[b_ 5 r1 2,b_ 4 r0 2,nb_ 4,nb_ 5],h1⟩ (.load none (.const (iH c0 c1 c2))) (iH c3 c4 c5)) <|
ift (wchk F ⟨[b_ 5 r1 2,b_ 4 r0 2,nb_ 4,nb_ 5],h1⟩ (.load none (.const (iH c3 c4 c5))) (.slice c6 c7 c15 c16)) <|
ift (wchk F ⟨[b_ 5 r1 2,b_ 4 r0 2,nb_ 4,nb_ 5],h1⟩ (.load none (.const (iX 4 1))) (iN c13)) <|
ift (wchk F ⟨[b_ 5 r1 2,b_ 4 r0 2,nb_ 4,nb_ 5],h1⟩ (.load (some 5) (.const (iH c6 c7 c17))) (.agg r2)) <|
ift (wchk F ⟨[b_ 5 r1 2,b_ 4 r0 2,nb_ 4,nb_ 5],h1⟩ (.load none (.const (iH c0 c1 c18))) (iH c8 c9 c10)) <|
ift (wchk F ⟨[b_ 5 r1 2,b_ 4 r0 2,nb_ 4,nb_ 5],h1⟩ (.load none (.const (iH c8 c9 c10))) (.slice c11 c12 c19 c20)) <|
ift (wchk F ⟨[b_ 5 r1 2,b_ 4 r0 2,nb_ 4,nb_ 5],h1⟩ (.load none (.const (iX 5 1))) (iN c14)) <|
ift (wchk F ⟨[b_ 5 r1 2,b_ 4 r0 2,nb_ 4,nb_ 5],h1⟩ (.load (some 5) (.const (iH c11 c12 c21))) (.agg r3)) <|
F 168 [(iH c0 c1 c2),(.agg r11),(.agg r12)] h1 <| ooN fun c36 h2 =>
ift (wchk F ⟨[b_ 5 r1 2,b_ 4 r0 2,nb_ 4,nb_ 5],h2⟩ (.load none (.const (iH c0 c1 c2))) (iH c26 c27 c28)) <|
ift (wchk F ⟨[b_ 5 r1 2,b_ 4 r0 2,nb_ 4,nb_ 5],h2⟩ (.load (some 2) (.const (iX 4 0))) (.agg r5)) <|
ift (wchk F ⟨[b_ 5 r1 2,b_ 4 r0 2,nb_ 4,nb_ 5],h2⟩ (.load none (.const (iH c0 c1 c22))) (iH c23 c24 c25)) <|
ift (wchk F ⟨[b_ 5 r1 2,b_ 4 r0 2,nb_ 4,nb_ 5],h2⟩ (.load (some 2) (.const (iX 5 0))) (.agg r4)) <|
ift (wchk F ⟨[b_ 5 r1 2,b_ 4 r0 2,nb_ 4,nb_ 5],h2⟩ (.load none (.const (iH c0 c1 c2))) (iH c3 c4 c5)) <|
ift (wchk F ⟨[b_ 5 r1 2,b_ 4 r0 2,nb_ 4,nb_ 5],h2⟩ (.load none (.const (iH c3 c4 c5))) (.slice c6 c7 c15 c16)) <|
ift (wchk F ⟨[b_ 5 r1 2,b_ 4 r0 2,nb_ 4,nb_ 5],h2⟩ (.load none (.const (iX 4 1))) (iN c13)) <|
ift (wchk F ⟨[b_ 5 r1 2,b_ 4 r0 2,nb_ 4,nb_ 5],h2⟩ (.load (some 5) (.const (iH c6 c7 c17))) (.agg r2)) <|
ift (wchk F ⟨[b_ 5 r1 2,b_ 4 r0 2,nb_ 4,nb_ 5],h2⟩ (.load none (.const (iH c0 c1 c18))) (iH c8 c9 c10)) <|
ift (wchk F ⟨[b_ 5 r1 2,b_ 4 r0 2,nb_ 4,nb_ 5],h2⟩ (.load none (.const (iH c8 c9 c10))) (.slice c11 c12 c19 c20)) <|
ift (wchk F ⟨[b_ 5 r1 2,b_ 4 r0 2,nb_ 4,nb_ 5],h2⟩ (.load none (.const (iX 5 1))) (iN c14)) <|
ift (wchk F ⟨[b_ 5 r1 2,b_ 4 r0 2,nb_ 4,nb_ 5],h2⟩ (.load (some 5) (.const (iH c11 c12 c21))) (.agg r3)) <|
F 171 [(iH c26 c27 c28),(.agg r5)] h2 <| ooA fun r13 h3 =>
ift (wchk F ⟨[b_ 5 r1 2,b_ 4 r0 2,nb_ 4,nb_ 5],h3⟩ (.load none (.const (iH c0 c1 c22))) (iH c23 c24 c25)) <|
ift (wchk F ⟨[b_ 5 r1 2,b_ 4 r0 2,nb_ 4,nb_ 5],h3⟩ (.load (some 2) (.const (iX 5 0))) (.agg r4)) <|
ift (wchk F ⟨[b_ 5 r1 2,b_ 4 r0 2,nb_ 4,nb_ 5],h3⟩ (.load none (.const (iH c0 c1 c2))) (iH c3 c4 c5)) <|
ift (wchk F ⟨[b_ 5 r1 2,b_ 4 r0 2,nb_ 4,nb_ 5],h3⟩ (.load none (.const (iH c3 c4 c5))) (.slice c6 c7 c15 c16)) <|
ift (wchk F ⟨[b_ 5 r1 2,b_ 4 r0 2,nb_ 4,nb_ 5],h3⟩ (.load none (.const (iX 4 1))) (iN c13)) <|
ift (wchk F ⟨[b_ 5 r1 2,b_ 4 r0 2,nb_ 4,nb_ 5],h3⟩ (.load (some 5) (.const (iH c6 c7 c17))) (.agg r2)) <|
ift (wchk F ⟨[b_ 5 r1 2,b_ 4 r0 2,nb_ 4,nb_ 5],h3⟩ (.load none (.const (iH c0 c1 c18))) (iH c8 c9 c10)) <|
ift (wchk F ⟨[b_ 5 r1 2,b_ 4 r0 2,nb_ 4,nb_ 5],h3⟩ (.load none (.const (iH c8 c9 c10))) (.slice c11 c12 c19 c20)) <|
ift (wchk F ⟨[b_ 5 r1 2,b_ 4 r0 2,nb_ 4,nb_ 5],h3⟩ (.load none (.const (iX 5 1))) (iN c14)) <|
ift (wchk F ⟨[b_ 5 r1 2,b_ 4 r0 2,nb_ 4,nb_ 5],h3⟩ (.load (some 5) (.const (iH c11 c12 c21))) (.agg r3)) <|
F 171 [(iH c23 c24 c25),(.agg r4)] h3 <| ooA fun r14 h4 =>
ift (wchk F ⟨[b_ 5 r1 2,b_ 4 r0 2,nb_ 4,nb_ 5],h4⟩ (.load none (.const (iH c0 c1 c2))) (iH c3 c4 c5)) <|
ift (wchk F ⟨[b_ 5 r1 2,b_ 4 r0 2,nb_ 4,nb_ 5],h4⟩ (.load none (.const (iH c3 c4 c5))) (.slice c6 c7 c15 c16)) <|
ift (wchk F ⟨[b_ 5 r1 2,b_ 4 r0 2,nb_ 4,nb_ 5],h4⟩ (.load none (.const (iX 4 1))) (iN c13)) <|
ift (wchk F ⟨[b_ 5 r1 2,b_ 4 r0 2,nb_ 4,nb_ 5],h4⟩ (.load (some 5) (.const (iH c6 c7 c17))) (.agg r2)) <|
ift (wchk F ⟨[b_ 5 r1 2,b_ 4 r0 2,nb_ 4,nb_ 5],h4⟩ (.load none (.const (iH c0 c1 c18))) (iH c8 c9 c10)) <|
ift (wchk F ⟨[b_ 5 r1 2,b_ 4 r0 2,nb_ 4,nb_ 5],h4⟩ (.load none (.const (iH c8 c9 c10))) (.slice c11 c12 c19 c20)) <|
ift (wchk F ⟨[b_ 5 r1 2,b_ 4 r0 2,nb_ 4,nb_ 5],h4⟩ (.load none (.const (iX 5 1))) (iN c14)) <|
ift (wchk F ⟨[b_ 5 r1 2,b_ 4 r0 2,nb_ 4,nb_ 5],h4⟩ (.load (some 5) (.const (iH c11 c12 c21))) (.agg r3)) <|
F 168 [(iH c0 c1 c2),(.agg r13),(.agg r14)] h4 <| ooN fun c37 h5 =>
nad c36 c37 fun c38 =>
ift (wchk F ⟨[b_ 5 r1 2,b_ 4 r0 2,nb_ 4,nb_ 5],h5⟩ (.load none (.const (iH c0 c1 c2))) (iH c3 c4 c5)) <|
ift (wchk F ⟨[b_ 5 r1 2,b_ 4 r0 2,nb_ 4,nb_ 5],h5⟩ (.load none (.const (iH c3 c4 c5))) (.slice c6 c7 c15 c16)) <|
ift (wchk F ⟨[b_ 5 r1 2,b_ 4 r0 2,nb_ 4,nb_ 5],h5⟩ (.load none (.const (iX 4 1))) (iN c13)) <|
ift (wchk F ⟨[b_ 5 r1 2,b_ 4 r0 2,nb_ 4,nb_ 5],h5⟩ (.load (some 5) (.const (iH c6 c7 c17))) (.agg r2)) <|
ift (wchk F ⟨[b_ 5 r1 2,b_ 4 r0 2,nb_ 4,nb_ 5],h5⟩ (.load none (.const (iH c0 c1 c18))) (iH c8 c9 c10)) <|
ift (wchk F ⟨[b_ 5 r1 2,b_ 4 r0 2,nb_ 4,nb_ 5],h5⟩ (.load none (.const (iH c8 c9 c10))) (.slice c11 c12 c19 c20)) <|
ift (wchk F ⟨[b_ 5 r1 2,b_ 4 r0 2,nb_ 4,nb_ 5],h5⟩ (.load none (.const (iX 5 1))) (iN c14)) <|
ift (wchk F ⟨[b_ 5 r1 2,b_ 4 r0 2,nb_ 4,nb_ 5],h5⟩ (.load (some 5) (.const (iH c11 c12 c21))) (.agg r3)) <|
F 172 [(.agg r2),(.agg r3)] h5 <| ooN fun c39 h6 =>
nad c38 c39 fun c40 =>
kr (iN c40) h6
noncomputable def zeq:KFun:=⟨zly,false,false⟩
theorem zja:KOK tr.look F_Q169 zeq:=⟨i_Q169,(.sq (.rg [(qx 4 0),(qx 5 0),qn]) (.sq (.rg [qh,qh,qh,qh,qh,qv,qv,qh,qh,qh,qh,qv,qv,qn,qh,qh,qh,qh,qh,qv,qv,qh,qh,qh,qh,qv,qv,qn,qn,qh,qh,qh,qh,qh,qh,ql,(qx 4 1),qn,qh,qv,qh,qh,qh,qh,qh,qh,ql,(qx 5 1),qn,qh,qv,qn,qn,qn]) .lf)),[qh,qv,qv],[4,5],[],look_Q169,rfl,rfl,rfl,rfl,by kernel_rfl⟩
noncomputable def zrp:KC:=fun F _ v h kr =>
wcons v <| ooH fun c1 c2 c3 r2 =>
wcons r2 <| ooA fun r0 r3 =>
wnil r3 <|
wle r0 2 <|
nae c3 2 fun c4 =>
hld none c1 c2 c4 h <| oL fun c5 c6 c7 c8 =>
wg 1 r0 <| oN fun c0 =>
nlt c0 c8 <|
nam c7 c0 1 fun c9 =>
hld none c5 c6 c9 h <| oN fun c10 =>
wg 1 r0 <| oN fun c11 =>
v_sub (iN c11) (iN 1) <| oI fun c12 =>
F 166 [(iN c10),(iI c12)] h <| ooA fun r1 h0 =>
wle r1 2 <|
wcut r1 0 2 fun r4 =>
kr (.agg r4) h0
noncomputable def zhn:KFun:=⟨zrp,false,false⟩
theorem znu:KOK tr.look F_Q170 zhn:=⟨i_Q170,(.sq (.rg [(qx 3 0),(qx 4 0)]) (.sq (.rg [qh,qh,qh,ql,(qx 3 1),qn,qh,qn,(qx 3 1),qn,qi,qv,(.tup [])]) .lf)),[qh,qv],[3,4],[],look_Q170,rfl,rfl,rfl,rfl,by kernel_rfl⟩
noncomputable def zlz:KC:=fun F _ v h kr =>
wcons v <| ooH fun c1 c2 c3 r2 =>
wcons r2 <| ooA fun r0 r3 =>
wnil r3 <|
wle r0 2 <|
wg 0 r0 <| oN fun c4 =>
nae c3 2 fun c5 =>
hld none c1 c2 c5 h <| oL fun c6 c7 c8 c9 =>
wg 1 r0 <| oN fun c0 =>
nlt c0 c9 <|
nam c8 c0 1 fun c10 =>
hld none c6 c7 c10 h <| oN fun c11 =>
v_sub (iN c11) (iN 1) <| oI fun c12 =>
F 166 [(iN c4),(iI c12)] h <| ooA fun r1 h0 =>
wle r1 2 <|
wcut r1 0 2 fun r4 =>
kr (.agg r4) h0
noncomputable def zer:KFun:=⟨zlz,false,false⟩
theorem zjb:KOK tr.look F_Q171 zer:=⟨i_Q171,(.sq (.rg [(qx 3 0),(qx 4 0)]) (.sq (.rg [(qx 3 0),qn,qh,qh,qh,ql,(qx 3 1),qn,qh,qn,qi,qv,(.tup [])]) .lf)),[qh,qv],[3,4],[],look_Q171,rfl,rfl,rfl,rfl,by kernel_rfl⟩
noncomputable def zahl:KC:=fun F _ v h kr =>
wcons v <| ooA fun r0 r2 =>
wcons r2 <| ooA fun r1 r3 =>
wnil r3 <|
wle r0 5 <|
wle r1 5 <|
wblock (fun(h0:FH) =>
kr (iN 0) h0) fun j0 =>
wg 0 r0 <| oN fun c2 =>
wg 0 r1 <| oN fun c3 =>
bf (gnot (Nat.beq c2 c3)) fun c1 =>
wgV (iB c1) false (zaa 1 (iX 2 0)) fun a0 =>
wgV (iB c1) false (zac none a0 ⟨[b_ 3 r1 5,b_ 2 r0 5,nb_ 2,nb_ 3],h⟩) fun a1 =>
wgV (iB c1) false (zaa 1 (iX 3 0)) fun a2 =>
wgV (iB c1) false (zac none a2 ⟨[b_ 3 r1 5,b_ 2 r0 5,nb_ 2,nb_ 3],h⟩) fun a3 =>
wgV (iB c1) false (v_neq a1 a3) fun a4 =>
pk c1 (iB true) a4 <| oB fun c4 =>
wif c4 (kr (iN 3) h) <|
wg 2 r0 <| oS fun c5 =>
wg 2 r1 <| oS fun c6 =>
v_neq (iS c5) (iS c6) <| oB fun c0 =>
wgV (iB c0) false (zaa 3 (iX 2 0)) fun a5 =>
wgV (iB c0) false (zac none a5 ⟨[b_ 3 r1 5,b_ 2 r0 5,nb_ 2,nb_ 3],h⟩) fun a6 =>
wgV (iB c0) false (zaa 3 (iX 3 0)) fun a7 =>
wgV (iB c0) false (zac none a7 ⟨[b_ 3 r1 5,b_ 2 r0 5,nb_ 2,nb_ 3],h⟩) fun a8 =>
wgH (iB c0) false (wcallH (.p (.func 190)) [a6,a8] F) h fun a9 h1 =>
wgV (iB c0) false (v_not a9) fun a10 =>
pk c0 (iB true) a10 <| oB fun c7 =>
wif c7 ((none:WR)) <|
j0 h1
noncomputable def zsz:KFun:=⟨zahl,true,false⟩
theorem zzb:KOK tr.look F_Q172 zsz:=⟨i_Q172,(.sq (.rg [(qx 2 0),(qx 3 0),qn]) (.sq (.bk [] (.sq (.rg [(qx 2 0),qn,(qx 3 0),qn,qb,qb,qa,qa,qa,qa,qa,qb,qb]) (.cj (.sq (.rg [qn]) .lf) (.sq (.rg [(qx 2 2),qs,(qx 3 2),qs,qb,qb,qa,qa,qa,qa,qa,qa,qb,qb]) (.cj (.sq .lf .lf) .lf))))) (.sq (.rg [qn]) .lf))),[qv,qv],[2,3],[],look_Q172,rfl,rfl,rfl,rfl,by kernel_rfl⟩
noncomputable def zahm:KC:=fun F _ v h kr =>
wcons v <| ooA fun r0 r2 =>
wnil r2 <|
wle r0 2 <|
wg 0 r0 <| oN fun c0 =>
wg 1 r0 <| oN fun c1 =>
v_sub (iN c1) (iN 1) <| oI fun c2 =>
F 166 [(iN c0),(iI c2)] h <| ooA fun r1 h0 =>
wle r1 2 <|
wcut r1 0 2 fun r3 =>
kr (.agg r3) h0
noncomputable def zta:KFun:=⟨zahm,true,false⟩
theorem zzc:KOK tr.look F_Q173 zta:=⟨i_Q173,(.sq (.rg [(qx 1 0),(qx 2 0)]) (.sq (.rg [(qx 1 0),qn,(qx 1 1),qn,qi,qv,(.tup [])]) .lf)),[qv],[1,2],[],look_Q173,rfl,rfl,rfl,rfl,by kernel_rfl⟩
noncomputable def zaof:KC:=fun F _ v h kr =>
wcons v <| ooP fun c1 r0 =>
wcons r0 <| ooP fun c2 r1 =>
wnil r1 <|
vv (x_xor (.p c1) (.p c2)) <| oP fun c3 =>
vv (x_mul (.p c3) (.p (.int .u64 11400714819323198485))) <| oP fun c0 =>
vv (xgen .shr (.p c0) (.p (.int .u64 29))) <| oP fun c4 =>
vv (x_xor (.p c0) (.p c4)) <| oP fun c5 =>
F 195 [(.p c5),(iN 31)] h <| ooP fun c6 h0 =>
kr (.p c6) h0
noncomputable def zaay:KFun:=⟨zaof,true,false⟩
theorem zahn:KOK tr.look F_Q188 zaay:=⟨i_Q188,(.sq (.rg [qp]) (.sq (.rg [qp,qp,qp,qp,qp]) (.sq (.rg [qp,qp,qp,qp,qp,qp]) .lf))),[qp,qp],[],[],look_Q188,rfl,rfl,rfl,rfl,by kernel_rfl⟩
noncomputable def zakf:KC:=fun F L v h kr =>
wcons v <| ooS fun c2 r0 =>
wnil r0 <|
vv (zey (iS c2)) <| oN fun c5 =>
vv (zfn .u64 (iN c5)) <| oP fun c6 =>
wblock (fun(c7:PVal) (h2:FH) =>
kr (.p c7) h2) fun j0 =>
wloop (fun _ _ _ _=>none) (fun j1 (c0:Nat) (c3:PVal) (c1:LB) (h0:FH) =>
vv (zey (iS c1)) <| oN fun c8 =>
nbl c0 c8 fun c9 =>
wif c9 (wblock (fun(c10:Nat) (c11:PVal) (c12:LB) (h3:FH) =>
nad c10 8 fun c13 =>
j1 c13 c11 c12 h3) fun j2 =>
hpush h0 (.cells [(.p (.int .u8 0)),(.p (.int .u8 0)),(.p (.int .u8 0)),(.p (.int .u8 0)),(.p (.int .u8 0)),(.p (.int .u8 0)),(.p (.int .u8 0)),(.p (.int .u8 0))] 1 0 false) fun c4 h4 =>
zgz 8 1 (iH c4 0 0) none none h4 <| ooL fun c14 c15 c16 c17 h5 =>
vv (zgx (iS c1) (some (iN c0)) none) <| oS fun c18 =>
zaak 1 (.slice c14 c15 c16 c17) (iS c18) h5 <| ooN fun _ h1 =>
hld (some 8) c4 0 0 h1 <| oA fun r1 =>
F 196 [(.agg r1)] h1 <| ooP fun c19 h6 =>
F 188 [(.p c3),(.p c19)] h6 <| ooP fun c20 h7 =>
j2 c0 c20 c1 h7) <|
j0 c3 h0) L 0 c6 c2 h
noncomputable def zxv:KFun:=⟨zakf,true,false⟩
theorem zaea:KOK tr.look F_Q189 zxv:=⟨i_Q189,(.sq (.rg [qp]) (.sq (.rg [qs,qn,qp,qp]) (.sq (.sq (.rg [qn]) (.bk [.slot 3 qp] (.lp [.slot 4 qn, .slot 3 qp, .slot 0 qs] (.sq (.sq (.rg [qn,qs,qn,qb]) (.cj .lf .lf)) (.sq (.bk [.slot 4 qn, .slot 3 qp, .slot 0 qs] (.sq (.rg [qh]) (.sq (.rg [ql,qs,qn,qs,qn]) (.rg [qp,qv,qp,qp,qp])))) (.rg [qn,qn,qn])))))) (.sq (.rg [qp,qp]) .lf)))),[qs],[],[],look_Q189,rfl,rfl,rfl,rfl,by kernel_rfl⟩
noncomputable def zde:KC:=fun _ L v h kr =>
wcons v <| ooP fun c0 r0 =>
wcons r0 <| ooP fun c1 r1 =>
wnil r1 <|
v_len (.p c0) <| oN fun c2 =>
v_len (.p c1) <| oN fun c3 =>
bf (gnot (Nat.beq c2 c3)) fun c4 =>
wif c4 ((none:WR)) <|
v_len (.p c0) <| oN fun c5 =>
wblock (fun(h0:FH) =>
kr (iB true) h0) fun j0 =>
wloop (fun _ _ _ _ _=>none) (fun _ (c6:Nat) (_ _:PVal) (c7:Nat) (h1:FH) =>
nbl c6 c7 fun c8 =>
wif c8 ((none:WR)) <|
j0 h1) L 0 c0 c1 c5 h
noncomputable def zbb:KFun:=⟨zde,true,false⟩
theorem zcr:KOK tr.look F_Q190 zbb:=⟨i_Q190,(.sq (.rg [qb]) (.sq (.sq (.rg [qp,qn,qp,qn,qb]) (.cj (.sq .lf .lf) .lf)) (.sq (.sq (.rg [qp,qn,qn]) (.bk [] (.lp [.slot 13 qn, .slot 0 qp, .slot 1 qp, .slot 12 qn] (.sq (.rg [qb]) (.sq (.cj .lf .lf) (.sq .lf .lf)))))) (.sq (.rg [qb]) .lf)))),[qp,qp],[],[],look_Q190,rfl,rfl,rfl,rfl,by kernel_rfl⟩
noncomputable def zakg:KC:=fun _ _ v h kr =>
wcons v <| ooP fun c0 r0 =>
wcons r0 <| ooN fun c2 r1 =>
wnil r1 <|
vv (zfn .u64 (iN c2)) <| oP fun c3 =>
vv (x_and (.p c3) (.p (.int .u64 63))) <| oP fun c1 =>
vv (xgen .shl (.p c0) (.p c1)) <| oP fun c4 =>
v_sub (.p (.int .u64 64)) (.p c1) <| oP fun c5 =>
vv (xgen .shr (.p c0) (.p c5)) <| oP fun c6 =>
vv (x_or (.p c4) (.p c6)) <| oP fun c7 =>
kr (.p c7) h
noncomputable def zxw:KFun:=⟨zakg,true,false⟩
theorem zaeb:KOK tr.look F_Q195 zxw:=⟨i_Q195,(.sq (.rg [qp]) (.sq (.rg [qn,qp,qp,qp]) (.sq (.rg [qp,qp,qp,qp,qp,qp,qp,qp,qp]) .lf))),[qp,qn],[],[],look_Q195,rfl,rfl,rfl,rfl,by kernel_rfl⟩
noncomputable def zase:KC:=fun _ L v h kr =>
wcons v <| ooA fun r0 r2 =>
wnil r2 <|
wle r0 8 <|
wblock (fun(c2:PVal) (h1:FH) =>
kr (.p c2) h1) fun j0 =>
wloop (fun _ _ _ _=>none) (fun j1 (c0:Nat) (c1:PVal) (r1:LI) (h0:FH) =>
nbl c0 8 fun c3 =>
wif c3 (wblock (fun(c4:Nat) (c5:PVal) (r3:LI) (h2:FH) =>
nad c4 1 fun c6 =>
j1 c6 c5 r3 h2) fun j2 =>
nlt c0 8 <|
nam 0 c0 1 fun c7 =>
wg c7 r1 <| oP fun c8 =>
vv (zfn .u64 (.p c8)) <| oP fun c9 =>
vv (x_mul (iN 8) (iN c0)) <| oN fun c10 =>
vv (xgen .shl (.p c9) (iN c10)) <| oP fun c11 =>
vv (x_or (.p c1) (.p c11)) <| oP fun c12 =>
j2 c0 c12 r1 h0) <|
j0 c1 h0) L 0 (.int .u64 0) r0 h
noncomputable def zaho:KFun:=⟨zase,true,false⟩
theorem zakh:KOK tr.look F_Q196 zaho:=⟨i_Q196,(.sq (.rg [(qx 1 0),qp]) (.sq (.rg [qp]) (.sq (.sq (.rg [qn]) (.bk [.slot 3 qp] (.lp [.slot 5 qn,sx 1, .slot 3 qp,bl 1 8] (.sq (.rg [qb]) (.sq (.cj .lf .lf) (.sq (.bk [.slot 5 qn,sx 1, .slot 3 qp,bl 1 8] (.sq (.rg [qn,qn]) (.rg [qp,qn,qa,qp,qp,qn,qn,qp,qp,qp]))) (.rg [qn,qn]))))))) (.sq (.rg [qp,qp]) .lf)))),[qv],[1],[],look_Q196,rfl,rfl,rfl,rfl,by kernel_rfl⟩
noncomputable def kt:KTr:=(.node 69 (.node 39 (.node 20 (.node 13 (.node 9 (.node 7 (.one F_Q4 zdn) (.node 8 (.one F_Q7 zph) (.one F_Q8 zsj))) (.node 11 (.node 10 (.one F_Q9 zpi) (.one F_Q10 zwp)) (.node 12 (.one F_Q11 zpj) (.one F_Q12 zwr)))) (.node 16 (.node 14 (.one F_Q13 zsk) (.node 15 (.one F_Q14 zpk) (.one F_Q15 zsl))) (.node 18 (.node 17 (.one F_Q16 zpl) (.one F_Q17 zdf)) (.node 19 (.one F_Q18 zfq) (.one F_Q19 zea))))) (.node 28 (.node 24 (.node 22 (.one F_Q20 zpm) (.node 23 (.one F_Q22 zil) (.one F_Q23 zwv))) (.node 26 (.node 25 (.one F_Q24 zsm) (.one F_Q25 zsn)) (.node 27 (.one F_Q26 zww) (.one F_Q27 zwx)))) (.node 34 (.node 30 (.one F_Q28 zso) (.node 33 (.one F_Q30 zaas) (.one F_Q33 zek))) (.node 36 (.node 35 (.one F_Q34 zbs) (.one F_Q35 zfs)) (.node 37 (.one F_Q36 zel) (.one F_Q37 zft)))))) (.node 54 (.node 46 (.node 42 (.node 40 (.one F_Q39 zda) (.node 41 (.one F_Q40 zhe) (.one F_Q41 zpo))) (.node 44 (.node 43 (.one F_Q42 zpp) (.one F_Q43 zxa)) (.node 45 (.one F_Q44 zkp) (.one F_Q45 zsp)))) (.node 50 (.node 47 (.one F_Q46 zdg) (.node 48 (.one F_Q47 zmn) (.one F_Q48 zsq))) (.node 52 (.node 51 (.one F_Q50 zxc) (.one F_Q51 zxd)) (.node 53 (.one F_Q52 zpq) (.one F_Q53 zaz))))) (.node 61 (.node 57 (.node 55 (.one F_Q54 zsr) (.node 56 (.one F_Q55 zss) (.one F_Q56 zkq))) (.node 59 (.node 58 (.one F_Q57 zem) (.one F_Q58 zxg)) (.node 60 (.one F_Q59 zen) (.one F_Q60 zeb)))) (.node 65 (.node 62 (.one F_Q61 zeo) (.node 64 (.one F_Q62 zep) (.one F_Q64 zpr))) (.node 67 (.node 66 (.one F_Q65 zst) (.one F_Q66 zks)) (.node 68 (.one F_Q67 zbh) (.one F_Q68 zkt))))))) (.node 129 (.node 90 (.node 80 (.node 73 (.node 70 (.one F_Q69 zed) (.node 71 (.one F_Q70 zaat) (.one F_Q71 zaau))) (.node 78 (.node 76 (.one F_Q73 zav) (.one F_Q76 zge)) (.node 79 (.one F_Q78 zkv) (.one F_Q79 zahc)))) (.node 86 (.node 81 (.one F_Q80 zfu) (.node 82 (.one F_Q81 zfv) (.one F_Q82 zpt))) (.node 88 (.node 87 (.one F_Q86 zxm) (.one F_Q87 zsu)) (.node 89 (.one F_Q88 zsv) (.one F_Q89 zhg))))) (.node 99 (.node 93 (.node 91 (.one F_Q90 zgf) (.node 92 (.one F_Q91 zhh) (.one F_Q92 zdh))) (.node 96 (.node 94 (.one F_Q93 zdi) (.one F_Q94 zaav)) (.node 97 (.one F_Q96 zmo) (.one F_Q97 zky)))) (.node 111 (.node 109 (.one F_Q99 zau) (.node 110 (.one F_Q109 zhk) (.one F_Q110 zsw))) (.node 122 (.node 121 (.one F_Q111 zba) (.one F_Q121 zpv)) (.node 128 (.one F_Q122 zim) (.one F_Q128 zin)))))) (.node 165 (.node 152 (.node 133 (.node 130 (.one F_Q129 zkz) (.node 132 (.one F_Q130 zmp) (.one F_Q132 zaaw))) (.node 135 (.node 134 (.one F_Q133 zpy) (.one F_Q134 zgg)) (.node 141 (.one F_Q135 zhl) (.one F_Q141 zap)))) (.node 155 (.node 153 (.one F_Q152 zqa) (.node 154 (.one F_Q153 zmq) (.one F_Q154 zqb))) (.node 163 (.node 156 (.one F_Q155 zio) (.one F_Q156 zla)) (.node 164 (.one F_Q163 zdj) (.one F_Q164 zxu))))) (.node 172 (.node 168 (.node 166 (.one F_Q165 zaax) (.node 167 (.one F_Q166 zsx) (.one F_Q167 zsy))) (.node 170 (.node 169 (.one F_Q168 zgh) (.one F_Q169 zeq)) (.node 171 (.one F_Q170 zhn) (.one F_Q171 zer)))) (.node 189 (.node 173 (.one F_Q172 zsz) (.node 188 (.one F_Q173 zta) (.one F_Q188 zaay))) (.node 195 (.node 190 (.one F_Q189 zxv) (.one F_Q190 zbb)) (.node 196 (.one F_Q195 zxw) (.one F_Q196 zaho))))))))
theorem kt_ok:kt.all (KOK tr.look):=⟨⟨⟨⟨⟨⟨zfp,⟨zwn,zyh⟩⟩,⟨⟨zwo,zadc⟩,⟨zwq,zade⟩⟩⟩,⟨⟨zyi,⟨zws,zyj⟩⟩,⟨⟨zwt,zhd⟩,⟨zkl,zif⟩⟩⟩⟩,⟨⟨⟨zwu,⟨zpn,zadi⟩⟩,⟨⟨zyk,zyl⟩,⟨zadj,zadk⟩⟩⟩,⟨⟨zym,⟨zagu,ziq⟩⟩,⟨⟨zeh,zkn⟩,⟨zir,zko⟩⟩⟩⟩⟩,⟨⟨⟨⟨zgl,⟨znn,zwy⟩⟩,⟨⟨zwz,zadn⟩,⟨zrd,zyn⟩⟩⟩,⟨⟨zhf,⟨ztf,zyp⟩⟩,⟨⟨zado,zadp⟩,⟨zxe,zcp⟩⟩⟩⟩,⟨⟨⟨zyq,⟨zyr,zre⟩⟩,⟨⟨zit,zadr⟩,⟨ziu,zih⟩⟩⟩,⟨⟨ziv,⟨ziw,zxh⟩⟩,⟨⟨zys,zrf⟩,⟨zdc,zrg⟩⟩⟩⟩⟩⟩,⟨⟨⟨⟨⟨zii,⟨zaha,zahb⟩⟩,⟨⟨zca,zlu⟩,⟨zrh,zakc⟩⟩⟩,⟨⟨zkw,⟨zkx,zxl⟩⟩,⟨⟨zadu,zyt⟩,⟨zyu,znq⟩⟩⟩⟩,⟨⟨⟨zlv,⟨znr,zhi⟩⟩,⟨⟨zhj,zahf⟩,⟨ztg,zrk⟩⟩⟩,⟨⟨zbx,⟨zns,zyw⟩⟩,⟨⟨zcq,zxo⟩,⟨zpw,zpx⟩⟩⟩⟩⟩,⟨⟨⟨⟨zrm,⟨ztj,zahh⟩⟩,⟨⟨zxq,zlw⟩,⟨znt,zbm⟩⟩⟩,⟨⟨zxr,⟨ztk,zxs⟩⟩,⟨⟨zqc,zro⟩,⟨zhm,zadz⟩⟩⟩⟩,⟨⟨⟨zahi,⟨zyz,zza⟩⟩,⟨⟨zlx,zja⟩,⟨znu,zjb⟩⟩⟩,⟨⟨zzb,⟨zzc,zahn⟩⟩,⟨⟨zaea,zcr⟩,⟨zaeb,zakh⟩⟩⟩⟩⟩⟩⟩
end Go.Ideal

/-
  WHAT HAS NO BODY; ALL CALLS OF THIS SEAT, RECKONED WITH TYPED VARIABLES.
-/
namespace Go.Ideal
open Go
set_option maxHeartbeats 4000000
set_option maxRecDepth 20000
attribute [-simp] getElem?_pos
instance:Kept:=⟨Memo tr.look⟩
noncomputable def sortS (args:List IVal) (h:FH):Option (IVal×FH) :=
 match args with
 | [v, .p (.func g)]=>match isCmp g with
   |true=>match v with
    | .p .nilslice=>some (.tup [],h)
    | .slice k ver off n=>match Nat.beq off 0,hfetch h k with
      |true,some (.cells cs e w op)=>match Nat.beq ver w&&Nat.beq e 2,rdPairs n cs with
       |true,some L=>match nodupN L&&(Nat.ble (n+1) 1000000&&!(Nat.beq n 0))with
        |true=>lall (gsplice cs 0 (prow (sortN L))) fun cs'=>fputK ⟨[],h⟩ (.heap k) (.cells cs' 2 w op) fun m=>some (.tup [],m.h)
        |false=>none
       |_,_=>none
      |_,_=>none
    |_=>none
   |false=>none
 |_=>none
theorem zavq {args:List IVal} {h:FH} {H:List IBlk} (hh:RH h H) {v:IVal} {h':FH} (e:sortS args h=some (v,h')):∃H',sortE args H=some (v,H')∧RH h' H':=by
 unfold sortS at e
 unfold sortE
 split at e
 ·rename_i v0 g
  dsimp only
  split at e
  ·rename_i hg
   rw[hg]
   dsimp only
   split at e
   ·injection e with e;injection e with a b;subst a b;exact⟨H,rfl,hh⟩
   ·rename_i k ver off n
    rw[zhb hh]at e
    dsimp only
    rw[zcx]
    split at e
    ·rename_i cs es w op h1 h2
     rw[h1,h2]
     dsimp only
     split at e
     ·rename_i L h3 h4
      rw[h3,h4]
      dsimp only
      split at e
      ·rename_i h5
       rw[h5]
       dsimp only
       rw[zag]at e
       obtain⟨m',g1,g2⟩:=zqt (m:=⟨[],h⟩) (M:=⟨[],H⟩) ⟨rfl,hh⟩ (k := .heap k) (x := .cells (gsplice cs 0 (prow (sortN L))) 2 w op) (b0 := .cells cs es w op) h2 (fun m=>(some (IVal.tup [],m.h):Option (IVal×FH)))
       rw[g1]at e
       injection e with e
       injection e with a b
       subst a b
       refine⟨_,?_,g2.h⟩
       rw[zag,zag,zabs];rfl
      ·cases e
     ·cases e
    ·cases e
   ·cases e
  ·cases e
 ·cases e
noncomputable def insS (args:List IVal) (h:FH):Option (IVal×FH) :=
 match args with
 | [x, .p (.int .i64 i), .slice kv vv vo 1]=>match hfetch h kv with
   |some (.cells vs ev wv _)=>match(Nat.beq vv wv&&Nat.beq ev 1),vs[vo]? with
    |true,some (.p (.int .i64 u))=>match x with
     | .p .nilslice=>match decide (i=0)with
       |true=>fpushK ⟨[],h⟩ (.cells [.p (.int .i64 u)] 1 0 true) fun n m=>some (.slice n 0 0 1,m.h)
       |false=>none
     | .slice k ver off n=>match hfetch h k with
       |some (.cells cs e w _)=>match(Nat.beq ver w&&Nat.beq e 1)&&(Nat.ble (off+n) cs.length&&!(Nat.beq k kv))&&(decide (0≤i∧i≤n∧n≤4294967296)&&allNum ((cs.drop off).take n))with
        |true=>lall (((cs.drop off).take n).take i.toNat++(.p (.int .i64 u)::((cs.drop off).take n).drop i.toNat)) fun cs'=>nforce (w+1) fun w'=>nforce (n+1) fun n'=>fputK ⟨[],h⟩ (.heap k) (.cells cs' 1 w' true) fun m=>some (.slice k w' 0 n',m.h)
        |false=>none
       |_=>none
     |_=>none
    |_,_=>none
   |_=>none
 |_=>none
theorem zbbs {args:List IVal} {h:FH} {H:List IBlk} (hh:RH h H) {v:IVal} {h':FH} (e:insS args h=some (v,h')):∃H',insSpec args H=some (v,H')∧RH h' H':=by
 unfold insS at e
 split at e
 ·rename_i x i kv vv vo
  rw[zhb hh]at e
  split at e
  ·rename_i vs ev wv q h1
   split at e
   ·rename_i u h2 h3
    split at e
    ·split at e
     ·rename_i h4
      obtain⟨m',g1,g2⟩:=zvy (m:=⟨[],h⟩) (M:=⟨[],H⟩) ⟨rfl,hh⟩ e
      injection g1 with g1
      injection g1 with a b
      subst a b
      exact⟨_,by simp only[insSpec,h1,h2,h3,h4],g2.h⟩
     ·cases e
    ·rename_i k ver off n
     rw[zhb hh]at e
     split at e
     ·rename_i cs es w o h4
      split at e
      ·rename_i h5
       rw[zag,zam,zam]at e
       obtain⟨m',g1,g2⟩:=zqt (m:=⟨[],h⟩) (M:=⟨[],H⟩) ⟨rfl,hh⟩ (k := .heap k) (x := .cells (((cs.drop off).take n).take i.toNat++(.p (.int .i64 u)::((cs.drop off).take n).drop i.toNat)) 1 (w+1) true) (b0 := .cells cs es w o) h4 (fun m=>(some (IVal.slice k (w+1) 0 (n+1),m.h):Option (IVal×FH)))
       rw[g1]at e
       injection e with e
       injection e with a b
       subst a b
       exact⟨_,by simp only[insSpec,h1,h2,h3,h4,h5];rfl,g2.h⟩
      ·cases e
     ·cases e
    ·cases e
   ·cases e
  ·cases e
 ·cases e
noncomputable def atOnce (r:Option (IVal×FH)) (k:IVal→FH→WR):WR:=Option.rec (motive:=fun _=>WR) none (fun p=>Prod.rec (motive:=fun _=>WR) (fun v h=>k v h) p) r
theorem zxx {r:Option (IVal×FH)} {k:IVal→FH→WR} {x:WX} (e:atOnce r k=some x):∃v h,r=some (v,h)∧k v h=some x:=by
 cases r with
 |none=>cases e
 |some p=>exact⟨p.1,p.2,rfl,e⟩
noncomputable def matchK (az:List IVal) (h:FH) (k:IVal→FH→WR) (vs:List IVal):WC:=fun m =>
 match vs with
 | [.map 0, .p .nilslice]=>match hfetch m.h 0 with
   |some (.map es ck)=>match rdEnts es 0 with
    |some l=>match(nodupN l&&Nat.beq ck (llen es))&&(Nat.ble (llen l+1) 1000000&&!(Nat.beq (llen l) 0))with
     |true=>nforce (llen l) fun n=>lall (prc (sortN l)) fun q=>kmm m.h fun c0=>mputK ⟨F_Q29,az, .p (.slice 2 n q)⟩ (mkey F_Q29) c0 fun c=>kkeep h c fun h=>k (.p (.slice 2 n q)) h
     |false=>none
    |none=>none
   |_=>none
 |_=>none
noncomputable def matchS (F:WO) (L:Nat) (args:List IVal) (h:FH) (k:IVal→FH→WR):WR :=
 match zall h args with
 |none=>none
 |some az=>match Nat.beq (llen az) 2 with
  |false=>none
  |true=>fhopen h fun _ _ c=>mlook F_Q29 az (mtget (mkey F_Q29) c) (fun r=>k r h) (zdu F L (matchK az h k) az (hnew h))
theorem zasf {F:WO} (hF:WLe F (CW tr.look)) {L:Nat} {args:List IVal} {h:FH} {H:List IBlk} (hh:RH h H) {k:IVal→FH→WR} {x:WX} (e:matchS F L args h k=some x):∃v h',CW tr.look F_Q29 args H=some (v,H)∧RH h' H∧k v h'=some x:=by
 unfold matchS at e
 rw[zacy hh]at e
 split at e
 ·cases e
 ·rename_i az haz
  split at e
  ·cases e
  ·rename_i hlen
   rw[zaf]at hlen
   have hlen:=Nat.eq_of_beq_eq_true hlen
   have e:mlook F_Q29 az (mtget (mkey F_Q29) h.c) (fun r=>k r h) (zdu F L (matchK az h k) az (hnew h))=some x:=e
   rcases zrb F_Q29 az (fun r=>k r h) (zdu F L (matchK az h k) az (hnew h)) (mtget (mkey F_Q29) h.c)with h0|⟨r,h1,h2⟩
   ·rw[h0]at e
    rw[zte]at e
    obtain⟨vs,m,G,T,M,hx,q1,hm,q2,q5⟩:=zavp (R:=i_Q29) hF rfl (by decide) rfl hh e
    unfold matchK at hx
    split at hx
    ·obtain⟨v1,w1,e1,q3,v2,w2,e2,q4,e3⟩:=q5
     injection e1 with a1 a2
     subst a1 a2
     injection e2 with a1 a2
     subst a1 a2
     rw[zhb hm.h]at hx
     split at hx
     ·rename_i es ck hmap
      split at hx
      ·rename_i l hl
       split at hx
       ·rename_i hchk
        rw[zam,zag]at hx
        simp only[zaf,Bool.and_eq_true]at hchk
        have hn:=zvt l hchk.1.1
        have hck:=Nat.eq_of_beq_eq_true hchk.1.2
        have hlt:=Nat.le_of_ble_eq_true hchk.2.1
        have h0:l≠[]:=fun e=>by rw[e]at hchk;simp at hchk
        have hW:=zai (fun _ _ _ _ h=>h) (zzt (n:=L)) q1
        rw[zaf]at hx
        have q3':T.getD 127 .undef = .map 0:=by rw[List.getD_eq_getElem?_getD,q3];rfl
        have q4':T.getD 16 .undef = .p .nilslice:=by rw[List.getD_eq_getElem?_getD,q4];rfl
        have key:∀args H,freezeAll H args=some az→CW tr.look F_Q29 args H=some (.p (.slice 2 l.length (prc (sortN l))),H):=fun args H haz=>zaqu haz hlen hW q2 q3' q4' hmap hl hn hck hlt h0
        obtain⟨c',p1,p2⟩:=MT.OK.put (x:=⟨F_Q29,az, .p (.slice 2 l.length (prc (sortN l)))⟩) key (mkey F_Q29) hm.h.c
        have hx:mputK ⟨F_Q29,az, .p (.slice 2 l.length (prc (sortN l)))⟩ (mkey F_Q29) m.h.c (fun c=>kkeep h c fun h=>k (.p (.slice 2 l.length (prc (sortN l)))) h)=some x:=hx
        rw[p2]at hx
        exact⟨_,⟨h.t,h.n,c'⟩,key args H haz,⟨hh.n,hh.le,hh.at',p1⟩,hx⟩
       ·cases hx
      ·cases hx
     ·cases hx
    ·cases hx
   ·rw[h2]at e
    exact⟨r,h,(MT.OK.get _ hh.c _ h1) args H haz,hh,e⟩
noncomputable def dW (L:Nat) (F:WO):WO:=fun f args h k =>
 Bool.rec (Bool.rec (Bool.rec none (atOnce (insS args h) k) (Nat.beq f F_Q157)) (atOnce (sortS args h) k) (Nat.beq f F_Q38)) (matchS F L args h k) (Nat.beq f F_Q29)
theorem dW_le (L:Nat) (F:WO) (hF:WLe F (CW tr.look)):WLe (dW L F) (CW tr.look):=fun f args h H k x hh e=>by
 unfold dW at e
 cases h1:Nat.beq f F_Q29 with
 |true =>
  rw[h1]at e
  obtain⟨v,h',g1,g3,g2⟩:=zasf hF hh e
  rw[Nat.eq_of_beq_eq_true h1]
  exact⟨v,h',H,g1,g3,g2⟩
 |false =>
  rw[h1]at e
  cases h2:Nat.beq f F_Q38 with
  |true =>
   rw[h2]at e
   obtain⟨v,h',e,hk⟩:=zxx e
   obtain⟨H',g1,g2⟩:=zavq hh e
   rw[Nat.eq_of_beq_eq_true h2]
   exact⟨v,h',H',zaux g1,g2,hk⟩
  |false =>
   rw[h2]at e
   cases h3:Nat.beq f F_Q157 with
   |true =>
    rw[h3]at e
    obtain⟨v,h',e,hk⟩:=zxx e
    obtain⟨H',g1,g2⟩:=zbbs hh e
    rw[Nat.eq_of_beq_eq_true h3]
    exact⟨v,h',H',zqi none_Q157 (zauo g1),g2,hk⟩
   |false=>rw[h3]at e;cases e
noncomputable def callW (n:Nat):WO:=kcall kt.look (dW 1000000) 1000000 n
theorem zavr (n:Nat):WLe (callW n) (CW tr.look):=zamn (fun _=>Iff.rfl) (fun _ _ e=>KTr.zdq kt_ok e) (fun F=>dW_le 1000000 F) n
end Go.Ideal

/-
  THE LAWS OF THIS SEAT: WHAT THE CALLS OF Place GIVE; A LAW's CASES ONE AFTER THE OTHER, WITH ONE MEMORY OF CALLS.
-/
namespace Go.Ideal
open Go
set_option maxHeartbeats 4000000
set_option maxRecDepth 20000
attribute [-simp] getElem?_pos
theorem zavs (v:Int) (n:Nat) (hn:0<n) (hb:n<1000000000000) (H:List IBlk):CW tr.look F_Q7 [.p (.int .i64 v), .p (.int .i64 n)] H=some (.p (.int .i64 (v % n)),H):=by
 refine znc look_Q7 rfl (by simp) rfl ?_
 dsimp only[i_Q7,c_Q7]
 have hn0:(n:Int)≠0:=by omega
 have hn1:¬n=0:=by omega
 by_cases h:v.tmod n<0
 ·have e:v.tmod n+n=v % n:=by
   rw[Int.tmod_eq_emod]at h ⊢
   split at h
   ·have:=Int.emod_nonneg v hn0;omega
   ·rename_i hc
    rw[if_neg hc]
    simp
  have:=Int.emod_nonneg v hn0
  have:=Int.emod_lt_of_pos v (show(0:Int)<n by omega)
  simp(disch:=omega) [hn1,zaud,e]
 ·have e:v.tmod n=v % n:=by
   rw[Int.tmod_eq_emod]at h ⊢
   split at h
   ·rename_i hc;rw[if_pos hc];simp
   ·rename_i hc
    have:=Int.emod_lt_of_pos v (show(0:Int)<n by omega)
    simp at h
    omega
  rw[e]at h
  simp(disch:=omega) [hn1,e]
noncomputable def okb (b:Int):Bool:=Int.rec (motive:=fun _=>Bool) (fun n=>Bool.rec false (Nat.ble n 100000) (Nat.ble 1 n)) (fun _=>false) b
theorem zbho {b:Int} (h:okb b=true):∃n:Nat,b=(n:Int)∧0<n∧n<1000000000000:=by
 cases b with
 |negSucc n=>cases h
 |ofNat n =>
  have h:(Bool.rec false (Nat.ble n 100000) (Nat.ble 1 n):Bool)=true:=h
  cases h1:Nat.ble 1 n with
  |false=>rw[h1]at h;cases h
  |true =>
   rw[h1]at h
   have:=Nat.le_of_ble_eq_true h1
   have:=Nat.le_of_ble_eq_true h
   exact⟨n,rfl,by omega,by omega⟩
noncomputable def Qp (g:Int→Int) (c:IVal) (k:IVal→WR):WR:=match c with
 | .p (.int .i64 b)=>Bool.rec none (iforce (g b) fun w=>k (.p (.int .i64 w))) (okb b)
 |_=>none
theorem zbbt {g:Int→Int} {c:IVal} {k:IVal→WR} {x:WX} (e:Qp g c k=some x):∃n:Nat,c = .p (.int .i64 (n:Int))∧0<n∧n<1000000000000∧k (.p (.int .i64 (g n)))=some x:=by
 unfold Qp at e
 split at e
 ·rename_i b
  cases hb:okb b with
  |false=>rw[hb]at e;cases e
  |true =>
   rw[hb]at e
   dsimp only at e
   rw[zafp]at e
   obtain⟨n,rfl,h2,h3⟩:=zbho hb
   exact⟨n,rfl,h2,h3,e⟩
 ·cases e
noncomputable def plc (args:List IVal) (h:FH) (k:IVal→FH→WR):WR:=match args with
 | [.p (.int .i64 a),c]=>Qp (fun b=>a % b) c fun v=>k v h
 |_=>none
noncomputable def cG:WO:=fun f args h k=>Bool.rec (callW 60 f args h k) (plc args h k) (Nat.beq f F_Q7)
theorem cG_le:WLe cG (CW tr.look):=fun f args h H k x hh e=>by
 unfold cG at e
 cases h1:Nat.beq f F_Q7 with
 |false=>rw[h1]at e;exact zavr 60 _ _ _ _ _ _ hh e
 |true =>
  rw[h1]at e
  have e:plc args h k=some x:=e
  rw[Nat.eq_of_beq_eq_true h1]
  have key:∃(a:Int) (c:IVal),args=[.p (.int .i64 a),c]∧Qp (fun b=>a % b) c (fun v=>k v h)=some x:=by
   unfold plc at e
   split at e
   ·exact⟨_,_,rfl,e⟩
   ·cases e
  obtain⟨a,c,rfl,e2⟩:=key
  obtain⟨n,rfl,h2,h3,h4⟩:=zbbt e2
  exact⟨_,h,H,zavs a n h2 h3 H,hh,h4⟩
noncomputable def Qm (g:Int→Int) (c:IVal) (h:FH) (k:IVal→FH→WR):WR:=Qp g c fun v=>k v h
noncomputable def vi (n:Int):IVal := .p (.int .i64 n)
theorem zaki (a:Int):(fun c h k=>cG 7 [vi a,c] h k)=Qm (fun b=>a % b):=(rfl)
noncomputable def pt (b:Nat) (x:Nat) (u:Int→Int):Int→Int:=fun z=>Int.rec (motive:=fun _=>Int) (fun n=>Bool.rec (u (.ofNat n)) (.ofNat x) (Nat.beq n b)) (fun n=>u (.negSucc n)) z
theorem pt_eq {b x:Nat} {u:Int→Int} (h:u b=x):pt b x u=u:=by
 funext z
 cases z with
 |negSucc n=>rfl
 |ofNat n =>
  show(Bool.rec (u (.ofNat n)) (.ofNat x) (Nat.beq n b):Int)=_
  cases hb:Nat.beq n b with
  |false=>rfl
  |true=>rw[Nat.eq_of_beq_eq_true hb];exact h.symm
noncomputable def isT (v:IVal) (e:WR):WR:=wB v (fun b=>Bool.rec none e b) none
theorem zavt {v:IVal} {e:WR} {x:WX} (h:isT v e=some x):v = .p (.bool true)∧e=some x:=by
 cases v with
 |p u =>
  cases u with
  |bool b=>cases b with
   |true=>exact⟨rfl,h⟩
   |false=>cases h
  |_=>cases h
 |_=>cases h
noncomputable def endX:WR:=some ([],⟨[],⟨.e,0, .e⟩⟩)
noncomputable def nextK (ih:MT→WR) (v:IVal) (K:FH):WR:=isT v (fhopen K fun _ _ c=>ih c)
theorem RH.zero {c:MT} (hc:c.OK):RH ⟨.e,0,c⟩ []:=RH.new (K:=⟨.e,0,c⟩) (H:=[]) ⟨rfl,by simp,fun i hi=>by
 have:∀p:HP,hget p .e=none:=fun p=>by induction p with|z=>rfl|a p ih=>exact ih|b p ih=>exact ih|c p ih=>exact ih|d p ih=>exact ih
 show hget (hp i) .e=_
 rw[this];rfl,hc⟩
theorem zlb {H:List IBlk}:∀l:List PVal,freezeAll H (l.map .p)=some (l.map .p)∧plainArgs (l.map .p)=true
 | []=>⟨rfl,rfl⟩
 |v::r=>by
  obtain⟨h1,h2⟩:=zlb (H:=H) r
  refine⟨?_,?_⟩
  ·rw[List.map_cons,freezeAll,h1];rfl
  ·rw[List.map_cons,plainArgs,h2];rfl
theorem zbbu {f:FuncId} {j:KFun} (hk:KOK tr.look f j) (hp:j.pure=true) {l:List PVal} {c:MT} (hc:c.OK) {ih:MT→WR} {x:WX} (e:j.code cG 1000000 (l.map .p) ⟨.e,0,c⟩ (nextK ih)=some x) :
 (∀ H,CW tr.look f (l.map .p) H=some (.p (.bool true),H))∧∃c':MT,c'.OK∧ih c'=some x:=by
 obtain⟨Fn,v,K',H',h1,h2,h3,h4,h5⟩:=zamm hk cG_le (RH.zero hc) e
 obtain⟨rfl,h5⟩:=zavt h5
 refine⟨fun H=>CW_of ?_,K'.c,h4.c,h5⟩
 unfold callBody
 simp only[h1]
 rw[← h2,hp]
 dsimp only
 rw[(zlb l).1]
 dsimp only
 rw[h3]
 dsimp only
 have:freezeRes H' (.p (.bool true))=some (.p (.bool true)):=rfl
 rw[this]
 dsimp only
 rw[(zlb (H:=H) l).2]
 rfl
end Go.Ideal

/-
  MergeNews: THE CALLS OF Place CUT OUT; THE CASES ONE BEHIND THE OTHER.
-/
namespace Go.Ideal
open Go
set_option maxRecDepth 100000
noncomputable def gnw (q1 q2 q3:IVal→FH→(IVal→FH→WR)→WR) (F:WO) (_:Nat) (c11:Bool) (h:FH) (kr:IVal→FH→WR):WR :=
q1 (iN 6) h fun a12 h13 =>
tN a12 fun c14 =>
nforce (Nat.add 2 c14) fun c15 =>
ift (Nat.ble (Nat.succ c15) lim63) <|
F 12 [(iN c15)] h13 fun a16 h17 =>
tA a16 fun r18 =>
wbeq (llen r18) 5 <|
nforce (Nat.add c15 1) fun c19 =>
ift (Nat.ble (Nat.succ c19) lim63) <|
q2 (iN c19) h17 fun a20 h21 =>
tN a20 fun c22 =>
nforce (Nat.add c15 1) fun c23 =>
ift (Nat.ble (Nat.succ c23) lim63) <|
q3 (iN c23) h21 fun a24 h25 =>
tN a24 fun c26 =>
wcut r18 0 5 fun r27 =>
wcut r18 0 5 fun r28 =>
F 13 [(.agg r27),(iN c22),(iS [49])] h25 fun a29 h30 =>
tA a29 fun r31 =>
ift (wchk F ⟨[(14,some (.cells [(iN 0),(iS []),(iS []),(.p .nilslice),(.p .nilslice)] 5 0 false)),(13,some (.cells [(iN 0),(iS []),(iS []),(.p .nilslice),(.p .nilslice)] 5 0 false)),(10,some (.cells r18 5 0 false)),(10,some (.cells [(iN 0),(iS []),(iS []),(.p .nilslice),(.p .nilslice)] 5 0 false)),(17,none),(15,none),(13,none),(14,none),(10,none)],h30⟩ (.load (some 5) (.const (iX 10 0))) (.agg r28)) <|
ift (wchk F ⟨[(14,some (.cells [(iN 0),(iS []),(iS []),(.p .nilslice),(.p .nilslice)] 5 0 false)),(13,some (.cells [(iN 0),(iS []),(iS []),(.p .nilslice),(.p .nilslice)] 5 0 false)),(10,some (.cells r18 5 0 false)),(10,some (.cells [(iN 0),(iS []),(iS []),(.p .nilslice),(.p .nilslice)] 5 0 false)),(17,none),(15,none),(13,none),(14,none),(10,none)],h30⟩ (.alloc (some 13) [(.int .i64 0),(.str []),(.str []), .nilslice, .nilslice]) (iX 13 0)) <|
ift (wchk F ⟨[(14,some (.cells [(iN 0),(iS []),(iS []),(.p .nilslice),(.p .nilslice)] 5 0 false)),(13,some (.cells [(iN 0),(iS []),(iS []),(.p .nilslice),(.p .nilslice)] 5 0 false)),(10,some (.cells r18 5 0 false)),(10,some (.cells [(iN 0),(iS []),(iS []),(.p .nilslice),(.p .nilslice)] 5 0 false)),(17,none),(15,none),(13,none),(14,none),(10,none)],h30⟩ (.alloc (some 14) [(.int .i64 0),(.str []),(.str []), .nilslice, .nilslice]) (iX 14 0)) <|
F 13 [(.agg r28),(iN c26),(iS [50])] h30 fun a32 h33 =>
tA a32 fun r34 =>
ift (wchk F ⟨[(14,some (.cells [(iN 0),(iS []),(iS []),(.p .nilslice),(.p .nilslice)] 5 0 false)),(13,some (.cells [(iN 0),(iS []),(iS []),(.p .nilslice),(.p .nilslice)] 5 0 false)),(10,some (.cells r18 5 0 false)),(10,some (.cells [(iN 0),(iS []),(iS []),(.p .nilslice),(.p .nilslice)] 5 0 false)),(17,none),(15,none),(13,none),(14,none),(10,none)],h33⟩ (.alloc (some 13) [(.int .i64 0),(.str []),(.str []), .nilslice, .nilslice]) (iX 13 0)) <|
ift (wchk F ⟨[(14,some (.cells [(iN 0),(iS []),(iS []),(.p .nilslice),(.p .nilslice)] 5 0 false)),(13,some (.cells [(iN 0),(iS []),(iS []),(.p .nilslice),(.p .nilslice)] 5 0 false)),(10,some (.cells r18 5 0 false)),(10,some (.cells [(iN 0),(iS []),(iS []),(.p .nilslice),(.p .nilslice)] 5 0 false)),(17,none),(15,none),(13,none),(14,none),(10,none)],h33⟩ (.alloc (some 14) [(.int .i64 0),(.str []),(.str []), .nilslice, .nilslice]) (iX 14 0)) <|
wbeq (llen r31) 5 <|
wbeq (llen r34) 5 <|
wblock (fun(c35:Bool) (c36:Nat) (c37:Nat) (r38:LI) (r39:LI) (r40:LI) (h41:FH) =>
wcut r38 0 5 fun r43 =>
wcut r40 0 5 fun r44 =>
wcut r39 0 5 fun r45 =>
F 9 [(.agg r43),(.agg r44),(.agg r45)] h41 fun a46 h47 =>
tT a46 fun r48 =>
wcons r48 fun a49 r50 =>
tA a49 fun r51 =>
wcons r50 fun a52 r53 =>
tN a52 fun c54 =>
wnil r53 <|
wbeq (llen r51) 8 <|
wblock (fun(c55:Nat) (c56:Nat) (c57:Nat) (r58:LI) (r59:LI) (r60:LI) (h61:FH) =>
wcut r59 0 5 fun r63 =>
nforce (Nat.add c56 1) fun c64 =>
ift (Nat.ble (Nat.succ c64) lim63) <|
wg 4 r58 fun a65 =>
tL a65 fun c66 c67 c68 c69 =>
ift (Nat.ble (Nat.succ c56) c69) <|
nforce (Nat.add c68 (Nat.mul c56 5)) fun c70 =>
nforce (Nat.add c70 2) fun c71 =>
hld none c66 c67 c71 h61 fun a72 =>
tS a72 fun c73 =>
F 13 [(.agg r63),(iN c64),(iS c73)] h61 fun a74 h75 =>
tA a74 fun r76 =>
ift (wchk F ⟨[(17,some (.cells [(iN 0),(iS []),(iS []),(.p .nilslice),(.p .nilslice)] 5 0 false)),(17,none),(14,some (.cells r58 5 0 false)),(13,some (.cells r59 5 0 false)),(15,some (.cells r60 8 0 false))],h75⟩ (.alloc (some 17) [(.int .i64 0),(.str []),(.str []), .nilslice, .nilslice]) (iX 17 0)) <|
wbeq (llen r76) 5 <|
bf (Nat.ble (Nat.succ c56) c55) fun c77 =>
wblock (fun(c78:Nat) (r79:LI) (r80:LI) (h81:FH) =>
bf (Nat.beq c78 0) fun c83 =>
wgV (iB c83) true (zaa 0 (iX 15 0)) fun a84 =>
wgV (iB c83) true (zac (some 5) a84 ⟨[(15,some (.cells r79 8 0 false)),(17,some (.cells r80 5 0 false))],h81⟩) fun a85 =>
wgV (iB c83) true (zac (some 5) (iX 17 0) ⟨[(15,some (.cells r79 8 0 false)),(17,some (.cells r80 5 0 false))],h81⟩) fun a86 =>
wgH (iB c83) true (wcallH (.p (.func 10)) [a85,a86] F) h81 fun a87 h88 =>
pk c83 a87 (iB false) fun a89 =>
tB a89 fun c90 =>
wgH (iB c90) true (wcallH (.p (.func 11)) [] F) h88 fun a91 h92 =>
pk c90 a91 (iB false) fun a93 =>
tB a93 fun c94 =>
kr (iB c94) h92) fun j82 =>
wif c77 (wcut r59 0 5 fun r95 =>
wg 4 r58 fun a96 =>
tL a96 fun c97 c98 c99 c100 =>
ift (Nat.ble (Nat.succ c56) c100) <|
nforce (Nat.add c99 (Nat.mul c56 5)) fun c101 =>
nforce (Nat.add c101 2) fun c102 =>
hld none c97 c98 c102 h75 fun a103 =>
tS a103 fun c104 =>
F 13 [(.agg r95),(iN c56),(iS c104)] h75 fun a105 h106 =>
tA a105 fun r107 =>
wbeq (llen r107) 5 <|
wbeq (llen r76) 5 <|
j82 c57 r60 r107 h106) <|
j82 c57 r60 r76 h75) fun j62 =>
bf (Nat.beq c36 c37) fun c108 =>
wgV (iB c108) true (vv (x_mov (iB c35))) fun a109 =>
pk c108 a109 (iB false) fun a110 =>
tB a110 fun c111 =>
wif c111 (bf (Nat.beq c54 0) fun c112 =>
wgV (iB c112) true (zaa 0 (iX 15 0)) fun a113 =>
wgV (iB c112) true (zac (some 5) a113 ⟨[(15,some (.cells r51 8 0 false)),(15,some (.cells [(iN 0),(iS []),(iS []),(.p .nilslice),(.p .nilslice),(.p .nilslice),(.p .nilslice),(.p .nilslice)] 8 0 false)),(15,none),(10,some (.cells r38 5 0 false)),(14,some (.cells r39 5 0 false)),(13,some (.cells r40 5 0 false))],h47⟩) fun a114 =>
wgV (iB c112) true (zac (some 5) (iX 13 0) ⟨[(15,some (.cells r51 8 0 false)),(15,some (.cells [(iN 0),(iS []),(iS []),(.p .nilslice),(.p .nilslice),(.p .nilslice),(.p .nilslice),(.p .nilslice)] 8 0 false)),(15,none),(10,some (.cells r38 5 0 false)),(14,some (.cells r39 5 0 false)),(13,some (.cells r40 5 0 false))],h47⟩) fun a115 =>
wgH (iB c112) true (wcallH (.p (.func 10)) [a114,a115] F) h47 fun a116 h117 =>
pk c112 a116 (iB false) fun a118 =>
tB a118 fun c119 =>
wgH (iB c119) true (wcallH (.p (.func 11)) [] F) h117 fun a120 h121 =>
pk c119 a120 (iB false) fun a122 =>
tB a122 fun c123 =>
kr (iB c123) h121) <|
bf (Nat.beq c36 c37) fun c124 =>
wif c124 (bf (Nat.beq c54 13) fun c125 =>
wgV (iB c125) true (zaa 5 (iX 15 0)) fun a126 =>
wgV (iB c125) true (zac none a126 ⟨[(15,some (.cells r51 8 0 false)),(15,some (.cells [(iN 0),(iS []),(iS []),(.p .nilslice),(.p .nilslice),(.p .nilslice),(.p .nilslice),(.p .nilslice)] 8 0 false)),(15,none),(10,some (.cells r38 5 0 false)),(14,some (.cells r39 5 0 false)),(13,some (.cells r40 5 0 false))],h47⟩) fun a127 =>
wgV (iB c125) true (v_len a127) fun a128 =>
wgV (iB c125) true (v_eql a128 (iN 1)) fun a129 =>
pk c125 a129 (iB false) fun a130 =>
tB a130 fun c131 =>
wgV (iB c131) true (zaa 5 (iX 15 0)) fun a132 =>
wgV (iB c131) true (zac none a132 ⟨[(15,some (.cells r51 8 0 false)),(15,some (.cells [(iN 0),(iS []),(iS []),(.p .nilslice),(.p .nilslice),(.p .nilslice),(.p .nilslice),(.p .nilslice)] 8 0 false)),(15,none),(10,some (.cells r38 5 0 false)),(14,some (.cells r39 5 0 false)),(13,some (.cells r40 5 0 false))],h47⟩) fun a133 =>
wgV (iB c131) true (zab 3 a133 (iN 0)) fun a134 =>
wgV (iB c131) true (zac (some 3) a134 ⟨[(15,some (.cells r51 8 0 false)),(15,some (.cells [(iN 0),(iS []),(iS []),(.p .nilslice),(.p .nilslice),(.p .nilslice),(.p .nilslice),(.p .nilslice)] 8 0 false)),(15,none),(10,some (.cells r38 5 0 false)),(14,some (.cells r39 5 0 false)),(13,some (.cells r40 5 0 false))],h47⟩) fun a135 =>
wgV (iB c131) true (zki [(.int .i64 0),(.int .i64 0),(.str [])] [(0,1,(iN 5))]) fun a136 =>
wgV (iB c131) true (vv (x_eqv false ⟨true,[.int, .int, .str]⟩ (.const a135) (.const a136))) fun a137 =>
pk c131 a137 (iB false) fun a138 =>
tB a138 fun c139 =>
wgH (iB c139) true (wcallH (.p (.func 11)) [] F) h47 fun a140 h141 =>
pk c139 a140 (iB false) fun a142 =>
tB a142 fun c143 =>
kr (iB c143) h141) <|
j62 c36 c37 c54 r39 r40 r51 h47) fun j42 =>
wif c11 (wcut r18 0 5 fun r144 =>
F 13 [(.agg r144),(iN c26),(iS [49])] h33 fun a145 h146 =>
tA a145 fun r147 =>
wbeq (llen r147) 5 <|
wbeq (llen r34) 5 <|
j42 c11 c22 c26 r18 r147 r31 h146) <|
j42 c11 c22 c26 r18 r34 r31 h33
theorem zbhp (F:WO) (L:Nat) (x y z:Int) (b:Bool) (h:FH) (kr:IVal→FH→WR):zhc F L [vi x,vi y,vi z, .p (.bool b)] h kr=gnw (fun c h k=>F 7 [vi x,c] h k) (fun c h k=>F 7 [vi y,c] h k) (fun c h k=>F 7 [vi z,c] h k) F L b h kr:=by kernel_rfl
abbrev nwC:=Nat×(Nat×Nat)×(Nat×Nat)×(Nat×Nat)×Bool
noncomputable def nwRun (_ _ _:Nat→Int) (u v w0:Nat→Int→Int) (l:List nwC):MT→WR :=
 List.rec (motive:=fun _=>MT→WR) (fun _=>endX) (fun e _ ih mm=>Prod.rec (fun t r=>Prod.rec (fun ax r=>Prod.rec (fun bp r=>Prod.rec (fun dq w=>Prod.rec (fun a x=>Prod.rec (fun b p=>Prod.rec (fun d q=>gnw (Qm (pt a x (u t))) (Qm (pt b p (v t))) (Qm (pt d q (w0 t))) cG 1000000 w ⟨.e,0,mm⟩ (nextK ih)) dq) bp) ax) r) r) r) e) l
theorem zaog (n i j:Nat→Int) (u v w0:Nat→Int→Int) (t a x b p d q:Nat) (w:Bool) (l:List nwC) (mm:MT):nwRun n i j u v w0 ((t,(a,x),(b,p),(d,q),w)::l) mm=gnw (Qm (pt a x (u t))) (Qm (pt b p (v t))) (Qm (pt d q (w0 t))) cG 1000000 w ⟨.e,0,mm⟩ (nextK (nwRun n i j u v w0 l)):=rfl
theorem zaec (n i j:Nat→Int):∀(l:List nwC) (mm:MT),mm.OK→(∀ e∈l,n e.1 % (e.2.1.1:Int)=e.2.1.2∧i e.1 % (e.2.2.1.1:Int)=e.2.2.1.2∧j e.1 % (e.2.2.2.1.1:Int)=e.2.2.2.1.2) →
 ∀ {x},nwRun n i j (fun t b=>n t % b) (fun t b=>i t % b) (fun t b=>j t % b) l mm=some x→∀e∈l,∀H,CW tr.look F_Q4 [vi (n e.1),vi (i e.1),vi (j e.1), .p (.bool e.2.2.2.2)] H=some (.p (.bool true),H)
 | [],_,_,_,_,_,e,he=>by cases he
 |(t,(a,x),(b,p),(d,q),w)::l,mm,hm,hp,y,hr,e,he=>by
  have h0:=hp _ List.mem_cons_self
  rw[zaog,pt_eq (show(fun t b=>n t % b) t a=x from h0.1),pt_eq (show(fun t b=>i t % b) t b=p from h0.2.1),pt_eq (show(fun t b=>j t % b) t d=q from h0.2.2)]at hr
  rw[← zaki (n t),←zaki (i t),←zaki (j t),←zbhp]at hr
  obtain⟨h1,c',h2,h3⟩:=zbbu (l:=[.int .i64 (n t), .int .i64 (i t), .int .i64 (j t), .bool w]) zfp rfl hm (show zdn.code cG 1000000 (List.map .p [.int .i64 (n t), .int .i64 (i t), .int .i64 (j t), .bool w]) ⟨.e,0,mm⟩ (nextK (nwRun n i j (fun t b=>n t % b) (fun t b=>i t % b) (fun t b=>j t % b) l))=some y from hr)
  rcases List.mem_cons.1 he with rfl|he
  ·exact h1
  ·exact zaec n i j l c' h2 (fun e he=>hp e (List.mem_cons_of_mem _ he)) h3 e he
def nwT (x m p q:Nat) (w:Bool):Prop:=∀n i j u v w0,nwRun n i j u v w0 [(0,(6,x),(m,p),(m,q),w)] .e=endX
theorem nwB {x m p q:Nat} (ht:nwT x m p q true) (hf:nwT x m p q false) (w:Bool) {y z s:Int} (h1:y % ((6:Nat):Int)=x) (h2:z % (m:Int)=p) (h3:s % (m:Int)=q) (H:List IBlk):CW tr.look F_Q4 [vi y,vi z,vi s, .p (.bool w)] H=some (.p (.bool true),H):=by
 cases w with
 |true=>exact zaec (fun _=>y) (fun _=>z) (fun _=>s) [(0,(6,x),(m,p),(m,q),true)] .e trivial (fun e he=>by rw[List.mem_singleton.1 he];exact⟨h1,h2,h3⟩) (ht _ _ _ _ _ _) _ List.mem_cons_self H
 |false=>exact zaec (fun _=>y) (fun _=>z) (fun _=>s) [(0,(6,x),(m,p),(m,q),false)] .e trivial (fun e he=>by rw[List.mem_singleton.1 he];exact⟨h1,h2,h3⟩) (hf _ _ _ _ _ _) _ List.mem_cons_self H
end Go.Ideal
