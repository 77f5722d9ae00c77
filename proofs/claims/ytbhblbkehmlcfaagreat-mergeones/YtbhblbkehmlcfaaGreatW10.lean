/-
  THE FUNCTIONS OF THIS SEAT, OVER LEAN's OWN VARIABLES, shapes known: printed by a program of the prover's own out of the ideal program.
-/
import Derived.Test.YtbhblbkehmlcfaaGreatW9
import Derived.Test.YtbhblbkehmlcfaaGreatW6
namespace Go.Ideal
open Go Go.Proofs
set_option maxRecDepth 100000
noncomputable def zakm:KC:=fun _ L v h kr =>
wcons v <| ooS fun c4 r0 =>
wnil r0 <|
v_eql (iS c4) (iS []) <| oB fun c5 =>
wgV (iB c5) false (vv (x_mov (iS c4))) fun a0 =>
wgV (iB c5) false (vv (zdf a0)) fun a1 =>
wgV (iB c5) false (v_gtr a1 (iN 32)) fun a2 =>
pk c5 (iB true) a2 <| oB fun c18 =>
wif c18 ((none:WR)) <|
vv (zdf (iS c4)) <| oN fun c19 =>
wblock (fun(h1:FH) =>
kr (iB true) h1) fun j10 =>
wloop (fun _ _ _ _=>none) (fun j11 (c1:Nat) (c2:LB) (c3:Nat) (h0:FH) =>
nbl c1 c3 fun c20 =>
wif c20 (wblock (fun(c21:Nat) (c22:LB) (c23:Nat) (h2:FH) =>
nad c21 1 fun c24 =>
j11 c24 c22 c23 h2) fun j12 =>
vv (zpg (iS c2) (iN c1)) <| oP fun c0 =>
wblock (fun(c25:Nat) (c26:LB) (c27:Nat) (h3:FH) =>
j12 c25 c26 c27 h3) fun j13 =>
v_eql (.p c0) (.p (.int .u8 9)) <| oB fun c7 =>
wblock (fun(c28:Bool) (c29:Nat) (c30:LB) (c31:Nat) (c8:PVal) (h4:FH) =>
wif c28 ((none:WR)) <|
v_geq (.p c8) (.p (.int .u8 65)) <| oB fun c6 =>
wgV (iB c6) true (vv (x_mov (.p c8))) fun a3 =>
wgV (iB c6) true (v_leq a3 (.p (.int .u8 90))) fun a4 =>
pk c6 a4 (iB false) <| oB fun c32 =>
wif c32 ((none:WR)) <|
j13 c29 c30 c31 h4) fun j0 =>
wif c7 (j0 c7 c1 c2 c3 c0 h0) <|
v_eql (.p c0) (.p (.int .u8 10)) <| oB fun c9 =>
wblock (fun(c33:Bool) (c34:Nat) (c35:LB) (c36:Nat) (c37:PVal) (h5:FH) =>
j0 c33 c34 c35 c36 c37 h5) fun j1 =>
wif c9 (j1 c9 c1 c2 c3 c0 h0) <|
v_eql (.p c0) (.p (.int .u8 12)) <| oB fun c10 =>
wblock (fun(c38:Bool) (c39:Nat) (c40:LB) (c41:Nat) (c42:PVal) (h6:FH) =>
j1 c38 c39 c40 c41 c42 h6) fun j2 =>
wif c10 (j2 c10 c1 c2 c3 c0 h0) <|
v_eql (.p c0) (.p (.int .u8 32)) <| oB fun c11 =>
wblock (fun(c43:Bool) (c44:Nat) (c45:LB) (c46:Nat) (c47:PVal) (h7:FH) =>
j2 c43 c44 c45 c46 c47 h7) fun j3 =>
wif c11 (j3 c11 c1 c2 c3 c0 h0) <|
v_eql (.p c0) (.p (.int .u8 0)) <| oB fun c12 =>
wblock (fun(c48:Bool) (c49:Nat) (c50:LB) (c51:Nat) (c52:PVal) (h8:FH) =>
j3 c48 c49 c50 c51 c52 h8) fun j4 =>
wif c12 (j4 c12 c1 c2 c3 c0 h0) <|
v_eql (.p c0) (.p (.int .u8 34)) <| oB fun c13 =>
wblock (fun(c53:Bool) (c54:Nat) (c55:LB) (c56:Nat) (c57:PVal) (h9:FH) =>
j4 c53 c54 c55 c56 c57 h9) fun j5 =>
wif c13 (j5 c13 c1 c2 c3 c0 h0) <|
v_eql (.p c0) (.p (.int .u8 39)) <| oB fun c14 =>
wblock (fun(c58:Bool) (c59:Nat) (c60:LB) (c61:Nat) (c62:PVal) (h10:FH) =>
j5 c58 c59 c60 c61 c62 h10) fun j6 =>
wif c14 (j6 c14 c1 c2 c3 c0 h0) <|
v_eql (.p c0) (.p (.int .u8 62)) <| oB fun c15 =>
wblock (fun(c63:Bool) (c64:Nat) (c65:LB) (c66:Nat) (c67:PVal) (h11:FH) =>
j6 c63 c64 c65 c66 c67 h11) fun j7 =>
wif c15 (j7 c15 c1 c2 c3 c0 h0) <|
v_eql (.p c0) (.p (.int .u8 47)) <| oB fun c16 =>
wblock (fun(c68:Bool) (c69:Nat) (c70:LB) (c71:Nat) (c72:PVal) (h12:FH) =>
j7 c68 c69 c70 c71 c72 h12) fun j8 =>
wif c16 (j8 c16 c1 c2 c3 c0 h0) <|
v_eql (.p c0) (.p (.int .u8 61)) <| oB fun c17 =>
wblock (fun(c73:Bool) (c74:Nat) (c75:LB) (c76:Nat) (c77:PVal) (h13:FH) =>
j8 c73 c74 c75 c76 c77 h13) fun j9 =>
wif c17 (j9 c17 c1 c2 c3 c0 h0) <|
v_eql (.p c0) (.p (.int .u8 60)) <| oB fun c78 =>
j9 c78 c1 c2 c3 c0 h0) <|
j10 h0) L 0 c4 c19 h
noncomputable def zxx:KFun:=⟨zakm,true,false⟩
theorem zaee:KOK tr.look F_Q86 zxx:=⟨i_Q86,(.sq (.rg [qb]) (.sq (.sq (.rg [qs,qb,qb,qa,qa,qa,qb]) (.cj (.sq .lf .lf) .lf)) (.sq (.sq (.rg [qs,qn,qn]) (.bk [] (.lp [.slot 14 qn, .slot 0 qs, .slot 13 qn] (.sq (.rg [qb]) (.sq (.cj .lf .lf) (.sq (.bk [.slot 14 qn, .slot 0 qs, .slot 13 qn] (.sq (.rg [qn,qn]) (.sq (.rg [qs,qn,qp,qp]) (.sq (.rg [qp]) (.bk [.slot 14 qn, .slot 0 qs, .slot 13 qn] (.sq (.sq (.rg [qb,qb]) (.cd [.slot 27 qb, .slot 14 qn, .slot 0 qs, .slot 13 qn, .slot 4 qp] .lf (.sq (.rg [qb,qb]) (.cd [.slot 27 qb, .slot 14 qn, .slot 0 qs, .slot 13 qn, .slot 4 qp] .lf (.sq (.rg [qb,qb]) (.cd [.slot 27 qb, .slot 14 qn, .slot 0 qs, .slot 13 qn, .slot 4 qp] .lf (.sq (.rg [qb,qb]) (.cd [.slot 27 qb, .slot 14 qn, .slot 0 qs, .slot 13 qn, .slot 4 qp] .lf (.sq (.rg [qb,qb]) (.cd [.slot 27 qb, .slot 14 qn, .slot 0 qs, .slot 13 qn, .slot 4 qp] .lf (.sq (.rg [qb,qb]) (.cd [.slot 27 qb, .slot 14 qn, .slot 0 qs, .slot 13 qn, .slot 4 qp] .lf (.sq (.rg [qb,qb]) (.cd [.slot 27 qb, .slot 14 qn, .slot 0 qs, .slot 13 qn, .slot 4 qp] .lf (.sq (.rg [qb,qb]) (.cd [.slot 27 qb, .slot 14 qn, .slot 0 qs, .slot 13 qn, .slot 4 qp] .lf (.sq (.rg [qb,qb]) (.cd [.slot 27 qb, .slot 14 qn, .slot 0 qs, .slot 13 qn, .slot 4 qp] .lf (.sq (.rg [qb,qb]) (.cd [.slot 27 qb, .slot 14 qn, .slot 0 qs, .slot 13 qn, .slot 4 qp] .lf (.rg [qb,qb]))))))))))))))))))))) (.cj (.sq .lf .lf) (.sq (.rg [qp,qb,qb,qa,qa,qb]) (.cj (.sq .lf .lf) .lf))))))))) (.rg [qn,qn]))))))) (.sq (.rg [qb]) .lf)))),[qs],[],[],look_Q86,rfl,rfl,rfl,rfl,by kernel_rfl⟩
noncomputable def zahn:KC:=fun F L v h kr =>
wcons v <| ooP fun c2 r1 =>
wnil r1 <|
v_len (.p c2) <| oN fun c6 =>
nbl 12 c6 fun c7 =>
wif c7 ((none:WR)) <|
v_len (.p c2) <| oN fun c8 =>
wblock (fun(h2:FH) =>
kr (iB true) h2) fun j0 =>
wloop (fun _ _ _ _ _=>none) (fun j1 (c3:Nat) (c9:LB) (c4:PVal) (c5:Nat) (h0:FH) =>
nbl c3 c5 fun c10 =>
wif c10 (wblock (fun(c11:Nat) (c12:LB) (c13:PVal) (c14:Nat) (h3:FH) =>
nad c11 1 fun c15 =>
j1 c15 c12 c13 c14 h3) fun j2 =>
zab 2 (.p c4) (iN c3) <| oP fun c16 =>
zac (some 2) (.p c16) ⟨[nb_ 5],h0⟩ <| oA fun r0 =>
wle r0 2 <|
wg 0 r0 <| oS fun c17 =>
v_leq (iS c17) (iS c9) <| oB fun c0 =>
wgV (iB c0) false (zaa 0 (iX 5 0)) fun a0 =>
wgV (iB c0) false (zac none a0 ⟨[b_ 5 r0 2,b_ 5 [(iS []),(iS [])] 2,nb_ 5],h0⟩) fun a1 =>
wgH (iB c0) false (wcallH (.p (.func 86)) [a1] F) h0 fun a2 h1 =>
wgV (iB c0) false (v_not a2) fun a3 =>
pk c0 (iB true) a3 <| oB fun c1 =>
wgV (iB c1) false (zaa 1 (iX 5 0)) fun a4 =>
wgV (iB c1) false (zac none a4 ⟨[b_ 5 r0 2,b_ 5 [(iS []),(iS [])] 2,nb_ 5],h1⟩) fun a5 =>
wgV (iB c1) false (vv (zdf a5)) fun a6 =>
wgV (iB c1) false (v_gtr a6 (iN 4096)) fun a7 =>
pk c1 (iB true) a7 <| oB fun c18 =>
wif c18 ((none:WR)) <|
wg 0 r0 <| oS fun c19 =>
j2 c3 c19 c4 c5 h1) <|
j0 h0) L 0 [] c2 c8 h
noncomputable def ztf:KFun:=⟨zahn,true,false⟩
theorem zzg:KOK tr.look F_Q87 ztf:=⟨i_Q87,(.sq (.rg [qb]) (.sq (.sq (.rg [qp,qn,qb]) (.cj (.sq .lf .lf) .lf)) (.sq (.rg [qs]) (.sq (.sq (.rg [qp,qn,qn]) (.bk [] (.lp [.slot 11 qn, .slot 3 qs, .slot 9 qp, .slot 10 qn] (.sq (.rg [qb]) (.sq (.cj .lf .lf) (.sq (.bk [.slot 11 qn, .slot 3 qs, .slot 9 qp, .slot 10 qn] (.sq (.rg [qp,qv,(qx 5 0),(.tup [])]) (.sq (.sq (.rg [(qx 5 0),qs,qs,qb,qb,qa,qa,qa,qa,qb,qb,qa,qa,qa,qa,qb]) (.cj (.sq .lf .lf) .lf)) (.rg [(qx 5 0),qs,qs])))) (.rg [qn,qn]))))))) (.sq (.rg [qb]) .lf))))),[qp],[5],[],look_Q87,rfl,rfl,rfl,rfl,by kernel_rfl⟩
noncomputable def zaho:KC:=fun F L v h kr =>
wcons v <| ooA fun r0 r3 =>
wnil r3 <|
wle r0 5 <|
wcut r0 0 5 fun r1 =>
wcut r0 0 5 fun r4 =>
F 27 [(.agg r4)] h <| ooP fun c11 h3 =>
wle r1 5 <|
wspl [(iN 0),(iS []),(iS []),(.p .nilslice),(.p .nilslice),(.p .nilslice),(.p .nilslice),(.p .nilslice)] 0 r1 fun r5 =>
wspl r5 5 [(.p c11)] fun r2 =>
wle r2 8 <|
hpush h3 (.cells r2 8 0 false) fun c12 h1 =>
ift (wchk F ⟨[b_ 1 r0 5,nb_ 1],h1⟩ (.load (some 5) (.const (iX 1 0))) (.agg r1)) <|
wcut r0 0 5 fun r6 =>
F 132 [(.agg r6)] h1 <| ooP fun c7 h4 =>
v_len (.p c7) <| oN fun c13 =>
wblock (fun(c4 c5 c6:Nat) (h2:FH) =>
nae c6 5 fun c14 =>
hld none c4 c5 c14 h2 <| oP fun c15 =>
v_len (.p c15) <| oN fun c8 =>
zbw 1 [(.bool false)] (iN c8) (iN c8) h2 <| ooL fun c16 c17 c18 c19 h5 =>
nae c6 7 fun c20 =>
hwr h5 c4 c5 c20 [(.slice c16 c17 c18 c19)] fun h6 =>
kr (iH c4 c5 c6) h6) fun j0 =>
wloop (fun _ _ _ _ _ _ _=>none) (fun j1 (c3 c0 c1 c2:Nat) (c9:PVal) (c10:Nat) (h0:FH) =>
nbl c3 c10 fun c21 =>
wif c21 (wblock (fun(c22 c23 c24 c25:Nat) (c26:PVal) (c27:Nat) (h7:FH) =>
nad c22 1 fun c28 =>
j1 c28 c23 c24 c25 c26 c27 h7) fun j2 =>
zab 1 (.p c9) (iN c3) <| oP fun c29 =>
zac none (.p c29) ⟨[],h0⟩ <| oP fun c30 =>
nae c2 6 fun c31 =>
hld none c0 c1 c31 h0 fun a0 =>
nae c2 5 fun c32 =>
hld none c0 c1 c32 h0 <| oP fun c33 =>
zab 10 (.p c33) (iN c3) <| oP fun c34 =>
zaa 1 (.p c34) <| oP fun c35 =>
zac none (.p c35) ⟨[],h0⟩ <| oN fun c36 =>
vv (zfs .u64 (iN c36)) <| oP fun c37 =>
vv (xgen .shl (.p c37) (.p (.int .u64 32))) <| oP fun c38 =>
nae c2 5 fun c39 =>
hld none c0 c1 c39 h0 <| oP fun c40 =>
zab 10 (.p c40) (iN c3) <| oP fun c41 =>
zaa 3 (.p c41) <| oP fun c42 =>
zac none (.p c42) ⟨[],h0⟩ <| oN fun c43 =>
vv (zfs .u64 (iN c43)) <| oP fun c44 =>
vv (x_or (.p c38) (.p c44)) <| oP fun c45 =>
hpush h0 (.cells [(.p c30),(.p c45)] 2 0 false) fun c46 h8 =>
zad 2 a0 (.slice c46 0 0 1) h8 <| ooL fun c47 c48 c49 c50 h9 =>
nae c2 6 fun c51 =>
hwr h9 c0 c1 c51 [(.slice c47 c48 c49 c50)] fun h10 =>
j2 c3 c0 c1 c2 c9 c10 h10) <|
j0 c0 c1 c2 h0) L 0 c12 0 0 c7 c13 h4
noncomputable def ztg:KFun:=⟨zaho,false,false⟩
theorem zzh:KOK tr.look F_Q88 ztg:=⟨i_Q88,(.sq (.rg [(qx 1 0),qp]) (.sq (.rg [qv,qv,qp,qv,qh,qh]) (.sq (.sq (.rg [qv,qp,qn,qn]) (.bk [.slot 3 qh] (.lp [.slot 14 qn, .slot 3 qh, .slot 12 qp, .slot 13 qn] (.sq (.rg [qb]) (.sq (.cj .lf .lf) (.sq (.bk [.slot 14 qn, .slot 3 qh, .slot 12 qp, .slot 13 qn] (.sq (.rg [qn,qp,qp,qn,qp]) (.rg [qh,qh,qh,qh,qa,qp,qh,qh,qh,qp,qn,qp,qp,qn,qp,qp,qh,qh,qh,qp,qn,qp,qp,qn,qp,qp,qv,ql,ql,qh,qh,(.tup [])]))) (.rg [qn,qn]))))))) (.sq (.rg [qh,qh,qh,qh,qp,qn,ql,qh,qh,(.tup [])]) (.sq (.rg [qh,qh]) .lf))))),[qv],[1],[],look_Q88,rfl,rfl,rfl,rfl,by kernel_rfl⟩
noncomputable def zrt:KC:=fun _ L v h kr =>
wcons v <| ooN fun c6 r0 =>
wcons r0 <| ooN fun c19 r1 =>
wcons r1 <| ooH fun c7 c8 c9 r2 =>
wcons r2 <| ooH fun c20 c21 c22 r3 =>
wcons r3 <| ooH fun c23 c24 c25 r4 =>
wnil r4 <|
hld none c7 c8 c9 h <| oH fun c26 c27 c28 =>
nae c28 5 fun c29 =>
hld none c26 c27 c29 h <| oP fun c30 =>
zab 10 (.p c30) (iN c6) <| oP fun c31 =>
zaa 1 (.p c31) <| oP fun c32 =>
zac none (.p c32) ⟨[],h⟩ <| oN fun c33 =>
wblock (fun(h2:FH) =>
kr (.tup []) h2) fun j0 =>
wloop (fun _ _ _ _ _ _ _ _ _ _ _ _ _ _=>none) (fun j1 (c0 c10 c11 c12 c1 c13 c14 c15 c2 c3 c4 c5 c16:Nat) (h1:FH) =>
nbl c0 c16 fun c34 =>
wif c34 (wblock (fun(c35 c36 c37 c38 c39 c40 c41 c42 c43 c44 c45 c46 c47:Nat) (h3:FH) =>
nad c35 1 fun c48 =>
j1 c48 c36 c37 c38 c39 c40 c41 c42 c43 c44 c45 c46 c47 h3) fun j2 =>
hld none c3 c4 c5 h1 fun a0 =>
nad c1 c0 fun c49 =>
nad c2 c0 fun c50 =>
hpush h1 (.cells [(iN c49),(iN c50)] 2 0 false) fun c51 h4 =>
zad 2 a0 (.slice c51 0 0 1) h4 <| ooL fun c52 c53 c54 c55 h5 =>
hwr h5 c3 c4 c5 [(.slice c52 c53 c54 c55)] fun h0 =>
hld none c10 c11 c12 h0 <| oH fun c56 c57 c58 =>
nae c58 7 fun c59 =>
hld none c56 c57 c59 h0 <| oL fun c60 c61 c62 c63 =>
nad c1 c0 fun c17 =>
hld none c13 c14 c15 h0 <| oH fun c64 c65 c66 =>
nae c66 7 fun c67 =>
hld none c64 c65 c67 h0 <| oL fun c68 c69 c70 c71 =>
nad c2 c0 fun c18 =>
nlt c17 c63 <|
nam c62 c17 1 fun c72 =>
hwr h0 c60 c61 c72 [(iB true)] fun h6 =>
nlt c18 c71 <|
nam c70 c18 1 fun c73 =>
hwr h6 c68 c69 c73 [(iB true)] fun h7 =>
j2 c0 c10 c11 c12 c1 c13 c14 c15 c2 c3 c4 c5 c16 h7) <|
j0 h1) L 0 c7 c8 c9 c6 c23 c24 c25 c19 c20 c21 c22 c33 h
noncomputable def zho:KFun:=⟨zrt,false,false⟩
theorem zoa:KOK tr.look F_Q89 zho:=⟨i_Q89,(.sq (.rg [qh,qh,qh,qp,qn,qp,qp,qn,qn]) (.bk [] (.lp [.slot 16 qn, .slot 2 qh, .slot 0 qn, .slot 4 qh, .slot 1 qn, .slot 3 qh, .slot 15 qn] (.sq (.rg [qb]) (.sq (.cj .lf .lf) (.sq (.bk [.slot 16 qn, .slot 2 qh, .slot 0 qn, .slot 4 qh, .slot 1 qn, .slot 3 qh, .slot 15 qn] (.sq (.rg [qn,qn]) (.sq (.rg [qa,qn,qn,qn,qn,qn,qn,qv,ql,ql,(.tup [])]) (.rg [qh,qh,qh,ql,qn,qn,qn,qh,qh,qh,ql,qn,qn,qn,qh,(.tup []),qh,(.tup [])])))) (.rg [qn,qn]))))))),[qn,qn,qh,qh,qh],[],[],look_Q89,rfl,rfl,rfl,rfl,by kernel_rfl⟩
noncomputable def zqd:KC:=fun F _ v h kr =>
wcons v <| ooH fun c0 c1 c2 r2 =>
wcons r2 <| ooN fun c3 r3 =>
wnil r3 <|
hld (some 5) c0 c1 c2 h <| oA fun r4 =>
F 71 [(.agg r4),(iN c3)] h <| ooT fun r5 h0 =>
wcons r5 <| ooA fun r0 r6 =>
wcons r6 <| ooB fun _ r7 =>
wnil r7 <|
wle r0 5 <|
wcut r0 0 5 fun r1 =>
wle r1 5 <|
wcut r1 0 5 fun r8 =>
kr (.agg r8) h0
noncomputable def zgm:KFun:=⟨zqd,false,false⟩
theorem zmc:KOK tr.look F_Q90 zgm:=⟨i_Q90,(.sq (.rg [(qx 4 0)]) (.sq (.rg [qh,qh,qh,qv,qn,(.tup [.aggv,(.c .bool)]),(.tup [.aggv,(.c .bool)]),qv,qb,(qx 5 0),(.tup []),qb]) (.sq (.rg [qv,(.tup [])]) .lf))),[qh,qn],[5,4],[],look_Q90,rfl,rfl,rfl,rfl,by kernel_rfl⟩
noncomputable def zru:KC:=fun F _ v h kr =>
wcons v <| ooA fun r0 r2 =>
wcons r2 <| ooA fun r1 r3 =>
wnil r3 <|
wle r0 2 <|
wle r1 2 <|
wg 0 r0 <| oN fun c0 =>
wg 0 r1 <| oN fun c1 =>
F 40 [(iN c0),(iN c1)] h <| ooN fun c2 h0 =>
kr (iN c2) h0
noncomputable def zhp:KFun:=⟨zru,true,false⟩
theorem zob:KOK tr.look F_Q91 zhp:=⟨i_Q91,(.sq (.rg [(qx 2 0),(qx 3 0),qn]) (.sq (.rg [(qx 2 0),qn,(qx 3 0),qn,qn,qn]) .lf)),[qv,qv],[2,3],[],look_Q91,rfl,rfl,rfl,rfl,by kernel_rfl⟩
noncomputable def zje:KC:=fun _ L v h kr =>
wcons v <| ooH fun c17 c18 c19 r0 =>
wcons r0 <| ooN fun c8 r1 =>
wnil r1 <|
hpush h (.map [] 0) fun c20 h4 =>
nad c8 1 fun c21 =>
wblock (fun(c22:Nat) (h5:FH) =>
kr (.map c22) h5) fun j1 =>
wloop (fun _ _ _ _ _ _ _=>none) (fun j2 (c3 c0 c1 c2 c7 c4:Nat) (h0:FH) =>
nae c2 10 fun c23 =>
hld none c0 c1 c23 h0 <| oP fun c24 =>
zab 10 (.p c24) (iN c4) <| oP fun c25 =>
zaa 1 (.p c25) <| oP fun c26 =>
zac none (.p c26) ⟨[],h0⟩ <| oN fun c27 =>
nad c4 c27 fun c28 =>
nbl c3 c28 fun c29 =>
wif c29 (wblock (fun(c30 c31 c32 c33 c34 c35:Nat) (h6:FH) =>
nad c30 1 fun c36 =>
j2 c36 c31 c32 c33 c34 c35 h6) fun j0 =>
nae c2 14 fun c37 =>
hld none c0 c1 c37 h0 <| oM fun c38 =>
zaj true (.p (.int .i64 0)) ⟨false,[.int]⟩ (.map c38) (iN c3) h0 <| ooT fun r2 h1 =>
wcons r2 <| ooN fun c39 r3 =>
wcons r3 <| ooB fun c40 r4 =>
wnil r4 <|
bf (gnot c40) fun c41 =>
wif c41 (j0 c3 c0 c1 c2 c7 c4 h1) <|
nae c2 11 fun c42 =>
hld none c0 c1 c42 h1 <| oP fun c43 =>
zab 10 (.p c43) (iN c39) <| oP fun c44 =>
zaa 0 (.p c44) <| oP fun c45 =>
zac none (.p c45) ⟨[],h1⟩ <| oN fun c46 =>
wblock (fun(c47 c48 c49 c50 c51 c52:Nat) (h7:FH) =>
j0 c47 c48 c49 c50 c51 c52 h7) fun j3 =>
wloop (fun _ _ _ _ _ _ _ _=>none) (fun j4 (c5:Int) (c9 c10 c11 c6 c12 c13:Nat) (h3:FH) =>
v_geq (iI c5) (iN 0) <| oB fun c53 =>
wif c53 (wblock (fun(c54 c14 c15 c16 c55 c56 c57:Nat) (h2:FH) =>
nae c16 11 fun c58 =>
hld none c14 c15 c58 h2 <| oP fun c59 =>
zab 10 (.p c59) (iN c54) <| oP fun c60 =>
zaa 0 (.p c60) <| oP fun c61 =>
zac none (.p c61) ⟨[],h2⟩ <| oI fun c62 =>
j4 c62 c14 c15 c16 c55 c56 c57 h2) fun j5 =>
zaj false (.p (.int .i64 0)) ⟨false,[.int]⟩ (.map c6) (iI c5) h3 <| ooN fun c63 h8 =>
nad c63 1 fun c64 =>
zbp ⟨false,[.int]⟩ (.map c6) (iI c5) (iN c64) h8 <| ooT fun r5 h9 =>
wnil r5 <|
tN (iI c5) fun c65 =>
j5 c65 c9 c10 c11 c6 c12 c13 h9) <|
j3 c12 c9 c10 c11 c6 c13 h3) L (.ofNat c46) c0 c1 c2 c7 c3 c4 h1) <|
j1 c7 h0) L c21 c17 c18 c19 c20 c8 h4
noncomputable def zdo:KFun:=⟨zje,false,false⟩
theorem zhq:KOK tr.look F_Q92 zdo:=⟨i_Q92,(.sq (.rg [qp]) (.sq (.rg [qm,qm]) (.sq (.sq (.rg [qn,qn,qn]) (.bk [.slot 5 qm] (.lp [.slot 6 qn, .slot 0 qh, .slot 5 qm, .slot 1 qn] (.sq (.sq (.rg [qn,qn,qh,qh,qh,qp,qn,qp,qp,qn,qn,qb]) (.cj .lf .lf)) (.sq (.bk [.slot 6 qn, .slot 0 qh, .slot 5 qm, .slot 1 qn] (.sq (.rg [qh,qh,qh,qm,qn,(.tup [(.c .nat),(.c .bool)]),(.tup [(.c .nat),(.c .bool)]),qn,qb,qn,qb]) (.sq (.sq (.rg [qb,qb]) (.cj .lf .lf)) (.sq (.rg [qh,qh,qh,qp,qn,qp,qp,qn,qn]) (.bk [.slot 6 qn, .slot 0 qh, .slot 5 qm, .slot 1 qn] (.lp [.slot 9 qi, .slot 0 qh, .slot 5 qm, .slot 6 qn, .slot 1 qn] (.sq (.sq (.rg [qi,qb]) (.cj .lf .lf)) (.sq (.bk [.slot 9 qn, .slot 0 qh, .slot 5 qm, .slot 6 qn, .slot 1 qn] (.rg [qm,qn,qn,qn,(.tup [])])) (.rg [qh,qh,qh,qp,qn,qp,qp,qi,qi]))))))))) (.rg [qn,qn,qn])))))) (.sq (.rg [qm,qm]) .lf)))),[qh,qn],[],[],look_Q92,rfl,rfl,rfl,rfl,by kernel_rfl⟩
noncomputable def zjf:KC:=fun _ _ v h kr =>
wcons v <| ooN fun c5 r0 =>
wcons r0 <| ooH fun c0 c1 c2 r1 =>
wcons r1 <| ooH fun c6 c7 c8 r2 =>
wnil r2 <|
hld none c0 c1 c2 h <| oH fun c9 c10 c11 =>
nae c11 10 fun c12 =>
hld none c9 c10 c12 h <| oP fun c13 =>
hld none c6 c7 c8 h <| oN fun c14 =>
zab 10 (.p c13) (iN c14) <| oP fun c15 =>
zaa 1 (.p c15) <| oP fun c16 =>
zac none (.p c16) ⟨[],h⟩ <| oN fun c17 =>
hld none c0 c1 c2 h <| oH fun c18 c19 c20 =>
nae c20 11 fun c21 =>
hld none c18 c19 c21 h <| oP fun c22 =>
zab 10 (.p c22) (iN c5) <| oP fun c23 =>
zaa 1 (.p c23) <| oP fun c24 =>
zac none (.p c24) ⟨[],h⟩ <| oN fun c25 =>
nad c17 c25 fun c3 =>
ift (Nat.ble 2 c3) <|
nforce (Nat.sub c3 2) fun c4 =>
nlt c4 lim63 <|
kr (iN c4) h
noncomputable def zdp:KFun:=⟨zjf,false,false⟩
theorem zhr:KOK tr.look F_Q93 zdp:=⟨i_Q93,(.sq (.rg [qn]) (.sq (.rg [qh,qh,qh,qp,qn,qp,qp,qn,qh,qh,qh,qp,qn,qp,qp,qn,qn,qn,qn]) .lf)),[qn,qh,qh],[],[],look_Q93,rfl,rfl,rfl,rfl,by kernel_rfl⟩
noncomputable def zaol:KC:=fun _ _ v h kr =>
wcons v <| ooA fun r0 r1 =>
wnil r1 <|
wle r0 10 <|
wg 5 r0 <| oN fun c0 =>
wg 6 r0 <| oS fun c1 =>
kr (.agg [(iN c0),(iS c1)]) h
noncomputable def zabj:KFun:=⟨zaol,true,false⟩
theorem zahp:KOK tr.look F_Q94 zabj:=⟨i_Q94,(.sq (.rg [(qx 1 0),(qx 2 0)]) (.sq (.rg [(qx 1 5),(qx 1 5),qn,(qx 1 5),(qx 1 6),qs,qv,(.tup [])]) .lf)),[qv],[1,2],[],look_Q94,rfl,rfl,rfl,rfl,by kernel_rfl⟩
noncomputable def zzi:KC:=fun _ _ v h kr =>
wcons v <| ooN fun c0 r0 =>
wcons r0 <| ooN fun c1 r1 =>
wnil r1 <|
vv (x_mul (iN 4) (iN c0)) <| oN fun c2 =>
nbl c1 c2 fun c3 =>
kr (iB c3) h
noncomputable def zmv:KFun:=⟨zzi,true,false⟩
theorem ztr:KOK tr.look F_Q96 zmv:=⟨i_Q96,(.sq (.rg [qb]) (.sq (.rg [qn,qn,qn,qb,qb]) .lf)),[qn,qn],[],[],look_Q96,rfl,rfl,rfl,rfl,by kernel_rfl⟩
noncomputable def zxy:KC:=fun F _ v h kr =>
wcons v <| ooA fun r0 r4 =>
wcons r4 <| ooA fun r1 r5 =>
wnil r5 <|
wle r0 5 <|
wle r1 5 <|
wcut r0 0 5 fun r6 =>
wcut r1 0 5 fun r7 =>
F 133 [(.agg r6),(.agg r7)] h <| ooT fun r8 h0 =>
wcons r8 <| ooH fun c4 c5 c6 r9 =>
wcons r9 <| ooA fun r2 r10 =>
wcons r10 <| ooA fun r3 r11 =>
wcons r11 <| ooB fun c7 r12 =>
wnil r12 <|
wle r2 2 <|
wle r3 2 <|
bf (gnot c7) fun c8 =>
wif c8 (kr (.tup [(.p .nilslice),(iN 2)]) h0) <|
wcut r2 0 2 fun r13 =>
wcut r3 0 2 fun r14 =>
F 134 [(iH c4 c5 c6),(.agg r13),(.agg r14)] h0 <| ooL fun c0 c1 c2 c3 h1 =>
F 38 [(.slice c0 c1 c2 c3),(.p (.func 135))] h1 <| ooT fun r15 h2 =>
wnil r15 <|
kr (.tup [(.slice c0 c1 c2 c3),(iN 0)]) h2
noncomputable def zld:KFun:=⟨zxy,true,true⟩
theorem zrv:KOK tr.look F_Q97 zld:=⟨i_Q97,(.sq (.rg [(qx 2 0),(qx 3 0),qp,qn]) (.sq (.rg [qv,qv,(.tup [(.c .hp), .aggv, .aggv,(.c .bool)]),(.tup [(.c .hp), .aggv, .aggv,(.c .bool)]),qh,qv,qv,qb,(qx 7 0),(qx 8 0),qh,(.tup []),(.tup []),qb]) (.sq (.sq (.rg [qb,qb]) (.cj (.sq (.rg [qp,qn]) .lf) .lf)) (.sq (.rg [qh,qv,qv,ql,ql]) (.sq (.rg [ql,(.tup [])]) (.sq (.rg [ql,ql,qn]) .lf)))))),[qv,qv],[8,7,2,3],[],look_Q97,rfl,rfl,rfl,rfl,by kernel_rfl⟩
noncomputable def zakn:KC:=fun _ L v h kr =>
wcons v <| ooA fun r1 r2 =>
wcons r2 <| ooS fun c5 r3 =>
wnil r3 <|
wle r1 5 <|
wg 3 r1 <| oP fun c1 =>
v_len (.p c1) <| oN fun c6 =>
wblock (fun(h1:FH) =>
kr (.tup [(iS []),(iB false)]) h1) fun j0 =>
wloop (fun _ _ _ _ _=>none) (fun _ (c0:Nat) (c2:LB) (c3:PVal) (c4:Nat) (h0:FH) =>
nbl c0 c4 fun c7 =>
wif c7 (wblock (fun(_ _ _ _:IVal) (_:FH) =>
(none:WR)) fun j1 =>
zab 2 (.p c3) (iN c0) <| oP fun c8 =>
zac (some 2) (.p c8) ⟨[nb_ 7],h0⟩ <| oA fun r0 =>
wle r0 2 <|
wg 0 r0 <| oS fun c9 =>
v_eql (iS c9) (iS c2) <| oB fun c10 =>
wif c10 (wg 1 r0 <| oS fun c11 =>
kr (.tup [(iS c11),(iB true)]) h0) <|
j1 (iN c0) (iS c2) (.p c3) (iN c4) h0) <|
j0 h0) L 0 c5 c1 c6 h
noncomputable def zxz:KFun:=⟨zakn,true,false⟩
theorem zaef:KOK tr.look F_Q98 zxz:=⟨i_Q98,(.sq (.rg [(qx 2 0),qs,qb]) (.sq (.sq (.rg [(qx 2 3),qp,qn,qn]) (.bk [] (.lp [.slot 11 qn, .slot 1 qs, .slot 9 qp, .slot 10 qn] (.sq (.rg [qb]) (.sq (.cj .lf .lf) (.sq (.bk [.slot 11 qa, .slot 1 qa, .slot 9 qa, .slot 10 qa] (.sq (.rg [qp,qv,(qx 7 0),(.tup [])]) (.sq (.rg [(qx 7 0),qs,qs,qb]) (.cj (.sq (.rg [(qx 7 1),qs,qs,qb]) .lf) .lf)))) .lf)))))) (.sq (.rg [qs,qb]) .lf))),[qv,qs],[7,2],[],look_Q98,rfl,rfl,rfl,rfl,by kernel_rfl⟩
noncomputable def zcj:KC:=fun _ L v h kr =>
wcons v <| ooP fun c1 r0 =>
wcons r0 <| ooN fun c0 r1 =>
wcons r1 <| ooN fun c2 r2 =>
wnil r2 <|
nad c0 1 fun c3 =>
wblock (fun(h0:FH) =>
kr (.tup []) h0) fun j0 =>
wloop (fun _ _ _ _ _=>none) (fun _ (_ c4:Nat) (_:PVal) (c5:Nat) (h1:FH) =>
nbl c4 c5 fun c6 =>
wif c6 ((none:WR)) <|
j0 h1) L c0 c3 c1 c2 h
noncomputable def zav:KFun:=⟨zcj,true,false⟩
theorem zcb:KOK tr.look F_Q99 zav:=⟨i_Q99,(.sq (.rg [qn,qn,qn]) (.bk [] (.lp [.slot 1 qn, .slot 6 qn, .slot 0 qp, .slot 2 qn] (.sq (.sq (.rg [qn,qn,qb]) (.cj .lf .lf)) (.sq .lf .lf))))),[qp,qn,qn],[],[],look_Q99,rfl,rfl,rfl,rfl,by kernel_rfl⟩
noncomputable def zrw:KC:=fun _ _ v h kr =>
wcons v <| ooP fun c0 r0 =>
wnil r0 <|
v_geq (.p c0) (.p (.int .u64 4294967296)) <| oB fun c3 =>
wblock (fun(c1:PVal) (c4:Nat) (h0:FH) =>
v_geq (.p c1) (.p (.int .u64 65536)) <| oB fun c5 =>
wblock (fun(c2:PVal) (c6:Nat) (h1:FH) =>
v_geq (.p c2) (.p (.int .u64 256)) <| oB fun c7 =>
wblock (fun(c8:Nat) (c9:PVal) (h2:FH) =>
vv (zfs .u8 (.p c9)) <| oP fun c10 =>
vv (zpg (iS [0,1,2,2,3,3,3,3,4,4,4,4,4,4,4,4,5,5,5,5,5,5,5,5,5,5,5,5,5,5,5,5,6,6,6,6,6,6,6,6,6,6,6,6,6,6,6,6,6,6,6,6,6,6,6,6,6,6,6,6,6,6,6,6,7,7,7,7,7,7,7,7,7,7,7,7,7,7,7,7,7,7,7,7,7,7,7,7,7,7,7,7,7,7,7,7,7,7,7,7,7,7,7,7,7,7,7,7,7,7,7,7,7,7,7,7,7,7,7,7,7,7,7,7,7,7,7,7,8,8,8,8,8,8,8,8,8,8,8,8,8,8,8,8,8,8,8,8,8,8,8,8,8,8,8,8,8,8,8,8,8,8,8,8,8,8,8,8,8,8,8,8,8,8,8,8,8,8,8,8,8,8,8,8,8,8,8,8,8,8,8,8,8,8,8,8,8,8,8,8,8,8,8,8,8,8,8,8,8,8,8,8,8,8,8,8,8,8,8,8,8,8,8,8,8,8,8,8,8,8,8,8,8,8,8,8,8,8,8,8,8,8,8,8,8,8,8,8,8,8,8,8,8,8,8,8]) (.p c10)) <| oP fun c11 =>
vv (zfs .i64 (.p c11)) <| oN fun c12 =>
nad c8 c12 fun c13 =>
kr (iN c13) h2) fun j0 =>
wif c7 ((none:WR)) <|
j0 c6 c2 h1) fun j1 =>
wif c5 ((none:WR)) <|
j1 c1 c4 h0) fun j2 =>
wif c3 ((none:WR)) <|
j2 c0 0 h
noncomputable def zhs:KFun:=⟨zrw,true,false⟩
theorem zoc:KOK tr.look F_Q109 zhs:=⟨i_Q109,(.sq (.rg [qn]) (.sq (.sq (.rg [qp,qb]) (.cd [.slot 0 qp, .slot 2 qn] (.sq .lf .lf) .lf)) (.sq (.sq (.rg [qp,qb]) (.cd [.slot 0 qp, .slot 2 qn] (.sq .lf .lf) .lf)) (.sq (.sq (.rg [qp,qb]) (.cd [.slot 2 qn, .slot 0 qp] (.sq .lf .lf) .lf)) (.sq (.rg [qn,qp,qp,qp,qn,qn,qn]) .lf))))),[qp],[],[],look_Q109,rfl,rfl,rfl,rfl,by kernel_rfl⟩
noncomputable def zahq:KC:=fun _ _ v h kr =>
wcons v <| ooN fun c3 r2 =>
wcons r2 <| ooA fun r0 r3 =>
wcons r3 <| ooH fun c4 c5 c6 r4 =>
wcons r4 <| ooH fun c7 c8 c9 r5 =>
wcons r5 <| ooH fun c0 c1 c2 r6 =>
wnil r6 <|
wle r0 4 <|
hld none c4 c5 c6 h <| oN fun c10 =>
nbe c3 c10 fun c11 =>
wblock (fun(c12 c13 c14:Nat) (h0:FH) =>
hld none c12 c13 c14 h0 <| oB fun c15 =>
bf (gnot c15) fun c16 =>
kr (iB c16) h0) fun j0 =>
wif c11 (wg 0 r0 fun a0 =>
v_nil a0 fun a1 =>
zac (some 5) a1 ⟨[b_ 6 r0 4,nb_ 6],h⟩ <| oA fun r1 =>
wle r1 5 <|
hwr h c7 c8 c9 r1 fun h1 =>
hwr h1 c0 c1 c2 [(iB true)] fun h2 =>
j0 c0 c1 c2 h2) <|
j0 c0 c1 c2 h
noncomputable def zth:KFun:=⟨zahq,false,false⟩
theorem zzj:KOK tr.look F_Q110 zth:=⟨i_Q110,(.sq (.rg [(qx 6 0),qb]) (.sq (.sq (.rg [qn,qn,qb]) (.cd [.slot 4 qh] (.rg [(qx 6 0),qa,qa,qv,(.tup []),(.tup [])]) .lf)) (.sq (.rg [qb,qb,qb]) .lf))),[qn,qv,qh,qh,qh],[6],[],look_Q110,rfl,rfl,rfl,rfl,by kernel_rfl⟩
noncomputable def zdk:KC:=fun F L v h kr =>
wcons v fun a1 r0 =>
wcons r0 <| ooN fun c3 r1 =>
wcons r1 <| ooN fun c4 r2 =>
wcons r2 <| ooN fun c5 r3 =>
wcons r3 <| ooP fun c6 r4 =>
wnil r4 <|
wblock (fun(h0:FH) =>
kr (.tup []) h0) fun _ =>
wloop (fun _ _ _ _ _ _ _ _=>none) (fun j0 (c7:PVal) (c0 c1:Nat) (a0:IVal) (_ _:Bool) (_:Nat) (h1:FH) =>
wblock (fun(a2 a3 a4 a5 a6 a7 a8:IVal) (h2:FH) =>
tP a2 fun c8 =>
tN a3 fun c9 =>
tN a4 fun c10 =>
tB a6 fun c11 =>
tB a7 fun c12 =>
tN a8 fun c13 =>
j0 c8 c9 c10 a5 c11 c12 c13 h2) fun _ =>
ift (Nat.ble c1 c0) <|
nforce (Nat.sub c0 c1) fun c2 =>
nlt c2 lim63 <|
bf (Nat.ble c2 12) fun c14 =>
wif c14 (ift (passB a0) <|
F 141 [a0,(iN c1),(iN c0),(.p c7)] h1 <| ooT fun r5 h3 =>
wnil r5 <|
kr (.tup []) h3) <|
(none:WR)) L c6 c4 c3 a1 true true c5 h
noncomputable def zbe:KFun:=⟨zdk,false,false⟩
theorem zcv:KOK tr.look F_Q111 zbe:=⟨i_Q111,(.sq (.rg [qb]) (.sq (.rg [qb]) (.bk [] (.lp [.slot 4 qp, .slot 2 qn, .slot 1 qn, .slot 0 qa, .slot 11 qb, .slot 10 qb, .slot 3 qn] (.bk [.slot 4 qa, .slot 2 qa, .slot 1 qa, .slot 0 qa, .slot 11 qa, .slot 10 qa, .slot 3 qa] (.sq (.rg [qn,qn,qn,qn]) (.sq (.sq (.rg [qn,qb]) (.cj (.sq (.rg [qa,qn,qn,qp,(.tup [])]) .lf) .lf)) (.sq (.sq .lf (.cj (.sq .lf .lf) .lf)) (.sq (.sq .lf .lf) (.sq .lf (.sq (.sq .lf .lf) (.sq (.sq .lf .lf) (.sq (.sq .lf (.cj (.sq .lf (.sq .lf .lf)) .lf)) (.sq .lf (.sq .lf (.sq .lf (.sq .lf (.sq .lf .lf)))))))))))))))))),[qa,qn,qn,qn,qp],[],[],look_Q111,rfl,rfl,rfl,rfl,by kernel_rfl⟩
noncomputable def zaeg:KC:=fun F L v h kr =>
wcons v <| ooH fun c4 c5 c6 r2 =>
wcons r2 <| ooA fun r0 r3 =>
wcons r3 <| ooI fun c16 r4 =>
wnil r4 <|
wle r0 5 <|
hld none c4 c5 c6 h fun a0 =>
v_len a0 <| oN fun c8 =>
wcut r0 0 5 fun r5 =>
F 152 [(iH c4 c5 c6),(iN c8),(iI c16),(.agg r5)] h <| ooT fun r6 h3 =>
wnil r6 <|
wg 4 r0 <| oP fun c9 =>
v_len (.p c9) <| oN fun c17 =>
wblock (fun(c18:Nat) (h4:FH) =>
kr (iN c18) h4) fun j0 =>
wloop (fun _ _ _ _ _ _ _ _=>none) (fun j1 (c7 c1 c2 c3 c0:Nat) (c10:PVal) (c11:Nat) (h1:FH) =>
nbl c7 c11 fun c19 =>
wif c19 (wblock (fun(c20 c21 c22 c23 c24:Nat) (c25:PVal) (c26:Nat) (h5:FH) =>
nad c20 1 fun c27 =>
j1 c27 c21 c22 c23 c24 c25 c26 h5) fun j2 =>
zab 5 (.p c10) (iN c7) <| oP fun c28 =>
zac (some 5) (.p c28) ⟨[nb_ 9],h1⟩ <| oA fun r1 =>
wle r1 5 <|
wcut r1 0 5 fun r7 =>
F 121 [(iH c1 c2 c3),(.agg r7),(iN c0)] h1 <| ooN fun c29 h0 =>
hld none c1 c2 c3 h0 <| oL fun c12 c13 c14 c15 =>
hld none c1 c2 c3 h0 <| oL fun c30 c31 c32 c33 =>
nlt c0 c33 <|
nam c32 c0 8 fun c34 =>
nae c34 7 fun c35 =>
hld none c30 c31 c35 h0 fun a1 =>
hpush h0 (.cells [(iN c29)] 1 0 false) fun c36 h6 =>
zad 1 a1 (.slice c36 0 0 1) h6 <| ooL fun c37 c38 c39 c40 h2 =>
nlt c0 c15 <|
nam c14 c0 8 fun c41 =>
nae c41 7 fun c42 =>
ift (wchk F ⟨[b_ 9 r1 5,b_ 9 zt5 5,nb_ 9],h2⟩ (.load none (.const (iH c1 c2 c3))) (.slice c12 c13 c14 c15)) <|
hwr h2 c12 c13 c42 [(.slice c37 c38 c39 c40)] fun h7 =>
j2 c7 c1 c2 c3 c0 c10 c11 h7) <|
j0 c0 h1) L 0 c4 c5 c6 c8 c9 c17 h3
noncomputable def zqe:KFun:=⟨zaeg,false,false⟩
theorem zya:KOK tr.look F_Q121 zqe:=⟨i_Q121,(.sq (.rg [(qx 4 0),qn]) (.sq (.rg [qh,qh,qh,qa,qn,qn]) (.sq (.rg [qh,qn,qi,qv,(.tup [])]) (.sq (.sq (.rg [(qx 4 4),qp,qn,qn]) (.bk [.slot 7 qn] (.lp [.slot 24 qn, .slot 0 qh, .slot 7 qn, .slot 22 qp, .slot 23 qn] (.sq (.rg [qb]) (.sq (.cj .lf .lf) (.sq (.bk [.slot 24 qn, .slot 0 qh, .slot 7 qn, .slot 22 qp, .slot 23 qn] (.sq (.rg [qp,qv,(qx 9 0),(.tup [])]) (.sq (.rg [qh,qv,qn,qn,qn]) (.rg [qh,qh,qh,ql,qn,qh,qh,qh,ql,qn,qh,qh,qa,qn,ql,ql,qh,qh,(.tup [])])))) (.rg [qn,qn]))))))) (.sq (.rg [qn,qn]) .lf))))),[qh,qv,qi],[9,4],[],look_Q121,rfl,rfl,rfl,rfl,by kernel_rfl⟩
noncomputable def zts:KC:=fun F _ v h kr =>
wcons v <| ooH fun c4 c5 c6 r2 =>
wcons r2 <| ooN fun c2 r3 =>
wcons r3 <| ooN fun c7 r4 =>
wcons r4 <| ooN fun c17 r5 =>
wcons r5 <| ooA fun r0 r6 =>
wnil r6 <|
wle r0 5 <|
F 153 [(iH c4 c5 c6),(iN c7)] h <| ooH fun c18 c19 c20 h4 =>
wblock (fun(c21 c22 c23 c24 c31 c25:Nat) (r7:LI) (h5:FH) =>
wcut r7 0 5 fun r8 =>
F 152 [(iH c21 c22 c23),(iN c25),(iN c24),(.agg r8)] h5 <| ooT fun r9 h6 =>
wnil r9 <|
F 153 [(iH c21 c22 c23),(iN c24)] h6 <| ooH fun c26 c27 c28 h1 =>
nae c28 7 fun c32 =>
hld none c26 c27 c32 h1 <| oP fun c33 =>
hpush h1 (.cells [(iN c25)] 1 0 false) fun c34 h7 =>
F 157 [(.p c33),(iN c31),(.slice c34 0 0 1)] h7 <| ooL fun c35 c36 c37 c38 h8 =>
nae c28 7 fun c39 =>
hwr h8 c26 c27 c39 [(.slice c35 c36 c37 c38)] fun h9 =>
kr (iN 0) h9) fun j1 =>
F 154 [(iH c4 c5 c6),(iN c2)] h4 <| ooB fun c8 h0 =>
wgV (iB c8) false (vv (x_mov (iN c2))) fun a0 =>
wgV (iB c8) false (v_lss a0 (iN 1)) fun a1 =>
pk c8 (iB true) a1 <| oB fun c9 =>
wgV (iB c9) false (vv (x_mov (iN c2))) fun a2 =>
wgV (iB c9) false (v_gtr a2 (iN 1048576)) fun a3 =>
pk c9 (iB true) a3 <| oB fun c29 =>
wblock (fun(c40:Bool) (c10 c11 c12 c13 c14 c15 c30 c16 c41:Nat) (r1:LI) (h2:FH) =>
wif c40 ((none:WR)) <|
hld none c13 c14 c15 h2 <| oL fun _ _ _ c42 =>
bf (Nat.ble 300 c42) fun c43 =>
wif c43 ((none:WR)) <|
vv (zgs false (.const (iH c10 c11 c12)) (.const (.p .nilptr))) <| oB fun c44 =>
wif c44 ((none:WR)) <|
wg 0 r1 <| oN fun c45 =>
F 155 [(iH c10 c11 c12),(iN c45)] h2 <| ooB fun c46 h3 =>
bf (gnot c46) fun c47 =>
wif c47 ((none:WR)) <|
nbl c16 0 fun c0 =>
wgV (iB c0) false (vv (x_mov (iN c16))) fun a4 =>
wgV (iB c0) false (vv (x_mov (iH c10 c11 c12))) fun a5 =>
wgV (iB c0) false (v_nil a5) fun a6 =>
wgV (iB c0) false (zaa 7 a6) fun a7 =>
wgV (iB c0) false (zac none a7 ⟨[b_ 9 r1 5],h3⟩) fun a8 =>
wgV (iB c0) false (v_len a8) fun a9 =>
wgV (iB c0) false (v_gtr a4 a9) fun a10 =>
pk c0 (iB true) a10 <| oB fun c48 =>
wif c48 ((none:WR)) <|
F 156 [(iH c13 c14 c15),(iN c30)] h3 <| ooN fun c49 h10 =>
bf (Nat.ble 60 c49) fun c50 =>
wif c50 ((none:WR)) <|
j1 c13 c14 c15 c30 c16 c41 r1 h10) fun j0 =>
wif c29 (j0 c29 c18 c19 c20 c4 c5 c6 c7 c17 c2 r0 h0) <|
wg 4 r0 <| oP fun c51 =>
v_len (.p c51) <| oN fun c52 =>
nbl 0 c52 fun c3 =>
wgV (iB c3) false (zaa 3 (iX 9 0)) fun a11 =>
wgV (iB c3) false (zac none a11 ⟨[b_ 9 r0 5,nb_ 9],h0⟩) fun a12 =>
wgV (iB c3) false (v_len a12) fun a13 =>
wgV (iB c3) false (v_gtr a13 (iN 0)) fun a14 =>
pk c3 (iB true) a14 <| oB fun c1 =>
wgV (iB c1) false (zac (some 5) (iX 9 0) ⟨[b_ 9 r0 5,nb_ 9],h0⟩) fun a15 =>
wgH (iB c1) false (zct 5 1 [(.int .i64 0),(.str []),(.str []), .nilslice, .nilslice] [(0,5,a15)]) h0 fun a16 h11 =>
wgV (iB c1) false (zri [(.int .i64 0),(.str []),(.str []), .nilslice, .nilslice] [(0,1,(iN 1)),(4,1,a16)]) fun a17 =>
wgH (iB c1) false (wcallH (.p (.func 15)) [a17] F) h11 fun a18 h12 =>
wgV (iB c1) false (v_not a18) fun a19 =>
pk c1 (iB true) a19 <| oB fun c53 =>
j0 c53 c18 c19 c20 c4 c5 c6 c7 c17 c2 r0 h12
noncomputable def zit:KFun:=⟨zts,false,false⟩
theorem zqf:KOK tr.look F_Q122 zit:=⟨i_Q122,(.sq (.rg [(qx 9 0),qn]) (.sq (.rg [qh,qn,qh,qh]) (.sq (.bk [sx 9, .slot 0 qh, .slot 2 qn, .slot 3 qn, .slot 1 qn,bl 9 5] (.sq (.sq (.rg [qh,qn,qb,qb,qa,qa,qb,qb,qa,qa,qb,qb]) (.cd [.slot 15 qb, .slot 11 qh,sx 9, .slot 0 qh, .slot 2 qn, .slot 3 qn, .slot 1 qn,bl 9 5] .lf (.rg [(qx 9 4),qp,qn,qb,qb,qa,qa,qa,qa,qb,qb,qa,qa,qa,qa,qa,qb,qb]))) (.cj (.sq .lf .lf) (.sq (.rg [qh,qh,qh,ql,qn,qb,qb]) (.cj (.sq .lf .lf) (.sq (.rg [qh,qb,qb]) (.cj (.sq .lf .lf) (.sq (.rg [qh,(qx 9 0),qn,qb,qb,qb]) (.cj (.sq .lf .lf) (.sq (.rg [qn,qb,qb,qa,qa,qa,qa,qa,qa,qa,qb,qb]) (.cj (.sq .lf .lf) (.sq (.rg [qh,qn,qn,qb,qb]) (.cj (.sq .lf .lf) .lf))))))))))))) (.sq (.rg [qh,qn,qn,qv,(.tup [])]) (.sq (.rg [qh,qn,qh,qh]) (.sq (.rg [qh,qh,qh,qh,qp,qn,qn,ql,ql,qh,qh,(.tup [])]) (.sq (.rg [qn]) .lf))))))),[qh,qn,qn,qn,qv],[9],[],look_Q122,rfl,rfl,rfl,rfl,by kernel_rfl⟩
noncomputable def zaeh:KC:=fun F _ v h kr =>
wcons v <| ooH fun c13 c14 c15 r0 =>
wcons r0 <| ooN fun c16 r1 =>
wcons r1 <| ooS fun c9 r2 =>
wcons r2 <| ooS fun c17 r3 =>
wnil r3 <|
F 153 [(iH c13 c14 c15),(iN c16)] h <| ooH fun c4 c5 c6 h1 =>
wblock (fun(c7:LB) (c0 c1 c2:Nat) (c10:LB) (h3:FH) =>
F 161 [(iH c0 c1 c2),(iS c10)] h3 <| ooT fun r4 h0 =>
wcons r4 <| ooN fun c8 r5 =>
wcons r5 <| ooB fun c11 r6 =>
wnil r6 <|
wblock (fun(c18 c19 c20 c12:Nat) (c21:LB) (h2:FH) =>
nae c20 2 fun c22 =>
nae c22 3 fun c23 =>
hld none c18 c19 c23 h2 <| oL fun c24 c25 c26 c27 =>
nlt c12 c27 <|
nam c26 c12 2 fun c28 =>
nae c28 1 fun c29 =>
hwr h2 c24 c25 c29 [(iS c21)] fun h4 =>
kr (iN 0) h4) fun j1 =>
vv (zdf (iS c7)) <| oN fun c30 =>
nbl 4096 c30 fun c3 =>
wgV (iB c3) false (vv (x_mov (iB c11))) fun a1 =>
wgV (iB c3) false (v_not a1) fun a2 =>
wgV (iB c3) false (vv (x_mov a2)) fun a0 =>
wgV a0 true (vv (x_mov (iH c0 c1 c2))) fun a3 =>
wgV a0 true (v_nil a3) fun a4 =>
wgV a0 true (zaa 2 a4) fun a5 =>
wgV a0 true (zaa 3 a5) fun a6 =>
wgV a0 true (zac none a6 ⟨[],h0⟩) fun a7 =>
wgV a0 true (v_len a7) fun a8 =>
wgV a0 true (v_geq a8 (iN 12)) fun a9 =>
wgV (iB c3) false (zwq a0 a9 (iB false)) fun a10 =>
pk c3 (iB true) a10 <| oB fun c31 =>
wif c31 ((none:WR)) <|
bf (gnot c11) fun c32 =>
wblock (fun(c33 c34 c35 c36:Nat) (c37:LB) (h5:FH) =>
j1 c33 c34 c35 c36 c37 h5) fun j0 =>
wif c32 (nae c2 2 fun c38 =>
nae c38 3 fun c39 =>
hld none c0 c1 c39 h0 <| oP fun c40 =>
hpush h0 (.cells [(iS c10),(iS [])] 2 0 false) fun c41 h6 =>
F 162 [(.p c40),(iN c8),(.slice c41 0 0 1)] h6 <| ooL fun c42 c43 c44 c45 h7 =>
nae c2 2 fun c46 =>
nae c46 3 fun c47 =>
hwr h7 c0 c1 c47 [(.slice c42 c43 c44 c45)] fun h8 =>
j0 c0 c1 c2 c8 c7 h8) <|
j0 c0 c1 c2 c8 c7 h0) fun j2 =>
vv (zgs false (.const (iH c4 c5 c6)) (.const (.p .nilptr))) <| oB fun c48 =>
wif c48 ((none:WR)) <|
nae c6 2 fun c49 =>
hld none c4 c5 c49 h1 <| oN fun c50 =>
bf (gnot (Nat.beq c50 2)) fun c51 =>
wif c51 ((none:WR)) <|
F 86 [(iS c9)] h1 <| ooB fun c52 h9 =>
bf (gnot c52) fun c53 =>
wif c53 ((none:WR)) <|
j2 c17 c4 c5 c6 c9 h9
noncomputable def zqg:KFun:=⟨zaeh,false,false⟩
theorem zyb:KOK tr.look F_Q125 zqg:=⟨i_Q125,(.sq (.rg [qn]) (.sq (.rg [qh,qn,qh,qh]) (.sq (.bk [.slot 3 qs, .slot 9 qh, .slot 2 qs] (.sq (.rg [qh,qb,qb]) (.cj (.sq .lf .lf) (.sq (.rg [qh,qh,qh,qh,qn,qb,qb]) (.cj (.sq .lf .lf) (.sq (.rg [qs,qb,qb,qb]) (.cj (.sq .lf .lf) .lf))))))) (.sq (.rg [qh,qs,(.tup [(.c .nat),(.c .bool)]),(.tup [(.c .nat),(.c .bool)]),qn,qb,qn,qb]) (.sq (.bk [.slot 9 qh, .slot 10 qn, .slot 3 qs] (.sq (.rg [qs,qn,qb,qb,qa,qa,qa,qa,qa,qa,qa,qa,qa,qa,qa,qb,qb]) (.cj (.sq .lf .lf) (.sq (.rg [qb,qb,qb]) (.cd [.slot 9 qh, .slot 10 qn, .slot 3 qs] (.rg [qh,qh,qh,qh,qh,qp,qn,qs,qv,ql,ql,qh,qh,qh,(.tup [])]) .lf))))) (.sq (.rg [qh,qh,qh,qh,ql,qn,qs,qh,qh,(.tup [])]) (.sq (.rg [qn]) .lf))))))),[qh,qn,qs,qs],[],[],look_Q125,rfl,rfl,rfl,rfl,by kernel_rfl⟩
noncomputable def zzk:KC:=fun F _ v h kr =>
wcons v <| ooH fun c6 c7 c8 r0 =>
wcons r0 <| ooN fun c9 r1 =>
wcons r1 <| ooS fun c4 r2 =>
wnil r2 <|
F 153 [(iH c6 c7 c8),(iN c9)] h <| ooH fun c1 c2 c3 h0 =>
wblock (fun(c10 c11 c12:Nat) (c13:LB) (h1:FH) =>
nae c12 2 fun c14 =>
nae c14 2 fun c15 =>
hwr h1 c10 c11 c15 [(iS c13)] fun h2 =>
kr (iN 0) h2) fun j0 =>
vv (zgs false (.const (iH c1 c2 c3)) (.const (.p .nilptr))) <| oB fun c16 =>
wif c16 ((none:WR)) <|
nae c3 2 fun c17 =>
hld none c1 c2 c17 h0 <| oN fun c18 =>
bf (gnot (Nat.beq c18 3)) fun c0 =>
wgV (iB c0) true (vv (x_mov (iH c1 c2 c3))) fun a0 =>
wgV (iB c0) true (v_nil a0) fun a1 =>
wgV (iB c0) true (zaa 2 a1) fun a2 =>
wgV (iB c0) true (zaa 0 a2) fun a3 =>
wgV (iB c0) true (zac none a3 ⟨[],h0⟩) fun a4 =>
wgV (iB c0) true (v_neq a4 (iN 4)) fun a5 =>
pk c0 a5 (iB false) <| oB fun c19 =>
wif c19 ((none:WR)) <|
nae c3 2 fun c20 =>
hld none c1 c2 c20 h0 <| oN fun c21 =>
nbe c21 3 fun c5 =>
wgV (iB c5) true (vv (x_mov (iS c4))) fun a6 =>
wgV (iB c5) true (v_eql a6 (iS [])) fun a7 =>
pk c5 a7 (iB false) <| oB fun c22 =>
wif c22 ((none:WR)) <|
vv (zdf (iS c4)) <| oN fun c23 =>
nbl 4096 c23 fun c24 =>
wif c24 ((none:WR)) <|
j0 c1 c2 c3 c4 h0
noncomputable def zmw:KFun:=⟨zzk,false,false⟩
theorem ztt:KOK tr.look F_Q127 zmw:=⟨i_Q127,(.sq (.rg [qn]) (.sq (.rg [qh,qn,qh,qh]) (.sq (.bk [.slot 7 qh, .slot 2 qs] (.sq (.rg [qh,qb,qb]) (.cj (.sq .lf .lf) (.sq (.rg [qh,qh,qh,qh,qn,qb,qb,qa,qa,qa,qa,qa,qa,qb,qb]) (.cj (.sq .lf .lf) (.sq (.rg [qh,qh,qh,qh,qn,qb,qb,qa,qa,qb,qb]) (.cj (.sq .lf .lf) (.sq (.rg [qs,qn,qb,qb]) (.cj (.sq .lf .lf) .lf))))))))) (.sq (.rg [qh,qs,qh,qh,qh,(.tup [])]) (.sq (.rg [qn]) .lf))))),[qh,qn,qs],[],[],look_Q127,rfl,rfl,rfl,rfl,by kernel_rfl⟩
noncomputable def ztu:KC:=fun F _ v h kr =>
wcons v <| ooH fun c3 c4 c5 r0 =>
wcons r0 <| ooN fun c6 r1 =>
wnil r1 <|
F 153 [(iH c3 c4 c5),(iN c6)] h <| ooH fun c0 c1 c2 h0 =>
vv (zgs false (.const (iH c0 c1 c2)) (.const (.p .nilptr))) <| oB fun c7 =>
wif c7 ((none:WR)) <|
nae c2 1 fun c8 =>
hld none c0 c1 c8 h0 <| oI fun c9 =>
kr (iI c9) h0
noncomputable def ziu:KFun:=⟨ztu,false,false⟩
theorem zqh:KOK tr.look F_Q128 ziu:=⟨i_Q128,(.sq (.rg [qn]) (.sq (.rg [qh,qn,qh,qh]) (.sq (.sq (.rg [qh,qb]) (.cj (.sq .lf .lf) .lf)) (.sq (.rg [qh,qh,qh,qi,qi]) .lf)))),[qh,qn],[],[],look_Q128,rfl,rfl,rfl,rfl,by kernel_rfl⟩
noncomputable def zyc:KC:=fun F _ v h kr =>
wcons v <| ooH fun c0 c1 c2 r0 =>
wcons r0 <| ooN fun c3 r1 =>
wnil r1 <|
F 128 [(iH c0 c1 c2),(iN c3)] h <| ooN fun c7 h1 =>
F 153 [(iH c0 c1 c2),(iN c7)] h1 <| ooH fun c4 c5 c6 h0 =>
vv (zgs false (.const (iH c4 c5 c6)) (.const (.p .nilptr))) <| oB fun c8 =>
wif c8 ((none:WR)) <|
nae c6 7 fun c9 =>
hld none c4 c5 c9 h0 <| oL fun c10 c11 c12 c13 =>
F 163 [(.slice c10 c11 c12 c13),(iN c3)] h0 <| ooN fun c14 h2 =>
kr (iN c14) h2
noncomputable def zle:KFun:=⟨zyc,false,false⟩
theorem zrx:KOK tr.look F_Q129 zle:=⟨i_Q129,(.sq (.rg [qn]) (.sq (.rg [qh,qh,qn,qn,qh,qh]) (.sq (.sq (.rg [qh,qb]) (.cj (.sq .lf .lf) .lf)) (.sq (.rg [qh,qh,qh,ql,qn,qn,qn]) .lf)))),[qh,qn],[],[],look_Q129,rfl,rfl,rfl,rfl,by kernel_rfl⟩
noncomputable def zzl:KC:=fun F _ v h kr =>
wcons v <| ooH fun c3 c4 c5 r2 =>
wcons r2 <| ooN fun c6 r3 =>
wnil r3 <|
F 153 [(iH c3 c4 c5),(iN c6)] h <| ooH fun c0 c1 c2 h0 =>
vv (zgs false (.const (iH c0 c1 c2)) (.const (.p .nilptr))) <| oB fun c7 =>
wif c7 ((none:WR)) <|
nae c2 2 fun c8 =>
hld (some 5) c0 c1 c8 h0 <| oA fun r0 =>
wle r0 5 <|
wg 3 r0 <| oP fun c9 =>
F 53 [(.p c9)] h0 <| ooP fun c10 h1 =>
wspl r0 3 [(.p c10)] fun r4 =>
wcut r4 0 5 fun r1 =>
wle r1 5 <|
wcut r1 0 5 fun r5 =>
kr (.tup [(.agg r5),(iB true)]) h1
noncomputable def zmx:KFun:=⟨zzl,false,false⟩
theorem ztv:KOK tr.look F_Q130 zmx:=⟨i_Q130,(.sq (.rg [(qx 4 0),qb]) (.sq (.rg [qh,qn,qh,qh]) (.sq (.sq (.rg [qh,qb]) (.cj (.sq .lf .lf) .lf)) (.sq (.rg [qh,qh,qh,qv,(qx 7 0),(.tup [])]) (.sq (.rg [(qx 7 3),qp,qp,(qx 7 3),(.tup [])]) (.sq (.rg [qv,(.tup []),qb]) .lf)))))),[qh,qn],[7,4],[],look_Q130,rfl,rfl,rfl,rfl,by kernel_rfl⟩
noncomputable def zaom:KC:=fun F L v h kr =>
wcons v <| ooA fun r0 r1 =>
wnil r1 <|
wle r0 5 <|
wcut r0 0 5 fun r2 =>
F 27 [(.agg r2)] h <| ooP fun c3 h4 =>
v_len (.p c3) <| oN fun c10 =>
zbw 1 [(.int .u64 0)] (iN c10) (iN c10) h4 <| ooL fun c24 c25 c26 c27 h5 =>
v_len (.p c3) <| oN fun c11 =>
ift (Nat.ble 1 c11) <|
nforce (Nat.sub c11 1) fun c12 =>
nlt c12 lim63 <|
wblock (fun(c28 c29 c30 c31:Nat) (h6:FH) =>
kr (.slice c28 c29 c30 c31) h6) fun j0 =>
wloop (fun _ _ _ _ _ _ _=>none) (fun j1 (c4:Int) (c13 c14 c15 c16:Nat) (c32:PVal) (h1:FH) =>
v_geq (iI c4) (iN 0) <| oB fun c33 =>
wif c33 (wblock (fun(c34 c35 c36 c37 c38:Nat) (c39:PVal) (h7:FH) =>
v_sub (iN c34) (iN 1) <| oI fun c40 =>
j1 c40 c35 c36 c37 c38 c39 h7) fun j2 =>
v_add (iI c4) (iN 1) <| oN fun c41 =>
wblock (fun(a0:IVal) (c0 c17 c18 c19 c20:Nat) (c21:PVal) (h2:FH) =>
zab 10 (.p c21) (iN c0) <| oP fun c42 =>
zaa 5 (.p c42) <| oP fun c43 =>
zac (some 5) (.p c43) ⟨[],h2⟩ <| oA fun r3 =>
ift (passB a0) <|
F 164 [(.agg r3),a0] h2 <| ooP fun c44 h8 =>
nlt c0 c20 <|
nam c19 c0 1 fun c45 =>
hwr h8 c17 c18 c45 [(.p c44)] fun h9 =>
j2 c0 c17 c18 c19 c20 c21 h9) fun j3 =>
tN (iI c4) fun c46 =>
wloop (fun _ _ _ _ _ _ _ _ _=>none) (fun j4 (c1:Nat) (c5:PVal) (c6 c7 c8 c9:Nat) (a1:IVal) (c2:Nat) (h0:FH) =>
zab 10 (.p c5) (iN c2) <| oP fun c47 =>
zaa 1 (.p c47) <| oP fun c48 =>
zac none (.p c48) ⟨[],h0⟩ <| oN fun c49 =>
nad c2 c49 fun c50 =>
nbl c1 c50 fun c51 =>
wif c51 (wblock (fun(c22:Nat) (c23:PVal) (c52 c53 c54 c55 c56 c57 c58 c59 c60:Nat) (h3:FH) =>
zab 10 (.p c23) (iN c22) <| oP fun c61 =>
zaa 1 (.p c61) <| oP fun c62 =>
zac none (.p c62) ⟨[],h3⟩ <| oN fun c63 =>
nad c22 c63 fun c64 =>
j4 c64 c23 c52 c53 c54 c55 (.slice c56 c57 c58 c59) c60 h3) fun j5 =>
nlt c1 c9 <|
nam c8 c1 1 fun c65 =>
hld none c6 c7 c65 h0 <| oP fun c66 =>
hpush h0 (.cells [(.p c66)] 1 0 false) fun c67 h10 =>
zad 1 a1 (.slice c67 0 0 1) h10 <| ooL fun c68 c69 c70 c71 h11 =>
j5 c1 c5 c6 c7 c8 c9 c68 c69 c70 c71 c2 h11) <|
j3 a1 c2 c6 c7 c8 c9 c5 h0) L c41 c32 c13 c14 c15 c16 (.p .nilslice) c46 h1) <|
j0 c13 c14 c15 c16 h1) L (.ofNat c12) c24 c25 c26 c27 c3 h5
noncomputable def zabk:KFun:=⟨zaom,true,true⟩
theorem zahr:KOK tr.look F_Q132 zabk:=⟨i_Q132,(.sq (.rg [(qx 1 0),qp]) (.sq (.rg [qv,qp,qp]) (.sq (.rg [qp,qn,ql,ql]) (.sq (.sq (.rg [qp,qn,qn,qn]) (.bk [.slot 4 ql] (.lp [.slot 5 qi, .slot 4 ql, .slot 3 qp] (.sq (.sq (.rg [qi,qb]) (.cj .lf .lf)) (.sq (.bk [.slot 5 qn, .slot 4 ql, .slot 3 qp] (.sq (.rg [qp]) (.sq (.sq (.rg [qn,qn,qn]) (.bk [.slot 6 qa, .slot 5 qn, .slot 4 ql, .slot 3 qp] (.lp [.slot 7 qn, .slot 3 qp, .slot 4 ql, .slot 6 qa, .slot 5 qn] (.sq (.sq (.rg [qn,qn,qp,qn,qp,qp,qn,qn,qb]) (.cj .lf .lf)) (.sq (.bk [.slot 7 qn, .slot 3 qp, .slot 4 ql, .slot 6 ql, .slot 5 qn] (.rg [qa,ql,qn,qh,qp,ql,ql,ql])) (.rg [qn,qp,qn,qp,qp,qn,qn,qn])))))) (.rg [ql,qn,qp,qn,qp,qp,qv,qa,qp,qh,(.tup [])])))) (.rg [qn,qi,qi])))))) (.sq (.rg [ql,ql]) .lf))))),[qv],[1],[],look_Q132,rfl,rfl,rfl,rfl,by kernel_rfl⟩
noncomputable def zaei:KC:=fun F _ v h kr =>
wcons v <| ooA fun r0 r5 =>
wcons r5 <| ooA fun r1 r6 =>
wnil r6 <|
wle r0 5 <|
wle r1 5 <|
wcut r0 0 5 fun r7 =>
wcut r1 0 5 fun r2 =>
hpush h (.map [] 0) fun c0 h2 =>
F 165 [(.agg r7)] h2 <| ooH fun c7 c8 c9 h1 =>
ift (wchk F ⟨[b_ 6 [(iN 0),(iN 0)] 2,b_ 5 [(iN 0),(iN 0)] 2,b_ 3 r1 5,b_ 2 r0 5,nb_ 2,nb_ 3,nb_ 5,nb_ 6],h1⟩ (.load (some 5) (.const (iX 3 0))) (.agg r2)) <|
ift (wchk F ⟨[b_ 6 [(iN 0),(iN 0)] 2,b_ 5 [(iN 0),(iN 0)] 2,b_ 3 r1 5,b_ 2 r0 5,nb_ 2,nb_ 3,nb_ 5,nb_ 6],h1⟩ (.mkMap) (.map c0)) <|
F 165 [(.agg r2)] h1 <| ooH fun c10 c11 c12 h3 =>
hpush h3 (.cells [(iH c7 c8 c9),(iH c10 c11 c12),(.map c0)] 3 0 false) fun c1 h0 =>
ift (wchk F ⟨[b_ 6 [(iN 0),(iN 0)] 2,b_ 5 [(iN 0),(iN 0)] 2,b_ 3 r1 5,b_ 2 r0 5,nb_ 2,nb_ 3,nb_ 5,nb_ 6],h0⟩ (.mkMap) (.map c0)) <|
hld none c1 0 0 h0 <| oH fun c13 c14 c15 =>
hld none c13 c14 c15 h0 <| oL fun _ _ _ c2 =>
hld none c1 0 1 h0 <| oH fun c16 c17 c18 =>
hld none c16 c17 c18 h0 <| oL fun _ _ _ c3 =>
ift (Nat.ble 1 c2) <|
nforce (Nat.sub c2 1) fun c5 =>
nlt c5 lim63 <|
F 166 [(iN 0),(iN c5)] h0 <| ooA fun r3 h4 =>
ift (Nat.ble 1 c3) <|
nforce (Nat.sub c3 1) fun c6 =>
nlt c6 lim63 <|
F 166 [(iN 0),(iN c6)] h4 <| ooA fun r4 h5 =>
bf (Nat.ble c2 8) fun c4 =>
wgV (iB c4) true (vv (x_mov (iN c3))) fun a0 =>
wgV (iB c4) true (v_leq a0 (iN 8)) fun a1 =>
pk c4 a1 (iB false) <| oB fun c19 =>
wle r3 2 <|
wle r4 2 <|
wcut r3 0 2 fun r8 =>
wcut r4 0 2 fun r9 =>
kr (.tup [(iH c1 0 0),(.agg r8),(.agg r9),(iB c19)]) h5
noncomputable def zqi:KFun:=⟨zaei,false,false⟩
theorem zyd:KOK tr.look F_Q133 zqi:=⟨i_Q133,(.sq (.rg [(qx 2 0),(qx 3 0),qp,(qx 5 0),(qx 6 0),qb]) (.sq (.rg [qv,qh,qv,qh,qm,qv,qh,qh]) (.sq (.rg [qh,qh,qh,qh,qh,qh,ql,qn,qh,qh,qh,qh,qh,qh,ql,qn,qn,qn]) (.sq (.rg [qh,qn,qn,qv,qn,qn,qv,qn,qb,qb,qa,qa,qb,qh,(.tup []),(.tup []),qb]) .lf)))),[qv,qv],[2,3,5,6],[],look_Q133,rfl,rfl,rfl,rfl,by kernel_rfl⟩
noncomputable def zqj:KC:=fun F _ v h kr =>
wcons v <| ooH fun c0 c1 c2 r6 =>
wcons r6 <| ooA fun r0 r7 =>
wcons r7 <| ooA fun r1 r8 =>
wnil r8 <|
wle r0 2 <|
wle r1 2 <|
wcut r0 0 2 fun r4 =>
F 167 [] h <| ooA fun r9 h6 =>
vv (x_eqv false ⟨true,[.int, .int]⟩ (.const (.agg r4)) (.const (.agg r9))) <| oB fun c3 =>
wgV (iB c3) false (zac (some 2) (iX 5 0) ⟨[b_ 5 r1 2,b_ 4 r0 2,nb_ 4,nb_ 5],h6⟩) fun a0 =>
ift (wchk F ⟨[b_ 5 r1 2,b_ 4 r0 2,nb_ 4,nb_ 5],h6⟩ (.load (some 2) (.const (iX 4 0))) (.agg r4)) <|
wgH (iB c3) false (wcallH (.p (.func 167)) [] F) h6 fun a2 h7 =>
wgV (iB c3) false (vv (x_eqv false ⟨true,[.int, .int]⟩ (.const a0) (.const a2))) fun a3 =>
pk c3 (iB true) a3 <| oB fun c17 =>
ift (wgb (iB c3) false (wchk F ⟨[b_ 5 r1 2,b_ 4 r0 2,nb_ 4,nb_ 5],h7⟩ (.load (some 2) (.const (iX 5 0))) a0)) <|
wif c17 (kr (.p .nilslice) h7) <|
wcut r0 0 2 fun r10 =>
wcut r1 0 2 fun r11 =>
F 168 [(iH c0 c1 c2),(.agg r10),(.agg r11)] h7 <| ooN fun c18 h9 =>
wblock (fun(_ _ _:IVal) (_:FH) =>
(none:WR)) fun _ =>
wcut r0 0 2 fun r12 =>
wcut r1 0 2 fun r13 =>
F 169 [(iH c0 c1 c2),(.agg r12),(.agg r13)] h9 <| ooN fun c19 h3 =>
nbe c18 c19 fun c20 =>
wif c20 (hld none c0 c1 c2 h3 <| oH fun c21 c22 c23 =>
wcut r0 0 2 fun r14 =>
nae c2 1 fun c11 =>
hld none c0 c1 c11 h3 <| oH fun c12 c13 c14 =>
wcut r1 0 2 fun r5 =>
hld none c0 c1 c2 h3 <| oH fun c8 c9 c10 =>
wcut r0 0 2 fun r3 =>
nae c2 1 fun c4 =>
hld none c0 c1 c4 h3 <| oH fun c5 c6 c7 =>
wcut r1 0 2 fun r2 =>
F 170 [(iH c21 c22 c23),(.agg r14)] h3 <| ooA fun r15 h1 =>
ift (wchk F ⟨[b_ 5 r1 2,b_ 4 r0 2,nb_ 4,nb_ 5],h1⟩ (.load none (.const (iH c0 c1 c11))) (iH c12 c13 c14)) <|
ift (wchk F ⟨[b_ 5 r1 2,b_ 4 r0 2,nb_ 4,nb_ 5],h1⟩ (.load (some 2) (.const (iX 5 0))) (.agg r5)) <|
ift (wchk F ⟨[b_ 5 r1 2,b_ 4 r0 2,nb_ 4,nb_ 5],h1⟩ (.load none (.const (iH c0 c1 c2))) (iH c8 c9 c10)) <|
ift (wchk F ⟨[b_ 5 r1 2,b_ 4 r0 2,nb_ 4,nb_ 5],h1⟩ (.load (some 2) (.const (iX 4 0))) (.agg r3)) <|
ift (wchk F ⟨[b_ 5 r1 2,b_ 4 r0 2,nb_ 4,nb_ 5],h1⟩ (.load none (.const (iH c0 c1 c4))) (iH c5 c6 c7)) <|
ift (wchk F ⟨[b_ 5 r1 2,b_ 4 r0 2,nb_ 4,nb_ 5],h1⟩ (.load (some 2) (.const (iX 5 0))) (.agg r2)) <|
F 170 [(iH c12 c13 c14),(.agg r5)] h1 <| ooA fun r16 h4 =>
ift (wchk F ⟨[b_ 5 r1 2,b_ 4 r0 2,nb_ 4,nb_ 5],h4⟩ (.load none (.const (iH c0 c1 c2))) (iH c8 c9 c10)) <|
ift (wchk F ⟨[b_ 5 r1 2,b_ 4 r0 2,nb_ 4,nb_ 5],h4⟩ (.load (some 2) (.const (iX 4 0))) (.agg r3)) <|
ift (wchk F ⟨[b_ 5 r1 2,b_ 4 r0 2,nb_ 4,nb_ 5],h4⟩ (.load none (.const (iH c0 c1 c4))) (iH c5 c6 c7)) <|
ift (wchk F ⟨[b_ 5 r1 2,b_ 4 r0 2,nb_ 4,nb_ 5],h4⟩ (.load (some 2) (.const (iX 5 0))) (.agg r2)) <|
F 134 [(iH c0 c1 c2),(.agg r15),(.agg r16)] h4 fun a4 h5 =>
ift (wchk F ⟨[b_ 5 r1 2,b_ 4 r0 2,nb_ 4,nb_ 5],h5⟩ (.load none (.const (iH c0 c1 c2))) (iH c8 c9 c10)) <|
ift (wchk F ⟨[b_ 5 r1 2,b_ 4 r0 2,nb_ 4,nb_ 5],h5⟩ (.load (some 2) (.const (iX 4 0))) (.agg r3)) <|
ift (wchk F ⟨[b_ 5 r1 2,b_ 4 r0 2,nb_ 4,nb_ 5],h5⟩ (.load none (.const (iH c0 c1 c4))) (iH c5 c6 c7)) <|
ift (wchk F ⟨[b_ 5 r1 2,b_ 4 r0 2,nb_ 4,nb_ 5],h5⟩ (.load (some 2) (.const (iX 5 0))) (.agg r2)) <|
F 171 [(iH c8 c9 c10),(.agg r3)] h5 <| ooA fun r17 h8 =>
ift (wchk F ⟨[b_ 5 r1 2,b_ 4 r0 2,nb_ 4,nb_ 5],h8⟩ (.load none (.const (iH c0 c1 c4))) (iH c5 c6 c7)) <|
ift (wchk F ⟨[b_ 5 r1 2,b_ 4 r0 2,nb_ 4,nb_ 5],h8⟩ (.load (some 2) (.const (iX 5 0))) (.agg r2)) <|
F 171 [(iH c5 c6 c7),(.agg r2)] h8 <| ooA fun r18 h10 =>
F 134 [(iH c0 c1 c2),(.agg r17),(.agg r18)] h10 fun a5 h11 =>
zad 2 a4 a5 h11 fun a1 h2 =>
hld none c0 c1 c2 h2 <| oH fun c24 c25 c26 =>
hld none c24 c25 c26 h2 <| oL fun c27 c28 c29 c30 =>
wg 1 r0 <| oN fun c15 =>
nlt c15 c30 <|
nam c29 c15 5 fun c31 =>
hld (some 5) c27 c28 c31 h2 <| oA fun r19 =>
nae c2 1 fun c32 =>
hld none c0 c1 c32 h2 <| oH fun c33 c34 c35 =>
hld none c33 c34 c35 h2 <| oL fun c36 c37 c38 c39 =>
wg 1 r1 <| oN fun c16 =>
nlt c16 c39 <|
nam c38 c16 5 fun c40 =>
hld (some 5) c36 c37 c40 h2 <| oA fun r20 =>
F 172 [(.agg r19),(.agg r20)] h2 <| ooN fun c41 h0 =>
nbl c41 3 fun c42 =>
wblock (fun(c43 c44 c45 c46:Nat) (h12:FH) =>
kr (.slice c43 c44 c45 c46) h12) fun j0 =>
wif c42 (hld none c0 c1 c2 h0 <| oH fun c47 c48 c49 =>
nae c49 1 fun c50 =>
hld none c47 c48 c50 h0 <| oP fun c51 =>
wg 1 r0 <| oN fun c52 =>
zab 1 (.p c51) (iN c52) <| oP fun c53 =>
zac none (.p c53) ⟨[b_ 5 r1 2,b_ 4 r0 2,nb_ 4,nb_ 5],h0⟩ <| oN fun c54 =>
nae c2 1 fun c55 =>
hld none c0 c1 c55 h0 <| oH fun c56 c57 c58 =>
nae c58 1 fun c59 =>
hld none c56 c57 c59 h0 <| oP fun c60 =>
wg 1 r1 <| oN fun c61 =>
zab 1 (.p c60) (iN c61) <| oP fun c62 =>
zac none (.p c62) ⟨[b_ 5 r1 2,b_ 4 r0 2,nb_ 4,nb_ 5],h0⟩ <| oN fun c63 =>
hpush h0 (.cells [(iN c54),(iN c63)] 2 0 false) fun c64 h13 =>
zad 2 a1 (.slice c64 0 0 1) h13 <| ooL fun c65 c66 c67 c68 h14 =>
j0 c65 c66 c67 c68 h14) <|
tL a1 fun c69 c70 c71 c72 =>
j0 c69 c70 c71 c72 h0) <|
(none:WR)
noncomputable def zgn:KFun:=⟨zqj,false,false⟩
theorem zmd:KOK tr.look F_Q134 zgn:=⟨i_Q134,(.sq (.rg [(qx 4 0),(qx 5 0),qp]) (.sq (.sq (.rg [qv,qv,qb,qb,qa,qa,qa,qb]) (.cj (.sq (.rg [qp]) .lf) .lf)) (.sq (.rg [qh,qv,qv,qn,qn]) (.sq (.sq (.rg [qn]) (.bk [.slot 5 qa, .slot 4 qa, .slot 0 qa] (.sq (.rg [qh,qv,qv,qn,qb,qb]) (.cj (.sq (.rg [qh,qh,qh,qh,qh,qv,qv,qh,qh,qh,qh,qv,qv,qa,qh,qh,qh,qh,qh,qv,qv,qh,qh,qh,qh,qv,qv]) (.sq (.sq (.rg [qh,qh,qh,qh,qh,qh,ql,(qx 4 1),qn,qh,qv,qh,qh,qh,qh,qh,qh,ql,(qx 5 1),qn,qh,qv,qn,qb]) (.cd [.slot 8 ql] (.rg [qa,qh,qh,qh,qh,qh,qh,qp,(qx 4 1),qn,qp,qn,qh,qh,qh,qh,qh,qh,qp,(qx 5 1),qn,qp,qn,qv,ql,ql,ql]) .lf)) (.sq (.rg [ql,ql]) .lf))) (.sq .lf (.cj (.sq .lf .lf) .lf)))))) (.sq .lf .lf))))),[qh,qv,qv],[4,5],[],look_Q134,rfl,rfl,rfl,rfl,by kernel_rfl⟩
noncomputable def zry:KC:=fun F _ v h kr =>
wcons v <| ooA fun r0 r2 =>
wcons r2 <| ooA fun r1 r3 =>
wnil r3 <|
wle r0 2 <|
wle r1 2 <|
wg 0 r0 <| oN fun c0 =>
wg 0 r1 <| oN fun c1 =>
F 40 [(iN c0),(iN c1)] h <| ooI fun c2 h0 =>
kr (iI c2) h0
noncomputable def zht:KFun:=⟨zry,true,false⟩
theorem zod:KOK tr.look F_Q135 zht:=⟨i_Q135,(.sq (.rg [(qx 2 0),(qx 3 0),qn]) (.sq (.rg [(qx 2 0),qn,(qx 3 0),qn,qi,qi]) .lf)),[qv,qv],[2,3],[],look_Q135,rfl,rfl,rfl,rfl,by kernel_rfl⟩
noncomputable def zcc:KC:=fun _ L v h kr =>
wcons v fun a0 r0 =>
wcons r0 <| ooN fun c0 r1 =>
wcons r1 <| ooN fun c1 r2 =>
wcons r2 <| ooP fun c2 r3 =>
wnil r3 <|
nad c0 1 fun c3 =>
wblock (fun(h0:FH) =>
kr (.tup []) h0) fun j0 =>
wloop (fun _ _ _ _ _ _=>none) (fun _ (_:PVal) (_ c4:Nat) (_:IVal) (c5:Nat) (h1:FH) =>
nbl c4 c5 fun c6 =>
wif c6 ((none:WR)) <|
j0 h1) L c2 c0 c3 a0 c1 h
noncomputable def zaq:KFun:=⟨zcc,false,false⟩
theorem zbr:KOK tr.look F_Q141 zaq:=⟨i_Q141,(.sq (.rg [qn,qn,qn]) (.bk [] (.lp [.slot 3 qp, .slot 1 qn, .slot 8 qn, .slot 0 qa, .slot 2 qn] (.sq (.sq (.rg [qn,qn,qb]) (.cj .lf .lf)) (.sq .lf .lf))))),[qa,qn,qn,qp],[],[],look_Q141,rfl,rfl,rfl,rfl,by kernel_rfl⟩
noncomputable def zaej:KC:=fun F _ v h kr =>
wcons v <| ooH fun c0 c1 c2 r4 =>
wcons r4 <| ooN fun c3 r5 =>
wcons r5 <| ooI fun c4 r6 =>
wcons r6 <| ooA fun r0 r7 =>
wnil r7 <|
wle r0 5 <|
wspl r0 4 [(.p .nilslice)] fun r1 =>
wg 3 r1 <| oP fun c5 =>
F 53 [(.p c5)] h <| ooP fun c6 h0 =>
wspl r1 3 [(.p c6)] fun r8 =>
nae c2 1 fun c7 =>
hld none c0 c1 c7 h0 <| oM fun c8 =>
hld none c0 c1 c2 h0 fun a0 =>
v_len a0 <| oN fun c9 =>
zbp ⟨false,[.int]⟩ (.map c8) (iN c3) (iN c9) h0 <| ooT fun r9 h1 =>
wnil r9 <|
hld none c0 c1 c2 h1 fun a1 =>
wcut r8 0 5 fun r2 =>
wle r2 5 <|
wspl [(iN c3),(iI c4),(iN 0),(iS []),(iS []),(.p .nilslice),(.p .nilslice),(.p .nilslice)] 2 r2 fun r3 =>
wle r3 8 <|
wspl [(iN 0),(iN 0),(iN 0),(iS []),(iS []),(.p .nilslice),(.p .nilslice),(.p .nilslice)] 0 r3 fun r10 =>
hpush h1 (.cells r10 8 0 false) fun c10 h2 =>
zad 8 a1 (.slice c10 0 0 1) h2 <| ooL fun c11 c12 c13 c14 h3 =>
hwr h3 c0 c1 c2 [(.slice c11 c12 c13 c14)] fun h4 =>
kr (.tup []) h4
noncomputable def zqk:KFun:=⟨zaej,false,false⟩
theorem zye:KOK tr.look F_Q152 zqk:=⟨i_Q152,(.sq (.rg [(qx 7 0)]) (.sq (.rg [(qx 7 4),(.tup [])]) (.sq (.rg [(qx 7 3),qp,qp,(qx 7 3),(.tup [])]) (.sq (.rg [qh,qh,qh,qm,qn,qh,qh,qh,qa,qn,(.tup [])]) (.rg [qh,qh,qh,qh,qa,qn,qi,qv,qv,ql,ql,qh,qh,(.tup [])]))))),[qh,qn,qi,qv],[7],[],look_Q152,rfl,rfl,rfl,rfl,by kernel_rfl⟩
noncomputable def zzm:KC:=fun _ _ v h kr =>
wcons v <| ooH fun c0 c1 c2 r0 =>
wcons r0 <| ooI fun c4 r1 =>
wnil r1 <|
nae c2 1 fun c5 =>
hld none c0 c1 c5 h <| oM fun c6 =>
zaj true (.p (.int .i64 0)) ⟨false,[.int]⟩ (.map c6) (iI c4) h <| ooT fun r2 h0 =>
wcons r2 <| ooN fun c3 r3 =>
wcons r3 <| ooB fun c7 r4 =>
wnil r4 <|
bf (gnot c7) fun c8 =>
wif c8 (kr (.p .nilptr) h0) <|
hld none c0 c1 c2 h0 <| oL fun c9 c10 c11 c12 =>
nlt c3 c12 <|
nam c11 c3 8 fun c13 =>
kr (iH c9 c10 c13) h0
noncomputable def zmy:KFun:=⟨zzm,false,false⟩
theorem ztw:KOK tr.look F_Q153 zmy:=⟨i_Q153,(.sq (.rg [qp]) (.sq (.rg [qh,qh,qh,qm,qi,(.tup [(.c .nat),(.c .bool)]),(.tup [(.c .nat),(.c .bool)]),qn,qb,qn,qb]) (.sq (.sq (.rg [qb,qb]) (.cj (.sq (.rg [qp]) .lf) .lf)) (.sq (.rg [qh,qh,qh,ql,qn,qh,qh]) .lf)))),[qh,qi],[],[],look_Q153,rfl,rfl,rfl,rfl,by kernel_rfl⟩
noncomputable def zaek:KC:=fun F _ v h kr =>
wcons v <| ooH fun c0 c1 c2 r0 =>
wcons r0 <| ooI fun c3 r1 =>
wnil r1 <|
F 153 [(iH c0 c1 c2),(iI c3)] h fun a0 h0 =>
vv (zgs true (.const a0) (.const (.p .nilptr))) <| oB fun c4 =>
kr (iB c4) h0
noncomputable def zql:KFun:=⟨zaek,false,false⟩
theorem zyf:KOK tr.look F_Q154 zql:=⟨i_Q154,(.sq (.rg [qb]) (.sq (.rg [qh,qi,qa,qb,qb]) .lf)),[qh,qi],[],[],look_Q154,rfl,rfl,rfl,rfl,by kernel_rfl⟩
noncomputable def ztx:KC:=fun _ _ v h kr =>
wcons v <| ooH fun c1 c2 c3 r0 =>
wcons r0 <| ooN fun c4 r1 =>
wnil r1 <|
nae c3 2 fun c5 =>
hld none c1 c2 c5 h <| oN fun c6 =>
nbe c6 1 fun c0 =>
wgV (iB c0) false (vv (x_mov (iH c1 c2 c3))) fun a1 =>
wgV (iB c0) false (v_nil a1) fun a2 =>
wgV (iB c0) false (zaa 2 a2) fun a3 =>
wgV (iB c0) false (zaa 0 a3) fun a4 =>
wgV (iB c0) false (zac none a4 ⟨[],h⟩) fun a5 =>
wgV (iB c0) false (v_eql a5 (iN 2)) fun a6 =>
wgV (iB c0) false (vv (x_mov a6)) fun a0 =>
wgV a0 true (vv (x_mov (iN c4))) fun a7 =>
wgV a0 true (v_neq a7 (iN 5)) fun a8 =>
wgV (iB c0) false (zwq a0 a8 (iB false)) fun a9 =>
pk c0 (iB true) a9 <| oB fun c7 =>
kr (iB c7) h
noncomputable def ziv:KFun:=⟨ztx,false,false⟩
theorem zqm:KOK tr.look F_Q155 ziv:=⟨i_Q155,(.sq (.rg [qb]) (.sq (.rg [qh,qh,qh,qh,qn,qb,qb,qa,qa,qa,qa,qa,qa,qa,qa,qa,qa,qb,qb]) .lf)),[qh,qn],[],[],look_Q155,rfl,rfl,rfl,rfl,by kernel_rfl⟩
noncomputable def zyg:KC:=fun F L v h kr =>
wcons v <| ooH fun c5 c6 c7 r0 =>
wcons r0 <| ooN fun c8 r1 =>
wnil r1 <|
wblock (fun(c9:Nat) (h1:FH) =>
kr (iN c9) h1) fun j0 =>
wloop (fun _ _ _ _ _ _=>none) (fun j1 (c3:Int) (c0 c1 c2 c4:Nat) (h2:FH) =>
F 154 [(iH c0 c1 c2),(iI c3)] h2 <| ooB fun c10 h0 =>
wif c10 (wblock (fun(c11:Int) (c12 c13 c14 c15:Nat) (h3:FH) =>
j1 c11 c12 c13 c14 c15 h3) fun j2 =>
nad c4 1 fun c16 =>
F 128 [(iH c0 c1 c2),(iI c3)] h0 <| ooI fun c17 h4 =>
j2 c17 c0 c1 c2 c16 h4) <|
j0 c4 h0) L (.ofNat c8) c5 c6 c7 0 h
noncomputable def zlf:KFun:=⟨zyg,false,false⟩
theorem zrz:KOK tr.look F_Q156 zlf:=⟨i_Q156,(.sq (.rg [qn]) (.sq (.rg [qn]) (.sq (.bk [.slot 5 qn] (.lp [.slot 1 qi, .slot 0 qh, .slot 5 qn] (.sq (.sq (.rg [qh,qi,qb]) (.cj .lf .lf)) (.bk [.slot 1 qi, .slot 0 qh, .slot 5 qn] (.sq (.rg [qn,qn,qn]) (.rg [qh,qn,qi,qi])))))) (.sq (.rg [qn,qn]) .lf)))),[qh,qn],[],[],look_Q156,rfl,rfl,rfl,rfl,by kernel_rfl⟩
noncomputable def zyh:KC:=fun F _ v h kr =>
wcons v <| ooH fun c0 c1 c2 r0 =>
wcons r0 <| ooS fun c3 r1 =>
wnil r1 <|
nae c2 2 fun c4 =>
nae c4 3 fun c5 =>
hld none c0 c1 c5 h <| oP fun c6 =>
F 183 [(.p c6),(iS c3),(.p (.func 184))] h <| ooT fun r2 h0 =>
wcons r2 <| ooN fun c7 r3 =>
wcons r3 <| ooB fun c8 r4 =>
wnil r4 <|
kr (.tup [(iN c7),(iB c8)]) h0
noncomputable def zlg:KFun:=⟨zyh,false,false⟩
theorem zsa:KOK tr.look F_Q161 zlg:=⟨i_Q161,(.sq (.rg [qn,qb]) (.sq (.rg [qh,qh,qh,qh,qp,qs,(.tup [(.c .nat),(.c .bool)]),qn,qb,qn,qb]) .lf)),[qh,qs],[],[],look_Q161,rfl,rfl,rfl,rfl,by kernel_rfl⟩
noncomputable def zdh:KC:=fun _ _ v h kr =>
wcons v <| ooP fun c0 r0 =>
wcons r0 <| ooN fun c1 r1 =>
wcons r1 <| ooL fun c3 c4 c5 c2 r2 =>
wnil r2 <|
zfu 2 (.p c0) (some (iN c1)) none h <| ooP fun _ h0 =>
nbe c2 0 fun c6 =>
wif c6 ((none:WR)) <|
v_len (.p c0) <| oN fun c7 =>
nbe c1 c7 fun c8 =>
wif c8 (zad 2 (.p c0) (.slice c3 c4 c5 c2) h0 <| ooL fun c9 c10 c11 c12 h1 =>
kr (.slice c9 c10 c11 c12) h1) <|
(none:WR)
noncomputable def zbc:KFun:=⟨zdh,false,false⟩
theorem zcp:KOK tr.look F_Q162 zbc:=⟨i_Q162,(.sq (.rg [qp]) (.sq (.rg [qp,qn,qp]) (.sq (.rg [ql,qn,qn]) (.sq (.sq (.rg [qn,qb]) (.cj (.sq .lf .lf) .lf)) (.sq (.rg [qp,qn,qn]) (.sq (.sq (.rg [qn,qn,qb]) (.cj (.sq (.rg [qp,ql,ql,ql]) .lf) .lf)) (.sq (.sq .lf (.cj (.sq .lf (.sq .lf (.sq .lf (.sq .lf .lf)))) .lf)) (.sq .lf (.sq (.sq .lf (.cj (.sq .lf (.sq .lf (.sq .lf .lf))) .lf)) (.sq .lf (.sq .lf (.sq .lf .lf)))))))))))),[qp,qn,ql],[],[31,9],look_Q162,rfl,rfl,rfl,rfl,by kernel_rfl⟩
noncomputable def zjg:KC:=fun _ L v h kr =>
wcons v <| ooP fun c1 r0 =>
wcons r0 <| ooN fun c5 r1 =>
wnil r1 <|
v_len (.p c1) <| oN fun c6 =>
wblock (fun(_:FH) =>
(none:WR)) fun j0 =>
wloop (fun _ _ _ _ _=>none) (fun j1 (c0:Nat) (c2:PVal) (c3 c4:Nat) (h0:FH) =>
nbl c0 c4 fun c7 =>
wif c7 (wblock (fun(c8:Nat) (c9:PVal) (c10 c11:Nat) (h1:FH) =>
nad c8 1 fun c12 =>
j1 c12 c9 c10 c11 h1) fun j2 =>
zab 1 (.p c2) (iN c0) <| oP fun c13 =>
zac none (.p c13) ⟨[],h0⟩ <| oN fun c14 =>
nbe c3 c14 fun c15 =>
wif c15 (kr (iN c0) h0) <|
j2 c0 c2 c3 c4 h0) <|
j0 h0) L 0 c1 c5 c6 h
noncomputable def zdq:KFun:=⟨zjg,true,false⟩
theorem zhu:KOK tr.look F_Q163 zdq:=⟨i_Q163,(.sq (.rg [qn]) (.sq (.sq (.rg [qp,qn,qn]) (.bk [] (.lp [.slot 8 qn, .slot 0 qp, .slot 1 qn, .slot 7 qn] (.sq (.rg [qb]) (.sq (.cj .lf .lf) (.sq (.bk [.slot 8 qn, .slot 0 qp, .slot 1 qn, .slot 7 qn] (.sq (.rg [qn,qn]) (.sq (.rg [qn,qp,qn,qp,qn,qb]) (.cj (.sq (.rg [qn,qn]) .lf) .lf)))) (.rg [qn,qn]))))))) (.sq .lf .lf))),[qp,qn],[],[],look_Q163,rfl,rfl,rfl,rfl,by kernel_rfl⟩
noncomputable def zako:KC:=fun F L v h kr =>
wcons v <| ooA fun r0 r2 =>
wcons r2 <| ooP fun c11 r3 =>
wnil r3 <|
wle r0 5 <|
wg 0 r0 <| oN fun c12 =>
vv (zfs .u64 (iN c12)) <| oP fun c13 =>
wg 1 r0 <| oS fun c14 =>
F 189 [(iS c14)] h <| ooP fun c15 h2 =>
F 188 [(.p c13),(.p c15)] h2 <| ooP fun c16 h3 =>
wg 2 r0 <| oS fun c17 =>
F 189 [(iS c17)] h3 <| ooP fun c18 h4 =>
F 188 [(.p c16),(.p c18)] h4 <| ooP fun c19 h5 =>
wg 3 r0 <| oP fun c20 =>
v_len (.p c20) <| oN fun c21 =>
vv (zfs .u64 (iN c21)) <| oP fun c22 =>
F 188 [(.p c19),(.p c22)] h5 <| ooP fun c23 h6 =>
wg 3 r0 <| oP fun c3 =>
v_len (.p c3) <| oN fun c24 =>
wblock (fun(c25 c0:PVal) (h7:FH) =>
v_len (.p c0) <| oN fun c26 =>
vv (zfs .u64 (iN c26)) <| oP fun c27 =>
F 188 [(.p c25),(.p c27)] h7 <| ooP fun c28 h8 =>
v_len (.p c0) <| oN fun c29 =>
wblock (fun(c30:PVal) (h9:FH) =>
kr (.p c30) h9) fun j0 =>
wloop (fun _ _ _ _ _=>none) (fun j1 (c1:Nat) (c4 c5:PVal) (c6:Nat) (h0:FH) =>
nbl c1 c6 fun c31 =>
wif c31 (wblock (fun(c32:Nat) (c33 c34:PVal) (c35:Nat) (h10:FH) =>
nad c32 1 fun c36 =>
j1 c36 c33 c34 c35 h10) fun j2 =>
zab 1 (.p c5) (iN c1) <| oP fun c37 =>
zac none (.p c37) ⟨[],h0⟩ <| oP fun c38 =>
F 188 [(.p c4),(.p c38)] h0 <| ooP fun c39 h11 =>
j2 c1 c39 c5 c6 h11) <|
j0 c4 h0) L 0 c28 c0 c29 h8) fun j3 =>
wloop (fun _ _ _ _ _ _=>none) (fun j4 (c2:Nat) (c7 c8 c9:PVal) (c10:Nat) (h1:FH) =>
nbl c2 c10 fun c40 =>
wif c40 (wblock (fun(c41:Nat) (c42 c43 c44:PVal) (c45:Nat) (h12:FH) =>
nad c41 1 fun c46 =>
j4 c46 c42 c43 c44 c45 h12) fun j5 =>
zab 2 (.p c8) (iN c2) <| oP fun c47 =>
zac (some 2) (.p c47) ⟨[nb_ 7],h1⟩ <| oA fun r1 =>
wle r1 2 <|
wg 0 r1 <| oS fun c48 =>
F 189 [(iS c48)] h1 <| ooP fun c49 h13 =>
F 188 [(.p c7),(.p c49)] h13 <| ooP fun c50 h14 =>
wg 1 r1 <| oS fun c51 =>
F 189 [(iS c51)] h14 <| ooP fun c52 h15 =>
F 188 [(.p c50),(.p c52)] h15 <| ooP fun c53 h16 =>
j5 c2 c53 c8 c9 c10 h16) <|
j3 c7 c9 h1) L 0 c23 c3 c11 c24 h6
noncomputable def zyi:KFun:=⟨zako,true,false⟩
theorem zael:KOK tr.look F_Q164 zyi:=⟨i_Q164,(.sq (.rg [(qx 2 0),qp]) (.sq (.rg [(qx 2 0),qn,qp,qp]) (.sq (.rg [qp,(qx 2 1),qs,qp,qp,qp]) (.sq (.rg [qp,(qx 2 2),qs,qp,qp,qp]) (.sq (.rg [qp,(qx 2 3),qp,qn,qp,qp,qp]) (.sq (.sq (.rg [(qx 2 3),qp,qn,qn]) (.bk [.slot 5 qp, .slot 1 qp] (.lp [.slot 32 qn, .slot 5 qp, .slot 30 qp, .slot 1 qp, .slot 31 qn] (.sq (.rg [qb]) (.sq (.cj .lf .lf) (.sq (.bk [.slot 32 qn, .slot 5 qp, .slot 30 qp, .slot 1 qp, .slot 31 qn] (.sq (.rg [qp,qv,(qx 7 0),(.tup [])]) (.sq (.rg [qp,(qx 7 0),qs,qp,qp,qp]) (.rg [qp,(qx 7 1),qs,qp,qp,qp])))) (.rg [qn,qn]))))))) (.sq (.rg [qp,qp,qn,qp,qp,qp]) (.sq (.sq (.rg [qp,qn,qn]) (.bk [.slot 5 qp] (.lp [.slot 54 qn, .slot 5 qp, .slot 52 qp, .slot 53 qn] (.sq (.rg [qb]) (.sq (.cj .lf .lf) (.sq (.bk [.slot 54 qn, .slot 5 qp, .slot 52 qp, .slot 53 qn] (.sq (.rg [qp,qp,qp]) (.rg [qp,qp,qp,qp]))) (.rg [qn,qn]))))))) (.sq (.rg [qp,qp]) .lf))))))))),[qv,qp],[7,2],[],look_Q164,rfl,rfl,rfl,rfl,by kernel_rfl⟩
noncomputable def zaon:KC:=fun F L v h kr =>
wcons v <| ooA fun r0 r3 =>
wnil r3 <|
wle r0 5 <|
wcut r0 0 5 fun r4 =>
F 27 [(.agg r4)] h <| ooP fun c31 h3 =>
wcut r0 0 5 fun r5 =>
F 58 [(.agg r5)] h3 <| ooP fun c32 h4 =>
hpush h4 (.cells [(.p .nilslice),(.p c32),(.p .nilslice)] 3 0 false) fun c16 h2 =>
hld none c16 0 1 h2 <| oP fun c17 =>
v_len (.p c17) <| oN fun c33 =>
wblock (fun(c34 c35 c36:Nat) (h5:FH) =>
kr (iH c34 c35 c36) h5) fun j0 =>
wloop (fun _ _ _ _ _ _ _ _=>none) (fun j1 (c5 c0 c1 c2:Nat) (c3 c18:PVal) (c19:Nat) (h0:FH) =>
nbl c5 c19 fun c37 =>
wif c37 (wblock (fun(c38 c39 c40 c41:Nat) (c42 c43:PVal) (c44:Nat) (h6:FH) =>
nad c38 1 fun c45 =>
j1 c45 c39 c40 c41 c42 c43 c44 h6) fun j2 =>
zab 1 (.p c18) (iN c5) <| oP fun c46 =>
zac none (.p c46) ⟨[],h0⟩ <| oN fun c4 =>
wmul (wboth 0 (hld none c0 c1 c2 h0 fun a0 =>
zab 10 (.p c3) (iN c4) <| oP fun c20 =>
zaa 5 (.p c20) <| oP fun c21 =>
zac (some 5) (.p c21) ⟨[],h0⟩ <| oA fun r1 =>
v_len a0 <| oN fun c10 =>
hpush h0 (.cells zt5 5 0 false) fun c22 h7 =>
zad 5 a0 (.slice c22 0 0 1) h7 <| ooL fun c6 c7 c11 c12 h8 =>
nlt c10 c12 <|
nam c11 c10 5 fun c23 =>
wle r1 5 <|
hwr h8 c6 c7 c23 r1 fun h9 =>
hwr h9 c0 c1 c2 [(.slice c6 c7 c11 c12)] fun h10 =>
some ([(iH c0 c1 c2),(iH c0 c1 c2),(iH c0 c1 c2),a0,(.p c3),(iN c4),(.p c20),(.p c21),(.agg r1),(iN c10),(.slice c22 0 0 1),(.slice c6 c7 c11 c12),(iH c6 c7 c23),(.tup []),(iH c0 c1 c2),(iH c0 c1 c2),(.tup [])],⟨[],h10⟩)) (hld none c0 c1 c2 h0 fun a1 =>
zab 10 (.p c3) (iN c4) <| oP fun c24 =>
zaa 5 (.p c24) <| oP fun c25 =>
zac (some 5) (.p c25) ⟨[],h0⟩ <| oA fun r2 =>
v_len a1 <| oN fun c13 =>
hpush h0 (.cells zt5 5 0 false) fun c26 h11 =>
zad 5 a1 (.slice c26 0 0 1) h11 <| ooL fun c8 c9 c14 c15 h12 =>
nlt c13 c15 <|
nam c14 c13 5 fun c27 =>
hwr h12 c0 c1 c2 [(.slice c8 c9 c14 c15)] fun h13 =>
wle r2 5 <|
hwr h13 c8 c9 c27 r2 fun h14 =>
some ([(iH c0 c1 c2),(iH c0 c1 c2),(iH c0 c1 c2),a1,(.p c3),(iN c4),(.p c24),(.p c25),(.agg r2),(iN c13),(.slice c26 0 0 1),(.slice c8 c9 c14 c15),(iH c8 c9 c27),(.tup []),(iH c0 c1 c2),(iH c0 c1 c2),(.tup [])],⟨[],h14⟩))) fun r6 h1 =>
wcons r6 <| ooH fun _ _ _ r7 =>
wcons r7 <| ooH fun _ _ _ r8 =>
wcons r8 <| ooH fun _ _ _ r9 =>
wcons r9 fun _ r10 =>
wcons r10 <| ooP fun _ r11 =>
wcons r11 <| ooN fun _ r12 =>
wcons r12 <| ooP fun _ r13 =>
wcons r13 <| ooP fun _ r14 =>
wcons r14 <| ooA fun _ r15 =>
wcons r15 <| ooN fun _ r16 =>
wcons r16 <| ooL fun _ _ _ _ r17 =>
wcons r17 <| ooL fun _ _ _ _ r18 =>
wcons r18 <| ooH fun _ _ _ r19 =>
wcons r19 <| ooT fun r20 r21 =>
wnil r20 <|
wcons r21 <| ooH fun _ _ _ r22 =>
wcons r22 <| ooH fun _ _ _ r23 =>
wcons r23 <| ooT fun r24 r25 =>
wnil r24 <|
wnil r25 <|
nae c2 2 fun c47 =>
hld none c0 c1 c47 h1 fun a2 =>
nad c5 1 fun c28 =>
zab 10 (.p c3) (iN c4) <| oP fun c48 =>
zaa 1 (.p c48) <| oP fun c49 =>
zac none (.p c49) ⟨[],h1⟩ <| oN fun c29 =>
ift (Nat.ble c29 c28) <|
nforce (Nat.sub c28 c29) fun c30 =>
nlt c30 lim63 <|
hpush h1 (.cells [(iN c30)] 1 0 false) fun c50 h15 =>
zad 1 a2 (.slice c50 0 0 1) h15 <| ooL fun c51 c52 c53 c54 h16 =>
nae c2 2 fun c55 =>
hwr h16 c0 c1 c55 [(.slice c51 c52 c53 c54)] fun h17 =>
j2 c5 c0 c1 c2 c3 c18 c19 h17) <|
j0 c0 c1 c2 h0) L 0 c16 0 0 c31 c17 c33 h2
noncomputable def zabl:KFun:=⟨zaon,false,false⟩
theorem zahs:KOK tr.look F_Q165 zabl:=⟨i_Q165,(.sq (.rg [(qx 1 0),qp]) (.sq (.rg [qv,qp,qp]) (.sq (.rg [qv,qp,qv,qh,qh]) (.sq (.sq (.rg [qh,qh,qh,qp,qn,qn]) (.bk [.slot 4 qh] (.lp [.slot 18 qn, .slot 4 qh, .slot 3 qp, .slot 16 qp, .slot 17 qn] (.sq (.rg [qb]) (.sq (.cj .lf .lf) (.sq (.bk [.slot 18 qn, .slot 4 qh, .slot 3 qp, .slot 16 qp, .slot 17 qn] (.sq (.rg [qn,qp,qn,qn,qn]) (.sq (.rg [qh,qh,qh,qa,qp,qn,qp,qp,qv,qn,ql,ql,qh,(.tup []),qh,qh,(.tup [])]) (.rg [qh,qh,qh,qh,qa,qn,qn,qp,qn,qp,qp,qn,qn,ql,ql,qh,qh,(.tup [])])))) (.rg [qn,qn]))))))) (.sq (.rg [qh,qh]) .lf))))),[qv],[1],[],look_Q165,rfl,rfl,rfl,rfl,by kernel_rfl⟩
noncomputable def zaht:KC:=fun F _ v h kr =>
wcons v <| ooN fun c0 r1 =>
wcons r1 <| ooI fun c1 r2 =>
wnil r2 <|
v_gtr (iN c0) (iI c1) <| oB fun c2 =>
wif c2 (F 167 [] h <| ooA fun r0 h0 =>
wle r0 2 <|
wcut r0 0 2 fun r3 =>
kr (.agg r3) h0) <|
kr (.agg [(iN c0),(iI c1)]) h
noncomputable def zti:KFun:=⟨zaht,true,false⟩
theorem zzn:KOK tr.look F_Q166 zti:=⟨i_Q166,(.sq (.rg [(qx 4 0)]) (.sq (.sq (.rg [qn,qi,qb]) (.cj (.sq (.rg [qv,(.tup [])]) .lf) .lf)) (.sq (.rg [qn,qn,qv,(.tup [])]) .lf))),[qn,qi],[4],[],look_Q166,rfl,rfl,rfl,rfl,by kernel_rfl⟩
noncomputable def zahu:KC:=fun _ _ v h kr =>
wnil v <|
kr (.agg [(iN 0),(iI (-1))]) h
noncomputable def ztj:KFun:=⟨zahu,true,false⟩
theorem zzo:KOK tr.look F_Q167 ztj:=⟨i_Q167,(.sq (.rg [(qx 0 0)]) (.sq (.rg [qv,(.tup [])]) .lf)),[],[0],[],look_Q167,rfl,rfl,rfl,rfl,by kernel_rfl⟩
noncomputable def zqn:KC:=fun F _ v h kr =>
wcons v <| ooH fun c15 c16 c17 r5 =>
wcons r5 <| ooA fun r0 r6 =>
wcons r6 <| ooA fun r1 r7 =>
wnil r7 <|
wle r0 2 <|
wle r1 2 <|
wblock (fun(c4 c5 c6 c0 c1 c2 c3:Nat) (h7:FH) =>
nae c6 2 fun c18 =>
hld none c4 c5 c18 h7 <| oM fun c19 =>
zaj true (.p (.int .i64 0)) ⟨true,[.int, .int, .int, .int]⟩ (.map c19) (.agg [(iN c2),(iN c3),(iN c0),(iN c1)]) h7 <| ooT fun r8 h8 =>
wcons r8 <| ooN fun c20 r9 =>
wcons r9 <| ooB fun c21 r10 =>
wnil r10 <|
bf (gnot c21) fun c22 =>
wblock (fun(c23:Nat) (h11:FH) =>
kr (iN c23) h11) fun j0 =>
wif c22 (F 169 [(iH c4 c5 c6),(.agg [(iN c2),(iN c3)]),(.agg [(iN c0),(iN c1)])] h8 <| ooN fun c24 h0 =>
ift (wchk F ⟨[b_ 7 [(iN c2),(iN c3),(iN c0),(iN c1)] 4,b_ 7 [(iN 0),(iN 0),(iN 0),(iN 0)] 4,nb_ 7,b_ 5 [(iN c0),(iN c1)] 2,b_ 4 [(iN c2),(iN c3)] 2],h0⟩ (.load (some 2) (.const (iX 4 0))) (.agg [(iN c2),(iN c3)])) <|
ift (wchk F ⟨[b_ 7 [(iN c2),(iN c3),(iN c0),(iN c1)] 4,b_ 7 [(iN 0),(iN 0),(iN 0),(iN 0)] 4,nb_ 7,b_ 5 [(iN c0),(iN c1)] 2,b_ 4 [(iN c2),(iN c3)] 2],h0⟩ (.load (some 2) (.const (iX 5 0))) (.agg [(iN c0),(iN c1)])) <|
ift (wchk F ⟨[b_ 7 [(iN c2),(iN c3),(iN c0),(iN c1)] 4,b_ 7 [(iN 0),(iN 0),(iN 0),(iN 0)] 4,nb_ 7,b_ 5 [(iN c0),(iN c1)] 2,b_ 4 [(iN c2),(iN c3)] 2],h0⟩ (.load (some 2) (.const (iX 4 0))) (.agg [(iN c2),(iN c3)])) <|
ift (wchk F ⟨[b_ 7 [(iN c2),(iN c3),(iN c0),(iN c1)] 4,b_ 7 [(iN 0),(iN 0),(iN 0),(iN 0)] 4,nb_ 7,b_ 5 [(iN c0),(iN c1)] 2,b_ 4 [(iN c2),(iN c3)] 2],h0⟩ (.load (some 2) (.const (iX 5 0))) (.agg [(iN c0),(iN c1)])) <|
F 173 [(.agg [(iN c2),(iN c3)])] h0 <| ooA fun r11 h1 =>
ift (wchk F ⟨[b_ 7 [(iN c2),(iN c3),(iN c0),(iN c1)] 4,b_ 7 [(iN 0),(iN 0),(iN 0),(iN 0)] 4,nb_ 7,b_ 5 [(iN c0),(iN c1)] 2,b_ 4 [(iN c2),(iN c3)] 2],h1⟩ (.load (some 2) (.const (iX 5 0))) (.agg [(iN c0),(iN c1)])) <|
ift (wchk F ⟨[b_ 7 [(iN c2),(iN c3),(iN c0),(iN c1)] 4,b_ 7 [(iN 0),(iN 0),(iN 0),(iN 0)] 4,nb_ 7,b_ 5 [(iN c0),(iN c1)] 2,b_ 4 [(iN c2),(iN c3)] 2],h1⟩ (.load (some 2) (.const (iX 4 0))) (.agg [(iN c2),(iN c3)])) <|
ift (wchk F ⟨[b_ 7 [(iN c2),(iN c3),(iN c0),(iN c1)] 4,b_ 7 [(iN 0),(iN 0),(iN 0),(iN 0)] 4,nb_ 7,b_ 5 [(iN c0),(iN c1)] 2,b_ 4 [(iN c2),(iN c3)] 2],h1⟩ (.load (some 2) (.const (iX 5 0))) (.agg [(iN c0),(iN c1)])) <|
F 168 [(iH c4 c5 c6),(.agg r11),(.agg [(iN c0),(iN c1)])] h1 <| ooN fun c25 h2 =>
nad c25 1 fun c26 =>
ift (wchk F ⟨[b_ 7 [(iN c2),(iN c3),(iN c0),(iN c1)] 4,b_ 7 [(iN 0),(iN 0),(iN 0),(iN 0)] 4,nb_ 7,b_ 5 [(iN c0),(iN c1)] 2,b_ 4 [(iN c2),(iN c3)] 2],h2⟩ (.load (some 2) (.const (iX 4 0))) (.agg [(iN c2),(iN c3)])) <|
ift (wchk F ⟨[b_ 7 [(iN c2),(iN c3),(iN c0),(iN c1)] 4,b_ 7 [(iN 0),(iN 0),(iN 0),(iN 0)] 4,nb_ 7,b_ 5 [(iN c0),(iN c1)] 2,b_ 4 [(iN c2),(iN c3)] 2],h2⟩ (.load (some 2) (.const (iX 5 0))) (.agg [(iN c0),(iN c1)])) <|
F 173 [(.agg [(iN c0),(iN c1)])] h2 <| ooA fun r12 h9 =>
ift (wchk F ⟨[b_ 7 [(iN c2),(iN c3),(iN c0),(iN c1)] 4,b_ 7 [(iN 0),(iN 0),(iN 0),(iN 0)] 4,nb_ 7,b_ 5 [(iN c0),(iN c1)] 2,b_ 4 [(iN c2),(iN c3)] 2],h9⟩ (.load (some 2) (.const (iX 4 0))) (.agg [(iN c2),(iN c3)])) <|
F 168 [(iH c4 c5 c6),(.agg [(iN c2),(iN c3)]),(.agg r12)] h9 <| ooN fun c27 h10 =>
nad c27 1 fun c28 =>
vv (zagl [(.const (iN c24)),(.const (iN c26)),(.const (iN c28))]) <| oN fun c8 =>
nae c6 2 fun c29 =>
hld none c4 c5 c29 h10 <| oM fun c30 =>
zbp ⟨true,[.int, .int, .int, .int]⟩ (.map c30) (.agg [(iN c2),(iN c3),(iN c0),(iN c1)]) (iN c8) h10 <| ooT fun r13 h12 =>
wnil r13 <|
j0 c8 h12) <|
j0 c20 h8) fun j1 =>
wcut r0 0 2 fun r2 =>
F 167 [] h <| ooA fun r14 h3 =>
vv (x_eqv false ⟨true,[.int, .int]⟩ (.const (.agg r2)) (.const (.agg r14))) <| oB fun c7 =>
wgV (iB c7) true (zac (some 2) (iX 5 0) ⟨[b_ 5 r1 2,b_ 4 r0 2,nb_ 7,nb_ 4,nb_ 5],h3⟩) fun a0 =>
ift (wchk F ⟨[b_ 5 r1 2,b_ 4 r0 2,nb_ 7,nb_ 4,nb_ 5],h3⟩ (.load (some 2) (.const (iX 4 0))) (.agg r2)) <|
wgH (iB c7) true (wcallH (.p (.func 167)) [] F) h3 fun a1 h4 =>
wgV (iB c7) true (vv (x_eqv false ⟨true,[.int, .int]⟩ (.const a0) (.const a1))) fun a2 =>
pk c7 a2 (iB false) <| oB fun c31 =>
ift (wgb (iB c7) true (wchk F ⟨[b_ 5 r1 2,b_ 4 r0 2,nb_ 7,nb_ 4,nb_ 5],h4⟩ (.load (some 2) (.const (iX 5 0))) a0)) <|
wif c31 (kr (iN 0) h4) <|
wcut r0 0 2 fun r3 =>
F 167 [] h4 <| ooA fun r15 h5 =>
vv (x_eqv false ⟨true,[.int, .int]⟩ (.const (.agg r3)) (.const (.agg r15))) <| oB fun c32 =>
ift (wchk F ⟨[b_ 5 r1 2,b_ 4 r0 2,nb_ 7,nb_ 4,nb_ 5],h5⟩ (.load (some 2) (.const (iX 4 0))) (.agg r3)) <|
wif c32 (wg 1 r1 <| oN fun c9 =>
wg 0 r1 <| oN fun c10 =>
ift (Nat.ble c10 c9) <|
nforce (Nat.sub c9 c10) fun c11 =>
nlt c11 lim63 <|
nad c11 1 fun c33 =>
kr (iN c33) h5) <|
wcut r1 0 2 fun r4 =>
F 167 [] h5 <| ooA fun r16 h6 =>
vv (x_eqv false ⟨true,[.int, .int]⟩ (.const (.agg r4)) (.const (.agg r16))) <| oB fun c34 =>
ift (wchk F ⟨[b_ 5 r1 2,b_ 4 r0 2,nb_ 7,nb_ 4,nb_ 5],h6⟩ (.load (some 2) (.const (iX 5 0))) (.agg r4)) <|
wif c34 (wg 1 r0 <| oN fun c12 =>
wg 0 r0 <| oN fun c13 =>
ift (Nat.ble c13 c12) <|
nforce (Nat.sub c12 c13) fun c14 =>
nlt c14 lim63 <|
nad c14 1 fun c35 =>
kr (iN c35) h6) <|
wcons r1 <| ooN fun c36 r17 =>
wcons r17 <| ooN fun c37 r18 =>
wnil r18 <|
wcons r0 <| ooN fun c38 r19 =>
wcons r19 <| ooN fun c39 r20 =>
wnil r20 <|
j1 c15 c16 c17 c36 c37 c38 c39 h6
noncomputable def zgo:KFun:=⟨zqn,false,false⟩
theorem zme:KOK tr.look F_Q168 zgo:=⟨i_Q168,(.sq (.rg [(qx 4 0),(qx 5 0),qn]) (.sq (.bk [sx 5,sx 4, .slot 0 qh,(.box 5 (.cells 2 [.nat, .nat])),(.box 4 (.cells 2 [.nat, .nat]))] (.sq (.rg [qv,qv,qb,qb,qa,qa,qa,qb,qb]) (.cj (.sq (.rg [qn]) .lf) (.sq (.rg [qv,qv,qb,qb]) (.cj (.sq (.rg [(qx 5 1),qn,(qx 5 0),qn,qn,qn,qn]) .lf) (.sq (.rg [qv,qv,qb,qb]) (.cj (.sq (.rg [(qx 4 1),qn,(qx 4 0),qn,qn,qn,qn]) .lf) .lf))))))) (.sq (.rg [qv,qv,qv,(qx 7 0),(.tup [])]) (.sq (.rg [qh,qh,qh,qm,qv,(.tup [(.c .nat),(.c .bool)]),(.tup [(.c .nat),(.c .bool)]),qn,qb,qn,qb]) (.sq (.sq (.rg [qb,qb]) (.cd [.slot 8 qn] (.sq (.rg [qh,qv,qv,qn,qh,qv,qv,qv,qn,qn,qh,qv,qv,qv,qn,qn,qn,qn]) (.rg [qh,qh,qh,qm,qv,qn,(.tup [])])) .lf)) (.sq (.rg [qn,qn]) .lf)))))),[qh,qv,qv],[7,4,5],[],look_Q168,rfl,rfl,rfl,rfl,by kernel_rfl⟩
noncomputable def zmf:KC:=fun F _ v h kr =>
wcons v <| ooH fun c0 c1 c2 r7 =>
wcons r7 <| ooA fun r0 r8 =>
wcons r8 <| ooA fun r1 r9 =>
wnil r9 <|
wle r0 2 <|
wle r1 2 <|
hld none c0 c1 c2 h <| oH fun c33 c34 c35 =>
wcut r0 0 2 fun r10 =>
nae c2 1 fun c29 =>
hld none c0 c1 c29 h <| oH fun c30 c31 c32 =>
wcut r1 0 2 fun r6 =>
hld none c0 c1 c2 h <| oH fun c26 c27 c28 =>
wcut r0 0 2 fun r5 =>
nae c2 1 fun c22 =>
hld none c0 c1 c22 h <| oH fun c23 c24 c25 =>
wcut r1 0 2 fun r4 =>
hld none c0 c1 c2 h <| oH fun c3 c4 c5 =>
hld none c3 c4 c5 h <| oL fun c6 c7 c15 c16 =>
wg 1 r0 <| oN fun c13 =>
nlt c13 c16 <|
nam c15 c13 5 fun c17 =>
hld (some 5) c6 c7 c17 h <| oA fun r2 =>
nae c2 1 fun c18 =>
hld none c0 c1 c18 h <| oH fun c8 c9 c10 =>
hld none c8 c9 c10 h <| oL fun c11 c12 c19 c20 =>
wg 1 r1 <| oN fun c14 =>
nlt c14 c20 <|
nam c19 c14 5 fun c21 =>
hld (some 5) c11 c12 c21 h <| oA fun r3 =>
F 170 [(iH c33 c34 c35),(.agg r10)] h <| ooA fun r11 h0 =>
ift (wchk F ⟨[b_ 5 r1 2,b_ 4 r0 2,nb_ 4,nb_ 5],h0⟩ (.load none (.const (iH c0 c1 c29))) (iH c30 c31 c32)) <|
ift (wchk F ⟨[b_ 5 r1 2,b_ 4 r0 2,nb_ 4,nb_ 5],h0⟩ (.load (some 2) (.const (iX 5 0))) (.agg r6)) <|
ift (wchk F ⟨[b_ 5 r1 2,b_ 4 r0 2,nb_ 4,nb_ 5],h0⟩ (.load none (.const (iH c0 c1 c2))) (iH c26 c27 c28)) <|
ift (wchk F ⟨[b_ 5 r1 2,b_ 4 r0 2,nb_ 4,nb_ 5],h0⟩ (.load (some 2) (.const (iX 4 0))) (.agg r5)) <|
ift (wchk F ⟨[b_ 5 r1 2,b_ 4 r0 2,nb_ 4,nb_ 5],h0⟩ (.load none (.const (iH c0 c1 c22))) (iH c23 c24 c25)) <|
ift (wchk F ⟨[b_ 5 r1 2,b_ 4 r0 2,nb_ 4,nb_ 5],h0⟩ (.load (some 2) (.const (iX 5 0))) (.agg r4)) <|
ift (wchk F ⟨[b_ 5 r1 2,b_ 4 r0 2,nb_ 4,nb_ 5],h0⟩ (.load none (.const (iH c0 c1 c2))) (iH c3 c4 c5)) <|
ift (wchk F ⟨[b_ 5 r1 2,b_ 4 r0 2,nb_ 4,nb_ 5],h0⟩ (.load none (.const (iH c3 c4 c5))) (.slice c6 c7 c15 c16)) <|
ift (wchk F ⟨[b_ 5 r1 2,b_ 4 r0 2,nb_ 4,nb_ 5],h0⟩ (.load none (.const (iX 4 1))) (iN c13)) <|
ift (wchk F ⟨[b_ 5 r1 2,b_ 4 r0 2,nb_ 4,nb_ 5],h0⟩ (.load (some 5) (.const (iH c6 c7 c17))) (.agg r2)) <|
ift (wchk F ⟨[b_ 5 r1 2,b_ 4 r0 2,nb_ 4,nb_ 5],h0⟩ (.load none (.const (iH c0 c1 c18))) (iH c8 c9 c10)) <|
ift (wchk F ⟨[b_ 5 r1 2,b_ 4 r0 2,nb_ 4,nb_ 5],h0⟩ (.load none (.const (iH c8 c9 c10))) (.slice c11 c12 c19 c20)) <|
ift (wchk F ⟨[b_ 5 r1 2,b_ 4 r0 2,nb_ 4,nb_ 5],h0⟩ (.load none (.const (iX 5 1))) (iN c14)) <|
ift (wchk F ⟨[b_ 5 r1 2,b_ 4 r0 2,nb_ 4,nb_ 5],h0⟩ (.load (some 5) (.const (iH c11 c12 c21))) (.agg r3)) <|
F 170 [(iH c30 c31 c32),(.agg r6)] h0 <| ooA fun r12 h1 =>
ift (wchk F ⟨[b_ 5 r1 2,b_ 4 r0 2,nb_ 4,nb_ 5],h1⟩ (.load none (.const (iH c0 c1 c2))) (iH c26 c27 c28)) <|
ift (wchk F ⟨[b_ 5 r1 2,b_ 4 r0 2,nb_ 4,nb_ 5],h1⟩ (.load (some 2) (.const (iX 4 0))) (.agg r5)) <|
ift (wchk F ⟨[b_ 5 r1 2,b_ 4 r0 2,nb_ 4,nb_ 5],h1⟩ (.load none (.const (iH c0 c1 c22))) (iH c23 c24 c25)) <|
ift (wchk F ⟨[b_ 5 r1 2,b_ 4 r0 2,nb_ 4,nb_ 5],h1⟩ (.load (some 2) (.const (iX 5 0))) (.agg r4)) <|
ift (wchk F ⟨[b_ 5 r1 2,b_ 4 r0 2,nb_ 4,nb_ 5],h1⟩ (.load none (.const (iH c0 c1 c2))) (iH c3 c4 c5)) <|
ift (wchk F ⟨[b_ 5 r1 2,b_ 4 r0 2,nb_ 4,nb_ 5],h1⟩ (.load none (.const (iH c3 c4 c5))) (.slice c6 c7 c15 c16)) <|
ift (wchk F ⟨[b_ 5 r1 2,b_ 4 r0 2,nb_ 4,nb_ 5],h1⟩ (.load none (.const (iX 4 1))) (iN c13)) <|
ift (wchk F ⟨[b_ 5 r1 2,b_ 4 r0 2,nb_ 4,nb_ 5],h1⟩ (.load (some 5) (.const (iH c6 c7 c17))) (.agg r2)) <|
ift (wchk F ⟨[b_ 5 r1 2,b_ 4 r0 2,nb_ 4,nb_ 5],h1⟩ (.load none (.const (iH c0 c1 c18))) (iH c8 c9 c10)) <|
ift (wchk F ⟨[b_ 5 r1 2,b_ 4 r0 2,nb_ 4,nb_ 5],h1⟩ (.load none (.const (iH c8 c9 c10))) (.slice c11 c12 c19 c20)) <|
ift (wchk F ⟨[b_ 5 r1 2,b_ 4 r0 2,nb_ 4,nb_ 5],h1⟩ (.load none (.const (iX 5 1))) (iN c14)) <|
ift (wchk F ⟨[b_ 5 r1 2,b_ 4 r0 2,nb_ 4,nb_ 5],h1⟩ (.load (some 5) (.const (iH c11 c12 c21))) (.agg r3)) <|
F 168 [(iH c0 c1 c2),(.agg r11),(.agg r12)] h1 <| ooN fun c36 h2 =>
ift (wchk F ⟨[b_ 5 r1 2,b_ 4 r0 2,nb_ 4,nb_ 5],h2⟩ (.load none (.const (iH c0 c1 c2))) (iH c26 c27 c28)) <|
ift (wchk F ⟨[b_ 5 r1 2,b_ 4 r0 2,nb_ 4,nb_ 5],h2⟩ (.load (some 2) (.const (iX 4 0))) (.agg r5)) <|
ift (wchk F ⟨[b_ 5 r1 2,b_ 4 r0 2,nb_ 4,nb_ 5],h2⟩ (.load none (.const (iH c0 c1 c22))) (iH c23 c24 c25)) <|
ift (wchk F ⟨[b_ 5 r1 2,b_ 4 r0 2,nb_ 4,nb_ 5],h2⟩ (.load (some 2) (.const (iX 5 0))) (.agg r4)) <|
ift (wchk F ⟨[b_ 5 r1 2,b_ 4 r0 2,nb_ 4,nb_ 5],h2⟩ (.load none (.const (iH c0 c1 c2))) (iH c3 c4 c5)) <|
ift (wchk F ⟨[b_ 5 r1 2,b_ 4 r0 2,nb_ 4,nb_ 5],h2⟩ (.load none (.const (iH c3 c4 c5))) (.slice c6 c7 c15 c16)) <|
ift (wchk F ⟨[b_ 5 r1 2,b_ 4 r0 2,nb_ 4,nb_ 5],h2⟩ (.load none (.const (iX 4 1))) (iN c13)) <|
ift (wchk F ⟨[b_ 5 r1 2,b_ 4 r0 2,nb_ 4,nb_ 5],h2⟩ (.load (some 5) (.const (iH c6 c7 c17))) (.agg r2)) <|
ift (wchk F ⟨[b_ 5 r1 2,b_ 4 r0 2,nb_ 4,nb_ 5],h2⟩ (.load none (.const (iH c0 c1 c18))) (iH c8 c9 c10)) <|
ift (wchk F ⟨[b_ 5 r1 2,b_ 4 r0 2,nb_ 4,nb_ 5],h2⟩ (.load none (.const (iH c8 c9 c10))) (.slice c11 c12 c19 c20)) <|
ift (wchk F ⟨[b_ 5 r1 2,b_ 4 r0 2,nb_ 4,nb_ 5],h2⟩ (.load none (.const (iX 5 1))) (iN c14)) <|
ift (wchk F ⟨[b_ 5 r1 2,b_ 4 r0 2,nb_ 4,nb_ 5],h2⟩ (.load (some 5) (.const (iH c11 c12 c21))) (.agg r3)) <|
F 171 [(iH c26 c27 c28),(.agg r5)] h2 <| ooA fun r13 h3 =>
ift (wchk F ⟨[b_ 5 r1 2,b_ 4 r0 2,nb_ 4,nb_ 5],h3⟩ (.load none (.const (iH c0 c1 c22))) (iH c23 c24 c25)) <|
ift (wchk F ⟨[b_ 5 r1 2,b_ 4 r0 2,nb_ 4,nb_ 5],h3⟩ (.load (some 2) (.const (iX 5 0))) (.agg r4)) <|
ift (wchk F ⟨[b_ 5 r1 2,b_ 4 r0 2,nb_ 4,nb_ 5],h3⟩ (.load none (.const (iH c0 c1 c2))) (iH c3 c4 c5)) <|
ift (wchk F ⟨[b_ 5 r1 2,b_ 4 r0 2,nb_ 4,nb_ 5],h3⟩ (.load none (.const (iH c3 c4 c5))) (.slice c6 c7 c15 c16)) <|
ift (wchk F ⟨[b_ 5 r1 2,b_ 4 r0 2,nb_ 4,nb_ 5],h3⟩ (.load none (.const (iX 4 1))) (iN c13)) <|
ift (wchk F ⟨[b_ 5 r1 2,b_ 4 r0 2,nb_ 4,nb_ 5],h3⟩ (.load (some 5) (.const (iH c6 c7 c17))) (.agg r2)) <|
ift (wchk F ⟨[b_ 5 r1 2,b_ 4 r0 2,nb_ 4,nb_ 5],h3⟩ (.load none (.const (iH c0 c1 c18))) (iH c8 c9 c10)) <|
ift (wchk F ⟨[b_ 5 r1 2,b_ 4 r0 2,nb_ 4,nb_ 5],h3⟩ (.load none (.const (iH c8 c9 c10))) (.slice c11 c12 c19 c20)) <|
ift (wchk F ⟨[b_ 5 r1 2,b_ 4 r0 2,nb_ 4,nb_ 5],h3⟩ (.load none (.const (iX 5 1))) (iN c14)) <|
ift (wchk F ⟨[b_ 5 r1 2,b_ 4 r0 2,nb_ 4,nb_ 5],h3⟩ (.load (some 5) (.const (iH c11 c12 c21))) (.agg r3)) <|
F 171 [(iH c23 c24 c25),(.agg r4)] h3 <| ooA fun r14 h4 =>
ift (wchk F ⟨[b_ 5 r1 2,b_ 4 r0 2,nb_ 4,nb_ 5],h4⟩ (.load none (.const (iH c0 c1 c2))) (iH c3 c4 c5)) <|
ift (wchk F ⟨[b_ 5 r1 2,b_ 4 r0 2,nb_ 4,nb_ 5],h4⟩ (.load none (.const (iH c3 c4 c5))) (.slice c6 c7 c15 c16)) <|
ift (wchk F ⟨[b_ 5 r1 2,b_ 4 r0 2,nb_ 4,nb_ 5],h4⟩ (.load none (.const (iX 4 1))) (iN c13)) <|
ift (wchk F ⟨[b_ 5 r1 2,b_ 4 r0 2,nb_ 4,nb_ 5],h4⟩ (.load (some 5) (.const (iH c6 c7 c17))) (.agg r2)) <|
ift (wchk F ⟨[b_ 5 r1 2,b_ 4 r0 2,nb_ 4,nb_ 5],h4⟩ (.load none (.const (iH c0 c1 c18))) (iH c8 c9 c10)) <|
ift (wchk F ⟨[b_ 5 r1 2,b_ 4 r0 2,nb_ 4,nb_ 5],h4⟩ (.load none (.const (iH c8 c9 c10))) (.slice c11 c12 c19 c20)) <|
ift (wchk F ⟨[b_ 5 r1 2,b_ 4 r0 2,nb_ 4,nb_ 5],h4⟩ (.load none (.const (iX 5 1))) (iN c14)) <|
ift (wchk F ⟨[b_ 5 r1 2,b_ 4 r0 2,nb_ 4,nb_ 5],h4⟩ (.load (some 5) (.const (iH c11 c12 c21))) (.agg r3)) <|
F 168 [(iH c0 c1 c2),(.agg r13),(.agg r14)] h4 <| ooN fun c37 h5 =>
nad c36 c37 fun c38 =>
ift (wchk F ⟨[b_ 5 r1 2,b_ 4 r0 2,nb_ 4,nb_ 5],h5⟩ (.load none (.const (iH c0 c1 c2))) (iH c3 c4 c5)) <|
ift (wchk F ⟨[b_ 5 r1 2,b_ 4 r0 2,nb_ 4,nb_ 5],h5⟩ (.load none (.const (iH c3 c4 c5))) (.slice c6 c7 c15 c16)) <|
ift (wchk F ⟨[b_ 5 r1 2,b_ 4 r0 2,nb_ 4,nb_ 5],h5⟩ (.load none (.const (iX 4 1))) (iN c13)) <|
ift (wchk F ⟨[b_ 5 r1 2,b_ 4 r0 2,nb_ 4,nb_ 5],h5⟩ (.load (some 5) (.const (iH c6 c7 c17))) (.agg r2)) <|
ift (wchk F ⟨[b_ 5 r1 2,b_ 4 r0 2,nb_ 4,nb_ 5],h5⟩ (.load none (.const (iH c0 c1 c18))) (iH c8 c9 c10)) <|
ift (wchk F ⟨[b_ 5 r1 2,b_ 4 r0 2,nb_ 4,nb_ 5],h5⟩ (.load none (.const (iH c8 c9 c10))) (.slice c11 c12 c19 c20)) <|
ift (wchk F ⟨[b_ 5 r1 2,b_ 4 r0 2,nb_ 4,nb_ 5],h5⟩ (.load none (.const (iX 5 1))) (iN c14)) <|
ift (wchk F ⟨[b_ 5 r1 2,b_ 4 r0 2,nb_ 4,nb_ 5],h5⟩ (.load (some 5) (.const (iH c11 c12 c21))) (.agg r3)) <|
F 172 [(.agg r2),(.agg r3)] h5 <| ooN fun c39 h6 =>
nad c38 c39 fun c40 =>
kr (iN c40) h6
noncomputable def zew:KFun:=⟨zmf,false,false⟩
theorem zjh:KOK tr.look F_Q169 zew:=⟨i_Q169,(.sq (.rg [(qx 4 0),(qx 5 0),qn]) (.sq (.rg [qh,qh,qh,qh,qh,qv,qv,qh,qh,qh,qh,qv,qv,qn,qh,qh,qh,qh,qh,qv,qv,qh,qh,qh,qh,qv,qv,qn,qn,qh,qh,qh,qh,qh,qh,ql,(qx 4 1),qn,qh,qv,qh,qh,qh,qh,qh,qh,ql,(qx 5 1),qn,qh,qv,qn,qn,qn]) .lf)),[qh,qv,qv],[4,5],[],look_Q169,rfl,rfl,rfl,rfl,by kernel_rfl⟩
noncomputable def zsb:KC:=fun F _ v h kr =>
wcons v <| ooH fun c1 c2 c3 r2 =>
wcons r2 <| ooA fun r0 r3 =>
wnil r3 <|
wle r0 2 <|
nae c3 2 fun c4 =>
hld none c1 c2 c4 h <| oL fun c5 c6 c7 c8 =>
wg 1 r0 <| oN fun c0 =>
nlt c0 c8 <|
nam c7 c0 1 fun c9 =>
hld none c5 c6 c9 h <| oN fun c10 =>
wg 1 r0 <| oN fun c11 =>
v_sub (iN c11) (iN 1) <| oI fun c12 =>
F 166 [(iN c10),(iI c12)] h <| ooA fun r1 h0 =>
wle r1 2 <|
wcut r1 0 2 fun r4 =>
kr (.agg r4) h0
noncomputable def zhv:KFun:=⟨zsb,false,false⟩
theorem zoe:KOK tr.look F_Q170 zhv:=⟨i_Q170,(.sq (.rg [(qx 3 0),(qx 4 0)]) (.sq (.rg [qh,qh,qh,ql,(qx 3 1),qn,qh,qn,(qx 3 1),qn,qi,qv,(.tup [])]) .lf)),[qh,qv],[3,4],[],look_Q170,rfl,rfl,rfl,rfl,by kernel_rfl⟩
noncomputable def zmg:KC:=fun F _ v h kr =>
wcons v <| ooH fun c1 c2 c3 r2 =>
wcons r2 <| ooA fun r0 r3 =>
wnil r3 <|
wle r0 2 <|
wg 0 r0 <| oN fun c4 =>
nae c3 2 fun c5 =>
hld none c1 c2 c5 h <| oL fun c6 c7 c8 c9 =>
wg 1 r0 <| oN fun c0 =>
nlt c0 c9 <|
nam c8 c0 1 fun c10 =>
hld none c6 c7 c10 h <| oN fun c11 =>
v_sub (iN c11) (iN 1) <| oI fun c12 =>
F 166 [(iN c4),(iI c12)] h <| ooA fun r1 h0 =>
wle r1 2 <|
wcut r1 0 2 fun r4 =>
kr (.agg r4) h0
noncomputable def zex:KFun:=⟨zmg,false,false⟩
theorem zji:KOK tr.look F_Q171 zex:=⟨i_Q171,(.sq (.rg [(qx 3 0),(qx 4 0)]) (.sq (.rg [(qx 3 0),qn,qh,qh,qh,ql,(qx 3 1),qn,qh,qn,qi,qv,(.tup [])]) .lf)),[qh,qv],[3,4],[],look_Q171,rfl,rfl,rfl,rfl,by kernel_rfl⟩
noncomputable def zahv:KC:=fun F _ v h kr =>
wcons v <| ooA fun r0 r2 =>
wcons r2 <| ooA fun r1 r3 =>
wnil r3 <|
wle r0 5 <|
wle r1 5 <|
wblock (fun(h1:FH) =>
kr (iN 0) h1) fun j0 =>
wg 0 r0 <| oN fun c2 =>
wg 0 r1 <| oN fun c3 =>
bf (gnot (Nat.beq c2 c3)) fun c1 =>
wgV (iB c1) false (zaa 1 (iX 2 0)) fun a0 =>
wgV (iB c1) false (zac none a0 ⟨[b_ 3 r1 5,b_ 2 r0 5,nb_ 2,nb_ 3],h⟩) fun a1 =>
wgV (iB c1) false (zaa 1 (iX 3 0)) fun a2 =>
wgV (iB c1) false (zac none a2 ⟨[b_ 3 r1 5,b_ 2 r0 5,nb_ 2,nb_ 3],h⟩) fun a3 =>
wgV (iB c1) false (v_neq a1 a3) fun a4 =>
pk c1 (iB true) a4 <| oB fun c4 =>
wif c4 (kr (iN 3) h) <|
wg 2 r0 <| oS fun c5 =>
wg 2 r1 <| oS fun c6 =>
v_neq (iS c5) (iS c6) <| oB fun c0 =>
wgV (iB c0) false (zaa 3 (iX 2 0)) fun a5 =>
wgV (iB c0) false (zac none a5 ⟨[b_ 3 r1 5,b_ 2 r0 5,nb_ 2,nb_ 3],h⟩) fun a6 =>
wgV (iB c0) false (zaa 3 (iX 3 0)) fun a7 =>
wgV (iB c0) false (zac none a7 ⟨[b_ 3 r1 5,b_ 2 r0 5,nb_ 2,nb_ 3],h⟩) fun a8 =>
wgH (iB c0) false (wcallH (.p (.func 190)) [a6,a8] F) h fun a9 h0 =>
wgV (iB c0) false (v_not a9) fun a10 =>
pk c0 (iB true) a10 <| oB fun c7 =>
wif c7 (kr (iN 1) h0) <|
j0 h0
noncomputable def ztk:KFun:=⟨zahv,true,false⟩
theorem zzp:KOK tr.look F_Q172 ztk:=⟨i_Q172,(.sq (.rg [(qx 2 0),(qx 3 0),qn]) (.sq (.bk [] (.sq (.rg [(qx 2 0),qn,(qx 3 0),qn,qb,qb,qa,qa,qa,qa,qa,qb,qb]) (.cj (.sq (.rg [qn]) .lf) (.sq (.rg [(qx 2 2),qs,(qx 3 2),qs,qb,qb,qa,qa,qa,qa,qa,qa,qb,qb]) (.cj (.sq (.rg [qn]) .lf) .lf))))) (.sq (.rg [qn]) .lf))),[qv,qv],[2,3],[],look_Q172,rfl,rfl,rfl,rfl,by kernel_rfl⟩
noncomputable def zahw:KC:=fun F _ v h kr =>
wcons v <| ooA fun r0 r2 =>
wnil r2 <|
wle r0 2 <|
wg 0 r0 <| oN fun c0 =>
wg 1 r0 <| oN fun c1 =>
v_sub (iN c1) (iN 1) <| oI fun c2 =>
F 166 [(iN c0),(iI c2)] h <| ooA fun r1 h0 =>
wle r1 2 <|
wcut r1 0 2 fun r3 =>
kr (.agg r3) h0
noncomputable def ztl:KFun:=⟨zahw,true,false⟩
theorem zzq:KOK tr.look F_Q173 ztl:=⟨i_Q173,(.sq (.rg [(qx 1 0),(qx 2 0)]) (.sq (.rg [(qx 1 0),qn,(qx 1 1),qn,qi,qv,(.tup [])]) .lf)),[qv],[1,2],[],look_Q173,rfl,rfl,rfl,rfl,by kernel_rfl⟩
noncomputable def zay:KC:=fun F L v h kr =>
wcons v <| ooP fun c2 r0 =>
wcons r0 <| ooS fun c5 r1 =>
wcons r1 <| ooP fun c6 r2 =>
wnil r2 <|
v_len (.p c2) <| oN fun c3 =>
wblock (fun(c7:Nat) (c8 c9:PVal) (c1:Nat) (c10:LB) (h0:FH) =>
nbl c1 c7 fun c0 =>
wgV (iB c0) true (vv (x_mov (.p c8))) fun a0 =>
wgV (iB c0) true (vv (x_mov (.p c9))) fun a1 =>
wgV (iB c0) true (vv (x_mov (iN c1))) fun a2 =>
wgV (iB c0) true (zab 2 a1 a2) fun a3 =>
wgV (iB c0) true (zac (some 2) a3 ⟨[],h0⟩) fun a4 =>
wgV (iB c0) true (vv (x_mov (iS c10))) fun a5 =>
wgH (iB c0) true (wcallH a0 [a4,a5] F) h0 fun a6 h1 =>
wgV (iB c0) true (v_eql a6 (iN 0)) fun a7 =>
pk c0 a7 (iB false) <| oB fun c11 =>
kr (.tup [(iN c1),(iB c11)]) h1) fun j0 =>
wloop (fun _ _ _ _ _ _ _=>none) (fun _ (c12:LB) (c13 c14:PVal) (c15 c4 c16:Nat) (h2:FH) =>
nbl c4 c15 fun c17 =>
wif c17 ((none:WR)) <|
j0 c16 c14 c13 c4 c12 h2) L c5 c2 c6 c3 0 c3 h
noncomputable def zam:KFun:=⟨zay,false,false⟩
theorem zaw:KOK tr.look F_Q183 zam:=⟨i_Q183,(.sq (.rg [qn,qb]) (.sq (.rg [qp,qn,qn]) (.sq (.rg [qn,qn,qn]) (.sq (.bk [.slot 8 qn, .slot 2 qp, .slot 0 qp, .slot 9 qn, .slot 1 qs] (.lp [.slot 1 qs, .slot 0 qp, .slot 2 qp, .slot 10 qn, .slot 9 qn, .slot 8 qn] (.sq (.sq (.rg [qn,qn,qb]) (.cj .lf .lf)) .lf))) (.sq (.rg [qn,qn,qn,qb,qb,qa,qa,qa,qa,qa,qa,qa,qa,qb,qn,qb]) .lf))))),[qp,qs,qp],[],[],look_Q183,rfl,rfl,rfl,rfl,by kernel_rfl⟩
noncomputable def zaoo:KC:=fun F _ v h kr =>
wcons v <| ooP fun c1 r0 =>
wcons r0 <| ooP fun c2 r1 =>
wnil r1 <|
vv (x_xor (.p c1) (.p c2)) <| oP fun c3 =>
vv (x_mul (.p c3) (.p (.int .u64 11400714819323198485))) <| oP fun c0 =>
vv (xgen .shr (.p c0) (.p (.int .u64 29))) <| oP fun c4 =>
vv (x_xor (.p c0) (.p c4)) <| oP fun c5 =>
F 195 [(.p c5),(iN 31)] h <| ooP fun c6 h0 =>
kr (.p c6) h0
noncomputable def zabm:KFun:=⟨zaoo,true,false⟩
theorem zahx:KOK tr.look F_Q188 zabm:=⟨i_Q188,(.sq (.rg [qp]) (.sq (.rg [qp,qp,qp,qp,qp]) (.sq (.rg [qp,qp,qp,qp,qp,qp]) .lf))),[qp,qp],[],[],look_Q188,rfl,rfl,rfl,rfl,by kernel_rfl⟩
noncomputable def zakp:KC:=fun F L v h kr =>
wcons v <| ooS fun c2 r0 =>
wnil r0 <|
vv (zdf (iS c2)) <| oN fun c5 =>
vv (zfs .u64 (iN c5)) <| oP fun c6 =>
wblock (fun(c7:PVal) (h2:FH) =>
kr (.p c7) h2) fun j0 =>
wloop (fun _ _ _ _=>none) (fun j1 (c0:Nat) (c3:PVal) (c1:LB) (h0:FH) =>
vv (zdf (iS c1)) <| oN fun c8 =>
nbl c0 c8 fun c9 =>
wif c9 (wblock (fun(c10:Nat) (c11:PVal) (c12:LB) (h3:FH) =>
nad c10 8 fun c13 =>
j1 c13 c11 c12 h3) fun j2 =>
hpush h0 (.cells [(.p (.int .u8 0)),(.p (.int .u8 0)),(.p (.int .u8 0)),(.p (.int .u8 0)),(.p (.int .u8 0)),(.p (.int .u8 0)),(.p (.int .u8 0)),(.p (.int .u8 0))] 1 0 false) fun c4 h4 =>
zhi 8 1 (iH c4 0 0) none none h4 <| ooL fun c14 c15 c16 c17 h5 =>
vv (zhg (iS c1) (some (iN c0)) none) <| oS fun c18 =>
zaay 1 (.slice c14 c15 c16 c17) (iS c18) h5 <| ooN fun _ h1 =>
hld (some 8) c4 0 0 h1 <| oA fun r1 =>
F 196 [(.agg r1)] h1 <| ooP fun c19 h6 =>
F 188 [(.p c3),(.p c19)] h6 <| ooP fun c20 h7 =>
j2 c0 c20 c1 h7) <|
j0 c3 h0) L 0 c6 c2 h
noncomputable def zyj:KFun:=⟨zakp,true,false⟩
theorem zaem:KOK tr.look F_Q189 zyj:=⟨i_Q189,(.sq (.rg [qp]) (.sq (.rg [qs,qn,qp,qp]) (.sq (.sq (.rg [qn]) (.bk [.slot 3 qp] (.lp [.slot 4 qn, .slot 3 qp, .slot 0 qs] (.sq (.sq (.rg [qn,qs,qn,qb]) (.cj .lf .lf)) (.sq (.bk [.slot 4 qn, .slot 3 qp, .slot 0 qs] (.sq (.rg [qh]) (.sq (.rg [ql,qs,qn,qs,qn]) (.rg [qp,qv,qp,qp,qp])))) (.rg [qn,qn,qn])))))) (.sq (.rg [qp,qp]) .lf)))),[qs],[],[],look_Q189,rfl,rfl,rfl,rfl,by kernel_rfl⟩
noncomputable def zdl:KC:=fun _ L v h kr =>
wcons v <| ooP fun c0 r0 =>
wcons r0 <| ooP fun c1 r1 =>
wnil r1 <|
v_len (.p c0) <| oN fun c2 =>
v_len (.p c1) <| oN fun c3 =>
bf (gnot (Nat.beq c2 c3)) fun c4 =>
wif c4 (kr (iB false) h) <|
v_len (.p c0) <| oN fun c5 =>
wblock (fun(h0:FH) =>
kr (iB true) h0) fun j0 =>
wloop (fun _ _ _ _ _=>none) (fun _ (c6:Nat) (_ _:PVal) (c7:Nat) (h1:FH) =>
nbl c6 c7 fun c8 =>
wif c8 ((none:WR)) <|
j0 h1) L 0 c0 c1 c5 h
noncomputable def zbf:KFun:=⟨zdl,true,false⟩
theorem zcw:KOK tr.look F_Q190 zbf:=⟨i_Q190,(.sq (.rg [qb]) (.sq (.sq (.rg [qp,qn,qp,qn,qb]) (.cj (.sq (.rg [qb]) .lf) .lf)) (.sq (.sq (.rg [qp,qn,qn]) (.bk [] (.lp [.slot 13 qn, .slot 0 qp, .slot 1 qp, .slot 12 qn] (.sq (.rg [qb]) (.sq (.cj .lf .lf) (.sq .lf .lf)))))) (.sq (.rg [qb]) .lf)))),[qp,qp],[],[],look_Q190,rfl,rfl,rfl,rfl,by kernel_rfl⟩
noncomputable def zakq:KC:=fun _ _ v h kr =>
wcons v <| ooP fun c0 r0 =>
wcons r0 <| ooN fun c2 r1 =>
wnil r1 <|
vv (zfs .u64 (iN c2)) <| oP fun c3 =>
vv (x_and (.p c3) (.p (.int .u64 63))) <| oP fun c1 =>
vv (xgen .shl (.p c0) (.p c1)) <| oP fun c4 =>
v_sub (.p (.int .u64 64)) (.p c1) <| oP fun c5 =>
vv (xgen .shr (.p c0) (.p c5)) <| oP fun c6 =>
vv (x_or (.p c4) (.p c6)) <| oP fun c7 =>
kr (.p c7) h
noncomputable def zyk:KFun:=⟨zakq,true,false⟩
theorem zaen:KOK tr.look F_Q195 zyk:=⟨i_Q195,(.sq (.rg [qp]) (.sq (.rg [qn,qp,qp,qp]) (.sq (.rg [qp,qp,qp,qp,qp,qp,qp,qp,qp]) .lf))),[qp,qn],[],[],look_Q195,rfl,rfl,rfl,rfl,by kernel_rfl⟩
noncomputable def zasm:KC:=fun _ L v h kr =>
wcons v <| ooA fun r0 r2 =>
wnil r2 <|
wle r0 8 <|
wblock (fun(c2:PVal) (h1:FH) =>
kr (.p c2) h1) fun j0 =>
wloop (fun _ _ _ _=>none) (fun j1 (c0:Nat) (c1:PVal) (r1:LI) (h0:FH) =>
nbl c0 8 fun c3 =>
wif c3 (wblock (fun(c4:Nat) (c5:PVal) (r3:LI) (h2:FH) =>
nad c4 1 fun c6 =>
j1 c6 c5 r3 h2) fun j2 =>
nlt c0 8 <|
nam 0 c0 1 fun c7 =>
wg c7 r1 <| oP fun c8 =>
vv (zfs .u64 (.p c8)) <| oP fun c9 =>
vv (x_mul (iN 8) (iN c0)) <| oN fun c10 =>
vv (xgen .shl (.p c9) (iN c10)) <| oP fun c11 =>
vv (x_or (.p c1) (.p c11)) <| oP fun c12 =>
j2 c0 c12 r1 h0) <|
j0 c1 h0) L 0 (.int .u64 0) r0 h
noncomputable def zahy:KFun:=⟨zasm,true,false⟩
theorem zakr:KOK tr.look F_Q196 zahy:=⟨i_Q196,(.sq (.rg [(qx 1 0),qp]) (.sq (.rg [qp]) (.sq (.sq (.rg [qn]) (.bk [.slot 3 qp] (.lp [.slot 5 qn,sx 1, .slot 3 qp,bl 1 8] (.sq (.rg [qb]) (.sq (.cj .lf .lf) (.sq (.bk [.slot 5 qn,sx 1, .slot 3 qp,bl 1 8] (.sq (.rg [qn,qn]) (.rg [qp,qn,qa,qp,qp,qn,qn,qp,qp,qp]))) (.rg [qn,qn]))))))) (.sq (.rg [qp,qp]) .lf)))),[qv],[1],[],look_Q196,rfl,rfl,rfl,rfl,by kernel_rfl⟩
noncomputable def kt:KTr:=(.node 73 (.node 40 (.node 23 (.node 15 (.node 9 (.node 7 (.one F_Q3 zdv) (.node 8 (.one F_Q7 zpr) (.one F_Q8 zsv))) (.node 11 (.node 10 (.one F_Q9 zps) (.one F_Q10 zxc)) (.node 14 (.one F_Q11 zpt) (.one F_Q14 zpu)))) (.node 18 (.node 16 (.one F_Q15 zsw) (.node 17 (.one F_Q16 zpv) (.one F_Q17 zdm))) (.node 20 (.node 19 (.one F_Q18 zfw) (.one F_Q19 zeh)) (.node 22 (.one F_Q20 zpw) (.one F_Q22 zis))))) (.node 32 (.node 26 (.node 24 (.one F_Q23 zxh) (.node 25 (.one F_Q24 zsx) (.one F_Q25 zsy))) (.node 28 (.node 27 (.one F_Q26 zxi) (.one F_Q27 zxj)) (.node 30 (.one F_Q28 zsz) (.one F_Q30 zabg)))) (.node 35 (.node 33 (.one F_Q32 zfx) (.node 34 (.one F_Q33 zeq) (.one F_Q34 zbx))) (.node 37 (.node 36 (.one F_Q35 zfz) (.one F_Q36 zer)) (.node 39 (.one F_Q37 zga) (.one F_Q39 zdg)))))) (.node 55 (.node 47 (.node 43 (.node 41 (.one F_Q40 zhm) (.node 42 (.one F_Q41 zpy) (.one F_Q42 zpz))) (.node 45 (.node 44 (.one F_Q43 zxm) (.one F_Q44 zkv)) (.node 46 (.one F_Q45 zta) (.one F_Q46 zdn)))) (.node 51 (.node 48 (.one F_Q47 zmu) (.node 50 (.one F_Q48 ztb) (.one F_Q50 zxo))) (.node 53 (.node 52 (.one F_Q51 zxp) (.one F_Q52 zqa)) (.node 54 (.one F_Q53 zbd) (.one F_Q54 ztc))))) (.node 62 (.node 58 (.node 56 (.one F_Q55 ztd) (.node 57 (.one F_Q56 zkw) (.one F_Q57 zes))) (.node 60 (.node 59 (.one F_Q58 zxs) (.one F_Q59 zet)) (.node 61 (.one F_Q60 zei) (.one F_Q61 zeu)))) (.node 67 (.node 65 (.node 64 (.one F_Q62 zev) (.one F_Q64 zqb)) (.node 66 (.one F_Q65 zte) (.one F_Q66 zky))) (.node 70 (.node 68 (.one F_Q67 zbl) (.one F_Q68 zkz)) (.node 71 (.one F_Q70 zabh) (.one F_Q71 zabi))))))) (.node 132 (.node 94 (.node 87 (.node 79 (.node 76 (.one F_Q73 zax) (.node 78 (.one F_Q76 zgl) (.one F_Q78 zla))) (.node 81 (.node 80 (.one F_Q79 zahm) (.one F_Q80 zgb)) (.node 86 (.one F_Q81 zgc) (.one F_Q86 zxx)))) (.node 90 (.node 88 (.one F_Q87 ztf) (.node 89 (.one F_Q88 ztg) (.one F_Q89 zho))) (.node 92 (.node 91 (.one F_Q90 zgm) (.one F_Q91 zhp)) (.node 93 (.one F_Q92 zdo) (.one F_Q93 zdp))))) (.node 111 (.node 98 (.node 96 (.one F_Q94 zabj) (.node 97 (.one F_Q96 zmv) (.one F_Q97 zld))) (.node 109 (.node 99 (.one F_Q98 zxz) (.one F_Q99 zav)) (.node 110 (.one F_Q109 zhs) (.one F_Q110 zth)))) (.node 127 (.node 122 (.node 121 (.one F_Q111 zbe) (.one F_Q121 zqe)) (.node 125 (.one F_Q122 zit) (.one F_Q125 zqg))) (.node 129 (.node 128 (.one F_Q127 zmw) (.one F_Q128 ziu)) (.node 130 (.one F_Q129 zle) (.one F_Q130 zmx)))))) (.node 165 (.node 154 (.node 135 (.node 133 (.one F_Q132 zabk) (.node 134 (.one F_Q133 zqi) (.one F_Q134 zgn))) (.node 152 (.node 141 (.one F_Q135 zht) (.one F_Q141 zaq)) (.node 153 (.one F_Q152 zqk) (.one F_Q153 zmy)))) (.node 161 (.node 155 (.one F_Q154 zql) (.node 156 (.one F_Q155 ziv) (.one F_Q156 zlf))) (.node 163 (.node 162 (.one F_Q161 zlg) (.one F_Q162 zbc)) (.node 164 (.one F_Q163 zdq) (.one F_Q164 zyi))))) (.node 172 (.node 168 (.node 166 (.one F_Q165 zabl) (.node 167 (.one F_Q166 zti) (.one F_Q167 ztj))) (.node 170 (.node 169 (.one F_Q168 zgo) (.one F_Q169 zew)) (.node 171 (.one F_Q170 zhv) (.one F_Q171 zex)))) (.node 189 (.node 183 (.node 173 (.one F_Q172 ztk) (.one F_Q173 ztl)) (.node 188 (.one F_Q183 zam) (.one F_Q188 zabm))) (.node 195 (.node 190 (.one F_Q189 zyj) (.one F_Q190 zbf)) (.node 196 (.one F_Q195 zyk) (.one F_Q196 zahy))))))))
theorem kt_ok:kt.all (KOK tr.look):=⟨⟨⟨⟨⟨⟨zfv,⟨zxa,zyv⟩⟩,⟨⟨zxb,zado⟩,⟨zxd,zxe⟩⟩⟩,⟨⟨zyw,⟨zxf,zhl⟩⟩,⟨⟨zkq,zin⟩,⟨zxg,zpx⟩⟩⟩⟩,⟨⟨⟨zadt,⟨zyx,zyy⟩⟩,⟨⟨zadu,zadv⟩,⟨zyz,zahe⟩⟩⟩,⟨⟨zks,⟨zix,zen⟩⟩,⟨⟨zkt,ziy⟩,⟨zku,zgt⟩⟩⟩⟩⟩,⟨⟨⟨⟨znx,⟨zxk,zxl⟩⟩,⟨⟨zady,zro⟩,⟨zza,zhn⟩⟩⟩,⟨⟨ztq,⟨zzc,zadz⟩⟩,⟨⟨zaea,zxq⟩,⟨zcu,zzd⟩⟩⟩⟩,⟨⟨⟨zze,⟨zrp,zja⟩⟩,⟨⟨zaec,zjb⟩,⟨zip,zjc⟩⟩⟩,⟨⟨⟨zjd,zxt⟩,⟨zzf,zrq⟩⟩,⟨⟨zdj,zrr⟩,⟨zahk,zahl⟩⟩⟩⟩⟩⟩,⟨⟨⟨⟨⟨zce,⟨zmb,zrs⟩⟩,⟨⟨zakl,zlb⟩,⟨zlc,zaee⟩⟩⟩,⟨⟨zzg,⟨zzh,zoa⟩⟩,⟨⟨zmc,zob⟩,⟨zhq,zhr⟩⟩⟩⟩,⟨⟨⟨zahp,⟨ztr,zrv⟩⟩,⟨⟨zaef,zcb⟩,⟨zoc,zzj⟩⟩⟩,⟨⟨⟨zcv,zya⟩,⟨zqf,zyb⟩⟩,⟨⟨ztt,zqh⟩,⟨zrx,ztv⟩⟩⟩⟩⟩,⟨⟨⟨⟨zahr,⟨zyd,zmd⟩⟩,⟨⟨zod,zbr⟩,⟨zye,ztw⟩⟩⟩,⟨⟨zyf,⟨zqm,zrz⟩⟩,⟨⟨zsa,zcp⟩,⟨zhu,zael⟩⟩⟩⟩,⟨⟨⟨zahs,⟨zzn,zzo⟩⟩,⟨⟨zme,zjh⟩,⟨zoe,zji⟩⟩⟩,⟨⟨⟨zzp,zzq⟩,⟨zaw,zahx⟩⟩,⟨⟨zaem,zcw⟩,⟨zaen,zakr⟩⟩⟩⟩⟩⟩⟩
end Go.Ideal

/-
  WHAT HAS NO BODY; ALL CALLS OF THIS SEAT, RECKONED WITH TYPED VARIABLES.
-/
namespace Go.Ideal
open Go
set_option maxHeartbeats 4000000
set_option maxRecDepth 20000
attribute [-simp] getElem?_pos
instance:Kept:=⟨Memo tr.look⟩
noncomputable def sortS (args:List IVal) (h:FH):Option (IVal×FH) :=
 match args with
 | [v, .p (.func g)]=>match isCmp g with
   |true=>match v with
    | .p .nilslice=>some (.tup [],h)
    | .slice k ver off n=>match Nat.beq off 0,hfetch h k with
      |true,some (.cells cs e w op)=>match Nat.beq ver w&&Nat.beq e 2,rdPairs n cs with
       |true,some L=>match nodupN L&&(Nat.ble (n+1) 1000000&&!(Nat.beq n 0))with
        |true=>lall (gsplice cs 0 (prow (sortN L))) fun cs'=>fputK ⟨[],h⟩ (.heap k) (.cells cs' 2 w op) fun m=>some (.tup [],m.h)
        |false=>none
       |_,_=>none
      |_,_=>none
    |_=>none
   |false=>none
 |_=>none
theorem zawe {args:List IVal} {h:FH} {H:List IBlk} (hh:RH h H) {v:IVal} {h':FH} (e:sortS args h=some (v,h')):∃H',sortE args H=some (v,H')∧RH h' H':=by
 unfold sortS at e
 unfold sortE
 split at e
 ·rename_i v0 g
  dsimp only
  split at e
  ·rename_i hg
   rw[hg]
   dsimp only
   split at e
   ·injection e with e;injection e with a b;subst a b;exact⟨H,rfl,hh⟩
   ·rename_i k ver off n
    rw[zhk hh]at e
    dsimp only
    rw[zdc]
    split at e
    ·rename_i cs es w op h1 h2
     rw[h1,h2]
     dsimp only
     split at e
     ·rename_i L h3 h4
      rw[h3,h4]
      dsimp only
      split at e
      ·rename_i h5
       rw[h5]
       dsimp only
       rw[zag]at e
       obtain⟨m',g1,g2⟩:=zrd (m:=⟨[],h⟩) (M:=⟨[],H⟩) ⟨rfl,hh⟩ (k := .heap k) (x := .cells (gsplice cs 0 (prow (sortN L))) 2 w op) (b0 := .cells cs es w op) h2 (fun m=>(some (IVal.tup [],m.h):Option (IVal×FH)))
       rw[g1]at e
       injection e with e
       injection e with a b
       subst a b
       refine⟨_,?_,g2.h⟩
       rw[zag,zag,zacg];rfl
      ·cases e
     ·cases e
    ·cases e
   ·cases e
  ·cases e
 ·cases e
noncomputable def insS (args:List IVal) (h:FH):Option (IVal×FH) :=
 match args with
 | [x, .p (.int .i64 i), .slice kv vv vo 1]=>match hfetch h kv with
   |some (.cells vs ev wv _)=>match(Nat.beq vv wv&&Nat.beq ev 1),vs[vo]? with
    |true,some (.p (.int .i64 u))=>match x with
     | .p .nilslice=>match decide (i=0)with
       |true=>fpushK ⟨[],h⟩ (.cells [.p (.int .i64 u)] 1 0 true) fun n m=>some (.slice n 0 0 1,m.h)
       |false=>none
     | .slice k ver off n=>match hfetch h k with
       |some (.cells cs e w _)=>match(Nat.beq ver w&&Nat.beq e 1)&&(Nat.ble (off+n) cs.length&&!(Nat.beq k kv))&&(decide (0≤i∧i≤n∧n≤4294967296)&&allNum ((cs.drop off).take n))with
        |true=>lall (((cs.drop off).take n).take i.toNat++(.p (.int .i64 u)::((cs.drop off).take n).drop i.toNat)) fun cs'=>nforce (w+1) fun w'=>nforce (n+1) fun n'=>fputK ⟨[],h⟩ (.heap k) (.cells cs' 1 w' true) fun m=>some (.slice k w' 0 n',m.h)
        |false=>none
       |_=>none
     |_=>none
    |_,_=>none
   |_=>none
 |_=>none
theorem zbcg {args:List IVal} {h:FH} {H:List IBlk} (hh:RH h H) {v:IVal} {h':FH} (e:insS args h=some (v,h')):∃H',insSpec args H=some (v,H')∧RH h' H':=by
 unfold insS at e
 split at e
 ·rename_i x i kv vv vo
  rw[zhk hh]at e
  split at e
  ·rename_i vs ev wv q h1
   split at e
   ·rename_i u h2 h3
    split at e
    ·split at e
     ·rename_i h4
      obtain⟨m',g1,g2⟩:=zwk (m:=⟨[],h⟩) (M:=⟨[],H⟩) ⟨rfl,hh⟩ e
      injection g1 with g1
      injection g1 with a b
      subst a b
      exact⟨_,by simp only[insSpec,h1,h2,h3,h4],g2.h⟩
     ·cases e
    ·rename_i k ver off n
     rw[zhk hh]at e
     split at e
     ·rename_i cs es w o h4
      split at e
      ·rename_i h5
       rw[zag,zan,zan]at e
       obtain⟨m',g1,g2⟩:=zrd (m:=⟨[],h⟩) (M:=⟨[],H⟩) ⟨rfl,hh⟩ (k := .heap k) (x := .cells (((cs.drop off).take n).take i.toNat++(.p (.int .i64 u)::((cs.drop off).take n).drop i.toNat)) 1 (w+1) true) (b0 := .cells cs es w o) h4 (fun m=>(some (IVal.slice k (w+1) 0 (n+1),m.h):Option (IVal×FH)))
       rw[g1]at e
       injection e with e
       injection e with a b
       subst a b
       exact⟨_,by simp only[insSpec,h1,h2,h3,h4,h5];rfl,g2.h⟩
      ·cases e
     ·cases e
    ·cases e
   ·cases e
  ·cases e
 ·cases e
noncomputable def atOnce (r:Option (IVal×FH)) (k:IVal→FH→WR):WR:=Option.rec (motive:=fun _=>WR) none (fun p=>Prod.rec (motive:=fun _=>WR) (fun v h=>k v h) p) r
theorem zyl {r:Option (IVal×FH)} {k:IVal→FH→WR} {x:WX} (e:atOnce r k=some x):∃v h,r=some (v,h)∧k v h=some x:=by
 cases r with
 |none=>cases e
 |some p=>exact⟨p.1,p.2,rfl,e⟩
noncomputable def matchK (az:List IVal) (h:FH) (k:IVal→FH→WR) (vs:List IVal):WC:=fun m =>
 match vs with
 | [.map 0, .p .nilslice]=>match hfetch m.h 0 with
   |some (.map es ck)=>match rdEnts es 0 with
    |some l=>match(nodupN l&&Nat.beq ck (llen es))&&(Nat.ble (llen l+1) 1000000&&!(Nat.beq (llen l) 0))with
     |true=>nforce (llen l) fun n=>lall (prc (sortN l)) fun q=>kmm m.h fun c0=>mputK ⟨F_Q29,az, .p (.slice 2 n q)⟩ (mkey F_Q29) c0 fun c=>kkeep h c fun h=>k (.p (.slice 2 n q)) h
     |false=>none
    |none=>none
   |_=>none
 |_=>none
noncomputable def matchS (F:WO) (L:Nat) (args:List IVal) (h:FH) (k:IVal→FH→WR):WR :=
 match zall h args with
 |none=>none
 |some az=>match Nat.beq (llen az) 2 with
  |false=>none
  |true=>fhopen h fun _ _ c=>mlook F_Q29 az (mtget (mkey F_Q29) c) (fun r=>k r h) (zec F L (matchK az h k) az (hnew h))
theorem zasn {F:WO} (hF:WLe F (CW tr.look)) {L:Nat} {args:List IVal} {h:FH} {H:List IBlk} (hh:RH h H) {k:IVal→FH→WR} {x:WX} (e:matchS F L args h k=some x):∃v h',CW tr.look F_Q29 args H=some (v,H)∧RH h' H∧k v h'=some x:=by
 unfold matchS at e
 rw[zadk hh]at e
 split at e
 ·cases e
 ·rename_i az haz
  split at e
  ·cases e
  ·rename_i hlen
   rw[zaf]at hlen
   have hlen:=Nat.eq_of_beq_eq_true hlen
   have e:mlook F_Q29 az (mtget (mkey F_Q29) h.c) (fun r=>k r h) (zec F L (matchK az h k) az (hnew h))=some x:=e
   rcases zrm F_Q29 az (fun r=>k r h) (zec F L (matchK az h k) az (hnew h)) (mtget (mkey F_Q29) h.c)with h0|⟨r,h1,h2⟩
   ·rw[h0]at e
    rw[ztp]at e
    obtain⟨vs,m,G,T,M,hx,q1,hm,q2,q5⟩:=zawd (R:=i_Q29) hF rfl (by decide) rfl hh e
    unfold matchK at hx
    split at hx
    ·obtain⟨v1,w1,e1,q3,v2,w2,e2,q4,e3⟩:=q5
     injection e1 with a1 a2
     subst a1 a2
     injection e2 with a1 a2
     subst a1 a2
     rw[zhk hm.h]at hx
     split at hx
     ·rename_i es ck hmap
      split at hx
      ·rename_i l hl
       split at hx
       ·rename_i hchk
        rw[zan,zag]at hx
        simp only[zaf,Bool.and_eq_true]at hchk
        have hn:=zwf l hchk.1.1
        have hck:=Nat.eq_of_beq_eq_true hchk.1.2
        have hlt:=Nat.le_of_ble_eq_true hchk.2.1
        have h0:l≠[]:=fun e=>by rw[e]at hchk;simp at hchk
        have hW:=zai (fun _ _ _ _ h=>h) (zaah (n:=L)) q1
        rw[zaf]at hx
        have q3':T.getD 127 .undef = .map 0:=by rw[List.getD_eq_getElem?_getD,q3];rfl
        have q4':T.getD 16 .undef = .p .nilslice:=by rw[List.getD_eq_getElem?_getD,q4];rfl
        have key:∀args H,freezeAll H args=some az→CW tr.look F_Q29 args H=some (.p (.slice 2 l.length (prc (sortN l))),H):=fun args H haz=>zarc haz hlen hW q2 q3' q4' hmap hl hn hck hlt h0
        obtain⟨c',p1,p2⟩:=MT.OK.put (x:=⟨F_Q29,az, .p (.slice 2 l.length (prc (sortN l)))⟩) key (mkey F_Q29) hm.h.c
        have hx:mputK ⟨F_Q29,az, .p (.slice 2 l.length (prc (sortN l)))⟩ (mkey F_Q29) m.h.c (fun c=>kkeep h c fun h=>k (.p (.slice 2 l.length (prc (sortN l)))) h)=some x:=hx
        rw[p2]at hx
        exact⟨_,⟨h.t,h.n,c'⟩,key args H haz,⟨hh.n,hh.le,hh.at',p1⟩,hx⟩
       ·cases hx
      ·cases hx
     ·cases hx
    ·cases hx
   ·rw[h2]at e
    exact⟨r,h,(MT.OK.get _ hh.c _ h1) args H haz,hh,e⟩
noncomputable def dW (L:Nat) (F:WO):WO:=fun f args h k =>
 Bool.rec (Bool.rec (Bool.rec none (atOnce (insS args h) k) (Nat.beq f F_Q157)) (atOnce (sortS args h) k) (Nat.beq f F_Q38)) (matchS F L args h k) (Nat.beq f F_Q29)
theorem dW_le (L:Nat) (F:WO) (hF:WLe F (CW tr.look)):WLe (dW L F) (CW tr.look):=fun f args h H k x hh e=>by
 unfold dW at e
 cases h1:Nat.beq f F_Q29 with
 |true =>
  rw[h1]at e
  obtain⟨v,h',g1,g3,g2⟩:=zasn hF hh e
  rw[Nat.eq_of_beq_eq_true h1]
  exact⟨v,h',H,g1,g3,g2⟩
 |false =>
  rw[h1]at e
  cases h2:Nat.beq f F_Q38 with
  |true =>
   rw[h2]at e
   obtain⟨v,h',e,hk⟩:=zyl e
   obtain⟨H',g1,g2⟩:=zawe hh e
   rw[Nat.eq_of_beq_eq_true h2]
   exact⟨v,h',H',zavl g1,g2,hk⟩
  |false =>
   rw[h2]at e
   cases h3:Nat.beq f F_Q157 with
   |true =>
    rw[h3]at e
    obtain⟨v,h',e,hk⟩:=zyl e
    obtain⟨H',g1,g2⟩:=zbcg hh e
    rw[Nat.eq_of_beq_eq_true h3]
    exact⟨v,h',H',zqs none_Q157 (zavc g1),g2,hk⟩
   |false=>rw[h3]at e;cases e
noncomputable def callW (n:Nat):WO:=kcall kt.look (dW 1000000) 1000000 n
theorem zawf (n:Nat):WLe (callW n) (CW tr.look):=zamw (fun _=>Iff.rfl) (fun _ _ e=>KTr.zdy kt_ok e) (fun F=>dW_le 1000000 F) n
end Go.Ideal

/-
  THE LAWS OF THIS SEAT: WHAT THE CALLS OF Place GIVE; A LAW's CASES ONE AFTER THE OTHER, WITH ONE MEMORY OF CALLS.
-/
namespace Go.Ideal
open Go
set_option maxHeartbeats 4000000
set_option maxRecDepth 20000
attribute [-simp] getElem?_pos
theorem zawg (v:Int) (n:Nat) (hn:0<n) (hb:n<1000000000000) (H:List IBlk):CW tr.look F_Q7 [.p (.int .i64 v), .p (.int .i64 n)] H=some (.p (.int .i64 (v % n)),H):=by
 refine znk look_Q7 rfl (by simp) rfl ?_
 dsimp only[i_Q7,c_Q7]
 have hn0:(n:Int)≠0:=by omega
 have hn1:¬n=0:=by omega
 by_cases h:v.tmod n<0
 ·have e:v.tmod n+n=v % n:=by
   rw[Int.tmod_eq_emod]at h ⊢
   split at h
   ·have:=Int.emod_nonneg v hn0;omega
   ·rename_i hc
    rw[if_neg hc]
    simp
  have:=Int.emod_nonneg v hn0
  have:=Int.emod_lt_of_pos v (show(0:Int)<n by omega)
  simp(disch:=omega) [hn1,zaur,e]
 ·have e:v.tmod n=v % n:=by
   rw[Int.tmod_eq_emod]at h ⊢
   split at h
   ·rename_i hc;rw[if_pos hc];simp
   ·rename_i hc
    have:=Int.emod_lt_of_pos v (show(0:Int)<n by omega)
    simp at h
    omega
  rw[e]at h
  simp(disch:=omega) [hn1,e]
noncomputable def okb (b:Int):Bool:=Int.rec (motive:=fun _=>Bool) (fun n=>Bool.rec false (Nat.ble n 100000) (Nat.ble 1 n)) (fun _=>false) b
theorem zbid {b:Int} (h:okb b=true):∃n:Nat,b=(n:Int)∧0<n∧n<1000000000000:=by
 cases b with
 |negSucc n=>cases h
 |ofNat n =>
  have h:(Bool.rec false (Nat.ble n 100000) (Nat.ble 1 n):Bool)=true:=h
  cases h1:Nat.ble 1 n with
  |false=>rw[h1]at h;cases h
  |true =>
   rw[h1]at h
   have:=Nat.le_of_ble_eq_true h1
   have:=Nat.le_of_ble_eq_true h
   exact⟨n,rfl,by omega,by omega⟩
noncomputable def Qp (g:Int→Int) (c:IVal) (k:IVal→WR):WR:=match c with
 | .p (.int .i64 b)=>Bool.rec none (iforce (g b) fun w=>k (.p (.int .i64 w))) (okb b)
 |_=>none
theorem zbch {g:Int→Int} {c:IVal} {k:IVal→WR} {x:WX} (e:Qp g c k=some x):∃n:Nat,c = .p (.int .i64 (n:Int))∧0<n∧n<1000000000000∧k (.p (.int .i64 (g n)))=some x:=by
 unfold Qp at e
 split at e
 ·rename_i b
  cases hb:okb b with
  |false=>rw[hb]at e;cases e
  |true =>
   rw[hb]at e
   dsimp only at e
   rw[zaga]at e
   obtain⟨n,rfl,h2,h3⟩:=zbid hb
   exact⟨n,rfl,h2,h3,e⟩
 ·cases e
noncomputable def plc (args:List IVal) (h:FH) (k:IVal→FH→WR):WR:=match args with
 | [.p (.int .i64 a),c]=>Qp (fun b=>a % b) c fun v=>k v h
 |_=>none
noncomputable def cG:WO:=fun f args h k=>Bool.rec (callW 60 f args h k) (plc args h k) (Nat.beq f F_Q7)
theorem cG_le:WLe cG (CW tr.look):=fun f args h H k x hh e=>by
 unfold cG at e
 cases h1:Nat.beq f F_Q7 with
 |false=>rw[h1]at e;exact zawf 60 _ _ _ _ _ _ hh e
 |true =>
  rw[h1]at e
  have e:plc args h k=some x:=e
  rw[Nat.eq_of_beq_eq_true h1]
  have key:∃(a:Int) (c:IVal),args=[.p (.int .i64 a),c]∧Qp (fun b=>a % b) c (fun v=>k v h)=some x:=by
   unfold plc at e
   split at e
   ·exact⟨_,_,rfl,e⟩
   ·cases e
  obtain⟨a,c,rfl,e2⟩:=key
  obtain⟨n,rfl,h2,h3,h4⟩:=zbch e2
  exact⟨_,h,H,zawg a n h2 h3 H,hh,h4⟩
noncomputable def Qm (g:Int→Int) (c:IVal) (h:FH) (k:IVal→FH→WR):WR:=Qp g c fun v=>k v h
noncomputable def vi (n:Int):IVal := .p (.int .i64 n)
theorem zbci (a:Int):(fun c h k=>cG 7 [vi a,c] h k)=Qm (fun b=>a % b):=(rfl)
noncomputable def pt (b:Nat) (x:Nat) (u:Int→Int):Int→Int:=fun z=>Int.rec (motive:=fun _=>Int) (fun n=>Bool.rec (u (.ofNat n)) (.ofNat x) (Nat.beq n b)) (fun n=>u (.negSucc n)) z
theorem pt_eq {b x:Nat} {u:Int→Int} (h:u b=x):pt b x u=u:=by
 funext z
 cases z with
 |negSucc n=>rfl
 |ofNat n =>
  show(Bool.rec (u (.ofNat n)) (.ofNat x) (Nat.beq n b):Int)=_
  cases hb:Nat.beq n b with
  |false=>rfl
  |true=>rw[Nat.eq_of_beq_eq_true hb];exact h.symm
noncomputable def isT (v:IVal) (e:WR):WR:=wB v (fun b=>Bool.rec none e b) none
theorem zawh {v:IVal} {e:WR} {x:WX} (h:isT v e=some x):v = .p (.bool true)∧e=some x:=by
 cases v with
 |p u =>
  cases u with
  |bool b=>cases b with
   |true=>exact⟨rfl,h⟩
   |false=>cases h
  |_=>cases h
 |_=>cases h
noncomputable def endX:WR:=some ([],⟨[],⟨.e,0, .e⟩⟩)
noncomputable def nextK (ih:MT→WR) (v:IVal) (K:FH):WR:=isT v (fhopen K fun _ _ c=>ih c)
theorem RH.zero {c:MT} (hc:c.OK):RH ⟨.e,0,c⟩ []:=RH.new (K:=⟨.e,0,c⟩) (H:=[]) ⟨rfl,by simp,fun i hi=>by
 have:∀p:HP,hget p .e=none:=fun p=>by induction p with|z=>rfl|a p ih=>exact ih|b p ih=>exact ih|c p ih=>exact ih|d p ih=>exact ih
 show hget (hp i) .e=_
 rw[this];rfl,hc⟩
theorem zlh {H:List IBlk}:∀l:List PVal,freezeAll H (l.map .p)=some (l.map .p)∧plainArgs (l.map .p)=true
 | []=>⟨rfl,rfl⟩
 |v::r=>by
  obtain⟨h1,h2⟩:=zlh (H:=H) r
  refine⟨?_,?_⟩
  ·rw[List.map_cons,freezeAll,h1];rfl
  ·rw[List.map_cons,plainArgs,h2];rfl
theorem zbcj {f:FuncId} {j:KFun} (hk:KOK tr.look f j) (hp:j.pure=true) {l:List PVal} {c:MT} (hc:c.OK) {ih:MT→WR} {x:WX} (e:j.code cG 1000000 (l.map .p) ⟨.e,0,c⟩ (nextK ih)=some x) :
 (∀ H,CW tr.look f (l.map .p) H=some (.p (.bool true),H))∧∃c':MT,c'.OK∧ih c'=some x:=by
 obtain⟨Fn,v,K',H',h1,h2,h3,h4,h5⟩:=zamv hk cG_le (RH.zero hc) e
 obtain⟨rfl,h5⟩:=zawh h5
 refine⟨fun H=>CW_of ?_,K'.c,h4.c,h5⟩
 unfold callBody
 simp only[h1]
 rw[← h2,hp]
 dsimp only
 rw[(zlh l).1]
 dsimp only
 rw[h3]
 dsimp only
 have:freezeRes H' (.p (.bool true))=some (.p (.bool true)):=rfl
 rw[this]
 dsimp only
 rw[(zlh (H:=H) l).2]
 rfl
end Go.Ideal
