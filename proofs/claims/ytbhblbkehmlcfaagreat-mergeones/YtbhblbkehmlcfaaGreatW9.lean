/-
  THE FUNCTIONS OF THIS SEAT, OVER LEAN's OWN VARIABLES, shapes known: printed by a program of the prover's own out of the ideal program.
-/
import Derived.Test.YtbhblbkehmlcfaaGreatW6
import Derived.Test.YtbhblbkehmlcfaaGreatW8
namespace Go.Ideal
open Go Go.Proofs
set_option maxRecDepth 100000
noncomputable abbrev nad (a b:Nat) (k:Nat→WR):WR:=nforce (Nat.add a b) fun c=>ift (Nat.ble (Nat.succ c) lim63) (k c)
noncomputable abbrev nae (a b:Nat) (k:Nat→WR):WR:=nforce (Nat.add a b) k
noncomputable abbrev nam (a b c:Nat) (k:Nat→WR):WR:=nforce (Nat.add a (Nat.mul b c)) k
noncomputable abbrev nlt (a b:Nat) (e:WR):WR:=ift (Nat.ble (Nat.succ a) b) e
noncomputable abbrev nbl (a b:Nat) (k:Bool→WR):WR:=bf (Nat.ble (Nat.succ a) b) k
noncomputable abbrev nbe (a b:Nat) (k:Bool→WR):WR:=bf (Nat.beq a b) k
noncomputable abbrev wle (l:LI) (n:Nat) (e:WR):WR:=wbeq (llen l) n e
abbrev sx (n:Nat):Pm := .slot n (qx n 0)
abbrev bl (n e:Nat):Pm := .box n (.lst e)
abbrev zt5:LI:=[(iN 0),(iS []),(iS []),(.p .nilslice),(.p .nilslice)]
abbrev b_ (s:Nat) (l:LI) (e:Nat):Nat×Option IBlk:=(s,some (.cells l e 0 false))
abbrev nb_ (s:Nat):Nat×Option IBlk:=(s,none)
noncomputable abbrev oN (f:Nat→WR):IVal→WR:=fun a=>tN a f
noncomputable abbrev ooN {α:Type} (f:Nat→α→WR):IVal→α→WR:=fun a h=>tN a fun x=>f x h
noncomputable abbrev oI (f:Int→WR):IVal→WR:=fun a=>tI a f
noncomputable abbrev ooI {α:Type} (f:Int→α→WR):IVal→α→WR:=fun a h=>tI a fun x=>f x h
noncomputable abbrev oB (f:Bool→WR):IVal→WR:=fun a=>tB a f
noncomputable abbrev ooB {α:Type} (f:Bool→α→WR):IVal→α→WR:=fun a h=>tB a fun x=>f x h
noncomputable abbrev oS (f:LB→WR):IVal→WR:=fun a=>tS a f
noncomputable abbrev ooS {α:Type} (f:LB→α→WR):IVal→α→WR:=fun a h=>tS a fun x=>f x h
noncomputable abbrev oP (f:PVal→WR):IVal→WR:=fun a=>tP a f
noncomputable abbrev ooP {α:Type} (f:PVal→α→WR):IVal→α→WR:=fun a h=>tP a fun x=>f x h
noncomputable abbrev oH (f:Nat→Nat→Nat→WR):IVal→WR:=fun a=>tH a f
noncomputable abbrev ooH {α:Type} (f:Nat→Nat→Nat→α→WR):IVal→α→WR:=fun a h=>tH a fun x y z=>f x y z h
noncomputable abbrev oL (f:Nat→Nat→Nat→Nat→WR):IVal→WR:=fun a=>tL a f
noncomputable abbrev ooL {α:Type} (f:Nat→Nat→Nat→Nat→α→WR):IVal→α→WR:=fun a h=>tL a fun x y z w=>f x y z w h
noncomputable abbrev oM (f:Nat→WR):IVal→WR:=fun a=>tM a f
noncomputable abbrev ooM {α:Type} (f:Nat→α→WR):IVal→α→WR:=fun a h=>tM a fun x=>f x h
noncomputable abbrev oA (f:LI→WR):IVal→WR:=fun a=>tA a f
noncomputable abbrev ooA {α:Type} (f:LI→α→WR):IVal→α→WR:=fun a h=>tA a fun x=>f x h
noncomputable abbrev oT (f:LI→WR):IVal→WR:=fun a=>tT a f
noncomputable abbrev ooT {α:Type} (f:LI→α→WR):IVal→α→WR:=fun a h=>tT a fun x=>f x h
noncomputable def gonH (q1:IVal→FH→(IVal→FH→WR)→WR) (Q:Int→Int→Nat→Bool→LI→FH→WR) (_:WO) (L:Nat) (ii jj:Int) (bw:Bool) (h:FH):WR :=
q1 (iN 6) h <| ooN fun c5 h1 =>
nad 2 c5 fun c6 =>
wblock Q fun j0 =>
wloop (fun _ _ _ _ _ _ _=>none) (fun j1 (c0:Nat) (c2 c3:Int) (c1:Nat) (c4:Bool) (r0:LI) (h0:FH) =>
nbl c0 c1 fun c7 =>
wif c7 (wblock (fun(c8:Nat) (c9 c10:Int) (c11:Nat) (c12:Bool) (r1:LI) (h2:FH) =>
nad c8 1 fun c13 =>
j1 c13 c9 c10 c11 c12 r1 h2) fun j2 =>
wg 4 r0 fun a0 =>
nad c0 1 fun c14 =>
vv (zhg (iS [97,98,99,100,101,102,103,104]) (some (iN c0)) (some (iN c14))) <| oS fun c15 =>
hpush h0 (.cells [(iN 3),(iS []),(iS [116]),(.p .nilslice),(.p .nilslice)] 5 0 false) fun c16 h3 =>
hpush h3 (.cells [(iN 2),(iS c15),(iS []),(.p .nilslice),(.slice c16 0 0 1)] 5 0 false) fun c17 h4 =>
zad 5 a0 (.slice c17 0 0 1) h4 <| ooL fun c18 c19 c20 c21 h5 =>
wspl r0 4 [(.slice c18 c19 c20 c21)] fun r2 =>
j2 c0 c2 c3 c1 c4 r2 h5) <|
j0 c2 c3 c1 c4 r0 h0) L 0 ii jj c6 bw [(iN 1),(iS []),(iS []),(.p .nilslice),(.p .nilslice)] h1
noncomputable def gonT (q2 q3:IVal→FH→(IVal→FH→WR)→WR) (F:WO) (_:Nat) (kr:IVal→FH→WR) (ck:Nat) (cb:Bool) (rk:LI) (hk:FH):WR :=
wcut rk 0 5 fun r10 =>
wcut rk 0 5 fun r8 =>
F 8 [(.agg r10)] hk <| ooA fun r1 h2 =>
ift (wchk F ⟨[b_ 13 zt5 5,b_ 12 zt5 5,nb_ 13,nb_ 12,b_ 10 rk 5],h2⟩ (.load (some 5) (.const (iX 10 0))) (.agg r8)) <|
ift (wchk F ⟨[b_ 13 zt5 5,b_ 12 zt5 5,nb_ 13,nb_ 12,b_ 10 rk 5],h2⟩ (.alloc (some 12) [(.int .i64 0),(.str []),(.str []), .nilslice, .nilslice]) (iX 12 0)) <|
ift (wchk F ⟨[b_ 13 zt5 5,b_ 12 zt5 5,nb_ 13,nb_ 12,b_ 10 rk 5],h2⟩ (.alloc (some 13) [(.int .i64 0),(.str []),(.str []), .nilslice, .nilslice]) (iX 13 0)) <|
F 8 [(.agg r8)] h2 <| ooA fun r2 h3 =>
ift (wchk F ⟨[b_ 13 zt5 5,b_ 12 zt5 5,nb_ 13,nb_ 12,b_ 10 rk 5],h3⟩ (.alloc (some 12) [(.int .i64 0),(.str []),(.str []), .nilslice, .nilslice]) (iX 12 0)) <|
ift (wchk F ⟨[b_ 13 zt5 5,b_ 12 zt5 5,nb_ 13,nb_ 12,b_ 10 rk 5],h3⟩ (.alloc (some 13) [(.int .i64 0),(.str []),(.str []), .nilslice, .nilslice]) (iX 13 0)) <|
wle r1 5 <|
wle r2 5 <|
q2 (iN ck) h3 <| ooN fun c0 h10 =>
q3 (iN ck) h10 <| ooN fun c1 h11 =>
wcut rk 0 5 fun r11 =>
F 8 [(.agg r11)] h11 <| ooA fun r0 h4 =>
wle r0 5 <|
wblock (fun(c12 c8:Nat) (c13:Bool) (r5 r6 r7 r9:LI) (h12:FH) =>
wcut r5 0 5 fun r12 =>
wcut r6 0 5 fun r13 =>
wcut r7 0 5 fun r14 =>
F 9 [(.agg r12),(.agg r13),(.agg r14)] h12 <| ooT fun r15 h0 =>
wcons r15 <| ooA fun r3 r16 =>
wcons r16 <| ooN fun c9 r17 =>
wnil r17 <|
wle r3 8 <|
bf (gnot (Nat.beq c8 c12)) fun c14 =>
wif c14 (nbe c9 0 fun c3 =>
wgV (iB c3) true (zaa 0 (iX 17 0)) fun a0 =>
wgV (iB c3) true (zac (some 5) a0 ⟨[b_ 17 r3 8,b_ 17 [(iN 0),(iS []),(iS []),(.p .nilslice),(.p .nilslice),(.p .nilslice),(.p .nilslice),(.p .nilslice)] 8,nb_ 17,b_ 10 r5 5,b_ 12 r6 5,b_ 13 r7 5,b_ 16 r9 5],h0⟩) fun a1 =>
wgV (iB c3) true (zac (some 5) (iX 16 0) ⟨[b_ 17 r3 8,b_ 17 [(iN 0),(iS []),(iS []),(.p .nilslice),(.p .nilslice),(.p .nilslice),(.p .nilslice),(.p .nilslice)] 8,nb_ 17,b_ 10 r5 5,b_ 12 r6 5,b_ 13 r7 5,b_ 16 r9 5],h0⟩) fun a2 =>
wgH (iB c3) true (wcallH (.p (.func 10)) [a1,a2] F) h0 fun a3 h13 =>
pk c3 a3 (iB false) <| oB fun c10 =>
wgH (iB c10) true (wcallH (.p (.func 11)) [] F) h13 fun a4 h14 =>
pk c10 a4 (iB false) <| oB fun c15 =>
kr (iB c15) h14) <|
vv (x_mul (iN 2) (iN c8)) <| oN fun c16 =>
nad c16 2 fun c17 =>
wblock (fun(c18 c5 c6:Nat) (c7:LB) (r4:LI) (h1:FH) =>
nbe c18 13 fun c4 =>
wgV (iB c4) true (zaa 5 (iX 17 0)) fun a5 =>
wgV (iB c4) true (zac none a5 ⟨[b_ 19 [(iN c5),(iN c6),(iS c7)] 3,b_ 17 r4 8],h1⟩) fun a6 =>
wgV (iB c4) true (v_len a6) fun a7 =>
wgV (iB c4) true (v_eql a7 (iN 1)) fun a8 =>
pk c4 a8 (iB false) <| oB fun c2 =>
wgV (iB c2) true (zaa 5 (iX 17 0)) fun a9 =>
wgV (iB c2) true (zac none a9 ⟨[b_ 19 [(iN c5),(iN c6),(iS c7)] 3,b_ 17 r4 8],h1⟩) fun a10 =>
wgV (iB c2) true (zab 3 a10 (iN 0)) fun a11 =>
wgV (iB c2) true (zac (some 3) a11 ⟨[b_ 19 [(iN c5),(iN c6),(iS c7)] 3,b_ 17 r4 8],h1⟩) fun a12 =>
wgV (iB c2) true (zac (some 3) (iX 19 0) ⟨[b_ 19 [(iN c5),(iN c6),(iS c7)] 3,b_ 17 r4 8],h1⟩) fun a13 =>
wgV (iB c2) true (vv (x_eqv false ⟨true,[.int, .int, .str]⟩ (.const a12) (.const a13))) fun a14 =>
pk c2 a14 (iB false) <| oB fun c11 =>
wgH (iB c11) true (wcallH (.p (.func 11)) [] F) h1 fun a15 h15 =>
pk c11 a15 (iB false) <| oB fun c19 =>
kr (iB c19) h15) fun j0 =>
wif c13 (vv (x_mul (iN 2) (iN c8)) <| oN fun c20 =>
nad c20 1 fun c21 =>
j0 c9 1 c21 [120] r3 h0) <|
j0 c9 2 c17 [] r3 h0) fun j1 =>
wif cb (wg 4 r1 <| oL fun c22 c23 c24 c25 =>
hpush h4 (.cells [(iS [120]),(iS [49])] 2 0 false) fun c26 h16 =>
nlt c0 c25 <|
nam c24 c0 5 fun c27 =>
nae c27 3 fun c28 =>
hwr h16 c22 c23 c28 [(.slice c26 0 0 1)] fun h17 =>
wg 4 r2 <| oL fun c29 c30 c31 c32 =>
hpush h17 (.cells [(iS [120]),(iS [50])] 2 0 false) fun c33 h18 =>
nlt c1 c32 <|
nam c31 c1 5 fun c34 =>
nae c34 3 fun c35 =>
hwr h18 c29 c30 c35 [(.slice c33 0 0 1)] fun h5 =>
wg 4 r0 <| oL fun c36 c37 c38 c39 =>
wg 4 r1 <| oL fun c40 c41 c42 c43 =>
nlt c0 c43 <|
nam c42 c0 5 fun c44 =>
nae c44 3 fun c45 =>
hld none c40 c41 c45 h5 <| oL fun c46 c47 c48 c49 =>
nlt c0 c39 <|
nam c38 c0 5 fun c50 =>
nae c50 3 fun c51 =>
hwr h5 c36 c37 c51 [(.slice c46 c47 c48 c49)] fun h6 =>
wg 4 r0 <| oL fun c52 c53 c54 c55 =>
wg 4 r2 <| oL fun c56 c57 c58 c59 =>
nlt c1 c59 <|
nam c58 c1 5 fun c60 =>
nae c60 3 fun c61 =>
hld none c56 c57 c61 h6 <| oL fun c62 c63 c64 c65 =>
nlt c1 c55 <|
nam c54 c1 5 fun c66 =>
nae c66 3 fun c67 =>
hwr h6 c52 c53 c67 [(.slice c62 c63 c64 c65)] fun h19 =>
j1 c1 c0 cb rk r1 r2 r0 h19) <|
wg 4 r1 <| oL fun c68 c69 c70 c71 =>
nlt c0 c71 <|
nam c70 c0 5 fun c72 =>
nae c72 4 fun c73 =>
hld none c68 c69 c73 h4 <| oL fun c74 c75 c76 c77 =>
nlt 0 c77 <|
nam c76 0 5 fun c78 =>
nae c78 2 fun c79 =>
hwr h4 c74 c75 c79 [(iS [49])] fun h7 =>
wg 4 r2 <| oL fun c80 c81 c82 c83 =>
nlt c1 c83 <|
nam c82 c1 5 fun c84 =>
nae c84 4 fun c85 =>
hld none c80 c81 c85 h7 <| oL fun c86 c87 c88 c89 =>
nlt 0 c89 <|
nam c88 0 5 fun c90 =>
nae c90 2 fun c91 =>
hwr h7 c86 c87 c91 [(iS [50])] fun h8 =>
wg 4 r0 <| oL fun c92 c93 c94 c95 =>
nlt c0 c95 <|
nam c94 c0 5 fun c96 =>
nae c96 4 fun c97 =>
hld none c92 c93 c97 h8 <| oL fun c98 c99 c100 c101 =>
nlt 0 c101 <|
nam c100 0 5 fun c102 =>
nae c102 2 fun c103 =>
hwr h8 c98 c99 c103 [(iS [49])] fun h9 =>
wg 4 r0 <| oL fun c104 c105 c106 c107 =>
nlt c1 c107 <|
nam c106 c1 5 fun c108 =>
nae c108 4 fun c109 =>
hld none c104 c105 c109 h9 <| oL fun c110 c111 c112 c113 =>
nlt 0 c113 <|
nam c112 0 5 fun c114 =>
nae c114 2 fun c115 =>
hwr h9 c110 c111 c115 [(iS [50])] fun h20 =>
j1 c1 c0 cb rk r1 r2 r0 h20
noncomputable def zdu:KC:=fun F L v h kr =>
wcons v <| ooI fun c0 r0 =>
wcons r0 <| ooI fun c1 r1 =>
wcons r1 <| ooI fun c2 r2 =>
wcons r2 <| ooB fun c3 r3 =>
wnil r3 <|
gonH (fun c h k=>F 7 [(iI c0),c] h k) (fun x y=>gonT (fun c h k=>F 7 [(iI x),c] h k) (fun c h k=>F 7 [(iI y),c] h k) F L kr) F L c1 c2 c3 h
noncomputable def zdv:KFun:=⟨zdu,true,false⟩
theorem zfv:KOK tr.look F_Q3 zdv:=⟨i_Q3,(.sq (.rg [qb]) (.sq (.rg [qi,qn,qn,qn]) (.sq (.rg [qv,(qx 10 0),(.tup [])]) (.sq (.sq (.rg [qn]) (.bk [.slot 1 qi, .slot 2 qi, .slot 9 qn,sx 10, .slot 3 qb,bl 10 5] (.lp [.slot 11 qn,sx 10, .slot 1 qi, .slot 2 qi, .slot 9 qn, .slot 3 qb,bl 10 5] (.sq (.sq (.rg [qn,qn,qb]) (.cj .lf .lf)) (.sq (.bk [.slot 11 qn,sx 10, .slot 1 qi, .slot 2 qi, .slot 9 qn, .slot 3 qb,bl 10 5] (.rg [(qx 10 4),qa,qn,qn,qn,qs,qv,ql,qv,ql,ql,(qx 10 4),(.tup [])])) (.rg [qn,qn,qn])))))) (.sq (.rg [qv,qv,qv,qv,(qx 12 0),(qx 13 0),(.tup []),(.tup [])]) (.sq (.rg [qi,qn,qn,qi,qn,qn,qn,qn]) (.sq (.rg [qv,qv,(qx 16 0),(.tup [])]) (.sq (.sq (.rg [qb]) (.cd [sx 10,sx 12,sx 13, .slot 15 qn, .slot 14 qn, .slot 3 qb,sx 16,bl 10 5,bl 12 5,bl 13 5,bl 16 5] (.sq (.rg [(qx 12 4),ql,qn,qv,ql,qh,qh,(.tup [])]) (.sq (.rg [(qx 13 4),ql,qn,qv,ql,qh,qh,(.tup [])]) (.sq (.rg [(qx 16 4),ql,qn,(qx 12 4),ql,qn,qh,qh,ql,qh,qh,(.tup [])]) (.rg [(qx 16 4),ql,qn,(qx 13 4),ql,qn,qh,qh,ql,qh,qh,(.tup [])])))) (.sq (.rg [(qx 12 4),ql,qn,qh,qh,ql,qh,qh,(.tup [])]) (.sq (.rg [(qx 13 4),ql,qn,qh,qh,ql,qh,qh,(.tup [])]) (.sq (.rg [(qx 16 4),ql,qn,qh,qh,ql,qh,qh,(.tup [])]) (.rg [(qx 16 4),ql,qn,qh,qh,ql,qh,qh,(.tup [])])))))) (.sq (.rg [qv,qv,qv,(.tup [.aggv,(.c .nat)]),(.tup [.aggv,(.c .nat)]),qv,qn,(qx 17 0),(.tup []),qn]) (.sq (.sq (.rg [qn,qn,qb]) (.cj (.sq (.rg [qn,qb,qb,qa,qa,qa,qa,qb,qb,qa,qb,qb]) .lf) .lf)) (.sq (.rg [qn,qn,qn,qv,(qx 19 0),(.tup [])]) (.sq (.sq (.rg [qb]) (.cd [sx 19,sx 17, .slot 18 qn,(.box 19 (.cells 3 [.nat, .nat, .str])),bl 17 8] (.rg [qn,qn,qn,qv,(.tup [])]) .lf)) (.sq (.rg [qn,qb,qb,qa,qa,qa,qa,qb,qb,qa,qa,qa,qa,qa,qa,qb,qb,qa,qb,qb]) .lf))))))))))))),[qi,qi,qi,qb],[19,17,16,12,13,10],[],look_Q3,rfl,rfl,rfl,rfl,by kernel_rfl⟩
noncomputable def zadm:KC:=fun _ _ v h kr =>
wcons v <| ooI fun c2 r0 =>
wcons r0 <| ooN fun c1 r1 =>
wnil r1 <|
vv (xgen .rem (iI c2) (iN c1)) <| oI fun c0 =>
v_lss (iI c0) (iN 0) <| oB fun c3 =>
wblock (fun(c4:Nat) (h0:FH) =>
kr (iN c4) h0) fun j0 =>
wif c3 (v_add (iI c0) (iN c1) <| oN fun c5 =>
j0 c5 h) <|
tN (iI c0) fun c6 =>
j0 c6 h
noncomputable def zpr:KFun:=⟨zadm,true,false⟩
theorem zxa:KOK tr.look F_Q7 zpr:=⟨i_Q7,(.sq (.rg [qn]) (.sq (.rg [qi,qn,qi,qi]) (.sq (.sq (.rg [qi,qb]) (.cd [.slot 5 qn] (.rg [qi,qn,qn,qn]) .lf)) (.sq (.rg [qn,qn]) .lf)))),[qi,qn],[],[],look_Q7,rfl,rfl,rfl,rfl,by kernel_rfl⟩
noncomputable def zagz:KC:=fun F L v h kr =>
wcons v <| ooA fun r0 r6 =>
wnil r6 <|
wle r0 5 <|
wg 0 r0 <| oN fun c1 =>
wg 1 r0 <| oS fun c2 =>
wg 2 r0 <| oS fun c3 =>
wg 3 r0 <| oP fun c4 =>
F 14 [(.p c4)] h <| ooP fun c5 h0 =>
ift (wchk F ⟨[b_ 3 zt5 5,b_ 2 zt5 5,b_ 1 r0 5,nb_ 3,nb_ 1,nb_ 2],h0⟩ (.load none (.const (iX 1 0))) (iN c1)) <|
ift (wchk F ⟨[b_ 3 zt5 5,b_ 2 zt5 5,b_ 1 r0 5,nb_ 3,nb_ 1,nb_ 2],h0⟩ (.load none (.const (iX 1 1))) (iS c2)) <|
ift (wchk F ⟨[b_ 3 zt5 5,b_ 2 zt5 5,b_ 1 r0 5,nb_ 3,nb_ 1,nb_ 2],h0⟩ (.load none (.const (iX 1 2))) (iS c3)) <|
ift (wchk F ⟨[b_ 3 zt5 5,b_ 2 zt5 5,b_ 1 r0 5,nb_ 3,nb_ 1,nb_ 2],h0⟩ (.alloc (some 3) [(.int .i64 0),(.str []),(.str []), .nilslice, .nilslice]) (iX 3 0)) <|
wblock (fun(r7 r8:LI) (h3:FH) =>
wcut r7 0 5 fun r4 =>
wle r4 5 <|
wle r8 5 <|
wcut r4 0 5 fun r9 =>
kr (.agg r9) h3) fun j0 =>
wloop (fun _ _ _ _ _=>none) (fun j1 (c0:Nat) (r1 r2 r3:LI) (h1:FH) =>
wg 4 r2 fun a1 =>
v_len a1 <| oN fun c6 =>
nbl c0 c6 fun c7 =>
wif c7 (wblock (fun(c8:Nat) (r10 r11 r12:LI) (h4:FH) =>
nad c8 1 fun c9 =>
j1 c9 r10 r11 r12 h4) fun j2 =>
wg 4 r1 fun a0 =>
wg 4 r2 <| oL fun c10 c11 c12 c13 =>
nlt c0 c13 <|
nam c12 c0 5 fun c14 =>
hld (some 5) c10 c11 c14 h1 <| oA fun r13 =>
F 8 [(.agg r13)] h1 <| ooA fun r5 h5 =>
wle r5 5 <|
wspl zt5 0 r5 fun r14 =>
hpush h5 (.cells r14 5 0 false) fun c15 h2 =>
ift (wchk F ⟨[b_ 3 r1 5,b_ 1 r2 5,b_ 2 r3 5],h2⟩ (.load none (.const (iX 3 4))) a0) <|
zad 5 a0 (.slice c15 0 0 1) h2 <| ooL fun c16 c17 c18 c19 h6 =>
wspl r1 4 [(.slice c16 c17 c18 c19)] fun r15 =>
j2 c0 r15 r2 r3 h6) <|
j0 r1 r3 h1) L 0 [(iN c1),(iS c2),(iS c3),(.p c5),(.p .nilslice)] r0 zt5 h0
noncomputable def zsv:KFun:=⟨zagz,false,false⟩
theorem zyv:KOK tr.look F_Q8 zsv:=⟨i_Q8,(.sq (.rg [(qx 1 0),(qx 2 0)]) (.sq (.rg [(qx 1 0),qn,(qx 1 1),qs,(qx 1 2),qs,(qx 1 3),qp,qp,qv,(qx 3 0),(.tup [])]) (.sq (.sq (.rg [qn]) (.bk [sx 3,sx 2,bl 3 5,bl 2 5] (.lp [.slot 4 qn,sx 3,sx 1,sx 2,bl 3 5,bl 1 5,bl 2 5] (.sq (.sq (.rg [qn,(qx 1 4),qa,qn,qb]) (.cj .lf .lf)) (.sq (.bk [.slot 4 qn,sx 3,sx 1,sx 2,bl 3 5,bl 1 5,bl 2 5] (.rg [(qx 3 4),qa,(qx 1 4),ql,qn,qh,qv,qv,ql,ql,(qx 3 4),(.tup [])])) (.rg [qn,qn,qn])))))) (.sq (.rg [qv,(.tup [])]) .lf)))),[qv],[3,1,2],[],look_Q8,rfl,rfl,rfl,rfl,by kernel_rfl⟩
noncomputable def zadn:KC:=fun F L v h kr =>
wcons v <| ooA fun r0 r14 =>
wcons r14 <| ooA fun r1 r15 =>
wcons r15 <| ooA fun r2 r16 =>
wnil r16 <|
wle r0 5 <|
wle r1 5 <|
wle r2 5 <|
wblock (fun(r17 r18 r6 r19:LI) (h7:FH) =>
wcut r6 0 5 fun r20 =>
wcut r17 0 5 fun r21 =>
wcut r18 0 5 fun r22 =>
F 16 [(.agg r20),(.agg r21),(.agg r22)] h7 <| ooH fun c15 c16 c17 h1 =>
hld none c15 c16 c17 h1 <| oP fun c29 =>
v_len (.p c29) <| oN fun c30 =>
wblock (fun(c7 c8 c9:Nat) (a0:IVal) (r7:LI) (h2:FH) =>
v_len a0 <| oN fun c31 =>
nbl 0 c31 fun c32 =>
wif c32 (cof1 a0 <|
wle r7 8 <|
kr (.tup [(.agg [(iN 0),(iS []),(iS []),(.p .nilslice),(.p .nilslice),a0,(.p .nilslice),(.p .nilslice)]),(iN 13)]) h2) <|
ift (nbox 11 a0) <|
ift (nbox 11 a0) <|
F 18 [(iH c7 c8 c9),(iN 0)] h2 <| ooA fun r8 h3 =>
wle r8 5 <|
wspl [(iN 0),(iS []),(iS []),(.p .nilslice),(.p .nilslice),(.p .nilslice),(.p .nilslice),(.p .nilslice)] 0 r8 fun r9 =>
wle r9 8 <|
nae c9 21 fun c33 =>
hld none c7 c8 c33 h3 <| oL fun c34 c35 c36 c18 =>
wblock (fun(c19 c20 c21:Nat) (c37:PVal) (r5 r23:LI) (h8:FH) =>
v_len (.p c37) <| oN fun c38 =>
nbl 0 c38 fun c39 =>
wif c39 ((none:WR)) <|
wcut r5 0 5 fun r24 =>
F 15 [(.agg r24)] h8 <| ooB fun c40 h9 =>
bf (gnot c40) fun c41 =>
wif c41 ((none:WR)) <|
wcut r5 0 5 fun r25 =>
F 19 [(iH c19 c20 c21),(iN 0),(.agg r25)] h9 <| ooT fun r26 h10 =>
wcons r26 <| ooP fun c42 r27 =>
wcons r27 <| ooN fun c43 r28 =>
wnil r28 <|
wspl r5 6 [(.p c42)] fun r10 =>
wcut r10 0 5 fun r29 =>
F 19 [(iH c19 c20 c21),(iN 1),(.agg r29)] h10 <| ooT fun r30 h11 =>
wcons r30 <| ooP fun c44 r31 =>
wcons r31 <| ooN fun c45 r32 =>
wnil r32 <|
wspl r10 7 [(.p c44)] fun r33 =>
vv (x_eqv true ⟨true,[.int, .int]⟩ (.const (.agg [(iN c43),(iN c45)])) (.const (.agg [(iN 0),(iN 0)]))) <| oB fun c46 =>
wif c46 ((none:WR)) <|
wcut r33 0 8 fun r11 =>
wle r11 8 <|
wle r23 8 <|
wcut r11 0 8 fun r34 =>
kr (.tup [(.agg r34),(iN 0)]) h11) fun j0 =>
tP a0 fun c47 =>
wloop (fun _ _ _ _ _ _ _ _ _ _ _ _ _=>none) (fun j1 (c1:Nat) (c22:PVal) (c2 c3 c4 c23 c24 c25 c26 c27:Nat) (r3 r4:LI) (h0:FH) =>
nbl c1 c27 fun c48 =>
wif c48 (wblock (fun(c49:Nat) (c50:PVal) (c51 c52 c53 c54 c55 c56 c57 c58:Nat) (r35 r36:LI) (h12:FH) =>
nad c49 1 fun c59 =>
j1 c59 c50 c51 c52 c53 c54 c55 c56 c57 c58 r35 r36 h12) fun j2 =>
nlt c1 c26 <|
nam c25 c1 1 fun c60 =>
hld none c23 c24 c60 h0 <| oN fun c61 =>
nae c4 14 fun c62 =>
nlt 0 2 <|
nam c62 0 1 fun c63 =>
hld none c2 c3 c63 h0 fun a2 =>
zab 6 a2 (iN c1) fun a3 =>
zaa 0 a3 fun a4 =>
zac none a4 ⟨[b_ 11 r3 8,b_ 6 r4 8],h0⟩ <| oB fun c64 =>
bf (gnot c64) fun c0 =>
wgV (iB c0) true (vv (x_mov (iH c2 c3 c4))) fun a5 =>
wgV (iB c0) true (v_nil a5) fun a6 =>
wgV (iB c0) true (zaa 14 a6) fun a7 =>
wgV (iB c0) true (zpj 2 1 a7 (iN 1)) fun a8 =>
wgV (iB c0) true (zac none a8 ⟨[b_ 11 r3 8,b_ 6 r4 8],h0⟩) fun a9 =>
wgV (iB c0) true (vv (x_mov (iN c1))) fun a10 =>
wgV (iB c0) true (zab 6 a9 a10) fun a11 =>
wgV (iB c0) true (zaa 0 a11) fun a12 =>
wgV (iB c0) true (zac none a12 ⟨[b_ 11 r3 8,b_ 6 r4 8],h0⟩) fun a13 =>
wgV (iB c0) true (v_not a13) fun a14 =>
pk c0 a14 (iB false) <| oB fun c10 =>
wgV (iB c10) true (vv (x_mov (iN c61))) fun a15 =>
wgV (iB c10) true (v_neq a15 (iN 1)) fun a16 =>
pk c10 a16 (iB false) <| oB fun c65 =>
wblock (fun(c66:Nat) (c67:PVal) (c68 c69 c70 c71 c72 c73 c74 c75:Nat) (r37 r38:LI) (h13:FH) =>
j2 c66 c67 c68 c69 c70 c71 c72 c73 c74 c75 r37 r38 h13) fun j3 =>
wif c65 ((none:WR)) <|
j3 c1 c22 c2 c3 c4 c23 c24 c25 c26 c27 r3 r4 h0) <|
j0 c2 c3 c4 c22 r3 r4 h0) L 0 c47 c7 c8 c9 c34 c35 c36 c18 c18 r9 r7 h3) fun j4 =>
wloop (fun _ _ _ _ _ _ _ _ _=>none) (fun j5 (c11 c12 c13 c14:Nat) (a1:IVal) (c28:Nat) (r12 r13:LI) (h4:FH) =>
nbl c11 c28 fun c76 =>
wif c76 (wblock (fun(c77 c78 c79 c80:Nat) (a17:IVal) (c81:Nat) (r39 r40:LI) (h14:FH) =>
nad c77 1 fun c82 =>
j5 c82 c78 c79 c80 a17 c81 r39 r40 h14) fun j6 =>
wcut r12 0 5 fun r41 =>
F 17 [(iH c12 c13 c14),(.agg r41),(iN c11)] h4 fun a18 h15 =>
zad 3 a1 a18 h15 fun a19 h16 =>
j6 c11 c12 c13 c14 a19 c28 r12 r13 h16) <|
j4 c12 c13 c14 a1 r13 h4) L 0 c15 c16 c17 (.p .nilslice) c30 r6 r19 h1) fun j7 =>
wcut r0 0 5 fun r42 =>
F 15 [(.agg r42)] h <| ooB fun c83 h5 =>
bf (gnot c83) fun c5 =>
wgV (iB c5) false (zac (some 5) (iX 4 0) ⟨[b_ 6 [(iN 0),(iS []),(iS []),(.p .nilslice),(.p .nilslice),(.p .nilslice),(.p .nilslice),(.p .nilslice)] 8,b_ 5 r2 5,b_ 4 r1 5,b_ 3 r0 5,nb_ 14,nb_ 11,nb_ 3,nb_ 4,nb_ 5,nb_ 6],h5⟩) fun a20 =>
wgH (iB c5) false (wcallH (.p (.func 15)) [a20] F) h5 fun a21 h6 =>
wgV (iB c5) false (v_not a21) fun a22 =>
pk c5 (iB true) a22 <| oB fun c6 =>
wgV (iB c6) false (zac (some 5) (iX 5 0) ⟨[b_ 6 [(iN 0),(iS []),(iS []),(.p .nilslice),(.p .nilslice),(.p .nilslice),(.p .nilslice),(.p .nilslice)] 8,b_ 5 r2 5,b_ 4 r1 5,b_ 3 r0 5,nb_ 14,nb_ 11,nb_ 3,nb_ 4,nb_ 5,nb_ 6],h6⟩) fun a23 =>
wgH (iB c6) false (wcallH (.p (.func 15)) [a23] F) h6 fun a24 h17 =>
wgV (iB c6) false (v_not a24) fun a25 =>
pk c6 (iB true) a25 <| oB fun c84 =>
wif c84 ((none:WR)) <|
wcut r1 0 5 fun r43 =>
wcut r2 0 5 fun r44 =>
F 10 [(.agg r43),(.agg r44)] h17 <| ooB fun c85 h18 =>
wif c85 ((none:WR)) <|
j7 r1 r2 r0 [(iN 0),(iS []),(iS []),(.p .nilslice),(.p .nilslice),(.p .nilslice),(.p .nilslice),(.p .nilslice)] h18
noncomputable def zps:KFun:=⟨zadn,true,false⟩
theorem zxb:KOK tr.look F_Q9 zps:=⟨i_Q9,(.sq (.rg [(qx 3 0),(qx 4 0),(qx 5 0),(qx 6 0),qn]) (.sq (.bk [sx 4,sx 5,sx 3,sx 6,bl 4 5,bl 5 5,bl 3 5,bl 6 8] (.sq (.rg [qv,qb,qb,qb,qa,qa,qa,qb,qb,qa,qa,qa,qb,qb]) (.cj (.sq .lf .lf) (.sq (.rg [qv,qv,qb,qb]) (.cj (.sq .lf .lf) .lf))))) (.sq (.rg [qv,qv,qv,qh,qh]) (.sq (.rg [qp]) (.sq (.sq (.rg [qh,qh,qh,qp,qn,qn]) (.bk [.slot 8 qh, .slot 9 qa,sx 6,bl 6 8] (.lp [.slot 45 qn,sx 3, .slot 8 qh, .slot 9 qa,sx 6, .slot 44 qn,bl 3 5,bl 6 8] (.sq (.rg [qb]) (.sq (.cj .lf .lf) (.sq (.bk [.slot 45 qn,sx 3, .slot 8 qh, .slot 9 qa,sx 6, .slot 44 qn,bl 3 5,bl 6 8] (.sq (.rg [qn,qn]) (.rg [qa,qh,qv,qn]))) (.rg [qn,qn]))))))) (.sq (.sq (.rg [qa,qn,qb]) (.cj (.sq (.rg [ql,qv,(.tup []),qn]) .lf) .lf)) (.sq (.rg [qh,qv,qv,(qx 11 0),(.tup [])]) (.sq (.sq (.rg [qh,qh,qh,ql,qn,qn]) (.bk [.slot 8 qh,sx 11, .slot 9 qp,sx 6,bl 11 8,bl 6 8] (.lp [.slot 68 qn, .slot 9 qp, .slot 8 qh, .slot 66 ql,sx 11,sx 6, .slot 67 qn,bl 11 8,bl 6 8] (.sq (.rg [qb]) (.sq (.cj .lf .lf) (.sq (.bk [.slot 68 qn, .slot 9 qp, .slot 8 qh, .slot 66 ql,sx 11,sx 6, .slot 67 qn,bl 11 8,bl 6 8] (.sq (.rg [qn,qh,qn,qn,qn]) (.sq (.rg [qh,qh,qh,qh,qa,qn,qa,qa,qb,qb,qb,qa,qa,qa,qa,qa,qa,qa,qa,qa,qa,qb,qb,qa,qa,qb]) (.cd [.slot 68 qn, .slot 9 qp, .slot 8 qh, .slot 66 ql,sx 11,sx 6, .slot 67 qn,bl 11 8,bl 6 8] .lf .lf)))) (.rg [qn,qn]))))))) (.sq (.sq (.rg [qp,qn,qb]) (.cj (.sq .lf .lf) .lf)) (.sq (.sq (.rg [(qx 11 0),qv,qb,qb]) (.cj (.sq .lf .lf) .lf)) (.sq (.rg [(qx 14 0)]) (.sq (.rg [qh,(qx 11 0),qv,(.tup [(.c .pv),(.c .nat)]),(.tup [(.c .pv),(.c .nat)]),qp,qn,(qx 11 6),(.tup []),(qx 14 0),(.tup [])]) (.sq (.rg [qh,(qx 11 0),qv,(.tup [(.c .pv),(.c .nat)]),(.tup [(.c .pv),(.c .nat)]),qp,qn,(qx 11 7),(.tup []),(qx 14 1),(.tup [])]) (.sq (.sq (.rg [qv,qv,qb]) (.cj (.sq .lf .lf) .lf)) (.sq (.rg [qv,(.tup []),qn]) .lf))))))))))))))),[qv,qv,qv],[14,11,3,4,5,6],[],look_Q9,rfl,rfl,rfl,rfl,by kernel_rfl⟩
noncomputable def zakd:KC:=fun F L v h kr =>
wcons v <| ooA fun r0 r7 =>
wcons r7 <| ooA fun r1 r8 =>
wnil r8 <|
wle r0 5 <|
wle r1 5 <|
wg 0 r0 <| oN fun c12 =>
wg 0 r1 <| oN fun c13 =>
bf (gnot (Nat.beq c12 c13)) fun c2 =>
wgV (iB c2) false (zaa 1 (iX 2 0)) fun a0 =>
wgV (iB c2) false (zac none a0 ⟨[b_ 3 r1 5,b_ 2 r0 5,nb_ 8,nb_ 6,nb_ 2,nb_ 3],h⟩) fun a1 =>
wgV (iB c2) false (zaa 1 (iX 3 0)) fun a2 =>
wgV (iB c2) false (zac none a2 ⟨[b_ 3 r1 5,b_ 2 r0 5,nb_ 8,nb_ 6,nb_ 2,nb_ 3],h⟩) fun a3 =>
wgV (iB c2) false (v_neq a1 a3) fun a4 =>
pk c2 (iB true) a4 <| oB fun c3 =>
wgV (iB c3) false (zaa 2 (iX 2 0)) fun a5 =>
wgV (iB c3) false (zac none a5 ⟨[b_ 3 r1 5,b_ 2 r0 5,nb_ 8,nb_ 6,nb_ 2,nb_ 3],h⟩) fun a6 =>
wgV (iB c3) false (zaa 2 (iX 3 0)) fun a7 =>
wgV (iB c3) false (zac none a7 ⟨[b_ 3 r1 5,b_ 2 r0 5,nb_ 8,nb_ 6,nb_ 2,nb_ 3],h⟩) fun a8 =>
wgV (iB c3) false (v_neq a6 a8) fun a9 =>
pk c3 (iB true) a9 <| oB fun c0 =>
wgV (iB c0) false (zaa 3 (iX 2 0)) fun a10 =>
wgV (iB c0) false (zac none a10 ⟨[b_ 3 r1 5,b_ 2 r0 5,nb_ 8,nb_ 6,nb_ 2,nb_ 3],h⟩) fun a11 =>
wgV (iB c0) false (v_len a11) fun a12 =>
wgV (iB c0) false (zaa 3 (iX 3 0)) fun a13 =>
wgV (iB c0) false (zac none a13 ⟨[b_ 3 r1 5,b_ 2 r0 5,nb_ 8,nb_ 6,nb_ 2,nb_ 3],h⟩) fun a14 =>
wgV (iB c0) false (v_len a14) fun a15 =>
wgV (iB c0) false (v_neq a12 a15) fun a16 =>
pk c0 (iB true) a16 <| oB fun c1 =>
wgV (iB c1) false (zaa 4 (iX 2 0)) fun a17 =>
wgV (iB c1) false (zac none a17 ⟨[b_ 3 r1 5,b_ 2 r0 5,nb_ 8,nb_ 6,nb_ 2,nb_ 3],h⟩) fun a18 =>
wgV (iB c1) false (v_len a18) fun a19 =>
wgV (iB c1) false (zaa 4 (iX 3 0)) fun a20 =>
wgV (iB c1) false (zac none a20 ⟨[b_ 3 r1 5,b_ 2 r0 5,nb_ 8,nb_ 6,nb_ 2,nb_ 3],h⟩) fun a21 =>
wgV (iB c1) false (v_len a21) fun a22 =>
wgV (iB c1) false (v_neq a19 a22) fun a23 =>
pk c1 (iB true) a23 <| oB fun c14 =>
wif c14 (kr (iB false) h) <|
wg 3 r0 <| oP fun c6 =>
v_len (.p c6) <| oN fun c15 =>
wblock (fun(r9 r10:LI) (h3:FH) =>
wg 4 r9 <| oP fun c7 =>
v_len (.p c7) <| oN fun c16 =>
wblock (fun(h4:FH) =>
kr (iB true) h4) fun j0 =>
wloop (fun _ _ _ _ _=>none) (fun j1 (c4:Nat) (c8:PVal) (c9:Nat) (r3:LI) (h1:FH) =>
nbl c4 c9 fun c17 =>
wif c17 (wblock (fun(c18:Nat) (c19:PVal) (c20:Nat) (r11:LI) (h5:FH) =>
nad c18 1 fun c21 =>
j1 c21 c19 c20 r11 h5) fun j2 =>
zab 5 (.p c8) (iN c4) <| oP fun c22 =>
zac (some 5) (.p c22) ⟨[nb_ 8,b_ 3 r3 5],h1⟩ <| oA fun r5 =>
wle r5 5 <|
wcut r5 0 5 fun r12 =>
wg 4 r3 <| oP fun c23 =>
zab 5 (.p c23) (iN c4) <| oP fun c24 =>
zac (some 5) (.p c24) ⟨[b_ 8 r5 5,b_ 8 zt5 5,nb_ 8,b_ 3 r3 5],h1⟩ <| oA fun r13 =>
F 10 [(.agg r12),(.agg r13)] h1 <| ooB fun c25 h2 =>
bf (gnot c25) fun c26 =>
wif c26 (kr (iB false) h2) <|
j2 c4 c8 c9 r3 h2) <|
j0 h1) L 0 c7 c16 r10 h3) fun j3 =>
wloop (fun _ _ _ _ _ _=>none) (fun j4 (c5:Nat) (c10:PVal) (c11:Nat) (r2 r4:LI) (h0:FH) =>
nbl c5 c11 fun c27 =>
wif c27 (wblock (fun(c28:Nat) (c29:PVal) (c30:Nat) (r14 r15:LI) (h6:FH) =>
nad c28 1 fun c31 =>
j4 c31 c29 c30 r14 r15 h6) fun j5 =>
zab 2 (.p c10) (iN c5) <| oP fun c32 =>
zac (some 2) (.p c32) ⟨[nb_ 6,b_ 3 r2 5,b_ 2 r4 5],h0⟩ <| oA fun r6 =>
wle r6 2 <|
wcut r6 0 2 fun r16 =>
wg 3 r2 <| oP fun c33 =>
zab 2 (.p c33) (iN c5) <| oP fun c34 =>
zac (some 2) (.p c34) ⟨[b_ 6 r6 2,b_ 6 [(iS []),(iS [])] 2,nb_ 6,b_ 3 r2 5,b_ 2 r4 5],h0⟩ <| oA fun r17 =>
vv (x_eqv true ⟨true,[.str, .str]⟩ (.const (.agg r16)) (.const (.agg r17))) <| oB fun c35 =>
wif c35 (kr (iB false) h0) <|
j5 c5 c10 c11 r2 r4 h0) <|
j3 r4 r2 h0) L 0 c6 c15 r1 r0 h
noncomputable def zxc:KFun:=⟨zakd,true,true⟩
theorem zado:KOK tr.look F_Q10 zxc:=⟨i_Q10,(.sq (.rg [(qx 2 0),(qx 3 0),qb]) (.sq (.sq (.rg [(qx 2 0),qn,(qx 3 0),qn,qb,qb,qa,qa,qa,qa,qa,qb,qb,qa,qa,qa,qa,qa,qb,qb,qa,qa,qa,qa,qa,qa,qa,qb,qb,qa,qa,qa,qa,qa,qa,qa,qb]) (.cj (.sq (.rg [qb]) .lf) .lf)) (.sq (.sq (.rg [(qx 2 3),qp,qn,qn]) (.bk [sx 2,sx 3,bl 2 5,bl 3 5] (.lp [.slot 49 qn,sx 3, .slot 47 qp,sx 2, .slot 48 qn,bl 3 5,bl 2 5] (.sq (.rg [qb]) (.sq (.cj .lf .lf) (.sq (.bk [.slot 49 qn,sx 3, .slot 47 qp,sx 2, .slot 48 qn,bl 3 5,bl 2 5] (.sq (.rg [qn,qp,qv,(qx 6 0),qn,(.tup [])]) (.sq (.rg [qv,(qx 3 3),qp,qn,qp,qv,qb]) (.cj (.sq (.rg [qb]) .lf) .lf)))) (.rg [qn,qn]))))))) (.sq (.sq (.rg [(qx 2 4),qp,qn,qn]) (.bk [] (.lp [.slot 65 qn,sx 3, .slot 63 qp, .slot 64 qn,bl 3 5] (.sq (.rg [qb]) (.sq (.cj .lf .lf) (.sq (.bk [.slot 65 qn,sx 3, .slot 63 qp, .slot 64 qn,bl 3 5] (.sq (.rg [qn,qp,qv,(qx 8 0),qn,(.tup [])]) (.sq (.rg [qv,(qx 3 4),qp,qn,qp,qv,qb,qb]) (.cj (.sq (.rg [qb]) .lf) .lf)))) (.rg [qn,qn]))))))) (.sq (.rg [qb]) .lf))))),[qv,qv],[8,6,2,3],[],look_Q10,rfl,rfl,rfl,rfl,by kernel_rfl⟩
noncomputable def zadp:KC:=fun F _ v h kr =>
wnil v <|
hpush h (.cells [(iN 1),(iN 2)] 1 0 false) fun c4 h1 =>
hpush h1 (.cells [(iN 1),(iI (-2)),(iN 2)] 1 0 false) fun c5 h2 =>
hpush h2 (.cells [(iN 1),(iN 2)] 1 0 false) fun c6 h3 =>
F 20 [(.slice c4 0 0 2),(.slice c5 0 0 3),(.slice c6 0 0 2),(.p (.func 21))] h3 <| ooT fun r1 h4 =>
wcons r1 <| ooL fun c7 c8 c9 c10 r2 =>
wcons r2 <| ooB fun c2 r3 =>
wnil r3 <|
hpush h4 (.cells [(iN 3),(iS []),(iS [97]),(.p .nilslice),(.p .nilslice)] 5 0 false) fun c11 h5 =>
F 9 [(.agg [(iN 1),(iS []),(iS []),(.p .nilslice),(.p .nilslice)]),(.agg [(iN 1),(iS []),(iS []),(.p .nilslice),(.p .nilslice)]),(.agg [(iN 1),(iS []),(iS []),(.p .nilslice),(.slice c11 0 0 1)])] h5 <| ooT fun r4 h6 =>
wcons r4 <| ooA fun r0 r5 =>
wcons r5 <| ooN fun c12 r6 =>
wnil r6 <|
wle r0 8 <|
wgV (iB c2) true (vv (x_mov (.slice c7 c8 c9 c10))) fun a0 =>
wgH (iB c2) true (zct 1 3 [(.int .i64 0)] [(0,1,(iN 1)),(1,1,(iI (-2))),(2,1,(iN 2))]) h6 fun a1 h7 =>
wgH (iB c2) true (wcallH (.p (.func 22)) [a0,a1] F) h7 fun a2 h0 =>
pk c2 a2 (iB false) <| oB fun c3 =>
wgV (iB c3) true (vv (x_mov (iN c12))) fun a3 =>
wgV (iB c3) true (v_eql a3 (iN 0)) fun a4 =>
pk c3 a4 (iB false) <| oB fun c0 =>
wgV (iB c0) true (zaa 0 (iX 3 0)) fun a5 =>
wgV (iB c0) true (zaa 4 a5) fun a6 =>
wgV (iB c0) true (zac none a6 ⟨[b_ 3 r0 8,b_ 3 [(iN 0),(iS []),(iS []),(.p .nilslice),(.p .nilslice),(.p .nilslice),(.p .nilslice),(.p .nilslice)] 8,nb_ 3],h0⟩) fun a7 =>
wgV (iB c0) true (v_len a7) fun a8 =>
wgV (iB c0) true (v_eql a8 (iN 1)) fun a9 =>
pk c0 a9 (iB false) <| oB fun c1 =>
wgV (iB c1) true (zaa 5 (iX 3 0)) fun a10 =>
wgV (iB c1) true (zac none a10 ⟨[b_ 3 r0 8,b_ 3 [(iN 0),(iS []),(iS []),(.p .nilslice),(.p .nilslice),(.p .nilslice),(.p .nilslice),(.p .nilslice)] 8,nb_ 3],h0⟩) fun a11 =>
wgV (iB c1) true (v_len a11) fun a12 =>
wgV (iB c1) true (v_eql a12 (iN 0)) fun a13 =>
pk c1 a13 (iB false) <| oB fun c13 =>
kr (iB c13) h0
noncomputable def zpt:KFun:=⟨zadp,true,true⟩
theorem zxd:KOK tr.look F_Q11 zpt:=⟨i_Q11,(.sq (.rg [qb]) (.sq (.rg [ql,ql,ql,(.tup [(.c .sl),(.c .bool)]),(.tup [(.c .sl),(.c .bool)]),ql,qb,ql,qb]) (.sq (.rg [qv,qv,qv,ql,qv,(.tup [.aggv,(.c .nat)]),(.tup [.aggv,(.c .nat)]),qv,qn,(qx 3 0),(.tup []),qn]) (.sq (.rg [qb,qb,qa,qa,qa,qb,qb,qa,qa,qb,qb,qa,qa,qa,qa,qa,qb,qb,qa,qa,qa,qa,qb,qb]) .lf)))),[],[3],[],look_Q11,rfl,rfl,rfl,rfl,by kernel_rfl⟩
noncomputable def zadq:KC:=fun _ _ v h kr =>
wcons v <| ooP fun c0 r0 =>
wnil r0 <|
zad 2 (.p .nilslice) (.p c0) h <| ooP fun c1 h0 =>
kr (.p c1) h0
noncomputable def zpu:KFun:=⟨zadq,true,false⟩
theorem zxe:KOK tr.look F_Q14 zpu:=⟨i_Q14,(.sq (.rg [qp]) (.sq (.rg [qp,qp,qp]) .lf)),[qp],[],[],look_Q14,rfl,rfl,rfl,rfl,by kernel_rfl⟩
noncomputable def zaha:KC:=fun F _ v h kr =>
wcons v <| ooA fun r0 r1 =>
wnil r1 <|
wle r0 5 <|
wg 0 r0 <| oN fun c5 =>
nbe c5 1 fun c2 =>
wgV (iB c2) true (zac (some 5) (iX 1 0) ⟨[b_ 1 r0 5,nb_ 1],h⟩) fun a0 =>
wgH (iB c2) true (wcallH (.p (.func 23)) [a0] F) h fun a1 h2 =>
wgV (iB c2) true (v_leq a1 (iN 300)) fun a2 =>
pk c2 a2 (iB false) <| oB fun c3 =>
wgV (iB c3) true (zac (some 5) (iX 1 0) ⟨[b_ 1 r0 5,nb_ 1],h2⟩) fun a3 =>
wgH (iB c3) true (wcallH (.p (.func 24)) [a3] F) h2 fun a4 h0 =>
wgV (iB c3) true (v_leq a4 (iN 60)) fun a5 =>
pk c3 a5 (iB false) <| oB fun c0 =>
wgV (iB c0) true (zaa 1 (iX 1 0)) fun a6 =>
wgV (iB c0) true (zac none a6 ⟨[b_ 1 r0 5,nb_ 1],h0⟩) fun a7 =>
wgV (iB c0) true (zaa 2 (iX 1 0)) fun a8 =>
wgV (iB c0) true (zac none a8 ⟨[b_ 1 r0 5,nb_ 1],h0⟩) fun a9 =>
wgH (iB c0) true (zct 1 2 [(.str [])] [(0,1,a7),(1,1,a9)]) h0 fun a10 h3 =>
wgH (iB c0) true (wcallH (.p (.func 25)) [a10] F) h3 fun a11 h1 =>
pk c0 a11 (iB false) <| oB fun c1 =>
wgV (iB c1) true (zaa 3 (iX 1 0)) fun a12 =>
wgV (iB c1) true (zac none a12 ⟨[b_ 1 r0 5,nb_ 1],h1⟩) fun a13 =>
wgV (iB c1) true (v_len a13) fun a14 =>
wgV (iB c1) true (v_eql a14 (iN 0)) fun a15 =>
pk c1 a15 (iB false) <| oB fun c4 =>
wgV (iB c4) true (zac (some 5) (iX 1 0) ⟨[b_ 1 r0 5,nb_ 1],h1⟩) fun a16 =>
wgH (iB c4) true (wcallH (.p (.func 26)) [a16] F) h1 fun a17 h4 =>
pk c4 a17 (iB false) <| oB fun c6 =>
kr (iB c6) h4
noncomputable def zsw:KFun:=⟨zaha,true,true⟩
theorem zyw:KOK tr.look F_Q15 zsw:=⟨i_Q15,(.sq (.rg [(qx 1 0),qb]) (.sq (.rg [(qx 1 0),qn,qb,qb,qa,qa,qa,qb,qb,qa,qa,qa,qb,qb,qa,qa,qa,qa,qa,qa,qb,qb,qa,qa,qa,qa,qb,qb,qa,qa,qb,qb]) .lf)),[qv],[1],[],look_Q15,rfl,rfl,rfl,rfl,by kernel_rfl⟩
noncomputable def zadr:KC:=fun F L v h kr =>
wcons v <| ooA fun r2 r14 =>
wcons r14 <| ooA fun r3 r15 =>
wcons r15 <| ooA fun r4 r16 =>
wnil r16 <|
wle r2 5 <|
wle r3 5 <|
wle r4 5 <|
wcut r2 0 5 fun r17 =>
wcut r3 0 5 fun r8 =>
wcut r4 0 5 fun r9 =>
wle r8 5 <|
wspl [(iN 0),(iS []),(iS []),(.p .nilslice),(.p .nilslice),(iN 0),(iS []),(iS []),(.p .nilslice),(.p .nilslice)] 0 r8 fun r18 =>
wle r9 5 <|
wspl r18 5 r9 fun r10 =>
hpush h (.map [] 0) fun c19 h11 =>
F 27 [(.agg r17)] h11 <| ooP fun c31 h12 =>
wle r10 10 <|
wspl [(.p c31),(.p .nilslice),(iN 0),(iS []),(iS []),(.p .nilslice),(.p .nilslice),(iN 0),(iS []),(iS []),(.p .nilslice),(.p .nilslice),(.p .nilslice),(.p .nilslice),(.p .nilslice),(.p .nilslice),(.p .nilmap),(.p .nilmap),(.p .nilmap),(.p .nilmap),(.p .nilmap),(.p .nilslice),(iN 0),(.p .nilslice),(.p .nilslice)] 2 r10 fun r19 =>
wspl r19 20 [(.map c19)] fun r11 =>
wle r11 25 <|
hpush h12 (.cells r11 25 0 false) fun c20 h0 =>
ift (wchk F ⟨[b_ 5 r4 5,b_ 4 r3 5,b_ 3 r2 5,nb_ 10,nb_ 13,nb_ 3,nb_ 4,nb_ 5],h0⟩ (.load (some 5) (.const (iX 4 0))) (.agg r8)) <|
ift (wchk F ⟨[b_ 5 r4 5,b_ 4 r3 5,b_ 3 r2 5,nb_ 10,nb_ 13,nb_ 3,nb_ 4,nb_ 5],h0⟩ (.load (some 5) (.const (iX 5 0))) (.agg r9)) <|
ift (wchk F ⟨[b_ 5 r4 5,b_ 4 r3 5,b_ 3 r2 5,nb_ 10,nb_ 13,nb_ 3,nb_ 4,nb_ 5],h0⟩ (.mkMap) (.map c19)) <|
hld none c20 0 0 h0 <| oP fun c32 =>
v_len (.p c32) <| oN fun c33 =>
wblock (fun(c7 c8 c9:Nat) (r20:LI) (h5:FH) =>
hld none c7 c8 c9 h5 <| oP fun c34 =>
v_len (.p c34) <| oN fun c21 =>
zbw 1 [(.int .i64 0)] (iN c21) (iN c21) h5 <| ooL fun c35 c36 c37 c38 h13 =>
nae c9 21 fun c39 =>
hwr h13 c7 c8 c39 [(.slice c35 c36 c37 c38)] fun h6 =>
nae c9 2 fun c40 =>
hld (some 10) c7 c8 c40 h6 <| oA fun r21 =>
wblock (fun(c41 c42 c43:Nat) (h14:FH) =>
kr (iH c41 c42 c43) h14) fun j0 =>
wloop (fun _ _ _ _ _ _ _=>none) (fun j1 (c0 c1 c2 c3:Nat) (r12 r6:LI) (h7:FH) =>
nbl c0 2 fun c44 =>
wif c44 (wblock (fun(c45 c46 c47 c48:Nat) (r22 r23:LI) (h15:FH) =>
nad c45 1 fun c49 =>
j1 c49 c46 c47 c48 r22 r23 h15) fun j2 =>
vv (zud 2 5 (some 5) (.agg r12) (iN c0)) <| oA fun r5 =>
wle r5 5 <|
wcut r6 0 5 fun r24 =>
wcut r5 0 5 fun r25 =>
F 29 [(.agg r24),(.agg r25)] h7 <| ooP fun c15 h16 =>
wcut r5 0 5 fun r26 =>
nae c3 12 fun c50 =>
F 27 [(.agg r26)] h16 fun a0 h17 =>
nlt c0 2 <|
nam c50 c0 1 fun c51 =>
cof1 a0 <|
hwr h17 c1 c2 c51 [a0] fun h18 =>
wcut r6 0 5 fun r27 =>
wcut r5 0 5 fun r28 =>
nae c3 14 fun c52 =>
F 30 [(.agg r27),(.agg r28),(.p c15)] h18 <| ooT fun r29 h19 =>
wcons r29 fun a1 r30 =>
wcons r30 <| ooN fun _ r31 =>
wnil r31 <|
nlt c0 2 <|
nam c52 c0 1 fun c53 =>
cof1 a1 <|
hwr h19 c1 c2 c53 [a1] fun h20 =>
hpush h20 (.map [] 0) fun c54 h21 =>
hpush h21 (.map [] 0) fun c22 h22 =>
nae c3 16 fun c55 =>
nlt c0 2 <|
nam c55 c0 1 fun c56 =>
nae c3 18 fun c57 =>
hwr h22 c1 c2 c56 [(.map c54)] fun h8 =>
nlt c0 2 <|
nam c57 c0 1 fun c58 =>
ift (wchk F ⟨[b_ 10 r5 5,b_ 10 zt5 5,nb_ 10,b_ 3 r6 5],h8⟩ (.mkMap) (.map c22)) <|
hwr h8 c1 c2 c58 [(.map c22)] fun h23 =>
v_len (.p c15) <| oN fun c59 =>
wblock (fun(c60 c61 c62 c63:Nat) (r32 r33:LI) (h24:FH) =>
j2 c60 c61 c62 c63 r32 r33 h24) fun j3 =>
wloop (fun _ _ _ _ _ _ _ _ _ _ _=>none) (fun j4 (c16 c10 c11 c12 c4:Nat) (c23:PVal) (c24:Nat) (r13:LI) (c25:Nat) (r1:LI) (h1:FH) =>
nbl c16 c25 fun c64 =>
wif c64 (wblock (fun(c65 c66 c67 c68 c69:Nat) (c70:PVal) (c71:Nat) (r34:LI) (c72:Nat) (r35:LI) (h25:FH) =>
nad c65 1 fun c73 =>
j4 c73 c66 c67 c68 c69 c70 c71 r34 c72 r35 h25) fun j5 =>
zab 2 (.p c23) (iN c16) <| oP fun c74 =>
zac (some 2) (.p c74) ⟨[nb_ 13,b_ 3 r1 5],h1⟩ <| oA fun r0 =>
wle r0 2 <|
nae c12 16 fun c75 =>
nlt c4 2 <|
nam c75 c4 1 fun c76 =>
hld none c10 c11 c76 h1 <| oM fun c26 =>
wg 0 r0 <| oN fun c77 =>
nae c12 18 fun c78 =>
nlt c4 2 <|
nam c78 c4 1 fun c79 =>
hld none c10 c11 c79 h1 <| oM fun c27 =>
wg 1 r0 <| oN fun c17 =>
wg 1 r0 <| oN fun c28 =>
wg 0 r0 <| oN fun c13 =>
zfe (.p (.int .i64 0)) ⟨false,[.int]⟩ (.map c26) (iN c77) h1 <| ooT fun r36 h2 =>
wcons r36 <| ooN fun _ r37 =>
wcons r37 <| ooN fun c80 r38 =>
wnil r38 <|
ift (wchk F ⟨[b_ 13 r0 2,b_ 13 [(iN 0),(iN 0)] 2,nb_ 13,b_ 3 r1 5],h2⟩ (.load none (.const (iX 13 1))) (iN c17)) <|
ift (wchk F ⟨[b_ 13 r0 2,b_ 13 [(iN 0),(iN 0)] 2,nb_ 13,b_ 3 r1 5],h2⟩ (.load none (.const (iX 13 1))) (iN c28)) <|
ift (wchk F ⟨[b_ 13 r0 2,b_ 13 [(iN 0),(iN 0)] 2,nb_ 13,b_ 3 r1 5],h2⟩ (.load none (.const (iX 13 0))) (iN c13)) <|
zim (.map c26) (iN c80) (iN c28) h2 <| ooT fun r39 h3 =>
wnil r39 <|
ift (wchk F ⟨[b_ 13 r0 2,b_ 13 [(iN 0),(iN 0)] 2,nb_ 13,b_ 3 r1 5],h3⟩ (.load none (.const (iX 13 1))) (iN c17)) <|
ift (wchk F ⟨[b_ 13 r0 2,b_ 13 [(iN 0),(iN 0)] 2,nb_ 13,b_ 3 r1 5],h3⟩ (.load none (.const (iX 13 0))) (iN c13)) <|
zfe (.p (.int .i64 0)) ⟨false,[.int]⟩ (.map c27) (iN c17) h3 <| ooT fun r40 h9 =>
wcons r40 <| ooN fun _ r41 =>
wcons r41 <| ooN fun c81 r42 =>
wnil r42 <|
ift (wchk F ⟨[b_ 13 r0 2,b_ 13 [(iN 0),(iN 0)] 2,nb_ 13,b_ 3 r1 5],h9⟩ (.load none (.const (iX 13 0))) (iN c13)) <|
zim (.map c27) (iN c81) (iN c13) h9 <| ooT fun r43 h26 =>
wnil r43 <|
j5 c16 c10 c11 c12 c4 c23 c24 r13 c25 r1 h26) <|
j3 c24 c10 c11 c12 r13 r1 h1) L 0 c1 c2 c3 c0 c15 c0 r12 c59 r6 h23) <|
j0 c1 c2 c3 h7) L 0 c7 c8 c9 r21 r20 h6) fun j6 =>
wloop (fun _ _ _ _ _ _ _=>none) (fun j7 (c18 c5 c6 c14 c29:Nat) (r7:LI) (h4:FH) =>
nbl c18 c29 fun c82 =>
wif c82 (wblock (fun(c83 c84 c85 c86 c87:Nat) (r44:LI) (h27:FH) =>
nad c83 1 fun c88 =>
j7 c88 c84 c85 c86 c87 r44 h27) fun j8 =>
nae c14 1 fun c30 =>
hld none c5 c6 c30 h4 fun a2 =>
wcut r7 0 5 fun r45 =>
F 28 [(.agg r45),(iN c18)] h4 <| ooP fun c89 h28 =>
hpush h28 (.cells [(.p c89)] 1 0 false) fun c90 h10 =>
ift (wchk F ⟨[b_ 3 r7 5],h10⟩ (.load none (.const (iH c5 c6 c30))) a2) <|
zad 1 a2 (.slice c90 0 0 1) h10 <| ooL fun c91 c92 c93 c94 h29 =>
nae c14 1 fun c95 =>
hwr h29 c5 c6 c95 [(.slice c91 c92 c93 c94)] fun h30 =>
j8 c18 c5 c6 c14 c29 r7 h30) <|
j6 c5 c6 c14 r7 h4) L 0 c20 0 0 c33 r2 h0
noncomputable def zpv:KFun:=⟨zadr,false,false⟩
theorem zxf:KOK tr.look F_Q16 zpv:=⟨i_Q16,(.sq (.rg [(qx 3 0),(qx 4 0),(qx 5 0),qp]) (.sq (.rg [qv,qp,qv,qv,qv,qm,qv,qh,qh]) (.sq (.sq (.rg [qh,qh,qh,qp,qn,qn]) (.bk [.slot 7 qh,sx 3,bl 3 5] (.lp [.slot 27 qn, .slot 7 qh,sx 3, .slot 26 qn,bl 3 5] (.sq (.rg [qb]) (.sq (.cj .lf .lf) (.sq (.bk [.slot 27 qn, .slot 7 qh,sx 3, .slot 26 qn,bl 3 5] (.sq (.rg [qn,qn]) (.rg [qh,qh,qh,qh,qa,qv,qn,qp,ql,ql,qh,qh,(.tup [])]))) (.rg [qn,qn]))))))) (.sq (.rg [qh,qh,qh,qh,qp,qn,ql,qh,qh,(.tup [])]) (.sq (.sq (.rg [qh,qh,qh,qv,qn]) (.bk [.slot 7 qh] (.lp [.slot 56 qn, .slot 7 qh,sx 3, .slot 55 qv,bl 3 5] (.sq (.rg [qb]) (.sq (.cj .lf .lf) (.sq (.bk [.slot 56 qn, .slot 7 qh,sx 3, .slot 55 qv,bl 3 5] (.sq (.rg [qn,qv,(qx 10 0),qn,(.tup [])]) (.sq (.rg [qv,qv,qp,qp]) (.sq (.rg [qh,qn,qv,qa,qh,qh,qh,(.tup [])]) (.sq (.rg [qh,qn,qv,qv,qp,(.tup [(.c .any),(.c .nat)]),(.tup [(.c .any),(.c .nat)]),qa,qn,qh,qh,qh,(.tup [])]) (.sq (.rg [qh,qn,qh,qn,qm,qm,qh,qh,qh,(.tup []),qh,qh,qh,(.tup [])]) (.sq (.rg [qp,qn,qn]) (.bk [.slot 56 qn, .slot 7 qh,sx 3, .slot 55 qv,bl 3 5] (.lp [.slot 96 qn, .slot 7 qh, .slot 9 qn, .slot 94 qp, .slot 56 qn,sx 3, .slot 55 qv, .slot 95 qn,bl 3 5] (.sq (.rg [qb]) (.sq (.cj .lf .lf) (.sq (.bk [.slot 96 qn, .slot 7 qh, .slot 9 qn, .slot 94 qp, .slot 56 qn,sx 3, .slot 55 qv, .slot 95 qn,bl 3 5] (.sq (.rg [qp,qv,(qx 13 0),(.tup [])]) (.rg [qh,qn,qh,qh,qh,qm,(qx 13 0),qn,qh,qn,qh,qh,qh,qm,(qx 13 1),qn,(qx 13 1),qn,(qx 13 0),qn,(.tup [(.c .nat),(.c .nat)]),qn,(.tup []),(.tup [(.c .nat),(.c .nat)]),qn,(.tup [])]))) (.rg [qn,qn]))))))))))))) (.rg [qn,qn]))))))) (.sq (.rg [qh,qh]) .lf)))))),[qv,qv,qv],[10,13,3,4,5],[],look_Q16,rfl,rfl,rfl,rfl,by kernel_rfl⟩
noncomputable def ziw:KC:=fun F L v h kr =>
wcons v <| ooH fun c2 c3 c10 r6 =>
wcons r6 <| ooA fun r1 r7 =>
wcons r7 <| ooN fun c11 r8 =>
wnil r8 <|
wle r1 5 <|
nae c10 14 fun c30 =>
nlt 0 2 <|
nam c30 0 1 fun c31 =>
hld none c2 c3 c31 h fun a8 =>
zab 6 a8 (iN c11) fun a9 =>
zac (some 6) a9 ⟨[b_ 4 r1 5,nb_ 8,nb_ 7,nb_ 15,nb_ 16,nb_ 4],h⟩ <| oA fun r0 =>
nae c10 14 fun c32 =>
nlt 1 2 <|
nam c32 1 1 fun c21 =>
hld none c2 c3 c21 h fun a3 =>
zab 6 a3 (iN c11) fun a4 =>
zac (some 6) a4 ⟨[b_ 4 r1 5,nb_ 8,nb_ 7,nb_ 15,nb_ 16,nb_ 4],h⟩ <| oA fun r2 =>
wle r0 6 <|
ift (wchk F ⟨[b_ 7 r0 6,b_ 8 [(iB false),(iB false),(.p .nilslice),(.p .nilslice),(iN 0),(.p .nilslice)] 6,b_ 7 [(iB false),(iB false),(.p .nilslice),(.p .nilslice),(iN 0),(.p .nilslice)] 6,b_ 4 r1 5,nb_ 8,nb_ 7,nb_ 15,nb_ 16,nb_ 4],h⟩ (.load none (.const (iH c2 c3 c21))) a3) <|
ift (wchk F ⟨[b_ 7 r0 6,b_ 8 [(iB false),(iB false),(.p .nilslice),(.p .nilslice),(iN 0),(.p .nilslice)] 6,b_ 7 [(iB false),(iB false),(.p .nilslice),(.p .nilslice),(iN 0),(.p .nilslice)] 6,b_ 4 r1 5,nb_ 8,nb_ 7,nb_ 15,nb_ 16,nb_ 4],h⟩ (.load (some 6) (.const a4)) (.agg r2)) <|
wle r2 6 <|
wg 0 r0 <| oB fun c16 =>
wgV (iB c16) false (zaa 0 (iX 8 0)) fun a10 =>
wgV (iB c16) false (zac none a10 ⟨[b_ 8 r2 6,b_ 7 r0 6,b_ 8 [(iB false),(iB false),(.p .nilslice),(.p .nilslice),(iN 0),(.p .nilslice)] 6,b_ 7 [(iB false),(iB false),(.p .nilslice),(.p .nilslice),(iN 0),(.p .nilslice)] 6,b_ 4 r1 5,nb_ 8,nb_ 7,nb_ 15,nb_ 16,nb_ 4],h⟩) fun a11 =>
pk c16 (iB true) a11 <| oB fun c33 =>
wif c33 ((none:WR)) <|
hld none c2 c3 c10 h <| oP fun c34 =>
zab 10 (.p c34) (iN c11) <| oP fun c35 =>
zaa 0 (.p c35) <| oP fun c36 =>
zac none (.p c36) ⟨[b_ 8 r2 6,b_ 7 r0 6,b_ 8 [(iB false),(iB false),(.p .nilslice),(.p .nilslice),(iN 0),(.p .nilslice)] 6,b_ 7 [(iB false),(iB false),(.p .nilslice),(.p .nilslice),(iN 0),(.p .nilslice)] 6,b_ 4 r1 5,nb_ 8,nb_ 7,nb_ 15,nb_ 16,nb_ 4],h⟩ <| oI fun c22 =>
wg 4 r0 <| oI fun c37 =>
v_neq (iI c37) (iI c22) <| oB fun c4 =>
wgV (iB c4) true (zaa 4 (iX 8 0)) fun a12 =>
wgV (iB c4) true (zac none a12 ⟨[b_ 8 r2 6,b_ 7 r0 6,b_ 8 [(iB false),(iB false),(.p .nilslice),(.p .nilslice),(iN 0),(.p .nilslice)] 6,b_ 7 [(iB false),(iB false),(.p .nilslice),(.p .nilslice),(iN 0),(.p .nilslice)] 6,b_ 4 r1 5,nb_ 8,nb_ 7,nb_ 15,nb_ 16,nb_ 4],h⟩) fun a13 =>
wgV (iB c4) true (vv (x_mov (iI c22))) fun a14 =>
wgV (iB c4) true (v_neq a13 a14) fun a15 =>
pk c4 a15 (iB false) <| oB fun c0 =>
wgV (iB c0) true (zaa 4 (iX 7 0)) fun a16 =>
wgV (iB c0) true (zac none a16 ⟨[b_ 8 r2 6,b_ 7 r0 6,b_ 8 [(iB false),(iB false),(.p .nilslice),(.p .nilslice),(iN 0),(.p .nilslice)] 6,b_ 7 [(iB false),(iB false),(.p .nilslice),(.p .nilslice),(iN 0),(.p .nilslice)] 6,b_ 4 r1 5,nb_ 8,nb_ 7,nb_ 15,nb_ 16,nb_ 4],h⟩) fun a17 =>
wgV (iB c0) true (zaa 4 (iX 8 0)) fun a18 =>
wgV (iB c0) true (zac none a18 ⟨[b_ 8 r2 6,b_ 7 r0 6,b_ 8 [(iB false),(iB false),(.p .nilslice),(.p .nilslice),(iN 0),(.p .nilslice)] 6,b_ 7 [(iB false),(iB false),(.p .nilslice),(.p .nilslice),(iN 0),(.p .nilslice)] 6,b_ 4 r1 5,nb_ 8,nb_ 7,nb_ 15,nb_ 16,nb_ 4],h⟩) fun a19 =>
wgV (iB c0) true (v_neq a17 a19) fun a20 =>
wgV (iB c0) true (vv (x_mov a20)) fun a1 =>
wgV a1 false (zaa 4 (iX 7 0)) fun a21 =>
wgV a1 false (zac none a21 ⟨[b_ 8 r2 6,b_ 7 r0 6,b_ 8 [(iB false),(iB false),(.p .nilslice),(.p .nilslice),(iN 0),(.p .nilslice)] 6,b_ 7 [(iB false),(iB false),(.p .nilslice),(.p .nilslice),(iN 0),(.p .nilslice)] 6,b_ 4 r1 5,nb_ 8,nb_ 7,nb_ 15,nb_ 16,nb_ 4],h⟩) fun a22 =>
wgV a1 false (v_lss a22 (iN 0)) fun a23 =>
wgV (iB c0) true (zwq a1 (iB true) a23) fun a24 =>
pk c0 a24 (iB false) <| oB fun c38 =>
wblock (fun(c23:PVal) (c5 c12 c13 c14:Nat) (r5 r9:LI) (h2:FH) =>
wg 1 r5 <| oB fun c17 =>
wgV (iB c17) true (zaa 1 (iX 8 0)) fun a25 =>
wgV (iB c17) true (zac none a25 ⟨[b_ 7 r5 6,b_ 8 r9 6],h2⟩) fun a26 =>
pk c17 a26 (iB false) <| oB fun c1 =>
wgV (iB c1) true (vv (x_mov (iH c12 c13 c14))) fun a27 =>
wgV (iB c1) true (vv (x_mov (iN c5))) fun a28 =>
wgH (iB c1) true (wcallH (.p (.func 32)) [a27,(iN 0),a28] F) h2 fun a29 h5 =>
wgV (iB c1) true (vv (x_mov (iH c12 c13 c14))) fun a30 =>
wgV (iB c1) true (vv (x_mov (iN c5))) fun a31 =>
wgH (iB c1) true (wcallH (.p (.func 32)) [a30,(iN 1),a31] F) h5 fun a32 h3 =>
wgV (iB c1) true (v_neq a29 a32) fun a33 =>
pk c1 a33 (iB false) <| oB fun c39 =>
wblock (fun(c6:Nat) (a0:IVal) (c7 c8 c9:Nat) (h6:FH) =>
F 33 [(iH c7 c8 c9),(iN 0),(iN c6)] h6 <| ooM fun c18 h7 =>
F 33 [(iH c7 c8 c9),(iN 1),(iN c6)] h7 <| ooM fun c40 h8 =>
wblock (fun(a2:IVal) (c41:Nat) (a34:IVal) (c42 c43 c44:Nat) (h9:FH) =>
ift (passB a2) <|
F 34 [a2] h9 <| ooT fun r10 h10 =>
wnil r10 <|
v_len a2 <| oN fun c45 =>
wblock (fun(c46 c47 c48:Nat) (a35:IVal) (c49:Nat) (h11:FH) =>
F 35 [(iH c46 c47 c48),(iN c49)] h11 <| ooT fun r11 h12 =>
wcons r11 fun _ r12 =>
wcons r12 <| ooB fun c50 r13 =>
wnil r13 <|
bf (gnot c50) fun c51 =>
wblock (fun(a5:IVal) (h13:FH) =>
ift (passB a5) <|
kr a5 h13) fun j3 =>
wif c51 ((none:WR)) <|
j3 a35 h12) fun j4 =>
wloop (fun _ _ _ _ _ _ _ _ _=>none) (fun j5 (c19 c20:Nat) (a6 a7:IVal) (c24 c25 c26 c27:Nat) (h1:FH) =>
nbl c19 c27 fun c52 =>
wif c52 (wblock (fun(c53 c54 c55 c56 c57 c58 c59 c60 c61 c62 c63 c64 c65 c66:Nat) (h14:FH) =>
nad c53 1 fun c67 =>
j5 c67 c54 (.slice c55 c56 c57 c58) (.slice c59 c60 c61 c62) c63 c64 c65 c66 h14) fun j6 =>
zab 1 a7 (iN c19) <| oH fun c68 c69 c70 =>
hld none c68 c69 c70 h1 <| oS fun c71 =>
hpush h1 (.cells [(iN 1),(iN c20),(iS c71)] 3 0 false) fun c72 h15 =>
zad 3 a6 (.slice c72 0 0 1) h15 <| ooL fun c73 c74 c75 c76 h16 =>
tL a7 fun c77 c78 c79 c80 =>
j6 c19 c20 c73 c74 c75 c76 c77 c78 c79 c80 c24 c25 c26 c27 h16) <|
j4 c24 c25 c26 a6 c20 h1) L 0 c41 a34 a2 c42 c43 c44 c45 h10) fun j7 =>
znr (.map c18) h8 <| ooT fun r14 h4 =>
wcons r14 <| ooB fun c28 r15 =>
wcons r15 fun a36 r16 =>
wcons r16 fun a37 r17 =>
wnil r17 <|
wblock (fun(a38:IVal) (c81:Nat) (a39:IVal) (c82 c83 c84:Nat) (h17:FH) =>
j7 a38 c81 a39 c82 c83 c84 h17) fun j0 =>
wif c28 (wblock (fun(c85:Nat) (a40:IVal) (c86:Nat) (c87:PVal) (c88 c89 c90:Nat) (h18:FH) =>
zns (.map c85) h18 <| ooT fun r18 h19 =>
wnil r18 <|
j0 a40 c86 (.p c87) c88 c89 c90 h19) fun j8 =>
ift (nbox 15 .undef) <|
ift (nbox 15 a0) <|
vv (zlu (.const (.tup [(iB c28),a36,a37]))) <| oT fun r19 =>
wcons r19 <| ooS fun c29 r20 =>
wcons r20 <| ooA fun r3 r21 =>
wnil r21 <|
wle r3 2 <|
ift (nbox 16 .undef) <|
ift (nbox 16 a0) <|
zaj true (.agg [(.p (.bool false)),(.p (.str []))]) ⟨false,[.str]⟩ (.map c40) (iS c29) h4 <| ooT fun r22 h0 =>
wcons r22 <| ooA fun r4 r23 =>
wcons r23 <| ooB fun c15 r24 =>
wnil r24 <|
wle r4 2 <|
wgV (iB c15) true (zac (some 2) (iX 15 0) ⟨[b_ 16 r4 2,b_ 16 [(iB false),(iS [])] 2,nb_ 16,b_ 15 r3 2,b_ 15 [(iB false),(iS [])] 2,nb_ 15],h0⟩) fun a41 =>
wgV (iB c15) true (zac (some 2) (iX 16 0) ⟨[b_ 16 r4 2,b_ 16 [(iB false),(iS [])] 2,nb_ 16,b_ 15 r3 2,b_ 15 [(iB false),(iS [])] 2,nb_ 15],h0⟩) fun a42 =>
wgV (iB c15) true (vv (x_eqv true ⟨true,[.bool, .str]⟩ (.const a41) (.const a42))) fun a43 =>
pk c15 a43 (iB false) <| oB fun c91 =>
wblock (fun(c92:Nat) (a44:IVal) (c93:Nat) (c94:PVal) (c95 c96 c97:Nat) (h20:FH) =>
j8 c92 a44 c93 c94 c95 c96 c97 h20) fun j1 =>
wif c91 (hpush h0 (.cells [(iS c29)] 1 0 false) fun c98 h21 =>
zad 1 (.p .nilslice) (.slice c98 0 0 1) h21 <| ooL fun c99 c100 c101 c102 h22 =>
tP a0 fun c103 =>
j1 c18 (.slice c99 c100 c101 c102) c6 c103 c7 c8 c9 h22) <|
tP a0 fun c104 =>
j1 c18 (.p .nilslice) c6 c104 c7 c8 c9 h0) <|
j0 (.p .nilslice) c6 a0 c7 c8 c9 h4) fun j2 =>
wif c39 (hpush h3 (.cells [(iN 2),(iN c5),(iS [])] 3 0 false) fun c105 h23 =>
zad 3 (.p c23) (.slice c105 0 0 1) h23 <| ooL fun c106 c107 c108 c109 h24 =>
j2 c5 (.slice c106 c107 c108 c109) c12 c13 c14 h24) <|
j2 c5 (.p c23) c12 c13 c14 h3) fun j9 =>
wif c38 ((none:WR)) <|
j9 .nilslice c11 c2 c3 c10 r0 r2 h
noncomputable def zdm:KFun:=⟨ziw,false,false⟩
theorem zhl:KOK tr.look F_Q17 zdm:=⟨i_Q17,(.sq (.rg [(qx 4 0),qp]) (.sq (.rg [qh,qh,qh,qh,qa,qn,qa,qv,qh,qh,qh,qh,qa,qn,qa,qv,(qx 7 0),(qx 8 0),(.tup []),(.tup [])]) (.sq (.sq (.rg [(qx 7 0),qb,qb,qa,qa,qb]) (.cj (.sq (.sq .lf (.cj (.sq .lf .lf) .lf)) (.sq .lf .lf)) .lf)) (.sq (.rg [qp]) (.sq (.rg [qh,qh,qh,qp,qn,qp,qp,qi,qi]) (.sq (.sq (.rg [(qx 7 4),qi,qi,qb,qb,qa,qa,qa,qa,qb,qb,qa,qa,qa,qa,qa,qa,qa,qa,qa,qa,qb]) (.cd [sx 7,sx 8, .slot 9 qp, .slot 2 qn, .slot 0 qh,bl 7 6,bl 8 6] .lf .lf)) (.sq (.sq (.rg [(qx 7 1),qb,qb,qa,qa,qb,qb,qa,qa,qa,qa,qa,qa,qa,qb]) (.cd [.slot 2 qn, .slot 9 qa, .slot 0 qh] (.rg [qp,qn,qv,ql,ql,ql]) .lf)) (.sq (.rg [qh,qn,qm,qh,qn,qm,qm,qm]) (.sq (.rg [qp]) (.sq (.sq (.rg [qm]) (.bk [.slot 13 qa, .slot 2 qn, .slot 9 qa, .slot 0 qh] (.sq (.rg [qb,qb,qa,(.tup [(.c .bool),(.c .any),(.c .any)]),qb]) (.sq (.cd [.slot 13 qa, .slot 2 qn, .slot 9 qa, .slot 0 qh] (.sq (.bk [.slot 126 qm, .slot 13 qa, .slot 2 qn, .slot 9 qp, .slot 0 qh] (.sq (.rg [(.tup [(.c .str), .aggv]),qs,qv,(qx 15 0),qs,(.tup [])]) (.sq (.rg [qm,qs,(.tup [.aggv,(.c .bool)]),(.tup [.aggv,(.c .bool)]),qv,qb,(qx 16 0),(.tup []),qb]) (.sq (.rg [qb,qb,qa,qa,qa,qb]) (.cd [.slot 126 qm, .slot 13 qa, .slot 2 qn, .slot 9 qp, .slot 0 qh] (.rg [qp,qs,ql,ql,ql]) .lf))))) (.rg [(.tup [])])) .lf) (.sq (.rg [qa,qb]) .lf))))) (.sq (.rg [qa,(.tup [])]) (.sq (.sq (.rg [qa,qn,qn]) (.bk [.slot 0 qh, .slot 9 qa, .slot 2 qn] (.lp [.slot 153 qn, .slot 2 qn, .slot 9 qa, .slot 151 qa, .slot 0 qh, .slot 152 qn] (.sq (.rg [qb]) (.sq (.cj .lf .lf) (.sq (.bk [.slot 153 qn, .slot 2 qn, .slot 9 ql, .slot 151 ql, .slot 0 qh, .slot 152 qn] (.sq (.rg [qh,qs,qs]) (.rg [qp,qn,qs,qv,ql,ql,ql]))) (.rg [qn,qn]))))))) (.sq (.sq (.rg [qh,qn,(.tup [(.c .any),(.c .bool)]),(.tup [(.c .any),(.c .bool)]),qa,qb,qa,qb]) (.sq (.rg [qb,qb]) (.cd [.slot 9 qa] .lf .lf))) (.sq (.rg []) .lf)))))))))))))),[qh,qv,qn],[8,7,15,16,4],[],look_Q17,rfl,rfl,rfl,rfl,by kernel_rfl⟩
noncomputable def znt:KC:=fun F L v h kr =>
wcons v <| ooH fun c15 c16 c17 r3 =>
wcons r3 <| ooN fun c18 r4 =>
wnil r4 <|
hld none c15 c16 c17 h <| oP fun c24 =>
zab 10 (.p c24) (iN c18) <| oP fun c25 =>
zaa 5 (.p c25) <| oP fun c26 =>
zac (some 5) (.p c26) ⟨[b_ 4 zt5 5,nb_ 4],h⟩ <| oA fun r1 =>
hpush h (.cells zt5 5 0 false) fun c19 h6 =>
wle r1 5 <|
hwr h6 c19 0 0 r1 fun h7 =>
wblock (fun(c4 c5 c6 c7 c12 c13 c14:Nat) (r5:LI) (h3:FH) =>
nae c7 22 fun c27 =>
hld none c5 c6 c27 h3 <| oN fun c28 =>
nad c28 1 fun c29 =>
nae c7 22 fun c30 =>
hwr h3 c5 c6 c30 [(iN c29)] fun h2 =>
nae c7 21 fun c31 =>
hld none c5 c6 c31 h2 <| oL fun c20 c21 c22 c23 =>
nlt c4 c23 <|
nam c22 c4 1 fun c32 =>
hld none c20 c21 c32 h2 <| oN fun c33 =>
nad c33 1 fun c34 =>
nlt c4 c23 <|
nam c22 c4 1 fun c35 =>
hwr h2 c20 c21 c35 [(iN c34)] fun h8 =>
F 36 [(iH c5 c6 c7),(iN c4)] h8 fun a0 h9 =>
nae c14 3 fun c36 =>
cof1 a0 <|
hwr h9 c12 c13 c36 [a0] fun h10 =>
F 35 [(iH c5 c6 c7),(iN c4)] h10 <| ooT fun r6 h11 =>
wcons r6 fun a1 r7 =>
wcons r7 <| ooB fun _ r8 =>
wnil r8 <|
ift (passB a1) <|
F 37 [(iH c5 c6 c7),(iH c12 c13 c14),a1] h11 <| ooT fun r9 h4 =>
wnil r9 <|
hld (some 5) c12 c13 c14 h4 <| oA fun r2 =>
wle r2 5 <|
wle r5 5 <|
wcut r2 0 5 fun r10 =>
kr (.agg r10) h4) fun j1 =>
wloop (fun _ _ _ _ _ _ _ _ _ _=>none) (fun j2 (c0 c9 c10 c11 c8 c1 c2 c3:Nat) (r0:LI) (h0:FH) =>
nbl c0 2 fun c37 =>
wif c37 (wblock (fun(c38 c39 c40 c41 c42 c43 c44 c45:Nat) (r11:LI) (h12:FH) =>
nad c38 1 fun c46 =>
j2 c46 c39 c40 c41 c42 c43 c44 c45 r11 h12) fun j3 =>
nae c3 23 fun c47 =>
nlt c0 2 <|
nam c47 c0 1 fun c48 =>
hld none c1 c2 c48 h0 fun a2 =>
nae c3 16 fun c49 =>
nlt c0 2 <|
nam c49 c0 1 fun c50 =>
hld none c1 c2 c50 h0 <| oM fun c51 =>
zaj false (.p (.int .i64 0)) ⟨false,[.int]⟩ (.map c51) (iN c8) h0 <| ooN fun c52 h5 =>
nae c3 22 fun c53 =>
hld none c1 c2 c53 h5 <| oN fun c54 =>
hpush h5 (.cells [(iN c52),(iN c54)] 2 0 false) fun c55 h13 =>
nae c3 23 fun c56 =>
zad 2 a2 (.slice c55 0 0 1) h13 <| ooL fun c57 c58 c59 c60 h14 =>
nlt c0 2 <|
nam c56 c0 1 fun c61 =>
hwr h14 c1 c2 c61 [(.slice c57 c58 c59 c60)] fun h1 =>
nae c3 14 fun c62 =>
nlt c0 2 <|
nam c62 c0 1 fun c63 =>
hld none c1 c2 c63 h1 fun a3 =>
zab 6 a3 (iN c8) fun a4 =>
zaa 1 a4 fun a5 =>
zac none a5 ⟨[b_ 4 r0 5],h1⟩ <| oB fun c64 =>
wblock (fun(c65 c66 c67 c68 c69 c70 c71 c72:Nat) (r12:LI) (h15:FH) =>
j3 c65 c66 c67 c68 c69 c70 c71 c72 r12 h15) fun j0 =>
wif c64 (F 32 [(iH c1 c2 c3),(iN c0),(iN c8)] h1 <| ooS fun c73 h16 =>
nae c11 2 fun c74 =>
hwr h16 c9 c10 c74 [(iS c73)] fun h17 =>
j0 c0 c9 c10 c11 c8 c1 c2 c3 r0 h17) <|
j0 c0 c9 c10 c11 c8 c1 c2 c3 r0 h1) <|
j1 c8 c1 c2 c3 c9 c10 c11 r0 h0) L 0 c19 0 0 c18 c15 c16 c17 zt5 h7
noncomputable def zfw:KFun:=⟨znt,false,false⟩
theorem zkq:KOK tr.look F_Q18 zfw:=⟨i_Q18,(.sq (.rg [(qx 4 0)]) (.sq (.rg [qh,qh,qh,qp,qn,qp,qp,qv,qh,(.tup [])]) (.sq (.sq (.rg [qn]) (.bk [.slot 1 qn, .slot 0 qh, .slot 5 qh,sx 4,bl 4 5] (.lp [.slot 17 qn, .slot 5 qh, .slot 1 qn, .slot 0 qh,sx 4,bl 4 5] (.sq (.rg [qb]) (.sq (.cj .lf .lf) (.sq (.bk [.slot 17 qn, .slot 5 qh, .slot 1 qn, .slot 0 qh,sx 4,bl 4 5] (.sq (.rg [qn,qn]) (.sq (.rg [qh,qn,qh,qn,qh,qh,qh,qa,qh,qn,qh,qh,qh,qm,qn,qn,qh,qh,qh,qn,qv,ql,ql,qh,qh,qh,(.tup [])]) (.sq (.rg [qh,qn,qh,qh,qh,qa,qn,qa,qa,qb]) (.cd [.slot 17 qn, .slot 5 qh, .slot 1 qn, .slot 0 qh,sx 4,bl 4 5] (.rg [qh,qn,qn,qs,qh,(.tup [])]) .lf))))) (.rg [qn,qn]))))))) (.sq (.rg [qh,qh,qh,qn,qn,qh,qh,(.tup [])]) (.sq (.rg [qh,qh,qh,ql,qn,qh,qn,qn,qh,(.tup [])]) (.sq (.rg [qh,qn,qa,qh,(.tup [])]) (.sq (.rg [qh,qn,(.tup [(.c .any),(.c .bool)]),(.tup [(.c .any),(.c .bool)]),qa,qb,qa,qb]) (.sq (.rg [qh,qa,(.tup [])]) (.sq (.rg [qv,(.tup [])]) .lf))))))))),[qh,qn],[4],[],look_Q18,rfl,rfl,rfl,rfl,by kernel_rfl⟩
noncomputable def zkr:KC:=fun F _ v h kr =>
wcons v <| ooH fun c1 c2 c3 r1 =>
wcons r1 <| ooN fun c0 r2 =>
wcons r2 <| ooA fun r0 r3 =>
wnil r3 <|
wle r0 5 <|
nae c3 23 fun c4 =>
nlt c0 2 <|
nam c4 c0 1 fun c5 =>
hld none c1 c2 c5 h <| oL fun c6 c7 c8 c9 =>
F 38 [(.slice c6 c7 c8 c9),(.p (.func 39))] h <| ooT fun r4 h0 =>
wnil r4 <|
nae c3 2 fun c10 =>
nlt c0 2 <|
nam c10 c0 5 fun c11 =>
hld (some 5) c1 c2 c11 h0 <| oA fun r5 =>
wcut r0 0 5 fun r6 =>
nae c3 23 fun c12 =>
nlt c0 2 <|
nam c12 c0 1 fun c13 =>
hld none c1 c2 c13 h0 <| oL fun c14 c15 c16 c17 =>
F 41 [(.agg r5),(.agg r6),(.slice c14 c15 c16 c17)] h0 <| ooT fun r7 h1 =>
wcons r7 <| ooP fun c18 r8 =>
wcons r8 <| ooN fun c19 r9 =>
wnil r9 <|
kr (.tup [(.p c18),(iN c19)]) h1
noncomputable def zeh:KFun:=⟨zkr,false,false⟩
theorem zin:KOK tr.look F_Q19 zeh:=⟨i_Q19,(.sq (.rg [(qx 5 0),qp,qn]) (.sq (.rg [qh,qn,qh,qh,qh,ql,(.tup [])]) (.sq (.rg [qh,qn,qh,qh,qh,qv,qv,qh,qn,qh,qh,qh,ql,(.tup [(.c .pv),(.c .nat)]),qp,qn,qp,qn]) .lf))),[qh,qn,qv],[5],[],look_Q19,rfl,rfl,rfl,rfl,by kernel_rfl⟩
noncomputable def zads:KC:=fun F _ v h kr =>
wcons v fun a2 r0 =>
wcons r0 fun a1 r1 =>
wcons r1 fun a4 r2 =>
wcons r2 fun a5 r3 =>
wnil r3 <|
ift (passB a4) <|
F 42 [a4] h <| ooP fun c1 h2 =>
ift (passB a2) <|
F 43 [a2] h2 <| ooM fun c5 h3 =>
ift (passB a1) <|
F 43 [a1] h3 <| ooM fun c6 h4 =>
F 43 [(.p c1)] h4 <| ooM fun c7 h5 =>
hpush h5 (.cells [(.p .nilmap)] 1 0 false) fun c0 h6 =>
hpush h6 (.cells [(.p .nilmap)] 1 0 false) fun c2 h7 =>
hpush h7 (.cells [(.p .nilmap)] 1 0 false) fun c3 h8 =>
hwr h8 c0 0 0 [(.map c5)] fun h9 =>
hwr h9 c2 0 0 [(.map c6)] fun h10 =>
hwr h10 c3 0 0 [(.map c7)] fun h11 =>
vv (zea 44 [(.const (iH c0 0 0)),(.const (iH c2 0 0)),(.const (iH c3 0 0))]) fun a0 =>
ift (passB a2) <|
ift (passB a0) <|
F 45 [a2,a0] h11 fun _ h12 =>
ift (passB a1) <|
ift (passB a0) <|
F 45 [a1,a0] h12 fun a3 h13 =>
ift (passB a0) <|
F 45 [(.p c1),a0] h13 fun a6 h14 =>
wblock (fun(_:FH) =>
(none:WR)) fun _ =>
ift (passB a3) <|
ift (passB a6) <|
F 46 [a3,a6] h14 <| ooB fun c8 h0 =>
wif c8 (hld none c0 0 0 h0 <| oM fun c9 =>
hld none c0 0 0 h0 <| oM fun c4 =>
ift (passB a1) <|
ift (passB a0) <|
F 48 [a1,(.map c9),a0] h0 <| ooL fun c10 c11 c12 c13 h1 =>
ift (wchk F ⟨[],h1⟩ (.load none (.const (iH c0 0 0))) (.map c4)) <|
ift (passB a0) <|
F 48 [(.p c1),(.map c4),a0] h1 <| ooL fun c14 c15 c16 c17 h15 =>
ift (passB a3) <|
ift (passB a5) <|
F 47 [a3,(.slice c10 c11 c12 c13),(.slice c14 c15 c16 c17),a5] h15 <| ooT fun r4 h16 =>
wcons r4 fun a7 r5 =>
wcons r5 <| ooB fun c18 r6 =>
wnil r6 <|
ift (passB a7) <|
kr (.tup [a7,(iB c18)]) h16) <|
(none:WR)
noncomputable def zpw:KFun:=⟨zads,false,false⟩
theorem zxg:KOK tr.look F_Q20 zpw:=⟨i_Q20,(.sq (.rg [qp,qb]) (.sq (.rg [qa,qp,qp]) (.sq (.rg [qa,qm,qa,qm,qp,qm,qh,qh,qh,(.tup []),(.tup []),(.tup [])]) (.sq (.rg []) (.sq (.rg [qa,qa,qa,qa,qa,qa,qp]) (.sq (.bk [] (.sq (.rg [qa,qa,qb,qb]) (.cj (.sq (.rg [qa,qa,qm,qa,ql,qp,qm,qa,ql,qa,(.tup [(.c .any),(.c .bool)]),qa,qb,qa,qb]) .lf) (.sq .lf (.cj (.sq .lf .lf) (.sq .lf (.cj (.sq .lf .lf) .lf))))))) (.sq .lf .lf))))))),[qa,qa,qa,qa],[],[],look_Q20,rfl,rfl,rfl,rfl,by kernel_rfl⟩
noncomputable def zto:KC:=fun _ L v h kr =>
wcons v <| ooP fun c2 r0 =>
wcons r0 <| ooP fun c3 r1 =>
wnil r1 <|
v_len (.p c2) <| oN fun c5 =>
v_len (.p c3) <| oN fun c6 =>
bf (gnot (Nat.beq c5 c6)) fun c7 =>
wif c7 ((none:WR)) <|
wblock (fun(h1:FH) =>
kr (iB true) h1) fun j0 =>
wloop (fun _ _ _ _=>none) (fun j1 (c0:Nat) (c1 c4:PVal) (h0:FH) =>
v_len (.p c1) <| oN fun c8 =>
nbl c0 c8 fun c9 =>
wif c9 (wblock (fun(c10:Nat) (c11 c12:PVal) (h2:FH) =>
nad c10 1 fun c13 =>
j1 c13 c11 c12 h2) fun j2 =>
zab 1 (.p c1) (iN c0) <| oP fun c14 =>
zac none (.p c14) ⟨[],h0⟩ <| oI fun c15 =>
zab 1 (.p c4) (iN c0) <| oP fun c16 =>
zac none (.p c16) ⟨[],h0⟩ <| oI fun c17 =>
v_neq (iI c15) (iI c17) <| oB fun c18 =>
wif c18 ((none:WR)) <|
j2 c0 c1 c4 h0) <|
j0 h0) L 0 c2 c3 h
noncomputable def zis:KFun:=⟨zto,true,false⟩
theorem zpx:KOK tr.look F_Q22 zis:=⟨i_Q22,(.sq (.rg [qb]) (.sq (.sq (.rg [qp,qn,qp,qn,qb]) (.cj (.sq .lf .lf) .lf)) (.sq (.sq (.rg [qn]) (.bk [] (.lp [.slot 5 qn, .slot 0 qp, .slot 1 qp] (.sq (.sq (.rg [qn,qp,qn,qb]) (.cj .lf .lf)) (.sq (.bk [.slot 5 qn, .slot 0 qp, .slot 1 qp] (.sq (.rg [qp,qn,qp,qi,qp,qn,qp,qi,qb]) (.cj (.sq .lf .lf) .lf))) (.rg [qn,qn,qn])))))) (.sq (.rg [qb]) .lf)))),[qp,qp],[],[],look_Q22,rfl,rfl,rfl,rfl,by kernel_rfl⟩
noncomputable def zake:KC:=fun F L v h kr =>
wcons v <| ooA fun r0 r2 =>
wnil r2 <|
wle r0 5 <|
wg 4 r0 <| oP fun c1 =>
v_len (.p c1) <| oN fun c5 =>
wblock (fun(c6:Nat) (h1:FH) =>
kr (iN c6) h1) fun j0 =>
wloop (fun _ _ _ _ _=>none) (fun j1 (c0 c2:Nat) (c3:PVal) (c4:Nat) (h0:FH) =>
nbl c0 c4 fun c7 =>
wif c7 (wblock (fun(c8 c9:Nat) (c10:PVal) (c11:Nat) (h2:FH) =>
nad c8 1 fun c12 =>
j1 c12 c9 c10 c11 h2) fun j2 =>
zab 5 (.p c3) (iN c0) <| oP fun c13 =>
zac (some 5) (.p c13) ⟨[nb_ 5],h0⟩ <| oA fun r1 =>
wle r1 5 <|
wcut r1 0 5 fun r3 =>
F 23 [(.agg r3)] h0 <| ooN fun c14 h3 =>
nad c2 c14 fun c15 =>
j2 c0 c15 c3 c4 h3) <|
j0 c2 h0) L 0 1 c1 c5 h
noncomputable def zxh:KFun:=⟨zake,true,false⟩
theorem zadt:KOK tr.look F_Q23 zxh:=⟨i_Q23,(.sq (.rg [(qx 1 0),qn]) (.sq (.rg [qn]) (.sq (.sq (.rg [(qx 1 4),qp,qn,qn]) (.bk [.slot 3 qn] (.lp [.slot 9 qn, .slot 3 qn, .slot 7 qp, .slot 8 qn] (.sq (.rg [qb]) (.sq (.cj .lf .lf) (.sq (.bk [.slot 9 qn, .slot 3 qn, .slot 7 qp, .slot 8 qn] (.sq (.rg [qp,qv,(qx 5 0),(.tup [])]) (.rg [qn,qv,qn,qn,qn]))) (.rg [qn,qn]))))))) (.sq (.rg [qn,qn]) .lf)))),[qv],[5,1],[],look_Q23,rfl,rfl,rfl,rfl,by kernel_rfl⟩
noncomputable def zahb:KC:=fun F L v h kr =>
wcons v <| ooA fun r0 r2 =>
wnil r2 <|
wle r0 5 <|
wg 4 r0 <| oP fun c1 =>
v_len (.p c1) <| oN fun c5 =>
wblock (fun(c6:Nat) (h1:FH) =>
nad c6 1 fun c7 =>
kr (iN c7) h1) fun j0 =>
wloop (fun _ _ _ _ _=>none) (fun j1 (c0 c2:Nat) (c3:PVal) (c4:Nat) (h0:FH) =>
nbl c0 c4 fun c8 =>
wif c8 (wblock (fun(c9 c10:Nat) (c11:PVal) (c12:Nat) (h2:FH) =>
nad c9 1 fun c13 =>
j1 c13 c10 c11 c12 h2) fun j2 =>
zab 5 (.p c3) (iN c0) <| oP fun c14 =>
zac (some 5) (.p c14) ⟨[nb_ 5],h0⟩ <| oA fun r1 =>
wle r1 5 <|
wcut r1 0 5 fun r3 =>
F 24 [(.agg r3)] h0 <| ooN fun c15 h3 =>
vv (zaax [(.const (iN c2)),(.const (iN c15))]) <| oN fun c16 =>
j2 c0 c16 c3 c4 h3) <|
j0 c2 h0) L 0 0 c1 c5 h
noncomputable def zsx:KFun:=⟨zahb,true,false⟩
theorem zyx:KOK tr.look F_Q24 zsx:=⟨i_Q24,(.sq (.rg [(qx 1 0),qn]) (.sq (.rg [qn]) (.sq (.sq (.rg [(qx 1 4),qp,qn,qn]) (.bk [.slot 3 qn] (.lp [.slot 9 qn, .slot 3 qn, .slot 7 qp, .slot 8 qn] (.sq (.rg [qb]) (.sq (.cj .lf .lf) (.sq (.bk [.slot 9 qn, .slot 3 qn, .slot 7 qp, .slot 8 qn] (.sq (.rg [qp,qv,(qx 5 0),(.tup [])]) (.rg [qn,qv,qn,qn,qn]))) (.rg [qn,qn]))))))) (.sq (.rg [qn,qn,qn]) .lf)))),[qv],[5,1],[],look_Q24,rfl,rfl,rfl,rfl,by kernel_rfl⟩
noncomputable def zahc:KC:=fun _ L v h kr =>
wcons v <| ooP fun c1 r0 =>
wnil r0 <|
v_len (.p c1) <| oN fun c4 =>
wblock (fun(h1:FH) =>
kr (iB true) h1) fun j0 =>
wloop (fun _ _ _ _=>none) (fun j1 (c0:Nat) (c2:PVal) (c3:Nat) (h0:FH) =>
nbl c0 c3 fun c5 =>
wif c5 (wblock (fun(c6:Nat) (c7:PVal) (c8:Nat) (h2:FH) =>
nad c6 1 fun c9 =>
j1 c9 c7 c8 h2) fun j2 =>
zab 1 (.p c2) (iN c0) <| oP fun c10 =>
zac none (.p c10) ⟨[],h0⟩ <| oS fun c11 =>
v_neq (iS c11) (iS []) <| oB fun c12 =>
wif c12 ((none:WR)) <|
j2 c0 c2 c3 h0) <|
j0 h0) L 0 c1 c4 h
noncomputable def zsy:KFun:=⟨zahc,true,false⟩
theorem zyy:KOK tr.look F_Q25 zsy:=⟨i_Q25,(.sq (.rg [qb]) (.sq (.sq (.rg [qp,qn,qn]) (.bk [] (.lp [.slot 7 qn, .slot 5 qp, .slot 6 qn] (.sq (.rg [qb]) (.sq (.cj .lf .lf) (.sq (.bk [.slot 7 qn, .slot 5 qp, .slot 6 qn] (.sq (.rg [qp,qs,qs]) (.sq (.rg [qs,qb]) (.cj (.sq .lf .lf) .lf)))) (.rg [qn,qn]))))))) (.sq (.rg [qb]) .lf))),[qp],[],[],look_Q25,rfl,rfl,rfl,rfl,by kernel_rfl⟩
noncomputable def zakf:KC:=fun F L v h kr =>
wcons v <| ooA fun r2 r3 =>
wnil r3 <|
wle r2 5 <|
wg 4 r2 <| oP fun c2 =>
v_len (.p c2) <| oN fun c5 =>
wblock (fun(h2:FH) =>
kr (iB true) h2) fun j0 =>
wloop (fun _ _ _ _ _=>none) (fun j1 (c1:Nat) (c3:PVal) (c4:Nat) (r0:LI) (h0:FH) =>
nbl c1 c4 fun c6 =>
wif c6 (wblock (fun(c7:Nat) (c8:PVal) (c9:Nat) (r4:LI) (h3:FH) =>
nad c7 1 fun c10 =>
j1 c10 c8 c9 r4 h3) fun j2 =>
zab 5 (.p c3) (iN c1) <| oP fun c11 =>
zac (some 5) (.p c11) ⟨[nb_ 4,b_ 1 r0 5],h0⟩ <| oA fun r1 =>
wle r1 5 <|
wcut r1 0 5 fun r5 =>
F 50 [(.agg r5)] h0 <| ooB fun c12 h1 =>
bf (gnot c12) fun c0 =>
wgV (iB c0) false (zaa 0 (iX 4 0)) fun a1 =>
wgV (iB c0) false (zac none a1 ⟨[b_ 4 r1 5,b_ 4 zt5 5,nb_ 4,b_ 1 r0 5],h1⟩) fun a2 =>
wgV (iB c0) false (v_eql a2 (iN 5)) fun a3 =>
wgV (iB c0) false (vv (x_mov a3)) fun a0 =>
wgV a0 true (zaa 0 (iX 1 0)) fun a4 =>
wgV a0 true (zac none a4 ⟨[b_ 4 r1 5,b_ 4 zt5 5,nb_ 4,b_ 1 r0 5],h1⟩) fun a5 =>
wgV a0 true (v_neq a5 (iN 1)) fun a6 =>
wgV (iB c0) false (zwq a0 a6 (iB false)) fun a7 =>
pk c0 (iB true) a7 <| oB fun c13 =>
wif c13 ((none:WR)) <|
j2 c1 c3 c4 r0 h1) <|
j0 h0) L 0 c2 c5 r2 h
noncomputable def zxi:KFun:=⟨zakf,true,false⟩
theorem zadu:KOK tr.look F_Q26 zxi:=⟨i_Q26,(.sq (.rg [(qx 1 0),qb]) (.sq (.sq (.rg [(qx 1 4),qp,qn,qn]) (.bk [] (.lp [.slot 8 qn,sx 1, .slot 6 qp, .slot 7 qn,bl 1 5] (.sq (.rg [qb]) (.sq (.cj .lf .lf) (.sq (.bk [.slot 8 qn,sx 1, .slot 6 qp, .slot 7 qn,bl 1 5] (.sq (.rg [qp,qv,(qx 4 0),(.tup [])]) (.sq (.rg [qv,qb,qb,qb,qa,qa,qa,qa,qa,qa,qa,qa,qb]) (.cj (.sq .lf .lf) .lf)))) (.rg [qn,qn]))))))) (.sq (.rg [qb]) .lf))),[qv],[4,1],[],look_Q26,rfl,rfl,rfl,rfl,by kernel_rfl⟩
noncomputable def zakg:KC:=fun F L v h kr =>
wcons v <| ooA fun r0 r1 =>
wnil r1 <|
wle r0 5 <|
hpush h (.cells r0 5 0 false) fun c13 h4 =>
hpush h4 (.cells [(.p .nilslice)] 1 0 false) fun c7 h5 =>
vv (zea 52 [(.const (iH c7 0 0))]) fun a0 =>
ift (passB a0) <|
F 51 [(iH c13 0 0),a0] h5 <| ooT fun r2 h2 =>
wnil r2 <|
hld none c7 0 0 h2 <| oL fun _ _ _ c8 =>
ift (Nat.ble 1 c8) <|
nforce (Nat.sub c8 1) fun c9 =>
nlt c9 lim63 <|
wblock (fun(c14 c15 c16:Nat) (h3:FH) =>
hld none c14 c15 c16 h3 <| oL fun c17 c18 c19 c20 =>
kr (.slice c17 c18 c19 c20) h3) fun j0 =>
wloop (fun _ _ _ _ _=>none) (fun j1 (c0 c1 c2 c3:Nat) (h0:FH) =>
nbl 0 c0 fun c21 =>
wif c21 (wblock (fun(c10 c22 c23 c24:Nat) (h6:FH) =>
ift (Nat.ble 1 c10) <|
nforce (Nat.sub c10 1) fun c11 =>
nlt c11 lim63 <|
j1 c11 c22 c23 c24 h6) fun j2 =>
hld none c1 c2 c3 h0 <| oL fun c4 c5 c25 c26 =>
hld none c1 c2 c3 h0 <| oL fun c27 c28 c29 c30 =>
nlt c0 c30 <|
nam c29 c0 10 fun c31 =>
hld none c27 c28 c31 h0 <| oN fun c12 =>
nlt c12 c26 <|
nam c25 c12 10 fun c6 =>
nae c6 1 fun c32 =>
hld none c4 c5 c32 h0 <| oN fun c33 =>
hld none c1 c2 c3 h0 <| oL fun c34 c35 c36 c37 =>
nlt c0 c37 <|
nam c36 c0 10 fun c38 =>
nae c38 1 fun c39 =>
hld none c34 c35 c39 h0 <| oN fun c40 =>
nad c33 c40 fun c41 =>
nae c6 1 fun c42 =>
hwr h0 c4 c5 c42 [(iN c41)] fun h1 =>
nae c6 3 fun c43 =>
hld none c4 c5 c43 h1 <| oN fun c44 =>
hld none c1 c2 c3 h1 <| oL fun c45 c46 c47 c48 =>
nlt c0 c48 <|
nam c47 c0 10 fun c49 =>
nae c49 3 fun c50 =>
hld none c45 c46 c50 h1 <| oN fun c51 =>
nad c51 1 fun c52 =>
vv (zaax [(.const (iN c44)),(.const (iN c52))]) <| oN fun c53 =>
nae c6 3 fun c54 =>
hwr h1 c4 c5 c54 [(iN c53)] fun h7 =>
j2 c0 c1 c2 c3 h7) <|
j0 c1 c2 c3 h0) L c9 c7 0 0 h2
noncomputable def zxj:KFun:=⟨zakg,true,true⟩
theorem zadv:KOK tr.look F_Q27 zxj:=⟨i_Q27,(.sq (.rg [qh,qp]) (.sq (.rg [qh]) (.sq (.rg [qa,(.tup [])]) (.sq (.sq (.rg [ql,qn,qn,qn]) (.bk [.slot 3 qh] (.lp [.slot 4 qn, .slot 3 qh] (.sq (.sq (.rg [qn,qb]) (.cj .lf .lf)) (.sq (.bk [.slot 4 qn, .slot 3 qh] (.sq (.rg [ql,ql,qn,qh,qh,qn,qh,qh]) (.sq (.rg [qh,qh,qh,qn,ql,qn,qh,qh,qn,qn,qh,qh,(.tup [])]) (.rg [qh,qh,qh,qh,qn,ql,qn,qh,qh,qn,qn,qn,qh,qh,(.tup [])])))) (.rg [qn,qn,qn])))))) (.sq (.rg [ql,ql]) .lf))))),[qv],[],[],look_Q27,rfl,rfl,rfl,rfl,by kernel_rfl⟩
noncomputable def zahd:KC:=fun F _ v h kr =>
wcons v <| ooA fun r0 r1 =>
wcons r1 <| ooN fun c1 r2 =>
wnil r2 <|
wle r0 5 <|
wcut r0 0 5 fun r3 =>
F 27 [(.agg r3)] h <| ooP fun c2 h0 =>
nbl c1 0 fun c0 =>
wgV (iB c0) false (vv (x_mov (iN c1))) fun a0 =>
wgV (iB c0) false (vv (x_mov (.p c2))) fun a1 =>
wgV (iB c0) false (v_len a1) fun a2 =>
wgV (iB c0) false (v_geq a0 a2) fun a3 =>
pk c0 (iB true) a3 <| oB fun c3 =>
wif c3 ((none:WR)) <|
F 54 [(.p c2),(iN c1)] h0 <| ooP fun c4 h1 =>
kr (.p c4) h1
noncomputable def zsz:KFun:=⟨zahd,true,true⟩
theorem zyz:KOK tr.look F_Q28 zsz:=⟨i_Q28,(.sq (.rg [(qx 2 0),qp]) (.sq (.rg [qv,qp,qp]) (.sq (.sq (.rg [qn,qb,qb,qa,qa,qa,qa,qb]) (.cj (.sq .lf .lf) .lf)) (.sq (.rg [qp,qn,qp,qp]) .lf)))),[qv,qn],[2],[],look_Q28,rfl,rfl,rfl,rfl,by kernel_rfl⟩
noncomputable def zec:WO→Nat→(List IVal→WC)→List IVal→FH→WR:=fun F L kr v h =>
wcons v <| ooA fun r0 r8 =>
wcons r8 <| ooA fun r1 r9 =>
wnil r9 <|
wle r0 5 <|
wle r1 5 <|
wcut r0 0 5 fun r10 =>
F 15 [(.agg r10)] h <| ooB fun c32 h5 =>
bf (gnot c32) fun c9 =>
wgV (iB c9) false (zac (some 5) (iX 3 0) ⟨[b_ 3 r1 5,b_ 2 r0 5,nb_ 7,nb_ 2,nb_ 3],h5⟩) fun a0 =>
wgH (iB c9) false (wcallH (.p (.func 15)) [a0] F) h5 fun a1 h13 =>
wgV (iB c9) false (v_not a1) fun a2 =>
pk c9 (iB true) a2 <| oB fun c33 =>
wif c33 ((none:WR)) <|
wcut r0 0 5 fun r2 =>
wcut r1 0 5 fun r3 =>
wcut r0 0 5 fun r11 =>
wcut r1 0 5 fun r6 =>
hpush h13 (.map [] 0) fun c16 h14 =>
hpush h14 (.map [] 0) fun c17 h15 =>
F 27 [(.agg r11)] h15 <| ooP fun c34 h1 =>
ift (wchk F ⟨[b_ 3 r1 5,b_ 2 r0 5,nb_ 7,nb_ 2,nb_ 3],h1⟩ (.load (some 5) (.const (iX 2 0))) (.agg r2)) <|
ift (wchk F ⟨[b_ 3 r1 5,b_ 2 r0 5,nb_ 7,nb_ 2,nb_ 3],h1⟩ (.load (some 5) (.const (iX 3 0))) (.agg r3)) <|
ift (wchk F ⟨[b_ 3 r1 5,b_ 2 r0 5,nb_ 7,nb_ 2,nb_ 3],h1⟩ (.load (some 5) (.const (iX 3 0))) (.agg r6)) <|
ift (wchk F ⟨[b_ 3 r1 5,b_ 2 r0 5,nb_ 7,nb_ 2,nb_ 3],h1⟩ (.mkMap) (.map c16)) <|
ift (wchk F ⟨[b_ 3 r1 5,b_ 2 r0 5,nb_ 7,nb_ 2,nb_ 3],h1⟩ (.mkMap) (.map c17)) <|
F 27 [(.agg r6)] h1 <| ooP fun c35 h16 =>
wle r2 5 <|
wspl [(iN 0),(iS []),(iS []),(.p .nilslice),(.p .nilslice),(iN 0),(iS []),(iS []),(.p .nilslice),(.p .nilslice),(.p .nilslice),(.p .nilslice),(.p .nilslice),(.p .nilslice),(.p .nilmap),(.p .nilmap)] 0 r2 fun r12 =>
wle r3 5 <|
wspl r12 5 r3 fun r13 =>
wspl r13 10 [(.p c34)] fun r14 =>
wspl r14 11 [(.p c35)] fun r15 =>
wspl r15 14 [(.map c16)] fun r16 =>
wspl r16 15 [(.map c17)] fun r7 =>
wle r7 16 <|
hpush h16 (.cells r7 16 0 false) fun c3 h0 =>
ift (wchk F ⟨[b_ 3 r1 5,b_ 2 r0 5,nb_ 7,nb_ 2,nb_ 3],h0⟩ (.load (some 5) (.const (iX 2 0))) (.agg r2)) <|
ift (wchk F ⟨[b_ 3 r1 5,b_ 2 r0 5,nb_ 7,nb_ 2,nb_ 3],h0⟩ (.load (some 5) (.const (iX 3 0))) (.agg r3)) <|
ift (wchk F ⟨[b_ 3 r1 5,b_ 2 r0 5,nb_ 7,nb_ 2,nb_ 3],h0⟩ (.mkMap) (.map c16)) <|
ift (wchk F ⟨[b_ 3 r1 5,b_ 2 r0 5,nb_ 7,nb_ 2,nb_ 3],h0⟩ (.mkMap) (.map c17)) <|
hld none c3 0 10 h0 <| oP fun c36 =>
hld none c3 0 11 h0 <| oP fun c24 =>
F 55 [(.p c36)] h0 <| ooP fun c37 h6 =>
ift (wchk F ⟨[b_ 3 r1 5,b_ 2 r0 5,nb_ 7,nb_ 2,nb_ 3],h6⟩ (.load none (.const (iH c3 0 11))) (.p c24)) <|
F 55 [(.p c24)] h6 <| ooP fun c38 h17 =>
hwr h17 c3 0 12 [(.p c37),(.p c38)] fun h18 =>
wcut r0 0 5 fun r17 =>
wcut r1 0 5 fun r18 =>
F 56 [(.agg r17),(.agg r18),(iN 2)] h18 <| ooP fun c25 h19 =>
v_len (.p c25) <| oN fun c39 =>
wblock (fun(c40 c41 c42:Nat) (r19:LI) (h20:FH) =>
wcut r19 0 5 fun r20 =>
F 58 [(.agg r20)] h20 <| ooP fun c26 h21 =>
v_len (.p c26) <| oN fun c43 =>
wblock (fun(c10 c11 c12:Nat) (h22:FH) =>
F 61 [(iH c10 c11 c12),(iN 0),(iN 0)] h22 <| ooB fun c44 h7 =>
wblock (fun(c27 c28 c29:Nat) (h8:FH) =>
nae c29 10 fun c45 =>
hld none c27 c28 c45 h8 <| oP fun c46 =>
v_len (.p c46) <| oN fun c47 =>
wblock (fun(c48 c49 c50:Nat) (h9:FH) =>
nae c50 14 fun c51 =>
hld none c48 c49 c51 h9 <| oM fun c52 =>
kr [(.map c52),(.p .nilslice)] ⟨[],h9⟩) fun j4 =>
wloop (fun _ _ _ _ _ _=>none) (fun j5 (c4 c5 c6 c7 c18:Nat) (h3:FH) =>
nbl c4 c18 fun c53 =>
wif c53 (wblock (fun(c54 c55 c56 c57 c58:Nat) (h23:FH) =>
nad c54 1 fun c59 =>
j5 c59 c55 c56 c57 c58 h23) fun j6 =>
nae c7 14 fun c60 =>
hld none c5 c6 c60 h3 <| oM fun c61 =>
zaj true (.p (.int .i64 0)) ⟨false,[.int]⟩ (.map c61) (iN c4) h3 <| ooT fun r21 h10 =>
wcons r21 <| ooN fun c62 r22 =>
wcons r22 <| ooB fun c63 r23 =>
wnil r23 <|
wblock (fun(c64 c65 c66 c67 c68:Nat) (h24:FH) =>
j6 c64 c65 c66 c67 c68 h24) fun j0 =>
wif c63 (F 62 [(iH c5 c6 c7),(iN c4),(iN c62)] h10 <| ooT fun r24 h25 =>
wnil r24 <|
j0 c4 c5 c6 c7 c18 h25) <|
j0 c4 c5 c6 c7 c18 h10) <|
j4 c5 c6 c7 h3) L 0 c27 c28 c29 c47 h8) fun j1 =>
wif c44 (F 57 [(iH c10 c11 c12),(iN 0),(iN 0)] h7 <| ooT fun r25 h26 =>
wnil r25 <|
j1 c10 c11 c12 h26) <|
j1 c10 c11 c12 h7) fun j7 =>
wloop (fun _ _ _ _ _ _ _=>none) (fun j8 (c8 c0 c1 c2:Nat) (c13:PVal) (c14:Nat) (h2:FH) =>
nbl c8 c14 fun c69 =>
wif c69 (wblock (fun(c70 c71 c72 c73:Nat) (c74:PVal) (c75:Nat) (h27:FH) =>
nad c70 1 fun c76 =>
j8 c76 c71 c72 c73 c74 c75 h27) fun j2 =>
zab 1 (.p c13) (iN c8) <| oP fun c77 =>
zac none (.p c77) ⟨[],h2⟩ <| oN fun c15 =>
nae c2 14 fun c78 =>
hld none c0 c1 c78 h2 <| oM fun c79 =>
zaj true (.p (.int .i64 0)) ⟨false,[.int]⟩ (.map c79) (iN c15) h2 <| ooT fun r26 h11 =>
wcons r26 <| ooN fun _ r27 =>
wcons r27 <| ooB fun c80 r28 =>
wnil r28 <|
wif c80 (j2 c8 c0 c1 c2 c13 c14 h11) <|
F 59 [(iH c0 c1 c2),(iN c15)] h11 <| ooI fun c19 h12 =>
v_geq (iI c19) (iN 0) <| oB fun c81 =>
wblock (fun(c82 c83 c84 c85:Nat) (c86:PVal) (c87:Nat) (h28:FH) =>
j2 c82 c83 c84 c85 c86 c87 h28) fun j3 =>
wif c81 (F 57 [(iH c0 c1 c2),(iN c15),(iI c19)] h12 <| ooT fun r29 h29 =>
wnil r29 <|
F 60 [(iH c0 c1 c2),(iN c15),(iI c19)] h29 <| ooT fun r30 h30 =>
wnil r30 <|
j3 c8 c0 c1 c2 c13 c14 h30) <|
j3 c8 c0 c1 c2 c13 c14 h12) <|
j7 c0 c1 c2 h2) L 0 c40 c41 c42 c26 c43 h21) fun j9 =>
wloop (fun _ _ _ _ _ _ _ _=>none) (fun j10 (c20 c21 c22 c23:Nat) (c30:PVal) (c31:Nat) (r4:LI) (h4:FH) =>
nbl c20 c31 fun c88 =>
wif c88 (wblock (fun(c89 c90 c91 c92:Nat) (c93:PVal) (c94:Nat) (r31:LI) (h31:FH) =>
nad c89 1 fun c95 =>
j10 c95 c90 c91 c92 c93 c94 r31 h31) fun j11 =>
zab 2 (.p c30) (iN c20) <| oP fun c96 =>
zac (some 2) (.p c96) ⟨[nb_ 7,b_ 2 r4 5],h4⟩ <| oA fun r5 =>
wle r5 2 <|
wg 0 r5 <| oN fun c97 =>
wg 1 r5 <| oN fun c98 =>
F 57 [(iH c21 c22 c23),(iN c97),(iN c98)] h4 <| ooT fun r32 h32 =>
wnil r32 <|
j11 c20 c21 c22 c23 c30 c31 r4 h32) <|
j9 c21 c22 c23 r4 h4) L 0 c3 0 0 c25 c39 r0 h19
theorem ztp:zec=wpre i_Q29 (.sq (.rg [(qx 2 0),(qx 3 0),qp]) (.sq (.sq (.rg [qv,qb,qb,qb,qa,qa,qa,qb]) (.cj (.sq .lf .lf) .lf)) (.sq (.rg [qv,qv,qv,qp,qv,qp,qm,qm,qv,qh,qh]) (.sq (.rg [qh,qh,qh,qh,qp,qp,qh,qh,qh,qp,qp,qv,qh,qh,(.tup [])]) (.sq (.sq (.rg [qv,qv,qp,qn,qn]) (.bk [sx 2, .slot 5 qh,bl 2 5] (.lp [.slot 55 qn, .slot 5 qh, .slot 53 qp,sx 2, .slot 54 qn,bl 2 5] (.sq (.rg [qb]) (.sq (.cj .lf .lf) (.sq (.bk [.slot 55 qn, .slot 5 qh, .slot 53 qp,sx 2, .slot 54 qn,bl 2 5] (.sq (.rg [qp,qv,(qx 7 0),(.tup [])]) (.rg [qh,(qx 7 0),qn,(qx 7 1),qn,(.tup [])]))) (.rg [qn,qn]))))))) (.sq (.sq (.rg [qv,qp,qn,qn]) (.bk [.slot 5 qh] (.lp [.slot 69 qn, .slot 5 qh, .slot 67 qp, .slot 68 qn] (.sq (.rg [qb]) (.sq (.cj .lf .lf) (.sq (.bk [.slot 69 qn, .slot 5 qh, .slot 67 qp, .slot 68 qn] (.sq (.rg [qp,qn,qn]) (.sq (.sq (.rg [qh,qh,qh,qm,qn,(.tup [(.c .nat),(.c .bool)]),(.tup [(.c .nat),(.c .bool)]),qn,qb,qn,qb]) (.sq (.rg [qb]) (.cj .lf .lf))) (.sq (.rg [qh,qn,qi,qi]) (.sq (.rg [qi,qb]) (.cd [.slot 69 qn, .slot 5 qh, .slot 67 qp, .slot 68 qn] (.sq (.rg [qh,qn,qn,(.tup [])]) (.rg [qh,qn,qn,(.tup [])])) .lf)))))) (.rg [qn,qn]))))))) (.sq (.sq (.rg [qh,qb]) (.cd [.slot 5 qh] (.rg [qh,(.tup [])]) .lf)) (.sq (.sq (.rg [qh,qh,qh,qp,qn,qn]) (.bk [.slot 5 qh] (.lp [.slot 106 qn, .slot 5 qh, .slot 105 qn] (.sq (.rg [qb]) (.sq (.cj .lf .lf) (.sq (.bk [.slot 106 qn, .slot 5 qh, .slot 105 qn] (.sq (.rg [qn,qn]) (.sq (.rg [qh,qh,qh,qm,qn,(.tup [(.c .nat),(.c .bool)]),(.tup [(.c .nat),(.c .bool)]),qn,qb,qn,qb]) (.sq (.rg [qb]) (.cd [.slot 106 qn, .slot 5 qh, .slot 105 qn] (.rg [qh,qn,qn,(.tup [])]) .lf))))) (.rg [qn,qn]))))))) (.sq (.rg [qp]) (.rg [qh,qh,qh,qm])))))))))) [qv,qv] [7,2,3] [127,16] []:=by kernel_rfl
noncomputable def zaoi:KC:=fun F L v h kr =>
wcons v <| ooA fun r1 r5 =>
wcons r5 <| ooA fun r2 r6 =>
wcons r6 <| ooP fun c14 r7 =>
wnil r7 <|
wle r1 5 <|
wle r2 5 <|
wcut r1 0 5 fun r8 =>
wcut r2 0 5 fun r9 =>
F 64 [(.agg r8),(.agg r9),(.p c14)] h <| ooB fun c39 h9 =>
bf (gnot c39) fun c40 =>
wif c40 ((none:WR)) <|
wcut r1 0 5 fun r10 =>
wcut r2 0 5 fun r3 =>
F 27 [(.agg r10)] h9 <| ooP fun c41 h5 =>
ift (wchk F ⟨[b_ 4 r2 5,b_ 3 r1 5,nb_ 13,nb_ 3,nb_ 4],h5⟩ (.load (some 5) (.const (iX 4 0))) (.agg r3)) <|
F 27 [(.agg r3)] h5 fun a7 h10 =>
hpush h10 (.map [] 0) fun c42 h11 =>
hpush h11 (.map [] 0) fun c43 h12 =>
hpush h12 (.cells [(.p .nilmap)] 1 0 false) fun c23 h13 =>
hwr h13 c23 0 0 [(.map c43)] fun h14 =>
v_len (.p c14) <| oN fun c44 =>
wblock (fun(c45 c46 c47:Nat) (c15:PVal) (a8:IVal) (c48:Nat) (h15:FH) =>
vv (zea 65 [(.const (iH c45 c46 c47))]) fun a9 =>
v_len (.p c15) <| oN fun c24 =>
zbw 6 [(.bool false),(.bool false), .nilslice, .nilslice,(.int .i64 0), .nilslice] (iN c24) (iN c24) h15 <| ooL fun c49 c50 c51 c52 h16 =>
v_len (.p c15) <| oN fun c53 =>
wblock (fun(c54 c55 c56 c57:Nat) (h17:FH) =>
kr (.tup [(.slice c54 c55 c56 c57),(iN 0)]) h17) fun j1 =>
wloop (fun _ _ _ _ _ _ _ _ _ _ _=>none) (fun j2 (c0 c1 c2 c3 c4:Nat) (c16:PVal) (a0 a1:IVal) (c17 c18:Nat) (h6:FH) =>
nbl c0 c18 fun c58 =>
wif c58 (wblock (fun(c59 c60 c61 c62 c63:Nat) (c64:PVal) (a10 a11:IVal) (c65 c66:Nat) (h18:FH) =>
nad c59 1 fun c67 =>
j2 c67 c60 c61 c62 c63 c64 a10 a11 c65 c66 h18) fun j3 =>
zaj true (.p (.int .i64 0)) ⟨false,[.int]⟩ (.map c17) (iN c0) h6 <| ooT fun r11 h3 =>
wcons r11 <| ooN fun c8 r12 =>
wcons r12 <| ooB fun c68 r13 =>
wnil r13 <|
bf (gnot c68) fun c69 =>
wif c69 ((none:WR)) <|
zab 10 (.p c16) (iN c0) <| oP fun c70 =>
zaa 5 (.p c70) <| oP fun c71 =>
zac (some 5) (.p c71) ⟨[],h3⟩ <| oA fun r14 =>
zab 10 a0 (iN c8) fun a12 =>
zaa 5 a12 fun a13 =>
zac (some 5) a13 ⟨[],h3⟩ <| oA fun r15 =>
F 66 [(.agg r14),(.agg r15)] h3 <| ooA fun r4 h19 =>
nlt c0 c4 <|
nam c3 c0 6 fun c72 =>
wle r4 6 <|
hwr h19 c1 c2 c72 r4 fun h20 =>
nlt c0 c4 <|
nam c3 c0 6 fun c73 =>
nae c73 4 fun c74 =>
hwr h20 c1 c2 c74 [(iI (-1))] fun h4 =>
zab 10 a0 (iN c8) fun a14 =>
zaa 0 a14 fun a15 =>
zac none a15 ⟨[],h4⟩ <| oI fun c25 =>
v_geq (iI c25) (iN 0) <| oB fun c75 =>
wblock (fun(a16:IVal) (c76 c77 c78 c79 c80:Nat) (a17:IVal) (c81:Nat) (c82:PVal) (c83 c84 c26:Nat) (h21:FH) =>
nad c26 1 fun c85 =>
wblock (fun(c86 c87 c88 c89 c90:Nat) (c91:PVal) (a18 a19:IVal) (c92 c93:Nat) (h22:FH) =>
j3 c86 c87 c88 c89 c90 c91 a18 a19 c92 c93 h22) fun j4 =>
wloop (fun _ _ _ _ _ _ _ _ _ _ _ _ _ _=>none) (fun j5 (c19:Nat) (a2:IVal) (c5 c6 c9 c10 c7:Nat) (a3:IVal) (c27:Nat) (c28:PVal) (c29 c30 c20:Nat) (h0:FH) =>
zab 10 a2 (iN c20) fun a20 =>
zaa 1 a20 fun a21 =>
zac none a21 ⟨[],h0⟩ <| oN fun c94 =>
nad c20 c94 fun c95 =>
nbl c19 c95 fun c96 =>
wif c96 (wblock (fun(c31:Nat) (a5:IVal) (c97 c98 c99 c100 c101:Nat) (a22:IVal) (c102:Nat) (c103:PVal) (c104 c105 c106:Nat) (h7:FH) =>
zab 10 a5 (iN c31) fun a23 =>
zaa 1 a23 fun a24 =>
zac none a24 ⟨[],h7⟩ <| oN fun c107 =>
nad c31 c107 fun c108 =>
j5 c108 a5 c97 c98 c99 c100 c101 a22 c102 c103 c104 c105 c106 h7) fun j6 =>
nlt c7 c10 <|
nam c9 c7 6 fun c109 =>
nae c109 5 fun c32 =>
hld none c5 c6 c32 h0 fun a6 =>
wapp a3 [(iN c19)] F h0 <| ooI fun c110 h23 =>
hpush h23 (.cells [(iI c110)] 1 0 false) fun c111 h8 =>
ift (wchk F ⟨[],h8⟩ (.load none (.const (iH c5 c6 c32))) a6) <|
zad 1 a6 (.slice c111 0 0 1) h8 <| ooL fun c112 c113 c114 c115 h24 =>
nlt c7 c10 <|
nam c9 c7 6 fun c116 =>
nae c116 5 fun c117 =>
hwr h24 c5 c6 c117 [(.slice c112 c113 c114 c115)] fun h25 =>
j6 c19 a2 c5 c6 c9 c10 c7 a3 c27 c28 c29 c30 c20 h25) <|
j4 c27 c5 c6 c9 c10 c28 a2 a3 c29 c30 h0) L c85 a16 c76 c77 c78 c79 c80 a17 c81 c82 c83 c84 c26 h21) fun j0 =>
wif c75 (wapp a1 [(iI c25)] F h4 <| ooN fun c118 h26 =>
nlt c0 c4 <|
nam c3 c0 6 fun c119 =>
nae c119 4 fun c120 =>
hwr h26 c1 c2 c120 [(iN c118)] fun h27 =>
j0 a0 c1 c2 c3 c4 c0 a1 c0 c16 c17 c18 c8 h27) <|
j0 a0 c1 c2 c3 c4 c0 a1 c0 c16 c17 c18 c8 h4) <|
j1 c1 c2 c3 c4 h6) L 0 c49 c50 c51 c52 c15 a8 a9 c48 c53 h16) fun j7 =>
wloop (fun _ _ _ _ _ _ _ _ _ _=>none) (fun j8 (c21 c22 c11 c12 c13:Nat) (c33 c34:PVal) (a4:IVal) (c35:Nat) (h1:FH) =>
nbl c21 c35 fun c121 =>
wif c121 (wblock (fun(c122 c123 c124 c125 c126:Nat) (c127 c128:PVal) (a25:IVal) (c129:Nat) (h28:FH) =>
nad c122 1 fun c130 =>
j8 c130 c123 c124 c125 c126 c127 c128 a25 c129 h28) fun j9 =>
ift (nbox 13 a4) <|
zab 2 (.p c33) (iN c21) <| oP fun c131 =>
zac (some 2) (.p c131) ⟨[nb_ 13],h1⟩ <| oA fun r0 =>
wle r0 2 <|
wg 0 r0 <| oN fun c132 =>
hld none c11 c12 c13 h1 <| oM fun c36 =>
wg 1 r0 <| oN fun c37 =>
wg 1 r0 <| oN fun c133 =>
wg 0 r0 <| oN fun c38 =>
zbp ⟨false,[.int]⟩ (.map c22) (iN c132) (iN c133) h1 <| ooT fun r16 h2 =>
wnil r16 <|
ift (wchk F ⟨[b_ 13 r0 2,b_ 13 [(iN 0),(iN 0)] 2,nb_ 13],h2⟩ (.load none (.const (iH c11 c12 c13))) (.map c36)) <|
ift (wchk F ⟨[b_ 13 r0 2,b_ 13 [(iN 0),(iN 0)] 2,nb_ 13],h2⟩ (.load none (.const (iX 13 1))) (iN c37)) <|
ift (wchk F ⟨[b_ 13 r0 2,b_ 13 [(iN 0),(iN 0)] 2,nb_ 13],h2⟩ (.load none (.const (iX 13 0))) (iN c38)) <|
zbp ⟨false,[.int]⟩ (.map c36) (iN c37) (iN c38) h2 <| ooT fun r17 h29 =>
wnil r17 <|
j9 c21 c22 c11 c12 c13 c33 c34 a4 c35 h29) <|
j7 c11 c12 c13 c34 a4 c22 h1) L 0 c42 c23 0 0 c14 c41 a7 c44 h14
noncomputable def zabg:KFun:=⟨zaoi,true,true⟩
theorem zahe:KOK tr.look F_Q30 zabg:=⟨i_Q30,(.sq (.rg [(qx 3 0),(qx 4 0),qp,qn]) (.sq (.sq (.rg [qv,qv,qp,qb,qb]) (.cj (.sq .lf .lf) .lf)) (.sq (.rg [qv,qp,qv,qa,qp]) (.sq (.rg [qm,qm,qh,qm,(.tup [])]) (.sq (.sq (.rg [qp,qn,qn]) (.bk [.slot 11 qh, .slot 8 qp, .slot 9 qa, .slot 10 qm] (.lp [.slot 34 qn, .slot 10 qm, .slot 11 qh, .slot 32 qp, .slot 8 qp, .slot 9 qa, .slot 33 qn] (.sq (.rg [qb]) (.sq (.cj .lf .lf) (.sq (.bk [.slot 34 qn, .slot 10 qm, .slot 11 qh, .slot 32 qp, .slot 8 qp, .slot 9 qa, .slot 33 qn] (.sq (.rg [qp,qv,(qx 13 0),(.tup [])]) (.rg [qm,(qx 13 0),qn,qm,(qx 13 1),qn,(qx 13 1),qn,(qx 13 0),qn,(.tup []),(.tup [])]))) (.rg [qn,qn]))))))) (.sq (.rg []) (.sq (.rg [qp,qn,ql,ql]) (.sq (.sq (.rg [qp,qn,qn]) (.bk [.slot 15 ql] (.lp [.slot 55 qn, .slot 15 ql, .slot 8 qp, .slot 9 qa, .slot 14 qa, .slot 10 qm, .slot 54 qn] (.sq (.rg [qb]) (.sq (.cj .lf .lf) (.sq (.bk [.slot 55 qn, .slot 15 ql, .slot 8 qp, .slot 9 qa, .slot 14 qa, .slot 10 qm, .slot 54 qn] (.sq (.rg [qn,qn]) (.sq (.rg [qm,qn,(.tup [(.c .nat),(.c .bool)]),(.tup [(.c .nat),(.c .bool)]),qn,qb,qn,qb]) (.sq (.sq (.rg [qb,qb]) (.cj (.sq .lf .lf) .lf)) (.sq (.rg [ql,qn,qp,qn,qp,qp,qv,qa,qn,qa,qa,qv,qv,qh,(.tup [])]) (.sq (.rg [ql,qn,qh,qh,(.tup [])]) (.sq (.sq (.rg [qa,qn,qa,qa,qi,qi]) (.sq (.rg [qi,qb]) (.cd [.slot 9 qa, .slot 15 ql, .slot 16 qn, .slot 14 qa, .slot 55 qn, .slot 8 qp, .slot 10 qm, .slot 54 qn, .slot 17 qn] (.rg [ql,qn,qa,qn,qn,qh,qh,(.tup [])]) .lf))) (.sq (.rg [qn,qn,qn]) (.bk [.slot 55 qn, .slot 15 ql, .slot 8 qp, .slot 9 qa, .slot 14 qa, .slot 10 qm, .slot 54 qn] (.lp [.slot 20 qn, .slot 9 qa, .slot 15 ql, .slot 16 qn, .slot 14 qa, .slot 55 qn, .slot 8 qp, .slot 10 qm, .slot 54 qn, .slot 17 qn] (.sq (.sq (.rg [qn,qn,qa,qn,qa,qa,qn,qn,qb]) (.cj .lf .lf)) (.sq (.bk [.slot 20 qn, .slot 9 qa, .slot 15 ql, .slot 16 qn, .slot 14 qa, .slot 55 qn, .slot 8 qp, .slot 10 qm, .slot 54 qn, .slot 17 qn] (.rg [ql,qn,ql,qn,qh,qh,qa,qa,qn,qi,ql,ql,qh,qh,(.tup [])])) (.rg [qn,qa,qn,qa,qa,qn,qn,qn]))))))))))))) (.rg [qn,qn]))))))) (.sq (.rg [ql,ql,qn]) .lf))))))))),[qv,qv,qp],[13,3,4],[],look_Q30,rfl,rfl,rfl,rfl,by kernel_rfl⟩
noncomputable def znu:KC:=fun _ _ v h kr =>
wcons v <| ooH fun c1 c2 c3 r0 =>
wcons r0 <| ooN fun c0 r1 =>
wcons r1 <| ooN fun c4 r2 =>
wnil r2 <|
nae c3 12 fun c5 =>
nlt c0 2 <|
nam c5 c0 1 fun c6 =>
hld none c1 c2 c6 h <| oP fun c7 =>
nae c3 16 fun c8 =>
nlt c0 2 <|
nam c8 c0 1 fun c9 =>
hld none c1 c2 c9 h <| oM fun c10 =>
zaj false (.p (.int .i64 0)) ⟨false,[.int]⟩ (.map c10) (iN c4) h <| ooN fun c11 h0 =>
zab 10 (.p c7) (iN c11) <| oP fun c12 =>
zaa 5 (.p c12) <| oP fun c13 =>
zaa 2 (.p c13) <| oP fun c14 =>
zac none (.p c14) ⟨[],h0⟩ <| oS fun c15 =>
kr (iS c15) h0
noncomputable def zfx:KFun:=⟨znu,false,false⟩
theorem zks:KOK tr.look F_Q32 zfx:=⟨i_Q32,(.sq (.rg [qs]) (.sq (.rg [qh,qn,qh,qh,qh,qp,qh,qn,qh,qh,qh,qm,qn,qn,qp,qp,qp,qs,qs]) .lf)),[qh,qn,qn],[],[],look_Q32,rfl,rfl,rfl,rfl,by kernel_rfl⟩
noncomputable def zlv:KC:=fun _ L v h kr =>
wcons v <| ooH fun c3 c4 c5 r1 =>
wcons r1 <| ooN fun c0 r2 =>
wcons r2 <| ooN fun c6 r3 =>
wnil r3 <|
hpush h (.map [] 0) fun c17 h0 =>
nae c5 14 fun c18 =>
nlt c0 2 <|
nam c18 c0 1 fun c19 =>
hld none c3 c4 c19 h0 fun a0 =>
zab 6 a0 (iN c6) fun a1 =>
zaa 2 a1 fun a2 =>
zac none a2 ⟨[nb_ 9],h0⟩ <| oP fun c7 =>
v_len (.p c7) <| oN fun c20 =>
wblock (fun(c21 c22 c23 c8 c24 c25:Nat) (h1:FH) =>
nae c23 14 fun c26 =>
nlt c8 2 <|
nam c26 c8 1 fun c27 =>
hld none c21 c22 c27 h1 fun a3 =>
zab 6 a3 (iN c24) fun a4 =>
zaa 3 a4 fun a5 =>
zac none a5 ⟨[],h1⟩ <| oP fun c9 =>
v_len (.p c9) <| oN fun c28 =>
wblock (fun(c29:Nat) (h3:FH) =>
kr (.map c29) h3) fun j0 =>
wloop (fun _ _ _ _ _=>none) (fun _ (c30 c31:Nat) (_:PVal) (c32:Nat) (h4:FH) =>
nbl c30 c32 fun c33 =>
wif c33 ((none:WR)) <|
j0 c31 h4) L 0 c25 c9 c28 h1) fun j1 =>
wloop (fun _ _ _ _ _ _ _ _ _ _=>none) (fun j2 (c1 c2:Nat) (c10:PVal) (c11 c12 c13 c14 c15 c16:Nat) (h2:FH) =>
nbl c1 c16 fun c34 =>
wif c34 (wblock (fun(c35 c36:Nat) (c37:PVal) (c38 c39 c40 c41 c42 c43:Nat) (h5:FH) =>
nad c35 1 fun c44 =>
j2 c44 c36 c37 c38 c39 c40 c41 c42 c43 h5) fun j3 =>
zab 2 (.p c10) (iN c1) <| oP fun c45 =>
zac (some 2) (.p c45) ⟨[nb_ 9],h2⟩ <| oA fun r0 =>
wle r0 2 <|
wg 0 r0 <| oS fun c46 =>
wg 1 r0 <| oS fun c47 =>
zbp ⟨false,[.str]⟩ (.map c2) (iS c46) (.agg [(iB false),(iS c47)]) h2 <| ooT fun r4 h6 =>
wnil r4 <|
j3 c1 c2 c10 c11 c12 c13 c14 c15 c16 h6) <|
j1 c11 c12 c13 c14 c15 c2 h2) L 0 c17 c7 c3 c4 c5 c0 c6 c20 h0
noncomputable def zeq:KFun:=⟨zlv,false,false⟩
theorem zix:KOK tr.look F_Q33 zeq:=⟨i_Q33,(.sq (.rg [qp]) (.sq (.rg [qm,qm]) (.sq (.sq (.rg [qh,qn,qh,qh,qh,qa,qn,qa,qa,qp,qn,qn]) (.bk [.slot 0 qh, .slot 1 qn, .slot 2 qn, .slot 7 qm] (.lp [.slot 24 qn, .slot 7 qm, .slot 22 qp, .slot 0 qh, .slot 1 qn, .slot 2 qn, .slot 23 qn] (.sq (.rg [qb]) (.sq (.cj .lf .lf) (.sq (.bk [.slot 24 qn, .slot 7 qm, .slot 22 qp, .slot 0 qh, .slot 1 qn, .slot 2 qn, .slot 23 qn] (.sq (.rg [qp,qv,(qx 9 0),(.tup [])]) (.rg [qm,(qx 9 0),qs,(qx 9 1),qs,qv,(.tup [])]))) (.rg [qn,qn]))))))) (.sq (.sq (.rg [qh,qn,qh,qh,qh,qa,qn,qa,qa,qp,qn,qn]) (.bk [.slot 7 qm] (.lp [.slot 46 qn, .slot 7 qm, .slot 44 qp, .slot 45 qn] (.sq (.rg [qb]) (.sq (.cj .lf .lf) (.sq .lf .lf)))))) (.sq (.rg [qm,qm]) .lf))))),[qh,qn,qn],[9],[],look_Q33,rfl,rfl,rfl,rfl,by kernel_rfl⟩
noncomputable def zfy:KC:=fun F _ v h kr =>
wcons v <| ooP fun c0 r0 =>
wnil r0 <|
v_len (.p c0) <| oN fun c1 =>
vv (zfs .u64 (iN c1)) <| oP fun c2 =>
F 68 [(.p c2)] h <| ooN fun c3 h0 =>
F 67 [(.p c0),(iN 0),(iN c1),(iN c3)] h0 <| ooT fun r1 h1 =>
wnil r1 <|
kr (.tup []) h1
noncomputable def zbx:KFun:=⟨zfy,true,false⟩
theorem zen:KOK tr.look F_Q34 zbx:=⟨i_Q34,(.sq (.rg [qp,qn,qn]) (.rg [qp,qn,qn,qp,qn,(.tup [])])),[qp],[],[],look_Q34,rfl,rfl,rfl,rfl,by kernel_rfl⟩
noncomputable def znv:KC:=fun F _ v h kr =>
wcons v <| ooH fun c2 c3 c4 r0 =>
wcons r0 <| ooN fun c0 r1 =>
wnil r1 <|
hpush h (.cells [(iH c2 c3 c4)] 1 0 false) fun c1 h0 =>
hld none c1 0 0 h0 <| oH fun c5 c6 c7 =>
nae c7 1 fun c8 =>
hld none c5 c6 c8 h0 <| oL fun c9 c10 c11 c12 =>
nlt c0 c12 <|
nam c11 c0 1 fun c13 =>
hld none c9 c10 c13 h0 <| oP fun c14 =>
hld none c1 0 0 h0 <| oH fun c15 c16 c17 =>
nae c17 14 fun c18 =>
nlt 0 2 <|
nam c18 0 1 fun c19 =>
hld none c15 c16 c19 h0 fun a4 =>
zab 6 a4 (iN c0) fun a5 =>
zaa 5 a5 fun a6 =>
zac none a6 ⟨[],h0⟩ fun a0 =>
hld none c1 0 0 h0 <| oH fun c20 c21 c22 =>
nae c22 14 fun c23 =>
nlt 1 2 <|
nam c23 1 1 fun c24 =>
hld none c20 c21 c24 h0 fun a7 =>
zab 6 a7 (iN c0) fun a8 =>
zaa 5 a8 fun a9 =>
zac none a9 ⟨[],h0⟩ fun a1 =>
vv (zea 69 [(.const (iH c1 0 0))]) fun a2 =>
ift (passB a0) <|
ift (passB a1) <|
ift (passB a2) <|
F 20 [(.p c14),a0,a1,a2] h0 <| ooT fun r2 h1 =>
wcons r2 fun a3 r3 =>
wcons r3 <| ooB fun c25 r4 =>
wnil r4 <|
ift (passB a3) <|
kr (.tup [a3,(iB c25)]) h1
noncomputable def zfz:KFun:=⟨znv,false,false⟩
theorem zkt:KOK tr.look F_Q35 zfz:=⟨i_Q35,(.sq (.rg [qh,qp,qb]) (.sq (.rg [qh,qh,qh,ql,qn,qh,qp,qh,qh,qh,qh,qa,qn,qa,qa,qa,qh,qh,qh,qh,qa,qn,qa,qa,qa,qa,(.tup [(.c .any),(.c .bool)]),qa,qb,qa,qb]) .lf)),[qh,qn],[],[],look_Q35,rfl,rfl,rfl,rfl,by kernel_rfl⟩
noncomputable def zlw:KC:=fun F L v h kr =>
wcons v <| ooH fun c6 c7 c8 r1 =>
wcons r1 <| ooN fun c9 r2 =>
wnil r2 <|
hpush h (.map [] 0) fun c15 h0 =>
hld none c6 c7 c8 h0 <| oP fun c16 =>
zab 10 (.p c16) (iN c9) <| oP fun c17 =>
zaa 5 (.p c17) <| oP fun c18 =>
zaa 3 (.p c18) <| oP fun c19 =>
zac none (.p c19) ⟨[nb_ 10,nb_ 7],h0⟩ <| oP fun c10 =>
v_len (.p c10) <| oN fun c20 =>
wblock (fun(c21 c22 c23 c24 c25:Nat) (h4:FH) =>
wblock (fun(c11:Nat) (h5:FH) =>
wblock (fun(a0:IVal) (h6:FH) =>
ift (passB a0) <|
F 73 [a0,(.p (.func 74))] h6 <| ooT fun r3 h7 =>
wnil r3 <|
ift (passB a0) <|
kr a0 h7) fun j2 =>
znr (.map c11) h5 <| ooT fun r4 h1 =>
wcons r4 <| ooB fun c12 r5 =>
wcons r5 fun a1 r6 =>
wcons r6 fun a2 r7 =>
wnil r7 <|
wblock (fun(a3:IVal) (h8:FH) =>
j2 a3 h8) fun j0 =>
wif c12 (wblock (fun(c26 c27 c28 c29 c30:Nat) (h9:FH) =>
zns (.map c26) h9 <| ooT fun r8 h10 =>
wnil r8 <|
j0 (.slice c27 c28 c29 c30) h10) fun j3 =>
vv (zlu (.const (.tup [(iB c12),a1,a2]))) <| oT fun r9 =>
wcons r9 <| ooS fun c31 r10 =>
wcons r10 <| ooS fun c32 r11 =>
wnil r11 <|
hpush h1 (.cells [(iS c31),(iS c32)] 2 0 false) fun c33 h11 =>
zad 2 (.p .nilslice) (.slice c33 0 0 1) h11 <| ooL fun c34 c35 c36 c37 h12 =>
j3 c11 c34 c35 c36 c37 h12) <|
j0 (.p .nilslice) h1) fun j4 =>
wloop (fun _ _ _ _ _ _ _=>none) (fun j5 (c0 c1 c2 c3 c4 c5:Nat) (h2:FH) =>
nbl c0 2 fun c38 =>
wif c38 (wblock (fun(c39 c40 c41 c42 c43 c44:Nat) (h13:FH) =>
nad c39 1 fun c45 =>
j5 c45 c40 c41 c42 c43 c44 h13) fun j6 =>
F 33 [(iH c3 c4 c5),(iN c0),(iN c2)] h2 <| ooM fun c13 h14 =>
wblock (fun(c46 c47 c48 c49 c50 c51:Nat) (h15:FH) =>
j6 c46 c47 c48 c49 c50 c51 h15) fun j7 =>
znr (.map c13) h14 <| ooT fun r12 h3 =>
wcons r12 <| ooB fun c14 r13 =>
wcons r13 fun a4 r14 =>
wcons r14 fun a5 r15 =>
wnil r15 <|
wblock (fun(c52 c53 c54 c55 c56 c57:Nat) (h16:FH) =>
j7 c52 c53 c54 c55 c56 c57 h16) fun j1 =>
wif c14 (wblock (fun(c58 c59 c60 c61 c62 c63 c64:Nat) (h17:FH) =>
zns (.map c58) h17 <| ooT fun r16 h18 =>
wnil r16 <|
j1 c59 c60 c61 c62 c63 c64 h18) fun j8 =>
ift (nbox 10 .undef) <|
vv (zlu (.const (.tup [(iB c14),a4,a5]))) <| oT fun r17 =>
wcons r17 <| ooS fun c65 r18 =>
wcons r18 <| ooA fun r0 r19 =>
wnil r19 <|
wle r0 2 <|
wg 1 r0 <| oS fun c66 =>
zbp ⟨false,[.str]⟩ (.map c1) (iS c65) (iS c66) h3 <| ooT fun r20 h19 =>
wnil r20 <|
wg 0 r0 <| oB fun c67 =>
wblock (fun(c68 c69 c70 c71 c72 c73 c74:Nat) (h20:FH) =>
j8 c68 c69 c70 c71 c72 c73 c74 h20) fun j9 =>
wif c67 ((none:WR)) <|
j9 c13 c0 c1 c2 c3 c4 c5 h19) <|
j1 c0 c1 c2 c3 c4 c5 h3) <|
j4 c1 h2) L 0 c21 c22 c23 c24 c25 h4) fun j10 =>
wloop (fun _ _ _ _ _ _ _ _ _=>none) (fun _ (c75 c76:Nat) (_:PVal) (c77 c78 c79 c80 c81:Nat) (h21:FH) =>
nbl c75 c81 fun c82 =>
wif c82 ((none:WR)) <|
j10 c76 c77 c78 c79 c80 h21) L 0 c15 c10 c9 c6 c7 c8 c20 h0
noncomputable def zer:KFun:=⟨zlw,false,false⟩
theorem ziy:KOK tr.look F_Q36 zer:=⟨i_Q36,(.sq (.rg [qp]) (.sq (.rg [qm,qm]) (.sq (.sq (.rg [qh,qh,qh,qp,qn,qp,qp,qp,qp,qn,qn]) (.bk [.slot 5 qm, .slot 1 qn, .slot 0 qh] (.lp [.slot 25 qn, .slot 5 qm, .slot 23 qp, .slot 1 qn, .slot 0 qh, .slot 24 qn] (.sq (.rg [qb]) (.sq (.cj .lf .lf) (.sq .lf .lf)))))) (.sq (.sq (.rg [qn]) (.bk [.slot 5 qm] (.lp [.slot 35 qn, .slot 5 qm, .slot 1 qn, .slot 0 qh] (.sq (.rg [qb]) (.sq (.cj .lf .lf) (.sq (.bk [.slot 35 qn, .slot 5 qm, .slot 1 qn, .slot 0 qh] (.sq (.rg [qn,qn]) (.sq (.rg [qh,qn,qn,qm]) (.bk [.slot 35 qn, .slot 5 qm, .slot 1 qn, .slot 0 qh] (.sq (.rg [qb,qb,qa,(.tup [(.c .bool),(.c .any),(.c .any)]),qb]) (.sq (.cd [.slot 35 qn, .slot 5 qm, .slot 1 qn, .slot 0 qh] (.sq (.bk [.slot 41 qm, .slot 35 qn, .slot 5 qm, .slot 1 qn, .slot 0 qh] (.sq (.rg [(.tup [(.c .str), .aggv]),qs,qv,(qx 10 0),qs,(.tup [])]) (.sq (.rg [qm,qs,(qx 10 1),qs,(.tup [])]) (.sq (.rg [(qx 10 0),qb]) (.cd [.slot 41 qm, .slot 35 qn, .slot 5 qm, .slot 1 qn, .slot 0 qh] .lf .lf))))) (.rg [(.tup [])])) .lf) (.sq (.rg [qa,qb]) .lf))))))) (.rg [qn,qn]))))))) (.sq (.rg [qp]) (.sq (.sq (.rg [qm]) (.bk [.slot 11 qa] (.sq (.rg [qb,qb,qa,(.tup [(.c .bool),(.c .any),(.c .any)]),qb]) (.sq (.cd [.slot 11 qa] (.sq (.bk [.slot 57 qm, .slot 11 ql] (.sq (.rg [(.tup [(.c .str),(.c .str)]),qs,qs,qs,qs]) (.rg [qp,qs,qs,qv,ql,ql,ql]))) (.rg [(.tup [])])) .lf) (.sq (.rg [qa,qb]) .lf))))) (.sq (.rg [qa,(.tup [])]) (.sq (.rg []) .lf)))))))),[qh,qn],[10,7],[],look_Q36,rfl,rfl,rfl,rfl,by kernel_rfl⟩
noncomputable def znw:KC:=fun F L v h kr =>
wcons v <| ooH fun c49 c50 c51 r6 =>
wcons r6 <| ooH fun c52 c53 c54 r7 =>
wcons r7 fun a3 r8 =>
wnil r8 <|
v_len a3 <| oN fun c55 =>
wblock (fun(h7:FH) =>
kr (.tup []) h7) fun j2 =>
wloop (fun _ _ _ _ _ _ _ _ _ _=>none) (fun j3 (c9 c0 c1 c2 c3 c4 c5:Nat) (a0:IVal) (c12:Nat) (h0:FH) =>
nbl c9 c12 fun c56 =>
wif c56 (wblock (fun(c57 c58 c59 c60 c61 c62 c63 c64 c65 c66 c67 c68:Nat) (h8:FH) =>
nad c57 1 fun c69 =>
j3 c69 c58 c59 c60 c61 c62 c63 (.slice c64 c65 c66 c67) c68 h8) fun j4 =>
zab 1 a0 (iN c9) <| oH fun c70 c71 c72 =>
hld none c70 c71 c72 h0 <| oI fun c6 =>
wblock (fun(c73 c74 c75 c76 c77 c78 c79 c80 c81 c82 c83 c84:Nat) (h9:FH) =>
j4 c73 c74 c75 c76 c77 c78 c79 c80 c81 c82 c83 c84 h9) fun j5 =>
v_lss (iI c6) (iN 0) <| oB fun c85 =>
wblock (fun(c86 c87 c88 c89 c90 c91 c92 c93 c94 c95 c96 c97:Nat) (h10:FH) =>
j5 c86 c87 c88 c89 c90 c91 c92 c93 c94 c95 c96 c97 h10) fun j0 =>
wif c85 (wmul (wboth 0 (nae c2 4 fun c13 =>
hld none c0 c1 c13 h0 <| oP fun c10 =>
v_len (.p c10) <| oN fun c25 =>
hpush h0 (.cells zt5 5 0 false) fun c14 h11 =>
F 70 [(iI c6)] h11 <| ooA fun r4 h1 =>
ift (wchk F ⟨[],h1⟩ (.load none (.const (iH c0 c1 c13))) (.p c10)) <|
ift (wchk F ⟨[],h1⟩ (.buildSlice 5 1 [(.int .i64 0),(.str []),(.str []), .nilslice, .nilslice] [(0,5,(.const (.agg zt5)))]) (.slice c14 0 0 1)) <|
F 76 [(iH c3 c4 c5),(.agg r4)] h1 <| ooA fun r0 h2 =>
ift (wchk F ⟨[],h2⟩ (.load none (.const (iH c0 c1 c13))) (.p c10)) <|
ift (wchk F ⟨[],h2⟩ (.buildSlice 5 1 [(.int .i64 0),(.str []),(.str []), .nilslice, .nilslice] [(0,5,(.const (.agg zt5)))]) (.slice c14 0 0 1)) <|
zad 5 (.p c10) (.slice c14 0 0 1) h2 <| ooL fun c15 c16 c26 c27 h12 =>
nlt c25 c27 <|
nam c26 c25 5 fun c41 =>
nae c2 4 fun c42 =>
wle r0 5 <|
hwr h12 c15 c16 c41 r0 fun h13 =>
hwr h13 c0 c1 c42 [(.slice c15 c16 c26 c27)] fun h14 =>
some ([(iH c0 c1 c2),(iH c0 c1 c2),(iH c0 c1 c13),(.p c10),(iH c3 c4 c5),(iI c6),(.agg r4),(.agg r0),(iN c25),(.slice c14 0 0 1),(.slice c15 c16 c26 c27),(iH c15 c16 c41),(.tup []),(iH c0 c1 c2),(iH c0 c1 c42),(.tup [])],⟨[],h14⟩)) (nae c2 4 fun c17 =>
hld none c0 c1 c17 h0 <| oP fun c11 =>
v_len (.p c11) <| oN fun c28 =>
hpush h0 (.cells zt5 5 0 false) fun c18 h15 =>
F 70 [(iI c6)] h15 <| ooA fun r5 h3 =>
ift (wchk F ⟨[],h3⟩ (.load none (.const (iH c0 c1 c17))) (.p c11)) <|
ift (wchk F ⟨[],h3⟩ (.buildSlice 5 1 [(.int .i64 0),(.str []),(.str []), .nilslice, .nilslice] [(0,5,(.const (.agg zt5)))]) (.slice c18 0 0 1)) <|
F 76 [(iH c3 c4 c5),(.agg r5)] h3 <| ooA fun r1 h4 =>
ift (wchk F ⟨[],h4⟩ (.load none (.const (iH c0 c1 c17))) (.p c11)) <|
ift (wchk F ⟨[],h4⟩ (.buildSlice 5 1 [(.int .i64 0),(.str []),(.str []), .nilslice, .nilslice] [(0,5,(.const (.agg zt5)))]) (.slice c18 0 0 1)) <|
zad 5 (.p c11) (.slice c18 0 0 1) h4 <| ooL fun c19 c20 c29 c30 h16 =>
nlt c28 c30 <|
nam c29 c28 5 fun c43 =>
nae c2 4 fun c44 =>
hwr h16 c0 c1 c44 [(.slice c19 c20 c29 c30)] fun h17 =>
wle r1 5 <|
hwr h17 c19 c20 c43 r1 fun h18 =>
some ([(iH c0 c1 c2),(iH c0 c1 c2),(iH c0 c1 c17),(.p c11),(iH c3 c4 c5),(iI c6),(.agg r5),(.agg r1),(iN c28),(.slice c18 0 0 1),(.slice c19 c20 c29 c30),(iH c19 c20 c43),(.tup []),(iH c0 c1 c2),(iH c0 c1 c44),(.tup [])],⟨[],h18⟩))) fun r9 h19 =>
wcons r9 <| ooH fun _ _ _ r10 =>
wcons r10 <| ooH fun _ _ _ r11 =>
wcons r11 <| ooH fun _ _ _ r12 =>
wcons r12 <| ooP fun _ r13 =>
wcons r13 <| ooH fun _ _ _ r14 =>
wcons r14 <| ooI fun _ r15 =>
wcons r15 <| ooA fun _ r16 =>
wcons r16 <| ooA fun _ r17 =>
wcons r17 <| ooN fun _ r18 =>
wcons r18 <| ooL fun _ _ _ _ r19 =>
wcons r19 <| ooL fun _ _ _ _ r20 =>
wcons r20 <| ooH fun _ _ _ r21 =>
wcons r21 <| ooT fun r22 r23 =>
wnil r22 <|
wcons r23 <| ooH fun _ _ _ r24 =>
wcons r24 <| ooH fun _ _ _ r25 =>
wcons r25 <| ooT fun r26 r27 =>
wnil r26 <|
wnil r27 <|
tL a0 fun c98 c99 c100 c101 =>
j0 c9 c0 c1 c2 c3 c4 c5 c98 c99 c100 c101 c12 h19) <|
nae c5 14 fun c102 =>
nlt 0 2 <|
nam c102 0 1 fun c103 =>
hld none c3 c4 c103 h0 fun a4 =>
zab 6 a4 (iI c6) fun a5 =>
zaa 0 a5 fun a6 =>
zac none a6 ⟨[],h0⟩ <| oB fun c104 =>
bf (gnot c104) fun c7 =>
wgV (iB c7) true (vv (x_mov (iH c3 c4 c5))) fun a7 =>
wgV (iB c7) true (v_nil a7) fun a8 =>
wgV (iB c7) true (zaa 14 a8) fun a9 =>
wgV (iB c7) true (zpj 2 1 a9 (iN 1)) fun a10 =>
wgV (iB c7) true (zac none a10 ⟨[],h0⟩) fun a11 =>
wgV (iB c7) true (vv (x_mov (iI c6))) fun a12 =>
wgV (iB c7) true (zab 6 a11 a12) fun a13 =>
wgV (iB c7) true (zaa 0 a13) fun a14 =>
wgV (iB c7) true (zac none a14 ⟨[],h0⟩) fun a15 =>
wgV (iB c7) true (v_not a15) fun a16 =>
pk c7 a16 (iB false) <| oB fun c8 =>
wgV (iB c8) true (vv (x_mov (iH c3 c4 c5))) fun a17 =>
wgV (iB c8) true (v_nil a17) fun a18 =>
wgV (iB c8) true (zaa 21 a18) fun a19 =>
wgV (iB c8) true (zac none a19 ⟨[],h0⟩) fun a20 =>
wgV (iB c8) true (vv (x_mov (iI c6))) fun a21 =>
wgV (iB c8) true (zab 1 a20 a21) fun a22 =>
wgV (iB c8) true (zac none a22 ⟨[],h0⟩) fun a23 =>
wgV (iB c8) true (v_lss a23 (iN 2)) fun a24 =>
pk c8 a24 (iB false) <| oB fun c105 =>
wblock (fun(c106 c107 c108 c109 c110 c111 c112 c113 c114 c115 c116 c117:Nat) (h20:FH) =>
j0 c106 c107 c108 c109 c110 c111 c112 c113 c114 c115 c116 c117 h20) fun j1 =>
wif c105 (wmul (wboth 0 (nae c2 4 fun c31 =>
hld none c0 c1 c31 h0 fun a1 =>
v_len a1 <| oN fun c32 =>
hpush h0 (.cells zt5 5 0 false) fun c33 h21 =>
F 18 [(iH c3 c4 c5),(iI c6)] h21 <| ooA fun r2 h5 =>
ift (wchk F ⟨[],h5⟩ (.load none (.const (iH c0 c1 c31))) a1) <|
ift (wchk F ⟨[],h5⟩ (.buildSlice 5 1 [(.int .i64 0),(.str []),(.str []), .nilslice, .nilslice] [(0,5,(.const (.agg zt5)))]) (.slice c33 0 0 1)) <|
zad 5 a1 (.slice c33 0 0 1) h5 <| ooL fun c21 c22 c34 c35 h22 =>
nlt c32 c35 <|
nam c34 c32 5 fun c45 =>
nae c2 4 fun c46 =>
wle r2 5 <|
hwr h22 c21 c22 c45 r2 fun h23 =>
hwr h23 c0 c1 c46 [(.slice c21 c22 c34 c35)] fun h24 =>
some ([(iH c0 c1 c2),(iH c0 c1 c2),(iH c0 c1 c31),a1,(iH c3 c4 c5),(iI c6),(.agg r2),(iN c32),(.slice c33 0 0 1),(.slice c21 c22 c34 c35),(iH c21 c22 c45),(.tup []),(iH c0 c1 c2),(iH c0 c1 c46),(.tup [])],⟨[],h24⟩)) (nae c2 4 fun c36 =>
hld none c0 c1 c36 h0 fun a2 =>
v_len a2 <| oN fun c37 =>
hpush h0 (.cells zt5 5 0 false) fun c38 h25 =>
F 18 [(iH c3 c4 c5),(iI c6)] h25 <| ooA fun r3 h6 =>
ift (wchk F ⟨[],h6⟩ (.load none (.const (iH c0 c1 c36))) a2) <|
ift (wchk F ⟨[],h6⟩ (.buildSlice 5 1 [(.int .i64 0),(.str []),(.str []), .nilslice, .nilslice] [(0,5,(.const (.agg zt5)))]) (.slice c38 0 0 1)) <|
zad 5 a2 (.slice c38 0 0 1) h6 <| ooL fun c23 c24 c39 c40 h26 =>
nlt c37 c40 <|
nam c39 c37 5 fun c47 =>
nae c2 4 fun c48 =>
hwr h26 c0 c1 c48 [(.slice c23 c24 c39 c40)] fun h27 =>
wle r3 5 <|
hwr h27 c23 c24 c47 r3 fun h28 =>
some ([(iH c0 c1 c2),(iH c0 c1 c2),(iH c0 c1 c36),a2,(iH c3 c4 c5),(iI c6),(.agg r3),(iN c37),(.slice c38 0 0 1),(.slice c23 c24 c39 c40),(iH c23 c24 c47),(.tup []),(iH c0 c1 c2),(iH c0 c1 c48),(.tup [])],⟨[],h28⟩))) fun r28 h29 =>
wcons r28 <| ooH fun _ _ _ r29 =>
wcons r29 <| ooH fun _ _ _ r30 =>
wcons r30 <| ooH fun _ _ _ r31 =>
wcons r31 fun _ r32 =>
wcons r32 <| ooH fun _ _ _ r33 =>
wcons r33 <| ooN fun _ r34 =>
wcons r34 <| ooA fun _ r35 =>
wcons r35 <| ooN fun _ r36 =>
wcons r36 <| ooL fun _ _ _ _ r37 =>
wcons r37 <| ooL fun _ _ _ _ r38 =>
wcons r38 <| ooH fun _ _ _ r39 =>
wcons r39 <| ooT fun r40 r41 =>
wnil r40 <|
wcons r41 <| ooH fun _ _ _ r42 =>
wcons r42 <| ooH fun _ _ _ r43 =>
wcons r43 <| ooT fun r44 r45 =>
wnil r44 <|
wnil r45 <|
tL a0 fun c118 c119 c120 c121 =>
j1 c9 c0 c1 c2 c3 c4 c5 c118 c119 c120 c121 c12 h29) <|
tL a0 fun c122 c123 c124 c125 =>
j1 c9 c0 c1 c2 c3 c4 c5 c122 c123 c124 c125 c12 h0) <|
j2 h0) L 0 c52 c53 c54 c49 c50 c51 a3 c55 h
noncomputable def zga:KFun:=⟨znw,false,false⟩
theorem zku:KOK tr.look F_Q37 zga:=⟨i_Q37,(.sq (.rg [qa,qn,qn]) (.bk [] (.lp [.slot 10 qn, .slot 1 qh, .slot 0 qh, .slot 8 qa, .slot 9 qn] (.sq (.rg [qb]) (.sq (.cj .lf .lf) (.sq (.bk [.slot 10 qn, .slot 1 qh, .slot 0 qh, .slot 8 ql, .slot 9 qn] (.sq (.rg [qh,qi,qi]) (.bk [.slot 10 qn, .slot 1 qh, .slot 0 qh, .slot 8 ql, .slot 9 qn] (.sq (.rg [qi,qb,qb]) (.cd [.slot 10 qn, .slot 1 qh, .slot 0 qh, .slot 8 ql, .slot 9 qn] (.rg [qh,qh,qh,qp,qh,qi,qv,qv,qn,ql,ql,qh,(.tup []),qh,qh,(.tup [])]) (.sq (.rg [qh,qh,qh,qh,qa,qn,qa,qa,qb,qb,qb,qa,qa,qa,qa,qa,qa,qa,qa,qa,qa,qb,qb,qa,qa,qa,qa,qa,qa,qa,qa,qb,qb]) (.cd [.slot 10 qn, .slot 1 qh, .slot 0 qh, .slot 8 ql, .slot 9 qn] (.rg [qh,qh,qh,qa,qh,qn,qv,qn,ql,ql,qh,(.tup []),qh,qh,(.tup [])]) .lf))))))) (.rg [qn,qn]))))))),[qh,qh,qa],[],[],look_Q37,rfl,rfl,rfl,rfl,by kernel_rfl⟩
noncomputable def zio:KC:=fun F _ v h kr =>
wcons v <| ooA fun r0 r2 =>
wcons r2 <| ooA fun r1 r3 =>
wnil r3 <|
wle r0 2 <|
wle r1 2 <|
wg 0 r0 <| oN fun c0 =>
wg 0 r1 <| oN fun c1 =>
F 40 [(iN c0),(iN c1)] h <| ooN fun c2 h0 =>
kr (iN c2) h0
noncomputable def zdg:KFun:=⟨zio,true,false⟩
theorem zgt:KOK tr.look F_Q39 zdg:=⟨i_Q39,(.sq (.rg [(qx 2 0),(qx 3 0),qn]) (.sq (.rg [(qx 2 0),qn,(qx 3 0),qn,qn,qn]) .lf)),[qv,qv],[2,3],[],look_Q39,rfl,rfl,rfl,rfl,by kernel_rfl⟩
noncomputable def zrn:KC:=fun F _ v h kr =>
wcons v <| ooN fun c0 r0 =>
wcons r0 <| ooN fun c1 r1 =>
wnil r1 <|
F 78 [(iN c0)] h <| ooB fun c2 h1 =>
F 78 [(iN c1)] h1 <| ooB fun c3 h0 =>
wif c2 ((none:WR)) <|
wif c3 ((none:WR)) <|
nbl c0 c1 fun c4 =>
wif c4 (kr (iI (-1)) h0) <|
nbl c1 c0 fun c5 =>
wif c5 (kr (iN 1) h0) <|
(none:WR)
noncomputable def zhm:KFun:=⟨zrn,true,false⟩
theorem znx:KOK tr.look F_Q40 zhm:=⟨i_Q40,(.sq (.rg [qn]) (.sq (.rg [qn,qb,qb]) (.sq (.rg [qn,qb,qb]) (.sq (.sq (.rg [qb]) (.cj (.sq (.sq .lf (.cj (.sq .lf .lf) .lf)) (.sq .lf .lf)) .lf)) (.sq (.sq (.rg [qb]) (.cj (.sq .lf .lf) .lf)) (.sq (.sq (.rg [qn,qn,qb]) (.cj (.sq (.rg [qi]) .lf) .lf)) (.sq (.sq (.rg [qn,qn,qb]) (.cj (.sq (.rg [qn]) .lf) .lf)) (.sq .lf .lf)))))))),[qn,qn],[],[],look_Q40,rfl,rfl,rfl,rfl,by kernel_rfl⟩
noncomputable def zadw:KC:=fun F L v h kr =>
wcons v <| ooA fun r0 r6 =>
wcons r6 <| ooA fun r2 r7 =>
wcons r7 <| ooP fun c6 r8 =>
wnil r8 <|
wle r0 5 <|
wle r2 5 <|
wcut r0 0 5 fun r9 =>
wcut r2 0 5 fun r10 =>
F 64 [(.agg r9),(.agg r10),(.p c6)] h <| ooB fun c95 h7 =>
bf (gnot c95) fun c96 =>
wif c96 ((none:WR)) <|
wcut r0 0 5 fun r11 =>
F 27 [(.agg r11)] h7 <| ooP fun c7 h8 =>
wcut r2 0 5 fun r12 =>
F 27 [(.agg r12)] h8 <| ooP fun c97 h9 =>
hpush h9 (.map [] 0) fun c98 h10 =>
v_len (.p c7) <| oN fun c99 =>
hpush h10 (.cells [(.p .nilptr),(.p c97),(.map c98),(iN c99),(.p .nilslice),(iB false)] 6 0 false) fun c30 h11 =>
wcut r0 0 5 fun r13 =>
F 79 [(.agg r13)] h11 <| ooT fun r14 h12 =>
wcons r14 <| ooH fun c100 c101 c102 r15 =>
wcons r15 <| ooN fun _ r16 =>
wnil r16 <|
hwr h12 c30 0 0 [(iH c100 c101 c102)] fun h13 =>
v_len (.p c7) <| oN fun c31 =>
zbw 1 [(.bool false)] (iN c31) (iN c31) h13 <| ooL fun c32 c33 c34 c5 h14 =>
zbw 1 [(.bool false)] (iN c5) (iN c5) h14 <| ooL fun c35 c36 c37 c38 h15 =>
zaay 1 (.slice c35 c36 c37 c38) (.slice c32 c33 c34 c5) h15 <| ooN fun _ h16 =>
v_len (.p c6) <| oN fun c103 =>
wblock (fun(c104 c105 c106 c107 c108 c109 c110 c111 c112 c113 c114:Nat) (r17:LI) (h17:FH) =>
wcut r17 0 5 fun r18 =>
F 58 [(.agg r18)] h17 <| ooP fun c8 h18 =>
v_len (.p c8) <| oN fun c115 =>
wblock (fun(c116 c117 c118:Nat) (c119:PVal) (c120 c121 c122 c123 c124 c125 c126 c127:Nat) (h19:FH) =>
wblock (fun(c39:PVal) (c128 c129 c130 c131 c132 c133 c134 c135 c136 c137 c138:Nat) (h20:FH) =>
v_len (.p c39) <| oN fun c139 =>
wblock (fun(c40 c41 c42:Nat) (h4:FH) =>
nae c42 5 fun c140 =>
hld none c40 c41 c140 h4 <| oB fun c141 =>
wif c141 ((none:WR)) <|
nae c42 4 fun c142 =>
hld none c40 c41 c142 h4 fun a0 =>
ift (passB a0) <|
kr (.tup [a0,(iN 0)]) h4) fun j0 =>
wloop (fun _ _ _ _ _ _ _ _ _ _ _ _ _ _ _=>none) (fun j1 (c9 c43 c44 c45 c46 c47 c48 c49 c50 c51 c52 c53:Nat) (c54:PVal) (c55:Nat) (h0:FH) =>
nbl c9 c55 fun c143 =>
wif c143 (wblock (fun(c144 c145 c146 c147 c148 c149 c150 c151 c152 c153 c154 c155:Nat) (c156:PVal) (c157:Nat) (h21:FH) =>
nad c144 1 fun c158 =>
j1 c158 c145 c146 c147 c148 c149 c150 c151 c152 c153 c154 c155 c156 c157 h21) fun j2 =>
zab 1 (.p c54) (iN c9) <| oP fun c159 =>
zac none (.p c159) ⟨[],h0⟩ <| oN fun c10 =>
nlt c10 c53 <|
nam c52 c10 1 fun c160 =>
hld none c50 c51 c160 h0 <| oB fun c0 =>
wgV (iB c0) true (vv (x_mov (.slice c46 c47 c48 c49))) fun a1 =>
wgV (iB c0) true (vv (x_mov (iN c10))) fun a2 =>
wgV (iB c0) true (zab 1 a1 a2) fun a3 =>
wgV (iB c0) true (zac none a3 ⟨[],h0⟩) fun a4 =>
wgV (iB c0) true (v_not a4) fun a5 =>
pk c0 a5 (iB false) <| oB fun c161 =>
wblock (fun(c162 c163 c164 c165 c166 c167 c168 c169 c170 c171 c172 c173:Nat) (c174:PVal) (c175:Nat) (h22:FH) =>
j2 c162 c163 c164 c165 c166 c167 c168 c169 c170 c171 c172 c173 c174 c175 h22) fun j3 =>
wif c161 ((none:WR)) <|
j3 c9 c43 c44 c45 c46 c47 c48 c49 c50 c51 c52 c53 c54 c55 h0) <|
j0 c43 c44 c45 h0) L 0 c128 c129 c130 c131 c132 c133 c134 c135 c136 c137 c138 c39 c139 h20) fun j4 =>
wloop (fun _ _ _ _ _ _ _ _ _ _ _ _ _ _=>none) (fun j5 (c11 c2 c3 c4:Nat) (c56:PVal) (c57 c58 c59 c60 c61 c62 c63 c64:Nat) (h1:FH) =>
nae c4 1 fun c176 =>
hld none c2 c3 c176 h1 <| oP fun c177 =>
v_len (.p c177) <| oN fun c178 =>
nbl c11 c178 fun c1 =>
wgV (iB c1) true (vv (x_mov (iH c2 c3 c4))) fun a6 =>
wgV (iB c1) true (v_nil a6) fun a7 =>
wgV (iB c1) true (zaa 5 a7) fun a8 =>
wgV (iB c1) true (zac none a8 ⟨[],h1⟩) fun a9 =>
wgV (iB c1) true (v_not a9) fun a10 =>
pk c1 a10 (iB false) <| oB fun c179 =>
wif c179 (wblock (fun(c180 c181 c182 c183:Nat) (c184:PVal) (c185 c186 c187 c188 c189 c190 c191 c192:Nat) (h23:FH) =>
nad c180 1 fun c193 =>
j5 c193 c181 c182 c183 c184 c185 c186 c187 c188 c189 c190 c191 c192 h23) fun j6 =>
F 81 [(iH c2 c3 c4),(iN c11)] h1 <| ooT fun r19 h24 =>
wnil r19 <|
j6 c11 c2 c3 c4 c56 c57 c58 c59 c60 c61 c62 c63 c64 h24) <|
j4 c56 c2 c3 c4 c57 c58 c59 c60 c61 c62 c63 c64 h1) L 1 c116 c117 c118 c119 c120 c121 c122 c123 c124 c125 c126 c127 h19) fun j7 =>
wloop (fun _ _ _ _ _ _ _ _ _ _ _ _ _ _ _ _=>none) (fun j8 (c12 c65 c66 c67 c13 c14 c15 c16:Nat) (c68 c69:PVal) (c70 c71 c72 c73 c74:Nat) (h2:FH) =>
nbl c12 c74 fun c194 =>
wif c194 (wblock (fun(c195 c196 c197 c198 c199 c200 c201 c202:Nat) (c203 c204:PVal) (c205 c206 c207 c208 c209:Nat) (h25:FH) =>
nad c195 1 fun c210 =>
j8 c210 c196 c197 c198 c199 c200 c201 c202 c203 c204 c205 c206 c207 c208 c209 h25) fun j9 =>
zab 1 (.p c68) (iN c12) <| oP fun c211 =>
zac none (.p c211) ⟨[],h2⟩ <| oN fun c75 =>
nlt c75 c16 <|
nam c15 c75 1 fun c212 =>
hld none c13 c14 c212 h2 <| oB fun c213 =>
bf (gnot c213) fun c214 =>
wblock (fun(c215 c216 c217 c218 c219 c220 c221 c222:Nat) (c223 c224:PVal) (c225 c226 c227 c228 c229:Nat) (h26:FH) =>
j9 c215 c216 c217 c218 c219 c220 c221 c222 c223 c224 c225 c226 c227 c228 c229 h26) fun j10 =>
wif c214 ((none:WR)) <|
j10 c12 c65 c66 c67 c13 c14 c15 c16 c68 c69 c70 c71 c72 c73 c74 h2) <|
j7 c65 c66 c67 c69 c70 c71 c72 c73 c13 c14 c15 c16 h2) L 0 c104 c105 c106 c107 c108 c109 c110 c8 c8 c111 c112 c113 c114 c115 h18) fun j11 =>
wloop (fun _ _ _ _ _ _ _ _ _ _ _ _ _ _ _ _ _=>none) (fun j12 (c17 c76 c77 c78 c79:Nat) (c230:PVal) (c18 c19 c20 c21 c22 c23 c24:Nat) (c80:PVal) (c81:Nat) (r3:LI) (h3:FH) =>
nbl c17 c81 fun c231 =>
wif c231 (wblock (fun(c232 c233 c234 c235 c236:Nat) (c237:PVal) (c238 c239 c240 c241 c242 c243 c244:Nat) (c245:PVal) (c246:Nat) (r20:LI) (h27:FH) =>
nad c232 1 fun c247 =>
j12 c247 c233 c234 c235 c236 c237 c238 c239 c240 c241 c242 c243 c244 c245 c246 r20 h27) fun j13 =>
zab 2 (.p c80) (iN c17) <| oP fun c248 =>
zac (some 2) (.p c248) ⟨[nb_ 13,b_ 3 r3 5],h3⟩ <| oA fun r1 =>
wle r1 2 <|
nae c24 2 fun c249 =>
hld none c22 c23 c249 h3 <| oM fun c250 =>
wg 1 r1 <| oN fun c251 =>
wg 0 r1 <| oN fun c252 =>
zbp ⟨false,[.int]⟩ (.map c250) (iN c251) (iN c252) h3 <| ooT fun r21 h28 =>
wnil r21 <|
wg 0 r1 <| oN fun c82 =>
nlt c82 c21 <|
nam c20 c82 1 fun c253 =>
hwr h28 c18 c19 c253 [(iB true)] fun h29 =>
wg 0 r1 <| oN fun c254 =>
wblock (fun(c255 c256 c257 c258 c259:Nat) (c260:PVal) (c261 c262 c263 c264 c265 c266 c267:Nat) (c268:PVal) (c269:Nat) (r22:LI) (h30:FH) =>
j13 c255 c256 c257 c258 c259 c260 c261 c262 c263 c264 c265 c266 c267 c268 c269 r22 h30) fun j14 =>
wloop (fun _ _ _ _ _ _ _ _ _ _ _ _ _ _ _ _ _ _=>none) (fun j15 (c25:Int) (c83:PVal) (c26 c27 c28 c29 c84 c85 c86 c87 c88 c89 c90 c91:Nat) (c92:PVal) (c93:Nat) (r4:LI) (h5:FH) =>
v_geq (iI c25) (iN 0) <| oB fun c270 =>
wif c270 (wblock (fun(c271:Nat) (c94:PVal) (c272 c273 c274 c275 c276 c277 c278 c279 c280 c281 c282 c283:Nat) (c284:PVal) (c285:Nat) (r5:LI) (h6:FH) =>
zab 10 (.p c94) (iN c271) <| oP fun c286 =>
zaa 0 (.p c286) <| oP fun c287 =>
zac none (.p c287) ⟨[b_ 3 r5 5],h6⟩ <| oI fun c288 =>
j15 c288 c94 c272 c273 c274 c275 c276 c277 c278 c279 c280 c281 c282 c283 c284 c285 r5 h6) fun j16 =>
zab 1 (.slice c26 c27 c28 c29) (iI c25) <| oH fun c289 c290 c291 =>
hwr h5 c289 c290 c291 [(iB true)] fun h31 =>
tN (iI c25) fun c292 =>
j16 c292 c83 c26 c27 c28 c29 c84 c85 c86 c87 c88 c89 c90 c91 c92 c93 r4 h31) <|
j14 c84 c26 c27 c28 c29 c83 c85 c86 c87 c88 c89 c90 c91 c92 c93 r4 h5) L (.ofNat c254) c230 c76 c77 c78 c79 c17 c18 c19 c20 c21 c22 c23 c24 c80 c81 r3 h29) <|
j11 c22 c23 c24 c76 c77 c78 c79 c18 c19 c20 c21 r3 h3) L 0 c32 c33 c34 c5 c7 c35 c36 c37 c38 c30 0 0 c6 c103 r0 h16
noncomputable def zpy:KFun:=⟨zadw,true,true⟩
theorem zxk:KOK tr.look F_Q41 zpy:=⟨i_Q41,(.sq (.rg [(qx 3 0),(qx 4 0),qp,qn]) (.sq (.sq (.rg [qv,qv,qp,qb,qb]) (.cj (.sq .lf .lf) .lf)) (.sq (.rg [qv,qp,qp]) (.sq (.rg [qv,qp,qm,qp,qn,qv,qh,qh]) (.sq (.rg [qh,qv,(.tup [(.c .hp),(.c .nat)]),(.tup [(.c .hp),(.c .nat)]),qh,qn,qh,qh,(.tup [])]) (.sq (.rg [qp,qn,ql,ql]) (.sq (.rg [ql,qn,ql,ql]) (.sq (.rg [ql,ql,qn]) (.sq (.sq (.rg [qp,qn,qn]) (.bk [sx 3, .slot 9 qh, .slot 10 ql, .slot 11 ql,bl 3 5] (.lp [.slot 54 qn, .slot 10 ql, .slot 8 qp, .slot 11 ql, .slot 9 qh, .slot 52 qp,sx 3, .slot 53 qn,bl 3 5] (.sq (.rg [qb]) (.sq (.cj .lf .lf) (.sq (.bk [.slot 54 qn, .slot 10 ql, .slot 8 qp, .slot 11 ql, .slot 9 qh, .slot 52 qp,sx 3, .slot 53 qn,bl 3 5] (.sq (.rg [qp,qv,(qx 13 0),(.tup [])]) (.sq (.rg [qh,qh,qh,qm,(qx 13 1),qn,(qx 13 0),qn,(.tup [])]) (.sq (.rg [ql,(qx 13 0),qn,qh,(.tup [])]) (.sq (.rg [(qx 13 0),qn,qn]) (.bk [.slot 54 qn, .slot 10 ql, .slot 8 qp, .slot 11 ql, .slot 9 qh, .slot 52 qp,sx 3, .slot 53 qn,bl 3 5] (.lp [.slot 14 qi, .slot 8 qp, .slot 10 ql, .slot 54 qn, .slot 11 ql, .slot 9 qh, .slot 52 qp,sx 3, .slot 53 qn,bl 3 5] (.sq (.sq (.rg [qi,qb]) (.cj .lf .lf)) (.sq (.bk [.slot 14 qn, .slot 8 qp, .slot 10 ql, .slot 54 qn, .slot 11 ql, .slot 9 qh, .slot 52 qp,sx 3, .slot 53 qn,bl 3 5] (.rg [ql,qn,qh,(.tup [])])) (.rg [qp,qn,qp,qp,qi,qi])))))))))) (.rg [qn,qn]))))))) (.sq (.rg [qv,qp,qp]) (.sq (.sq (.rg [qp,qn,qn]) (.bk [.slot 9 qh, .slot 15 qp, .slot 11 ql, .slot 10 ql] (.lp [.slot 87 qn, .slot 9 qh, .slot 10 ql, .slot 85 qp, .slot 15 qp, .slot 11 ql, .slot 86 qn] (.sq (.rg [qb]) (.sq (.cj .lf .lf) (.sq (.bk [.slot 87 qn, .slot 9 qh, .slot 10 ql, .slot 85 qp, .slot 15 qp, .slot 11 ql, .slot 86 qn] (.sq (.rg [qp,qn,qn]) (.sq (.rg [ql,qn,qh,qb,qb]) (.cd [.slot 87 qn, .slot 9 qh, .slot 10 ql, .slot 85 qp, .slot 15 qp, .slot 11 ql, .slot 86 qn] .lf .lf)))) (.rg [qn,qn]))))))) (.sq (.sq (.rg [qn]) (.bk [.slot 15 qp, .slot 9 qh, .slot 11 ql, .slot 10 ql] (.lp [.slot 18 qn, .slot 9 qh, .slot 15 qp, .slot 11 ql, .slot 10 ql] (.sq (.sq (.rg [qn,qh,qh,qh,qp,qn,qb,qb,qa,qa,qa,qa,qa,qb]) (.cj .lf .lf)) (.sq (.bk [.slot 18 qn, .slot 9 qh, .slot 15 qp, .slot 11 ql, .slot 10 ql] (.rg [qh,qn,(.tup [])])) (.rg [qn,qn,qn])))))) (.sq (.sq (.rg [qp,qn,qn]) (.bk [.slot 9 qh] (.lp [.slot 122 qn, .slot 9 qh, .slot 11 ql, .slot 10 ql, .slot 120 qp, .slot 121 qn] (.sq (.rg [qb]) (.sq (.cj .lf .lf) (.sq (.bk [.slot 122 qn, .slot 9 qh, .slot 11 ql, .slot 10 ql, .slot 120 qp, .slot 121 qn] (.sq (.rg [qp,qn,qn]) (.sq (.rg [ql,qn,qh,qb,qb,qa,qa,qa,qa,qa,qb]) (.cd [.slot 122 qn, .slot 9 qh, .slot 11 ql, .slot 10 ql, .slot 120 qp, .slot 121 qn] .lf .lf)))) (.rg [qn,qn]))))))) (.sq (.sq (.rg [qh,qh,qh,qb]) (.cj (.sq .lf .lf) .lf)) (.sq (.rg [qh,qh,qh,qa,qa,qn]) .lf))))))))))))))),[qv,qv,qp],[13,3,4],[],look_Q41,rfl,rfl,rfl,rfl,by kernel_rfl⟩
noncomputable def zadx:KC:=fun _ L v h kr =>
wcons v <| ooP fun c4 r0 =>
wnil r0 <|
v_len (.p c4) <| oN fun c5 =>
wblock (fun(a1:IVal) (h1:FH) =>
ift (passB a1) <|
kr a1 h1) fun j1 =>
wloop (fun _ _ _ _ _=>none) (fun j2 (c0:Nat) (a0:IVal) (c1:PVal) (c2:Nat) (h0:FH) =>
nbl c0 c2 fun c6 =>
wif c6 (wblock (fun(c7 c8 c9 c10 c11:Nat) (c12:PVal) (c13:Nat) (h2:FH) =>
nad c7 1 fun c14 =>
j2 c14 (.slice c8 c9 c10 c11) c12 c13 h2) fun j3 =>
zab 1 (.p c1) (iN c0) <| oP fun c15 =>
zac none (.p c15) ⟨[],h0⟩ <| oI fun c3 =>
v_lss (iI c3) (iN 0) <| oB fun c16 =>
wblock (fun(a2:IVal) (c17:Int) (c18:Nat) (c19:PVal) (c20:Nat) (h3:FH) =>
hpush h3 (.cells [(iI c17)] 1 0 false) fun c21 h4 =>
zad 1 a2 (.slice c21 0 0 1) h4 <| ooL fun c22 c23 c24 c25 h5 =>
j3 c18 c22 c23 c24 c25 c19 c20 h5) fun j0 =>
wif c16 (v_sub (iI c3) (iN 1048576) <| oI fun c26 =>
j0 a0 c26 c0 c1 c2 h0) <|
j0 a0 c3 c0 c1 c2 h0) <|
j1 a0 h0) L 0 (.p .nilslice) c4 c5 h
noncomputable def zpz:KFun:=⟨zadx,true,false⟩
theorem zxl:KOK tr.look F_Q42 zpz:=⟨i_Q42,(.sq (.rg [qp]) (.sq (.rg [qp]) (.sq (.sq (.rg [qp,qn,qn]) (.bk [.slot 3 qa] (.lp [.slot 8 qn, .slot 3 qa, .slot 6 qp, .slot 7 qn] (.sq (.rg [qb]) (.sq (.cj .lf .lf) (.sq (.bk [.slot 8 qn, .slot 3 ql, .slot 6 qp, .slot 7 qn] (.sq (.rg [qp,qi,qi]) (.sq (.sq (.rg [qi,qb]) (.cd [.slot 3 qa, .slot 5 qi, .slot 8 qn, .slot 6 qp, .slot 7 qn] (.rg [qi,qi,qi]) .lf)) (.rg [qa,qi,ql,ql,ql])))) (.rg [qn,qn]))))))) (.sq (.rg []) .lf)))),[qp],[],[],look_Q42,rfl,rfl,rfl,rfl,by kernel_rfl⟩
noncomputable def zakh:KC:=fun _ L v h kr =>
wcons v fun a0 r0 =>
wnil r0 <|
hpush h (.map [] 0) fun c3 h1 =>
v_len a0 <| oN fun c4 =>
wblock (fun(c5:Nat) (h2:FH) =>
kr (.map c5) h2) fun j0 =>
wloop (fun _ _ _ _ _=>none) (fun j1 (c0 c1:Nat) (a1:IVal) (c2:Nat) (h0:FH) =>
nbl c0 c2 fun c6 =>
wif c6 (wblock (fun(c7 c8:Nat) (a2:IVal) (c9:Nat) (h3:FH) =>
nad c7 1 fun c10 =>
j1 c10 c8 a2 c9 h3) fun j2 =>
zab 1 a1 (iN c0) fun a3 =>
zac none a3 ⟨[],h0⟩ <| oI fun c11 =>
zbp ⟨false,[.int]⟩ (.map c1) (iI c11) (iB true) h0 <| ooT fun r1 h4 =>
wnil r1 <|
j2 c0 c1 a1 c2 h4) <|
j0 c1 h0) L 0 c3 a0 c4 h1
noncomputable def zxm:KFun:=⟨zakh,false,false⟩
theorem zady:KOK tr.look F_Q43 zxm:=⟨i_Q43,(.sq (.rg [qp]) (.sq (.rg [qm,qm]) (.sq (.sq (.rg [qa,qn,qn]) (.bk [.slot 3 qm] (.lp [.slot 9 qn, .slot 3 qm, .slot 7 qa, .slot 8 qn] (.sq (.rg [qb]) (.sq (.cj .lf .lf) (.sq (.bk [.slot 9 qn, .slot 3 qm, .slot 7 qa, .slot 8 qn] (.sq (.rg [qa,qi,qi]) (.rg [qm,qi,(.tup [])]))) (.rg [qn,qn]))))))) (.sq (.rg [qm,qm]) .lf)))),[qa],[],[],look_Q43,rfl,rfl,rfl,rfl,by kernel_rfl⟩
noncomputable def zxn:KC:=fun _ _ v h kr =>
wcons v <| ooI fun c2 r0 =>
wcons r0 <| ooH fun c3 c4 c5 r1 =>
wcons r1 <| ooH fun c6 c7 c8 r2 =>
wcons r2 <| ooH fun c9 c10 c11 r3 =>
wnil r3 <|
hld none c3 c4 c5 h <| oM fun c12 =>
zaj false (.p (.bool false)) ⟨false,[.int]⟩ (.map c12) (iI c2) h <| ooB fun c0 h0 =>
wgV (iB c0) true (zac none (iH c6 c7 c8) ⟨[],h0⟩) fun a0 =>
wgV (iB c0) true (vv (x_mov (iI c2))) fun a1 =>
wgH (iB c0) true (zaj false (.p (.bool false)) ⟨false,[.int]⟩ a0 a1) h0 fun a2 h1 =>
pk c0 a2 (iB false) <| oB fun c1 =>
wgV (iB c1) true (zac none (iH c9 c10 c11) ⟨[],h1⟩) fun a3 =>
wgV (iB c1) true (vv (x_mov (iI c2))) fun a4 =>
wgH (iB c1) true (zaj false (.p (.bool false)) ⟨false,[.int]⟩ a3 a4) h1 fun a5 h2 =>
pk c1 a5 (iB false) <| oB fun c13 =>
kr (iB c13) h2
noncomputable def zkv:KFun:=⟨zxn,false,false⟩
theorem zro:KOK tr.look F_Q44 zkv:=⟨i_Q44,(.sq (.rg [qb]) (.sq (.rg [qm,qi,qb,qb,qa,qa,qa,qb,qb,qa,qa,qa,qb,qb]) .lf)),[qi,qh,qh,qh],[],[],look_Q44,rfl,rfl,rfl,rfl,by kernel_rfl⟩
noncomputable def zahf:KC:=fun F L v h kr =>
wcons v fun a3 r0 =>
wcons r0 fun a5 r1 =>
wnil r1 <|
v_len a3 <| oN fun c3 =>
wblock (fun(a4:IVal) (h2:FH) =>
ift (passB a4) <|
kr a4 h2) fun j1 =>
wloop (fun _ _ _ _ _ _=>none) (fun j2 (c0:Nat) (a0 a1 a2:IVal) (c1:Nat) (h0:FH) =>
nbl c0 c1 fun c4 =>
wif c4 (wblock (fun(c5:Nat) (a6 a7 a8:IVal) (c6:Nat) (h3:FH) =>
nad c5 1 fun c7 =>
j2 c7 a6 a7 a8 c6 h3) fun j3 =>
zab 1 a2 (iN c0) fun a9 =>
zac none a9 ⟨[],h0⟩ <| oI fun c2 =>
wapp a1 [(iI c2)] F h0 <| ooB fun c8 h1 =>
wblock (fun(c9:Nat) (a10 a11 a12:IVal) (c10:Nat) (h4:FH) =>
j3 c9 a10 a11 a12 c10 h4) fun j0 =>
wif c8 (hpush h1 (.cells [(iI c2)] 1 0 false) fun c11 h5 =>
zad 1 a0 (.slice c11 0 0 1) h5 <| ooL fun c12 c13 c14 c15 h6 =>
j0 c0 (.slice c12 c13 c14 c15) a1 a2 c1 h6) <|
j0 c0 a0 a1 a2 c1 h1) <|
j1 a0 h0) L 0 (.p .nilslice) a5 a3 c3 h
noncomputable def zta:KFun:=⟨zahf,false,false⟩
theorem zza:KOK tr.look F_Q45 zta:=⟨i_Q45,(.sq (.rg [qp]) (.sq (.rg [qp]) (.sq (.sq (.rg [qa,qn,qn]) (.bk [.slot 5 qa] (.lp [.slot 10 qn, .slot 5 qa, .slot 1 qa, .slot 8 qa, .slot 9 qn] (.sq (.rg [qb]) (.sq (.cj .lf .lf) (.sq (.bk [.slot 10 qn, .slot 5 qa, .slot 1 qa, .slot 8 qa, .slot 9 qn] (.sq (.rg [qa,qi,qi]) (.sq (.rg [qa,qi,qb]) (.cd [.slot 10 qn, .slot 5 qa, .slot 1 qa, .slot 8 qa, .slot 9 qn] (.rg [qa,qn,ql,ql,ql]) .lf)))) (.rg [qn,qn]))))))) (.sq (.rg []) .lf)))),[qa,qa],[],[],look_Q45,rfl,rfl,rfl,rfl,by kernel_rfl⟩
noncomputable def ziz:KC:=fun _ L v h kr =>
wcons v <| ooP fun c1 r0 =>
wcons r0 <| ooP fun c2 r1 =>
wnil r1 <|
v_len (.p c1) <| oN fun c6 =>
v_len (.p c2) <| oN fun c7 =>
bf (gnot (Nat.beq c6 c7)) fun c8 =>
wif c8 ((none:WR)) <|
v_len (.p c1) <| oN fun c9 =>
wblock (fun(h1:FH) =>
kr (iB true) h1) fun j0 =>
wloop (fun _ _ _ _ _=>none) (fun j1 (c0:Nat) (c3 c4:PVal) (c5:Nat) (h0:FH) =>
nbl c0 c5 fun c10 =>
wif c10 (wblock (fun(c11:Nat) (c12 c13:PVal) (c14:Nat) (h2:FH) =>
nad c11 1 fun c15 =>
j1 c15 c12 c13 c14 h2) fun j2 =>
zab 1 (.p c3) (iN c0) <| oP fun c16 =>
zac none (.p c16) ⟨[],h0⟩ <| oN fun c17 =>
zab 1 (.p c4) (iN c0) <| oP fun c18 =>
zac none (.p c18) ⟨[],h0⟩ <| oN fun c19 =>
bf (gnot (Nat.beq c17 c19)) fun c20 =>
wif c20 ((none:WR)) <|
j2 c0 c3 c4 c5 h0) <|
j0 h0) L 0 c1 c2 c9 h
noncomputable def zdn:KFun:=⟨ziz,true,false⟩
theorem zhn:KOK tr.look F_Q46 zdn:=⟨i_Q46,(.sq (.rg [qb]) (.sq (.sq (.rg [qp,qn,qp,qn,qb]) (.cj (.sq .lf .lf) .lf)) (.sq (.sq (.rg [qp,qn,qn]) (.bk [] (.lp [.slot 13 qn, .slot 0 qp, .slot 1 qp, .slot 12 qn] (.sq (.rg [qb]) (.sq (.cj .lf .lf) (.sq (.bk [.slot 13 qn, .slot 0 qp, .slot 1 qp, .slot 12 qn] (.sq (.rg [qn,qn]) (.sq (.rg [qp,qn,qp,qn,qp,qn,qp,qn,qb]) (.cj (.sq .lf .lf) .lf)))) (.rg [qn,qn]))))))) (.sq (.rg [qb]) .lf)))),[qp,qp],[],[],look_Q46,rfl,rfl,rfl,rfl,by kernel_rfl⟩
noncomputable def zzb:KC:=fun F L v h kr =>
wcons v fun a8 r0 =>
wcons r0 <| ooL fun c23 c24 c25 c11 r1 =>
wcons r1 <| ooL fun c26 c27 c28 c29 r2 =>
wcons r2 fun a9 r3 =>
wnil r3 <|
wblock (fun(a4:IVal) (h2:FH) =>
ift (passB a4) <|
kr (.tup [a4,(iB true)]) h2) fun j2 =>
wloop (fun _ _ _ _ _ _ _ _ _ _ _ _ _ _=>none) (fun j3 (c0:Nat) (a5 a1:IVal) (c2 c3 c4 c5:Nat) (a2:IVal) (c6 c7 c8 c9 c10:Nat) (h0:FH) =>
nbl c0 c10 fun c30 =>
wif c30 (wblock (fun(c31:Nat) (a10 a11:IVal) (c32 c33 c34 c35:Nat) (a12:IVal) (c36 c37 c38 c39 c40:Nat) (h3:FH) =>
nad c31 1 fun c41 =>
j3 c41 a10 a11 c32 c33 c34 c35 a12 c36 c37 c38 c39 c40 h3) fun j4 =>
nlt c0 c9 <|
nam c8 c0 1 fun c42 =>
hld none c6 c7 c42 h0 fun a3 =>
wblock (fun(a13 a14:IVal) (c12 c13:Nat) (a0:IVal) (c14 c15 c16 c17:Nat) (a6:IVal) (c18 c19 c20 c21 c22:Nat) (h4:FH) =>
zad 1 a13 a14 h4 fun a7 h1 =>
v_len a0 <| oN fun c43 =>
nbl c12 c43 fun c44 =>
wblock (fun(c45:Nat) (a15 a16:IVal) (c46 c47 c48 c49:Nat) (a17:IVal) (c50 c51 c52 c53 c54:Nat) (h5:FH) =>
j4 c45 a15 a16 c46 c47 c48 c49 a17 c50 c51 c52 c53 c54 h5) fun j0 =>
wif c44 (zab 1 a0 (iN c12) <| oH fun c55 c56 c57 =>
hld none c55 c56 c57 h1 <| oN fun c58 =>
hpush h1 (.cells [(iN c58)] 1 0 false) fun c59 h6 =>
zad 1 a7 (.slice c59 0 0 1) h6 <| ooL fun c60 c61 c62 c63 h7 =>
j0 c13 a0 (.slice c60 c61 c62 c63) c14 c15 c16 c17 a6 c18 c19 c20 c21 c22 h7) <|
j0 c13 a0 a7 c14 c15 c16 c17 a6 c18 c19 c20 c21 c22 h1) fun j5 =>
v_len a3 <| oN fun c64 =>
nbe c64 0 fun c65 =>
wblock (fun(a18 a19:IVal) (c66 c67:Nat) (a20:IVal) (c68 c69 c70 c71:Nat) (a21:IVal) (c72 c73 c74 c75 c76:Nat) (h8:FH) =>
j5 a18 a19 c66 c67 a20 c68 c69 c70 c71 a21 c72 c73 c74 c75 c76 h8) fun j1 =>
wif c65 (nlt c0 c5 <|
nam c4 c0 1 fun c77 =>
hld none c2 c3 c77 h0 fun a22 =>
j1 a1 a22 c0 c0 a5 c2 c3 c4 c5 a2 c6 c7 c8 c9 c10 h0) <|
nlt c0 c5 <|
nam c4 c0 1 fun c78 =>
hld none c2 c3 c78 h0 <| oP fun c79 =>
v_len (.p c79) <| oN fun c80 =>
nbl 0 c80 fun c1 =>
wgV (iB c1) true (vv (x_mov a3)) fun a23 =>
wgV (iB c1) true (vv (x_mov (.slice c2 c3 c4 c5))) fun a24 =>
wgV (iB c1) true (vv (x_mov (iN c0))) fun a25 =>
wgV (iB c1) true (zab 1 a24 a25) fun a26 =>
wgV (iB c1) true (zac none a26 ⟨[],h0⟩) fun a27 =>
wgV (iB c1) true (vv (x_mov a2)) fun a28 =>
wgH (iB c1) true (wcallH (.p (.func 82)) [a23,a27,a28] F) h0 fun a29 h9 =>
wgV (iB c1) true (v_not a29) fun a30 =>
pk c1 a30 (iB false) <| oB fun c81 =>
wif c81 ((none:WR)) <|
j1 a1 a3 c0 c0 a5 c2 c3 c4 c5 a2 c6 c7 c8 c9 c10 h9) <|
j2 a1 h0) L 0 a8 (.p .nilslice) c26 c27 c28 c29 a9 c23 c24 c25 c11 c11 h
noncomputable def zmu:KFun:=⟨zzb,false,false⟩
theorem ztq:KOK tr.look F_Q47 zmu:=⟨i_Q47,(.sq (.rg [qp,qb]) (.sq (.rg [qp]) (.sq (.sq (.rg [ql,qn,qn]) (.bk [.slot 10 qa] (.lp [.slot 15 qn, .slot 0 qa, .slot 10 qa, .slot 2 ql, .slot 3 qa, .slot 1 ql, .slot 14 qn] (.sq (.rg [qb]) (.sq (.cj .lf .lf) (.sq (.bk [.slot 15 qn, .slot 0 qa, .slot 10 qa, .slot 2 ql, .slot 3 qa, .slot 1 ql, .slot 14 qn] (.sq (.rg [qn,qn]) (.sq (.rg [ql,qn,qh]) (.sq (.bk [.slot 10 qa, .slot 12 qa, .slot 11 qn, .slot 15 qn, .slot 0 qa, .slot 2 ql, .slot 3 qa, .slot 1 ql, .slot 14 qn] (.sq (.rg [qa,qn,qb,qb]) (.cd [.slot 10 qa, .slot 12 qa, .slot 11 qn, .slot 15 qn, .slot 0 qa, .slot 2 ql, .slot 3 qa, .slot 1 ql, .slot 14 qn] (.rg [ql,qn,qh]) (.sq (.rg [ql,qn,qh,qp,qn,qb,qb,qa,qa,qa,qa,qa,qa,qa,qa,qb,qb]) (.cj (.sq .lf .lf) .lf))))) (.sq (.rg []) (.sq (.rg [qn,qa,qn,qb]) (.cd [.slot 15 qn, .slot 0 qa, .slot 10 qa, .slot 2 ql, .slot 3 qa, .slot 1 ql, .slot 14 qn] (.rg [qa,ql,qn,qh,qn,ql,ql,ql]) .lf))))))) (.rg [qn,qn]))))))) (.sq (.rg [qa,qa,qb]) .lf)))),[qa,ql,ql,qa],[],[],look_Q47,rfl,rfl,rfl,rfl,by kernel_rfl⟩
noncomputable def zahg:KC:=fun F L v h kr =>
wcons v fun a2 r0 =>
wcons r0 <| ooM fun c9 r1 =>
wcons r1 fun a3 r2 =>
wnil r2 <|
hpush h (.cells [(.p .nilslice)] 1 0 false) fun c10 h3 =>
v_len a2 <| oN fun c11 =>
wblock (fun(c12 c13 c14 c15:Nat) (h4:FH) =>
kr (.slice c12 c13 c14 c15) h4) fun j2 =>
wloop (fun _ _ _ _ _ _ _ _ _ _=>none) (fun j3 (c4 c1 c2 c3 c0 c6:Nat) (a0 a1:IVal) (c7:Nat) (h0:FH) =>
nbl c4 c7 fun c16 =>
wif c16 (wblock (fun(c17 c18 c19 c20 c21 c22:Nat) (a4 a5:IVal) (c23:Nat) (h5:FH) =>
nad c17 1 fun c24 =>
j3 c24 c18 c19 c20 c21 c22 a4 a5 c23 h5) fun j4 =>
zab 1 a1 (iN c4) fun a6 =>
zac none a6 ⟨[],h0⟩ <| oI fun c8 =>
ift (Nat.ble 1 c0) <|
nforce (Nat.sub c0 1) fun c5 =>
nlt c5 lim63 <|
wblock (fun(c25 c26 c27 c28 c29 c30:Nat) (a7 a8:IVal) (c31:Nat) (h6:FH) =>
j4 c25 c26 c27 c28 c29 c30 a7 a8 c31 h6) fun j5 =>
wapp a0 [(iI c8)] F h0 <| ooB fun c32 h2 =>
wblock (fun(c33 c34 c35 c36 c37 c38:Nat) (a9 a10:IVal) (c39:Nat) (h7:FH) =>
j5 c33 c34 c35 c36 c37 c38 a9 a10 c39 h7) fun j0 =>
wif c32 (hpush h2 (.cells [(.p .nilslice)] 1 0 false) fun c40 h8 =>
zad 1 (.slice c1 c2 c3 c0) (.slice c40 0 0 1) h8 <| ooL fun c41 c42 c43 c44 h9 =>
j0 c4 c41 c42 c43 c44 c6 a0 a1 c7 h9) <|
zaj false (.p (.bool false)) ⟨false,[.int]⟩ (.map c6) (iI c8) h2 <| ooB fun c45 h1 =>
bf (gnot c45) fun c46 =>
wblock (fun(c47 c48 c49 c50 c51 c52:Nat) (a11 a12:IVal) (c53:Nat) (h10:FH) =>
j0 c47 c48 c49 c50 c51 c52 a11 a12 c53 h10) fun j1 =>
wif c46 (nlt c5 c0 <|
nam c3 c5 1 fun c54 =>
hld none c1 c2 c54 h1 <| oP fun c55 =>
hpush h1 (.cells [(iI c8)] 1 0 false) fun c56 h11 =>
zad 1 (.p c55) (.slice c56 0 0 1) h11 <| ooL fun c57 c58 c59 c60 h12 =>
nlt c5 c0 <|
nam c3 c5 1 fun c61 =>
hwr h12 c1 c2 c61 [(.slice c57 c58 c59 c60)] fun h13 =>
j1 c4 c1 c2 c3 c0 c6 a0 a1 c7 h13) <|
j1 c4 c1 c2 c3 c0 c6 a0 a1 c7 h1) <|
j2 c1 c2 c3 c0 h0) L 0 c10 0 0 1 c9 a3 a2 c11 h3
noncomputable def ztb:KFun:=⟨zahg,false,false⟩
theorem zzc:KOK tr.look F_Q48 ztb:=⟨i_Q48,(.sq (.rg [qp]) (.sq (.rg [ql,ql]) (.sq (.sq (.rg [qa,qn,qn]) (.bk [.slot 7 ql] (.lp [.slot 14 qn, .slot 7 ql, .slot 1 qm, .slot 2 qa, .slot 12 qa, .slot 13 qn] (.sq (.rg [qb]) (.sq (.cj .lf .lf) (.sq (.bk [.slot 14 qn, .slot 7 ql, .slot 1 qm, .slot 2 qa, .slot 12 qa, .slot 13 qn] (.sq (.rg [qa,qi,qi]) (.sq (.rg [ql,qn,qn,qn]) (.bk [.slot 14 qn, .slot 7 ql, .slot 1 qm, .slot 2 qa, .slot 12 qa, .slot 13 qn] (.sq (.rg [qa,qi,qb,qb]) (.cd [.slot 14 qn, .slot 7 ql, .slot 1 qm, .slot 2 qa, .slot 12 qa, .slot 13 qn] (.rg [ql,ql,ql,ql]) (.sq (.rg [qm,qi,qb,qb,qb]) (.cd [.slot 14 qn, .slot 7 ql, .slot 1 qm, .slot 2 qa, .slot 12 qa, .slot 13 qn] (.rg [ql,qn,ql,qn,qh,qp,qi,ql,ql,qh,(.tup [])]) .lf)))))))) (.rg [qn,qn]))))))) (.sq (.rg [ql,ql]) .lf)))),[qa,qm,qa],[],[],look_Q48,rfl,rfl,rfl,rfl,by kernel_rfl⟩
noncomputable def zaki:KC:=fun F _ v h kr =>
wcons v <| ooA fun r0 r1 =>
wnil r1 <|
wle r0 5 <|
wg 0 r0 <| oN fun c6 =>
nbe c6 2 fun c7 =>
wif c7 (wg 1 r0 <| oS fun c8 =>
F 86 [(iS c8)] h <| ooB fun c2 h0 =>
wgV (iB c2) true (zaa 2 (iX 1 0)) fun a0 =>
wgV (iB c2) true (zac none a0 ⟨[b_ 1 r0 5,nb_ 1],h0⟩) fun a1 =>
wgV (iB c2) true (v_eql a1 (iS [])) fun a2 =>
pk c2 a2 (iB false) <| oB fun c3 =>
wgV (iB c3) true (zaa 3 (iX 1 0)) fun a3 =>
wgV (iB c3) true (zac none a3 ⟨[b_ 1 r0 5,nb_ 1],h0⟩) fun a4 =>
wgH (iB c3) true (wcallH (.p (.func 87)) [a4] F) h0 fun a5 h1 =>
pk c3 a5 (iB false) <| oB fun c5 =>
wgV (iB c5) true (zac (some 5) (iX 1 0) ⟨[b_ 1 r0 5,nb_ 1],h1⟩) fun a6 =>
wgH (iB c5) true (wcallH (.p (.func 26)) [a6] F) h1 fun a7 h2 =>
pk c5 a7 (iB false) <| oB fun c9 =>
kr (iB c9) h2) <|
wg 3 r0 <| oP fun c10 =>
v_len (.p c10) <| oN fun c11 =>
nbl 0 c11 fun c0 =>
wgV (iB c0) false (zaa 4 (iX 1 0)) fun a8 =>
wgV (iB c0) false (zac none a8 ⟨[b_ 1 r0 5,nb_ 1],h⟩) fun a9 =>
wgV (iB c0) false (v_len a9) fun a10 =>
wgV (iB c0) false (v_gtr a10 (iN 0)) fun a11 =>
pk c0 (iB true) a11 <| oB fun c12 =>
wif c12 ((none:WR)) <|
wg 0 r0 <| oN fun c13 =>
wblock (fun(_:FH) =>
(none:WR)) fun _ =>
nbe c13 3 fun c14 =>
wif c14 (wg 1 r0 <| oS fun c15 =>
v_eql (iS c15) (iS []) <| oB fun c4 =>
wgV (iB c4) true (zaa 2 (iX 1 0)) fun a12 =>
wgV (iB c4) true (zac none a12 ⟨[b_ 1 r0 5,nb_ 1],h⟩) fun a13 =>
wgV (iB c4) true (v_neq a13 (iS [])) fun a14 =>
pk c4 a14 (iB false) <| oB fun c1 =>
wgV (iB c1) true (zaa 2 (iX 1 0)) fun a15 =>
wgV (iB c1) true (zac none a15 ⟨[b_ 1 r0 5,nb_ 1],h⟩) fun a16 =>
wgV (iB c1) true (vv (zdf a16)) fun a17 =>
wgV (iB c1) true (v_leq a17 (iN 4096)) fun a18 =>
pk c1 a18 (iB false) <| oB fun c16 =>
kr (iB c16) h) <|
(none:WR)
noncomputable def zxo:KFun:=⟨zaki,true,false⟩
theorem zadz:KOK tr.look F_Q50 zxo:=⟨i_Q50,(.sq (.rg [(qx 1 0),qb]) (.sq (.sq (.rg [(qx 1 0),qn,qb]) (.cj (.sq (.rg [(qx 1 1),qs,qb,qb,qa,qa,qa,qb,qb,qa,qa,qa,qb,qb,qa,qa,qb,qb]) .lf) .lf)) (.sq (.sq (.rg [(qx 1 3),qp,qn,qb,qb,qa,qa,qa,qa,qb]) (.cj (.sq .lf .lf) .lf)) (.sq (.sq (.rg [(qx 1 0),qn]) (.bk [] (.sq (.rg [qb,qb]) (.cj (.sq (.rg [(qx 1 1),qs,qb,qb,qa,qa,qa,qb,qb,qa,qa,qa,qa,qb,qb]) .lf) (.sq .lf (.cj (.sq .lf .lf) (.sq .lf (.cj (.sq .lf .lf) .lf)))))))) (.sq .lf .lf))))),[qv],[1],[],look_Q50,rfl,rfl,rfl,rfl,by kernel_rfl⟩
noncomputable def zakj:KC:=fun F L v h kr =>
wcons v <| ooH fun c13 c14 c15 r2 =>
wcons r2 fun a3 r3 =>
wnil r3 <|
hpush h (.cells [(iH c13 c14 c15),(iI (-1)),(iN 0),(iN 0)] 4 0 false) fun c16 h3 =>
wblock (fun(h4:FH) =>
kr (.tup []) h4) fun j0 =>
wloop (fun _ _ _ _ _ _ _=>none) (fun j1 (c4:Nat) (a0:IVal) (c5 c6 c7 c0:Nat) (h0:FH) =>
nbl 0 c0 fun c17 =>
wif c17 (wblock (fun(c18:Nat) (a4:IVal) (c19 c20 c21 c22:Nat) (h5:FH) =>
j1 c18 a4 c19 c20 c21 c22 h5) fun j2 =>
ift (nbox 6 a0) <|
ift (Nat.ble 1 c0) <|
nforce (Nat.sub c0 1) fun c2 =>
nlt c2 lim63 <|
nlt c2 c0 <|
nam c7 c2 4 fun c23 =>
hld (some 4) c5 c6 c23 h0 <| oA fun r0 =>
wle r0 4 <|
ift (Nat.ble 1 c0) <|
nforce (Nat.sub c0 1) fun c8 =>
nlt c8 lim63 <|
zfu 4 (.slice c5 c6 c7 c0) none (some (iN c8)) h0 <| ooL fun c24 c25 c26 c27 h6 =>
wcut r0 0 4 fun r4 =>
wapp a0 [(iN c4),(.agg r4)] F h6 <| ooB fun c28 h1 =>
bf (gnot c28) fun c29 =>
wif c29 (j0 h1) <|
wg 0 r0 fun a5 =>
v_nil a5 fun a6 =>
zaa 4 a6 fun a7 =>
zac none a7 ⟨[b_ 6 r0 4,b_ 6 [(.p .nilptr),(iN 0),(iN 0),(iN 0)] 4,nb_ 6],h1⟩ fun a8 =>
v_len a8 <| oN fun c30 =>
v_sub (iN c30) (iN 1) <| oI fun c31 =>
wblock (fun(c32:Nat) (a9:IVal) (c33 c34 c35 c36:Nat) (h7:FH) =>
nad c32 1 fun c37 =>
j2 c37 a9 c33 c34 c35 c36 h7) fun j3 =>
wloop (fun _ _ _ _ _ _ _ _ _=>none) (fun j4 (c1:Int) (c9 c10 c11 c12 c3:Nat) (a1:IVal) (r1:LI) (h2:FH) =>
v_geq (iI c1) (iN 0) <| oB fun c38 =>
wif c38 (wblock (fun(c39 c40 c41 c42 c43 c44:Nat) (a10:IVal) (r5:LI) (h8:FH) =>
v_sub (iN c39) (iN 1) <| oI fun c45 =>
j4 c45 c40 c41 c42 c43 c44 a10 r5 h8) fun j5 =>
wg 0 r1 fun a11 =>
v_nil a11 fun a12 =>
zaa 4 a12 fun a13 =>
zac none a13 ⟨[b_ 6 r1 4],h2⟩ fun a14 =>
zab 5 a14 (iI c1) fun a2 =>
wg 2 r1 <| oN fun c46 =>
nad c46 1 fun c47 =>
cof1 a2 <|
hpush h2 (.cells [a2,(iN c3),(iN c47),(iI c1)] 4 0 false) fun c48 h9 =>
zad 4 (.slice c9 c10 c11 c12) (.slice c48 0 0 1) h9 <| ooL fun c49 c50 c51 c52 h10 =>
tN (iI c1) fun c53 =>
j5 c53 c49 c50 c51 c52 c3 a1 r1 h10) <|
j3 c3 a1 c9 c10 c11 c12 h2) L c31 c24 c25 c26 c27 c4 a0 r0 h1) <|
j0 h0) L 0 a3 c16 0 0 1 h3
noncomputable def zxp:KFun:=⟨zakj,false,false⟩
theorem zaea:KOK tr.look F_Q51 zxp:=⟨i_Q51,(.sq (.rg [qh,qv,ql,ql]) (.sq (.rg [qn]) (.sq .lf (.bk [] (.lp [.slot 5 qn, .slot 1 qa, .slot 4 ql] (.sq (.sq (.rg [ql,qn,qb]) (.cj .lf .lf)) (.bk [.slot 5 qn, .slot 1 qa, .slot 4 ql] (.sq (.rg [ql,ql,qn,qn,qh,qv,(qx 6 0),(.tup [])]) (.sq (.rg [ql,ql,qn,qn,ql,ql]) (.sq (.sq (.rg [qa,qn,qv,qb,qb]) (.cj .lf .lf)) (.sq (.sq (.rg [(qx 6 0),qa,qa,qa,qa,qn,qi,qi]) (.bk [.slot 5 qn, .slot 1 qa, .slot 4 ql] (.lp [.slot 7 qi, .slot 4 ql,sx 6, .slot 5 qn, .slot 1 qa,bl 6 4] (.sq (.sq (.rg [qi,qb]) (.cj .lf .lf)) (.sq (.bk [.slot 7 qn, .slot 4 ql,sx 6, .slot 5 qn, .slot 1 qa,bl 6 4] (.rg [ql,(qx 6 0),qa,qa,qa,qa,qn,qa,qn,(qx 6 2),qn,qn,qn,qv,ql,ql,ql])) (.rg [qn,qi,qi])))))) (.rg [qn,qn,qn])))))))))))),[qh,qa],[6],[],look_Q51,rfl,rfl,rfl,rfl,by kernel_rfl⟩
noncomputable def zaeb:KC:=fun F _ v h kr =>
wcons v <| ooN fun _ r5 =>
wcons r5 <| ooA fun r0 r6 =>
wcons r6 <| ooH fun c0 c1 c2 r7 =>
wnil r7 <|
wle r0 4 <|
wg 0 r0 fun a1 =>
v_nil a1 fun a2 =>
zac (some 5) a2 ⟨[b_ 4 r0 4,nb_ 6,nb_ 4],h⟩ <| oA fun r1 =>
wle r1 5 <|
wspl r1 4 [(.p .nilslice)] fun r2 =>
wg 3 r2 fun a0 =>
ift (passB a0) <|
F 53 [a0] h <| ooP fun c3 h0 =>
wspl r2 3 [(.p c3)] fun r8 =>
hld none c0 c1 c2 h0 fun a3 =>
wg 1 r0 <| oI fun c4 =>
wg 2 r0 <| oN fun c5 =>
wg 3 r0 <| oN fun c6 =>
wcut r8 0 5 fun r3 =>
wle r3 5 <|
wspl [(iI c4),(iN 1),(iN c5),(iN 1),(iN c6),(iN 0),(iS []),(iS []),(.p .nilslice),(.p .nilslice)] 5 r3 fun r4 =>
wle r4 10 <|
wspl [(iN 0),(iN 0),(iN 0),(iN 0),(iN 0),(iN 0),(iS []),(iS []),(.p .nilslice),(.p .nilslice)] 0 r4 fun r9 =>
hpush h0 (.cells r9 10 0 false) fun c7 h1 =>
zad 10 a3 (.slice c7 0 0 1) h1 <| ooL fun c8 c9 c10 c11 h2 =>
hwr h2 c0 c1 c2 [(.slice c8 c9 c10 c11)] fun h3 =>
kr (iB true) h3
noncomputable def zqa:KFun:=⟨zaeb,false,false⟩
theorem zxq:KOK tr.look F_Q52 zqa:=⟨i_Q52,(.sq (.rg [(qx 4 0),qb]) (.sq (.rg [(qx 4 0),qa,qa,qv,(qx 6 0),(.tup [])]) (.sq (.rg [(qx 6 4),(.tup [])]) (.sq (.rg [(qx 6 3),qa,qp,(qx 6 3),(.tup [])]) (.sq (.rg [qa,(qx 4 1),qi,(qx 4 2),qn,(qx 4 3),qn,qv,qv,ql,ql,(.tup [])]) (.sq (.rg [qb]) .lf)))))),[qn,qv,qh],[6,4],[],look_Q52,rfl,rfl,rfl,rfl,by kernel_rfl⟩
noncomputable def zdi:KC:=fun _ _ v h kr =>
wcons v <| ooP fun c0 r0 =>
wnil r0 <|
vv (zamf false (.const (.p c0)) (.const (.p .nilslice))) <| oB fun c1 =>
wif c1 (kr (.p .nilslice) h) <|
hpush h (.cells [] 2 0 false) fun c2 h0 =>
zad 2 (.slice c2 0 0 0) (.p c0) h0 <| ooL fun c3 c4 c5 c6 h1 =>
kr (.slice c3 c4 c5 c6) h1
noncomputable def zbd:KFun:=⟨zdi,true,false⟩
theorem zcu:KOK tr.look F_Q53 zbd:=⟨i_Q53,(.sq (.rg [qp]) (.sq (.sq (.rg [qp,qb]) (.cj (.sq (.rg [qp]) .lf) .lf)) (.sq (.rg [ql,qp,ql,ql]) .lf))),[qp],[],[],look_Q53,rfl,rfl,rfl,rfl,by kernel_rfl⟩
noncomputable def zahh:KC:=fun _ L v h kr =>
wcons v <| ooP fun c6 r0 =>
wcons r0 <| ooN fun c2 r1 =>
wnil r1 <|
nad c2 1 fun c7 =>
wblock (fun(a0:IVal) (h2:FH) =>
ift (passB a0) <|
kr a0 h2) fun j0 =>
wloop (fun _ _ _ _ _=>none) (fun j1 (c0:Nat) (c3:PVal) (a1:IVal) (c1:Nat) (h0:FH) =>
zab 10 (.p c3) (iN c1) <| oP fun c8 =>
zaa 1 (.p c8) <| oP fun c9 =>
zac none (.p c9) ⟨[],h0⟩ <| oN fun c10 =>
nad c1 c10 fun c11 =>
nbl c0 c11 fun c12 =>
wif c12 (wblock (fun(c4:Nat) (c5:PVal) (c13 c14 c15 c16 c17:Nat) (h1:FH) =>
zab 10 (.p c5) (iN c4) <| oP fun c18 =>
zaa 1 (.p c18) <| oP fun c19 =>
zac none (.p c19) ⟨[],h1⟩ <| oN fun c20 =>
nad c4 c20 fun c21 =>
j1 c21 c5 (.slice c13 c14 c15 c16) c17 h1) fun j2 =>
hpush h0 (.cells [(iN c0)] 1 0 false) fun c22 h3 =>
zad 1 a1 (.slice c22 0 0 1) h3 <| ooL fun c23 c24 c25 c26 h4 =>
j2 c0 c3 c23 c24 c25 c26 c1 h4) <|
j0 a1 h0) L c7 c6 (.p .nilslice) c2 h
noncomputable def ztc:KFun:=⟨zahh,true,false⟩
theorem zzd:KOK tr.look F_Q54 ztc:=⟨i_Q54,(.sq (.rg [qp]) (.sq (.rg [qp]) (.sq (.sq (.rg [qn,qn,qn]) (.bk [.slot 5 qa] (.lp [.slot 6 qn, .slot 0 qp, .slot 5 qa, .slot 1 qn] (.sq (.sq (.rg [qn,qn,qp,qn,qp,qp,qn,qn,qb]) (.cj .lf .lf)) (.sq (.bk [.slot 6 qn, .slot 0 qp, .slot 5 ql, .slot 1 qn] (.rg [qa,qn,ql,ql,ql])) (.rg [qn,qp,qn,qp,qp,qn,qn,qn])))))) (.sq (.rg []) .lf)))),[qp,qn],[],[],look_Q54,rfl,rfl,rfl,rfl,by kernel_rfl⟩
noncomputable def zahi:KC:=fun F L v h kr =>
wcons v <| ooP fun c5 r1 =>
wnil r1 <|
v_len (.p c5) <| oN fun c9 =>
zbw 1 [.nilslice] (iN c9) (iN c9) h <| ooL fun c11 c12 c13 c14 h2 =>
v_len (.p c5) <| oN fun c15 =>
wblock (fun(c16 c17 c18 c19:Nat) (h3:FH) =>
kr (.slice c16 c17 c18 c19) h3) fun j1 =>
wloop (fun _ _ _ _ _ _ _ _=>none) (fun j2 (c0 c1 c2 c3 c4:Nat) (c6:PVal) (c7:Nat) (h0:FH) =>
nbl c0 c7 fun c20 =>
wif c20 (wblock (fun(c21 c22 c23 c24 c25:Nat) (c26:PVal) (c27:Nat) (h4:FH) =>
nad c21 1 fun c28 =>
j2 c28 c22 c23 c24 c25 c26 c27 h4) fun j3 =>
zab 10 (.p c6) (iN c0) <| oP fun c29 =>
zac (some 10) (.p c29) ⟨[nb_ 5],h0⟩ <| oA fun r0 =>
wle r0 10 <|
wg 0 r0 <| oI fun c30 =>
v_geq (iI c30) (iN 0) <| oB fun c31 =>
wblock (fun(c32 c33 c34 c35 c36:Nat) (c37:PVal) (c38:Nat) (h5:FH) =>
j3 c32 c33 c34 c35 c36 c37 c38 h5) fun j0 =>
wif c31 (wg 0 r0 <| oN fun c8 =>
wg 0 r0 <| oN fun c10 =>
nlt c10 c4 <|
nam c3 c10 1 fun c39 =>
hld none c1 c2 c39 h0 fun a0 =>
hpush h0 (.cells [(iN c0)] 1 0 false) fun c40 h6 =>
zad 1 a0 (.slice c40 0 0 1) h6 <| ooL fun c41 c42 c43 c44 h1 =>
nlt c8 c4 <|
nam c3 c8 1 fun c45 =>
ift (wchk F ⟨[b_ 5 r0 10,b_ 5 [(iN 0),(iN 0),(iN 0),(iN 0),(iN 0),(iN 0),(iS []),(iS []),(.p .nilslice),(.p .nilslice)] 10,nb_ 5],h1⟩ (.load none (.const (iX 5 0))) (iN c8)) <|
hwr h1 c1 c2 c45 [(.slice c41 c42 c43 c44)] fun h7 =>
j0 c0 c1 c2 c3 c4 c6 c7 h7) <|
j0 c0 c1 c2 c3 c4 c6 c7 h0) <|
j1 c1 c2 c3 c4 h0) L 0 c11 c12 c13 c14 c5 c15 h2
noncomputable def ztd:KFun:=⟨zahi,true,false⟩
theorem zze:KOK tr.look F_Q55 ztd:=⟨i_Q55,(.sq (.rg [qp]) (.sq (.rg [qp,qn,ql,ql]) (.sq (.sq (.rg [qp,qn,qn]) (.bk [.slot 3 ql] (.lp [.slot 11 qn, .slot 3 ql, .slot 9 qp, .slot 10 qn] (.sq (.rg [qb]) (.sq (.cj .lf .lf) (.sq (.bk [.slot 11 qn, .slot 3 ql, .slot 9 qp, .slot 10 qn] (.sq (.rg [qn,qp,qv,(qx 5 0),qn,(.tup [])]) (.sq (.rg [(qx 5 0),qi,qb]) (.cd [.slot 11 qn, .slot 3 ql, .slot 9 qp, .slot 10 qn] (.rg [ql,(qx 5 0),qn,ql,(qx 5 0),qn,qh,qa,qn,ql,ql,qh,(.tup [])]) .lf)))) (.rg [qn,qn]))))))) (.sq (.rg [ql,ql]) .lf)))),[qp],[5],[],look_Q55,rfl,rfl,rfl,rfl,by kernel_rfl⟩
noncomputable def zxr:KC:=fun F L v h kr =>
wcons v <| ooA fun r0 r5 =>
wcons r5 <| ooA fun r1 r6 =>
wcons r6 <| ooN fun c64 r7 =>
wnil r7 <|
wle r0 5 <|
wle r1 5 <|
wcut r0 0 5 fun r8 =>
F 15 [(.agg r8)] h <| ooB fun c65 h7 =>
bf (gnot c65) fun c15 =>
wgV (iB c15) false (zac (some 5) (iX 4 0) ⟨[b_ 4 r1 5,b_ 3 r0 5,nb_ 15,nb_ 3,nb_ 4],h7⟩) fun a19 =>
wgH (iB c15) false (wcallH (.p (.func 15)) [a19] F) h7 fun a20 h15 =>
wgV (iB c15) false (v_not a20) fun a21 =>
pk c15 (iB true) a21 <| oB fun c66 =>
wif c66 ((none:WR)) <|
wcut r0 0 5 fun r9 =>
wcut r1 0 5 fun r3 =>
hpush h15 (.cells [(.p .nilptr)] 1 0 false) fun c10 h16 =>
hpush h16 (.cells [(.p .nilptr)] 1 0 false) fun c11 h17 =>
F 88 [(.agg r9)] h17 <| ooH fun c67 c68 c69 h4 =>
ift (wchk F ⟨[b_ 4 r1 5,b_ 3 r0 5,nb_ 15,nb_ 3,nb_ 4],h4⟩ (.load (some 5) (.const (iX 4 0))) (.agg r3)) <|
ift (wchk F ⟨[b_ 4 r1 5,b_ 3 r0 5,nb_ 15,nb_ 3,nb_ 4],h4⟩ (.alloc none [.nilptr]) (iH c10 0 0)) <|
ift (wchk F ⟨[b_ 4 r1 5,b_ 3 r0 5,nb_ 15,nb_ 3,nb_ 4],h4⟩ (.alloc none [.nilptr]) (iH c11 0 0)) <|
F 88 [(.agg r3)] h4 <| ooH fun c70 c71 c72 h6 =>
ift (wchk F ⟨[b_ 4 r1 5,b_ 3 r0 5,nb_ 15,nb_ 3,nb_ 4],h6⟩ (.alloc none [.nilptr]) (iH c10 0 0)) <|
ift (wchk F ⟨[b_ 4 r1 5,b_ 3 r0 5,nb_ 15,nb_ 3,nb_ 4],h6⟩ (.alloc none [.nilptr]) (iH c11 0 0)) <|
hwr h6 c10 0 0 [(iH c67 c68 c69)] fun h18 =>
hwr h18 c11 0 0 [(iH c70 c71 c72)] fun h19 =>
hpush h19 (.cells [(.p .nilslice)] 1 0 false) fun c25 h20 =>
vv (zea 89 [(.const (iH c10 0 0)),(.const (iH c25 0 0)),(.const (iH c11 0 0))]) fun a2 =>
wcut r0 0 5 fun r10 =>
wcut r1 0 5 fun r11 =>
F 10 [(.agg r10),(.agg r11)] h20 <| ooB fun c73 h8 =>
wif c73 (wapp a2 [(iN 0),(iN 0)] F h8 <| ooT fun r12 h9 =>
wnil r12 <|
hld none c25 0 0 h9 <| oL fun c74 c75 c76 c77 =>
kr (.slice c74 c75 c76 c77) h9) <|
hpush h8 (.map [] 0) fun c78 h21 =>
wblock (fun(c40 c41 c42 c43 c44 c45:Nat) (a22:IVal) (c79 c80 c81 c82 c83:Nat) (h2:FH) =>
hld none c40 c41 c42 h2 <| oH fun c84 c85 c86 =>
nae c86 5 fun c87 =>
hld none c84 c85 c87 h2 <| oP fun c88 =>
zab 10 (.p c88) (iN 0) <| oP fun c89 =>
zaa 3 (.p c89) <| oP fun c90 =>
zac none (.p c90) ⟨[],h2⟩ <| oN fun c91 =>
hld none c43 c44 c45 h2 <| oH fun c92 c93 c94 =>
nae c94 5 fun c95 =>
hld none c92 c93 c95 h2 <| oP fun c96 =>
zab 10 (.p c96) (iN 0) <| oP fun c97 =>
zaa 3 (.p c97) <| oP fun c98 =>
zac none (.p c98) ⟨[],h2⟩ <| oN fun c99 =>
vv (zagl [(.const (iN c91)),(.const (iN c99))]) <| oN fun c100 =>
wblock (fun(c46 c47 c48:Nat) (h10:FH) =>
hld none c46 c47 c48 h10 fun a3 =>
ift (passB a3) <|
F 38 [a3,(.p (.func 91))] h10 <| ooT fun r13 h11 =>
wnil r13 <|
hld none c46 c47 c48 h11 fun a4 =>
ift (passB a4) <|
kr a4 h11) fun j2 =>
wloop (fun _ _ _ _ _ _ _ _ _ _ _ _ _ _=>none) (fun j3 (c49 c101 c102 c103 c104 c105 c106:Nat) (a23:IVal) (c107 c50 c51 c52 c53:Nat) (h12:FH) =>
vv (zaax [(.const (iN 1)),(.const (iN c53))]) <| oN fun c108 =>
bf (Nat.ble c108 c49) fun c109 =>
wif c109 (wblock (fun(c54 c110 c111 c112 c113 c114 c115:Nat) (a24:IVal) (c116 c117 c118 c119 c120:Nat) (h22:FH) =>
ift (Nat.ble 1 c54) <|
nforce (Nat.sub c54 1) fun c55 =>
nlt c55 lim63 <|
j3 c55 c110 c111 c112 c113 c114 c115 a24 c116 c117 c118 c119 c120 h22) fun j4 =>
wblock (fun(c121 c122 c123 c124 c125 c126 c127:Nat) (a25:IVal) (c128 c129 c130 c131 c132:Nat) (h23:FH) =>
j4 c121 c122 c123 c124 c125 c126 c127 a25 c128 c129 c130 c131 c132 h23) fun j5 =>
wloop (fun _ _ _ _ _ _ _ _ _ _ _ _ _ _ _=>none) (fun j6 (c2 c16:Nat) (a0:IVal) (c26 c27 c28 c3 c4 c5 c17 c29 c30 c31 c32:Nat) (h1:FH) =>
hld none c3 c4 c5 h1 <| oH fun c133 c134 c135 =>
nae c135 5 fun c136 =>
hld none c133 c134 c136 h1 <| oP fun c137 =>
v_len (.p c137) <| oN fun c138 =>
nbl c2 c138 fun c139 =>
wif c139 (wblock (fun(c140 c141:Nat) (a26:IVal) (c142 c143 c144 c145 c146 c147 c148 c149 c150 c151 c152:Nat) (h24:FH) =>
nad c140 1 fun c153 =>
j6 c153 c141 a26 c142 c143 c144 c145 c146 c147 c148 c149 c150 c151 c152 h24) fun j0 =>
hld none c3 c4 c5 h1 <| oH fun c154 c155 c156 =>
nae c156 7 fun c157 =>
hld none c154 c155 c157 h1 <| oL fun c158 c159 c160 c161 =>
nlt c2 c161 <|
nam c160 c2 1 fun c162 =>
hld none c158 c159 c162 h1 <| oB fun c1 =>
wgV (iB c1) false (zac none (iH c3 c4 c5) ⟨[],h1⟩) fun a5 =>
wgV (iB c1) false (v_nil a5) fun a6 =>
wgV (iB c1) false (zaa 5 a6) fun a7 =>
wgV (iB c1) false (zac none a7 ⟨[],h1⟩) fun a8 =>
wgV (iB c1) false (vv (x_mov (iN c2))) fun a9 =>
wgV (iB c1) false (zab 10 a8 a9) fun a10 =>
wgV (iB c1) false (zaa 3 a10) fun a11 =>
wgV (iB c1) false (zac none a11 ⟨[],h1⟩) fun a12 =>
wgV (iB c1) false (vv (x_mov (iN c17))) fun a13 =>
wgV (iB c1) false (v_neq a12 a13) fun a14 =>
pk c1 (iB true) a14 <| oB fun c163 =>
wif c163 (j0 c2 c16 a0 c26 c27 c28 c3 c4 c5 c17 c29 c30 c31 c32 h1) <|
ift (nbox 15 a14) <|
ift (nbox 15 a13) <|
ift (nbox 15 a12) <|
ift (nbox 15 a11) <|
ift (nbox 15 a10) <|
ift (nbox 15 a9) <|
ift (nbox 15 a8) <|
ift (nbox 15 a7) <|
ift (nbox 15 a6) <|
ift (nbox 15 a5) <|
ift (nbox 15 a0) <|
hld none c3 c4 c5 h1 <| oH fun c164 c165 c166 =>
F 90 [(iH c164 c165 c166),(iN c2)] h1 <| ooA fun r4 h5 =>
wle r4 5 <|
hld none c3 c4 c5 h5 <| oH fun c167 c168 c169 =>
nae c169 6 fun c170 =>
hld none c167 c168 c170 h5 <| oL fun c171 c172 c173 c174 =>
nlt c2 c174 <|
nam c173 c2 2 fun c175 =>
hld (some 2) c171 c172 c175 h5 <| oA fun r14 =>
zaj false (.p .nilslice) ⟨true,[.int, .int]⟩ (.map c16) (.agg r14) h5 fun a15 h25 =>
v_len a15 <| oN fun c176 =>
wblock (fun(c177 c178:Nat) (a27:IVal) (c179 c180 c181 c182 c183 c184 c185 c186 c187 c188 c189:Nat) (h26:FH) =>
j0 c177 c178 a27 c179 c180 c181 c182 c183 c184 c185 c186 c187 c188 c189 h26) fun j1 =>
wloop (fun _ _ _ _ _ _ _ _ _ _ _ _ _ _ _ _ _ _ _=>none) (fun _ (c33 c34 c35 c36 c37 c18 c19 c20 c7 c8 c9:Nat) (a1:IVal) (c38 c12 c39:Nat) (a16:IVal) (c56:Nat) (r2:LI) (h0:FH) =>
nbl c39 c56 fun c190 =>
wif c190 (wblock (fun(_ _ _ _ _ _ _ _ _ _ _ _:IVal) (_:FH) =>
(none:WR)) fun j7 =>
zab 1 a16 (iN c39) <| oH fun c191 c192 c193 =>
hld none c191 c192 c193 h0 <| oN fun c13 =>
hld none c7 c8 c9 h0 <| oH fun c194 c195 c196 =>
nae c196 7 fun c197 =>
hld none c194 c195 c197 h0 <| oL fun c198 c199 c200 c201 =>
nlt c13 c201 <|
nam c200 c13 1 fun c202 =>
hld none c198 c199 c202 h0 <| oB fun c203 =>
bf (gnot c203) fun c0 =>
wgV (iB c0) true (zac none (iH c7 c8 c9) ⟨[b_ 15 r2 5],h0⟩) fun a28 =>
wgV (iB c0) true (v_nil a28) fun a29 =>
wgV (iB c0) true (zaa 6 a29) fun a30 =>
wgV (iB c0) true (zac none a30 ⟨[b_ 15 r2 5],h0⟩) fun a31 =>
wgV (iB c0) true (vv (x_mov (iN c13))) fun a32 =>
wgV (iB c0) true (zab 2 a31 a32) fun a33 =>
wgV (iB c0) true (zac (some 2) a33 ⟨[b_ 15 r2 5],h0⟩) fun a34 =>
wgV (iB c0) true (zac none (iH c18 c19 c20) ⟨[b_ 15 r2 5],h0⟩) fun a35 =>
wgV (iB c0) true (v_nil a35) fun a36 =>
wgV (iB c0) true (zaa 6 a36) fun a37 =>
wgV (iB c0) true (zac none a37 ⟨[b_ 15 r2 5],h0⟩) fun a38 =>
wgV (iB c0) true (vv (x_mov (iN c12))) fun a39 =>
wgV (iB c0) true (zab 2 a38 a39) fun a40 =>
wgV (iB c0) true (zac (some 2) a40 ⟨[b_ 15 r2 5],h0⟩) fun a41 =>
wgV (iB c0) true (vv (x_eqv false ⟨true,[.int, .int]⟩ (.const a34) (.const a41))) fun a42 =>
pk c0 a42 (iB false) <| oB fun c6 =>
wgV (iB c6) true (zac (some 5) (iX 15 0) ⟨[b_ 15 r2 5],h0⟩) fun a17 =>
wgV (iB c6) true (zac none (iH c7 c8 c9) ⟨[b_ 15 r2 5],h0⟩) fun a43 =>
wgV (iB c6) true (vv (x_mov (iN c13))) fun a44 =>
wgH (iB c6) true (wcallH (.p (.func 90)) [a43,a44] F) h0 fun a45 h13 =>
ift (wgb (iB c6) true (wchk F ⟨[b_ 15 r2 5],h13⟩ (.load (some 5) (.const (iX 15 0))) a17)) <|
wgH (iB c6) true (wcallH (.p (.func 10)) [a17,a45] F) h13 fun a46 h14 =>
pk c6 a46 (iB false) <| oB fun c204 =>
wif c204 (wapp a1 [(iN c12),(iN c13)] F h14 <| ooT fun r15 h27 =>
wnil r15 <|
j1 c12 c38 a1 c7 c8 c9 c18 c19 c20 c37 c34 c35 c36 c33 h27) <|
j7 (iN c39) (iN c33) (iH c34 c35 c36) (iN c37) (iH c18 c19 c20) (iH c7 c8 c9) a1 (.map c38) (iN c12) (iX 15 0) a16 (iN c56) h14) <|
j1 c12 c38 a1 c7 c8 c9 c18 c19 c20 c37 c34 c35 c36 c33 h0) L c32 c29 c30 c31 c17 c3 c4 c5 c26 c27 c28 a0 c16 c2 0 a15 c176 r4 h25) <|
j5 c17 c3 c4 c5 c26 c27 c28 a0 c16 c29 c30 c31 c32 h1) L 1 c107 a23 c104 c105 c106 c101 c102 c103 c49 c50 c51 c52 c53 h12) <|
j2 c50 c51 c52 h12) L c100 c40 c41 c42 c43 c44 c45 a22 c79 c80 c81 c82 c83 h2) fun j8 =>
wloop (fun _ _ _ _ _ _ _ _ _ _ _ _ _ _=>none) (fun j9 (c14 c21 c22 c23 c24 c57 c58 c59:Nat) (a18:IVal) (c60 c61 c62 c63:Nat) (h3:FH) =>
hld none c21 c22 c23 h3 <| oH fun c205 c206 c207 =>
nae c207 5 fun c208 =>
hld none c205 c206 c208 h3 <| oP fun c209 =>
v_len (.p c209) <| oN fun c210 =>
nbl c14 c210 fun c211 =>
wif c211 (wblock (fun(c212 c213 c214 c215 c216 c217 c218 c219:Nat) (a47:IVal) (c220 c221 c222 c223:Nat) (h28:FH) =>
nad c212 1 fun c224 =>
j9 c224 c213 c214 c215 c216 c217 c218 c219 a47 c220 c221 c222 c223 h28) fun j10 =>
hld none c21 c22 c23 h3 <| oH fun c225 c226 c227 =>
nae c227 6 fun c228 =>
hld none c225 c226 c228 h3 <| oL fun c229 c230 c231 c232 =>
nlt c14 c232 <|
nam c231 c14 2 fun c233 =>
hld (some 2) c229 c230 c233 h3 <| oA fun r16 =>
hpush h3 (.cells [(iN c14)] 1 0 false) fun c234 h29 =>
zfe (.p .nilslice) ⟨true,[.int, .int]⟩ (.map c24) (.agg r16) h29 <| ooT fun r17 h30 =>
wcons r17 fun a48 r18 =>
wcons r18 <| ooN fun c235 r19 =>
wnil r19 <|
zad 1 a48 (.slice c234 0 0 1) h30 <| ooL fun c236 c237 c238 c239 h31 =>
zim (.map c24) (iN c235) (.slice c236 c237 c238 c239) h31 <| ooT fun r20 h32 =>
wnil r20 <|
j10 c14 c21 c22 c23 c24 c57 c58 c59 a18 c60 c61 c62 c63 h32) <|
j8 c57 c58 c59 c21 c22 c23 a18 c24 c60 c61 c62 c63 h3) L 1 c11 0 0 c78 c10 0 0 a2 c25 0 0 c64 h21
noncomputable def zkw:KFun:=⟨zxr,true,true⟩
theorem zrp:KOK tr.look F_Q56 zkw:=⟨i_Q56,(.sq (.rg [(qx 3 0),(qx 4 0),qp]) (.sq (.sq (.rg [qv,qb,qb,qb,qa,qa,qa,qb]) (.cj (.sq .lf .lf) .lf)) (.sq (.rg [qv,qh,qv,qh,qh,qh,(.tup []),(.tup [])]) (.sq (.rg [qh]) (.sq (.rg []) (.sq (.sq (.rg [qv,qv,qb]) (.cj (.sq (.rg [qa,(.tup [])]) (.sq (.rg [ql,ql]) .lf)) .lf)) (.sq (.rg [qm,qm]) (.sq (.sq (.rg [qn]) (.bk [.slot 7 qh, .slot 8 qh, .slot 10 qa, .slot 11 qm, .slot 9 qh, .slot 2 qn] (.lp [.slot 12 qn, .slot 8 qh, .slot 11 qm, .slot 7 qh, .slot 10 qa, .slot 9 qh, .slot 2 qn] (.sq (.sq (.rg [qn,qh,qh,qh,qp,qn,qb]) (.cj .lf .lf)) (.sq (.bk [.slot 12 qn, .slot 8 qh, .slot 11 qm, .slot 7 qh, .slot 10 qa, .slot 9 qh, .slot 2 qn] (.rg [qm,qh,qh,qh,ql,qn,qh,qv,qn,ql,(.tup [(.c .any),(.c .nat)]),qa,ql,qn,(.tup [])])) (.rg [qn,qn,qn])))))) (.sq (.sq (.rg [qh,qh,qh,qp,qp,qp,qn,qh,qh,qh,qp,qp,qp,qn,qn,qn]) (.bk [.slot 9 qh] (.lp [.slot 13 qn, .slot 7 qh, .slot 8 qh, .slot 10 qa, .slot 11 qm, .slot 9 qh, .slot 2 qn] (.sq (.sq (.rg [qn,qn,qn,qb]) (.cj .lf .lf)) (.sq (.bk [.slot 13 qn, .slot 7 qh, .slot 8 qh, .slot 10 qa, .slot 11 qm, .slot 9 qh, .slot 2 qn] (.sq (.rg [qn]) (.bk [.slot 13 qn, .slot 7 qh, .slot 8 qh, .slot 10 qa, .slot 11 qm, .slot 9 qh, .slot 2 qn] (.lp [.slot 14 qn, .slot 11 qm, .slot 10 qa, .slot 8 qh, .slot 7 qh, .slot 13 qn, .slot 9 qh, .slot 2 qn] (.sq (.sq (.rg [qn,qh,qh,qh,qp,qn,qb]) (.cj .lf .lf)) (.sq (.bk [.slot 14 qn, .slot 11 qm, .slot 10 qa, .slot 8 qh, .slot 7 qh, .slot 13 qn, .slot 9 qh, .slot 2 qn] (.sq (.sq (.rg [qh,qh,qh,ql,qn,qh,qb,qb,qa,qa,qa,qa,qa,qa,qa,qa,qa,qa,qb]) (.cj .lf .lf)) (.sq (.rg [qh,qn,qv,(qx 15 0),(.tup [])]) (.sq (.rg [qm,qh,qh,qh,ql,qn,qh,qv,qa,qn,qn]) (.bk [.slot 14 qn, .slot 11 qm, .slot 10 qa, .slot 8 qh, .slot 7 qh, .slot 13 qn, .slot 9 qh, .slot 2 qn] (.lp [.slot 2 qn, .slot 9 qh, .slot 13 qn, .slot 7 qh, .slot 8 qh, .slot 10 qa, .slot 11 qm, .slot 14 qn, .slot 123 qn,sx 15, .slot 121 qa, .slot 122 qn,bl 15 5] (.sq (.rg [qb]) (.sq (.cj .lf .lf) (.sq (.bk [.slot 123 qa, .slot 2 qa, .slot 9 qa, .slot 13 qa, .slot 7 qa, .slot 8 qa, .slot 10 qa, .slot 11 qa, .slot 14 qa, .slot 15 qa, .slot 121 qa, .slot 122 qa] (.sq (.rg [qh,qn,qn]) (.sq (.rg [qh,qh,qh,ql,qn,qh,qb,qb,qb,qa,qa,qa,qa,qa,qa,qa,qa,qa,qa,qa,qa,qa,qa,qa,qb,qb,qa,qa,qa,qa,qa,qb]) (.cj (.sq (.rg [qa,qn,qn,(.tup [])]) .lf) .lf)))) .lf))))))))) (.rg [qn,qn,qn]))))))) (.rg [qn,qn,qn])))))) (.sq (.rg [qa,(.tup [])]) (.sq (.rg []) .lf))))))))))),[qv,qv,qn],[15,3,4],[],look_Q56,rfl,rfl,rfl,rfl,by kernel_rfl⟩
noncomputable def zlx:KC:=fun _ _ v h kr =>
wcons v <| ooH fun c0 c1 c2 r0 =>
wcons r0 <| ooN fun c3 r1 =>
wcons r1 <| ooN fun c4 r2 =>
wnil r2 <|
nae c2 14 fun c7 =>
hld none c0 c1 c7 h <| oM fun c5 =>
nae c2 15 fun c8 =>
hld none c0 c1 c8 h <| oM fun c6 =>
zfe (.p (.int .i64 0)) ⟨false,[.int]⟩ (.map c5) (iN c3) h <| ooT fun r3 h0 =>
wcons r3 <| ooN fun _ r4 =>
wcons r4 <| ooN fun c9 r5 =>
wnil r5 <|
zim (.map c5) (iN c9) (iN c4) h0 <| ooT fun r6 h1 =>
wnil r6 <|
zfe (.p (.int .i64 0)) ⟨false,[.int]⟩ (.map c6) (iN c4) h1 <| ooT fun r7 h2 =>
wcons r7 <| ooN fun _ r8 =>
wcons r8 <| ooN fun c10 r9 =>
wnil r9 <|
zim (.map c6) (iN c10) (iN c3) h2 <| ooT fun r10 h3 =>
wnil r10 <|
kr (.tup []) h3
noncomputable def zes:KFun:=⟨zlx,false,false⟩
theorem zja:KOK tr.look F_Q57 zes:=⟨i_Q57,(.rg [qh,qh,qh,qm,qn,qh,qh,qh,qm,qn,qn,qn,(.tup [(.c .nat),(.c .nat)]),qn,(.tup []),(.tup [(.c .nat),(.c .nat)]),qn,(.tup [])]),[qh,qn,qn],[],[],look_Q57,rfl,rfl,rfl,rfl,by kernel_rfl⟩
noncomputable def zakk:KC:=fun F L v h kr =>
wcons v <| ooA fun r0 r1 =>
wnil r1 <|
wle r0 5 <|
wcut r0 0 5 fun r2 =>
F 27 [(.agg r2)] h <| ooP fun c6 h2 =>
v_len (.p c6) <| oN fun c12 =>
nad c12 1 fun c13 =>
wblock (fun(c14 c15 c16 c17:Nat) (h3:FH) =>
kr (.slice c14 c15 c16 c17) h3) fun j1 =>
wloop (fun _ _ _ _ _ _=>none) (fun j2 (c18:PVal) (a2 a3:IVal) (c2 c7:Nat) (h1:FH) =>
nbl c2 c7 fun c19 =>
wif c19 (wblock (fun(c20:Nat) (c21:PVal) (a4:IVal) (c22 c23 c24 c25 c26:Nat) (h4:FH) =>
nad c20 1 fun c27 =>
j2 c21 a4 (.slice c22 c23 c24 c25) c27 c26 h4) fun j3 =>
wblock (fun(a5:IVal) (c28 c29:Nat) (c30:PVal) (a6:IVal) (c31:Nat) (h5:FH) =>
hpush h5 (.cells [(iN c28)] 1 0 false) fun c32 h6 =>
zad 1 a5 (.slice c32 0 0 1) h6 <| ooL fun c33 c34 c35 c36 h7 =>
j3 c29 c30 a6 c33 c34 c35 c36 c31 h7) fun j0 =>
wloop (fun _ _ _ _ _ _ _=>none) (fun j4 (c3:Nat) (a1:IVal) (c0:PVal) (c4 c1:Nat) (a0:IVal) (h0:FH) =>
v_len a0 <| oN fun c37 =>
nbl 0 c37 fun c38 =>
wif c38 (wblock (fun(c39 c40 c41 c42 c43:Nat) (c44:PVal) (c45 c46 c47 c48 c49 c50:Nat) (h8:FH) =>
j4 c39 (.slice c40 c41 c42 c43) c44 c45 c46 (.slice c47 c48 c49 c50) h8) fun j5 =>
v_len a0 <| oN fun c8 =>
ift (Nat.ble 1 c8) <|
nforce (Nat.sub c8 1) fun c9 =>
nlt c9 lim63 <|
zab 1 a0 (iN c9) <| oH fun c51 c52 c53 =>
hld none c51 c52 c53 h0 <| oN fun c5 =>
zab 10 (.p c0) (iN c5) <| oP fun c54 =>
zaa 1 (.p c54) <| oP fun c55 =>
zac none (.p c55) ⟨[],h0⟩ <| oN fun c56 =>
nad c5 c56 fun c57 =>
nbl c1 c57 fun c58 =>
wif c58 (j0 a0 c1 c4 c0 a1 c3 h0) <|
hpush h0 (.cells [(iN c5)] 1 0 false) fun c59 h9 =>
zad 1 a1 (.slice c59 0 0 1) h9 <| ooL fun c60 c61 c62 c63 h10 =>
v_len a0 <| oN fun c10 =>
ift (Nat.ble 1 c10) <|
nforce (Nat.sub c10 1) fun c11 =>
nlt c11 lim63 <|
zfu 1 a0 none (some (iN c11)) h10 <| ooL fun c64 c65 c66 c67 h11 =>
j5 c3 c60 c61 c62 c63 c0 c4 c1 c64 c65 c66 c67 h11) <|
j0 a0 c1 c4 c0 a1 c3 h0) L c7 a2 c18 c2 c2 a3 h1) <|
tL a2 fun c68 c69 c70 c71 =>
j1 c68 c69 c70 c71 h1) L c6 (.p .nilslice) (.p .nilslice) 0 c13 h2
noncomputable def zxs:KFun:=⟨zakk,true,true⟩
theorem zaec:KOK tr.look F_Q58 zxs:=⟨i_Q58,(.sq (.rg [(qx 1 0),qp]) (.sq (.rg [qv,qp,qp]) (.sq (.rg [qp,qp]) (.sq (.sq (.rg [qp,qn,qn,qn]) (.bk [.slot 4 ql] (.lp [.slot 3 qp, .slot 4 qa, .slot 5 qa, .slot 13 qn, .slot 12 qn] (.sq (.rg [qb]) (.sq (.cj .lf .lf) (.sq (.bk [.slot 13 qn, .slot 3 qp, .slot 4 qa, .slot 5 ql, .slot 12 qn] (.sq (.rg [qn,qn]) (.sq (.bk [.slot 5 qa, .slot 6 qn, .slot 13 qn, .slot 3 qp, .slot 4 qa, .slot 12 qn] (.lp [.slot 12 qn, .slot 4 qa, .slot 3 qp, .slot 13 qn, .slot 6 qn, .slot 5 qa] (.sq (.sq (.rg [qa,qn,qb]) (.cj .lf .lf)) (.bk [.slot 12 qn, .slot 4 ql, .slot 3 qp, .slot 13 qn, .slot 6 qn, .slot 5 ql] (.sq (.rg [ql,ql,qn,qn,qh,qn,qn]) (.sq (.sq (.rg [qn,qn,qp,qn,qp,qp,qn,qn,qb]) (.cj .lf .lf)) (.sq (.rg [qa,qn,ql,ql,ql]) (.rg [ql,ql,qn,qn,ql,ql])))))))) (.rg [qa,qn,ql,ql,ql])))) (.rg [qn,qn]))))))) (.sq (.rg [ql,ql]) .lf))))),[qv],[1],[],look_Q58,rfl,rfl,rfl,rfl,by kernel_rfl⟩
noncomputable def zly:KC:=fun F L v h kr =>
wcons v <| ooH fun c17 c18 c19 r0 =>
wcons r0 <| ooN fun c20 r1 =>
wnil r1 <|
hpush h (.cells [(iH c17 c18 c19)] 1 0 false) fun c13 h12 =>
hpush h12 (.cells [(iN c20)] 1 0 false) fun c16 h2 =>
hld none c13 0 0 h2 <| oH fun c21 c22 c23 =>
hld none c16 0 0 h2 <| oN fun c24 =>
F 92 [(iH c21 c22 c23),(iN c24)] h2 <| ooM fun c25 h3 =>
vv (zea 93 [(.const (iH c13 0 0)),(.const (iH c16 0 0))]) fun a15 =>
hld none c13 0 0 h3 <| oH fun c26 c27 c28 =>
nae c28 11 fun c29 =>
hld none c26 c27 c29 h3 <| oP fun c30 =>
v_len (.p c30) <| oN fun c31 =>
wblock (fun(a16:IVal) (c32:Nat) (c14:Int) (h13:FH) =>
v_lss (iI c14) (iN 0) <| oB fun c2 =>
wgV (iB c2) false (vv (x_mov (.map c32))) fun a7 =>
wgV (iB c2) false (vv (x_mov (iI c14))) fun a8 =>
wgH (iB c2) false (zaj false (.p (.int .i64 0)) ⟨false,[.int]⟩ a7 a8) h13 fun a9 h14 =>
wgV (iB c2) false (vv (x_mov a16)) fun a17 =>
wgV (iB c2) false (vv (x_mov (iI c14))) fun a18 =>
wgH (iB c2) false (wcallH a17 [a18] F) h14 fun a19 h7 =>
ift (wgb (iB c2) false (wchk F ⟨[],h7⟩ (.lookup false (.p (.int .i64 0)) ⟨false,[.int]⟩ (.const a7) (.const a8)) a9)) <|
wgH (iB c2) false (wcallH (.p (.func 96)) [a9,a19] F) h7 fun a20 h8 =>
wgV (iB c2) false (v_not a20) fun a21 =>
pk c2 (iB true) a21 <| oB fun c33 =>
wif c33 (kr (iI (-1)) h8) <|
kr (iI c14) h8) fun j2 =>
wloop (fun _ _ _ _ _ _ _ _ _ _ _ _=>none) (fun j3 (c3:Nat) (a0:IVal) (c4:Nat) (c8:Int) (c5 c6 c7 c10 c11 c12 c15:Nat) (h9:FH) =>
nbl c3 c15 fun c34 =>
wif c34 (wblock (fun(c35:Nat) (a22:IVal) (c36:Nat) (c37:Int) (c38 c39 c40 c41 c42 c43 c44:Nat) (h15:FH) =>
nad c35 1 fun c45 =>
j3 c45 a22 c36 c37 c38 c39 c40 c41 c42 c43 c44 h15) fun j0 =>
zaj false (.p (.int .i64 0)) ⟨false,[.int]⟩ (.map c4) (iN c3) h9 <| ooN fun c46 h4 =>
nbe c46 0 fun c9 =>
wgV (iB c9) false (zac none (iH c5 c6 c7) ⟨[],h4⟩) fun a23 =>
wgV (iB c9) false (zac none (iH c10 c11 c12) ⟨[],h4⟩) fun a24 =>
wgV (iB c9) false (vv (x_mov (iN c3))) fun a25 =>
wgH (iB c9) false (wcallH (.p (.func 61)) [a23,a24,a25] F) h4 fun a26 h0 =>
wgV (iB c9) false (v_not a26) fun a27 =>
pk c9 (iB true) a27 <| oB fun c0 =>
wgV (iB c0) false (zac none (iH c5 c6 c7) ⟨[],h0⟩) fun a28 =>
wgV (iB c0) false (v_nil a28) fun a29 =>
wgV (iB c0) false (zaa 10 a29) fun a30 =>
wgV (iB c0) false (zac none a30 ⟨[],h0⟩) fun a31 =>
wgV (iB c0) false (zac none (iH c10 c11 c12) ⟨[],h0⟩) fun a32 =>
wgV (iB c0) false (zab 10 a31 a32) fun a33 =>
wgV (iB c0) false (zac (some 10) a33 ⟨[],h0⟩) fun a34 =>
wgV (iB c0) false (zac none (iH c5 c6 c7) ⟨[],h0⟩) fun a10 =>
wgV (iB c0) false (v_nil a10) fun a35 =>
wgV (iB c0) false (zaa 11 a35) fun a11 =>
wgV (iB c0) false (zac none a11 ⟨[],h0⟩) fun a12 =>
wgV (iB c0) false (vv (x_mov (iN c3))) fun a36 =>
wgV (iB c0) false (zab 10 a12 a36) fun a13 =>
wgV (iB c0) false (zac (some 10) a13 ⟨[],h0⟩) fun a14 =>
wgH (iB c0) false (wcallH (.p (.func 94)) [a34] F) h0 fun a37 h1 =>
ift (wgb (iB c0) false (wchk F ⟨[],h1⟩ (.load none (.const (iH c5 c6 c7))) a10)) <|
ift (wgb (iB c0) false (wchk F ⟨[],h1⟩ (.load none (.const a11)) a12)) <|
ift (wgb (iB c0) false (wchk F ⟨[],h1⟩ (.load (some 10) (.const a13)) a14)) <|
wgH (iB c0) false (wcallH (.p (.func 94)) [a14] F) h1 fun a38 h10 =>
wgV (iB c0) false (vv (x_eqv true ⟨true,[.int, .str]⟩ (.const a37) (.const a38))) fun a39 =>
pk c0 (iB true) a39 <| oB fun c47 =>
wif c47 (j0 c3 a0 c4 c8 c5 c6 c7 c10 c11 c12 c15 h10) <|
v_lss (iI c8) (iN 0) <| oB fun c1 =>
wgV (iB c1) false (vv (x_mov (.map c4))) fun a1 =>
wgV (iB c1) false (vv (x_mov (iN c3))) fun a2 =>
wgH (iB c1) false (zaj false (.p (.int .i64 0)) ⟨false,[.int]⟩ a1 a2) h10 fun a3 h16 =>
wgV (iB c1) false (vv (x_mov a0)) fun a40 =>
wgV (iB c1) false (vv (x_mov (iN c3))) fun a41 =>
wgV (iB c1) false (vv (x_mov (.map c4))) fun a4 =>
wgV (iB c1) false (vv (x_mov (iI c8))) fun a5 =>
wgH (iB c1) false (zaj false (.p (.int .i64 0)) ⟨false,[.int]⟩ a4 a5) h16 fun a6 h17 =>
wgV (iB c1) false (vv (x_mov a0)) fun a42 =>
wgV (iB c1) false (vv (x_mov (iI c8))) fun a43 =>
wgH (iB c1) false (wcallH a40 [a41] F) h17 fun a44 h5 =>
ift (wgb (iB c1) false (wchk F ⟨[],h5⟩ (.lookup false (.p (.int .i64 0)) ⟨false,[.int]⟩ (.const a1) (.const a2)) a3)) <|
ift (wgb (iB c1) false (wchk F ⟨[],h5⟩ (.lookup false (.p (.int .i64 0)) ⟨false,[.int]⟩ (.const a4) (.const a5)) a6)) <|
wgH (iB c1) false (wcallH a42 [a43] F) h5 fun a45 h6 =>
ift (wgb (iB c1) false (wchk F ⟨[],h6⟩ (.lookup false (.p (.int .i64 0)) ⟨false,[.int]⟩ (.const a1) (.const a2)) a3)) <|
ift (wgb (iB c1) false (wchk F ⟨[],h6⟩ (.lookup false (.p (.int .i64 0)) ⟨false,[.int]⟩ (.const a4) (.const a5)) a6)) <|
wgH (iB c1) false (wcallH (.p (.func 95)) [a3,a44,a6,a45] F) h6 fun a46 h11 =>
wgV (iB c1) false (v_gtr a46 (iN 0)) fun a47 =>
pk c1 (iB true) a47 <| oB fun c48 =>
wblock (fun(c49:Nat) (a48:IVal) (c50 c51 c52 c53 c54 c55 c56 c57 c58:Nat) (h18:FH) =>
j0 c49 a48 c50 (.ofNat c51) c52 c53 c54 c55 c56 c57 c58 h18) fun j1 =>
wif c48 (j1 c3 a0 c4 c3 c5 c6 c7 c10 c11 c12 c15 h11) <|
tN (iI c8) fun c59 =>
j1 c3 a0 c4 c59 c5 c6 c7 c10 c11 c12 c15 h11) <|
j2 a0 c4 c8 h9) L 0 a15 c25 (-1) c13 0 0 c16 0 0 c31 h3
noncomputable def zet:KFun:=⟨zly,false,false⟩
theorem zjb:KOK tr.look F_Q59 zet:=⟨i_Q59,(.sq (.rg [qh,qh,qn]) (.sq (.rg [qh,qn,qm,qm]) (.sq (.rg []) (.sq (.rg [qi]) (.sq (.sq (.rg [qh,qh,qh,qp,qn,qn]) (.bk [.slot 6 qa, .slot 5 qm, .slot 7 qi] (.lp [.slot 18 qn, .slot 6 qa, .slot 5 qm, .slot 7 qi, .slot 2 qh, .slot 3 qh, .slot 17 qn] (.sq (.rg [qb]) (.sq (.cj .lf .lf) (.sq (.bk [.slot 18 qn, .slot 6 qa, .slot 5 qm, .slot 7 qi, .slot 2 qh, .slot 3 qh, .slot 17 qn] (.sq (.rg [qn,qn]) (.sq (.sq (.rg [qm,qn,qn,qb,qb,qa,qa,qa,qa,qa,qb,qb,qa,qa,qa,qa,qa,qa,qa,qa,qa,qa,qa,qa,qa,qa,qa,qa,qa,qb]) (.cj .lf .lf)) (.sq (.rg [qi,qb,qb,qa,qa,qa,qa,qa,qa,qa,qa,qa,qa,qa,qa,qa,qa,qb]) (.cd [.slot 18 qn, .slot 6 qa, .slot 5 qm, .slot 7 qn, .slot 2 qh, .slot 3 qh, .slot 17 qn] (.rg [qn,qn]) .lf))))) (.rg [qn,qn]))))))) (.sq (.sq (.rg [qi,qb,qb,qa,qa,qa,qa,qa,qa,qa,qa,qb]) (.cj (.sq (.rg [qi]) .lf) .lf)) (.sq (.rg [qn,qn]) .lf))))))),[qh,qn],[],[],look_Q59,rfl,rfl,rfl,rfl,by kernel_rfl⟩
noncomputable def zkx:KC:=fun F L v h kr =>
wcons v <| ooH fun c6 c7 c8 r3 =>
wcons r3 <| ooN fun c11 r4 =>
wcons r4 <| ooN fun c12 r5 =>
wnil r5 <|
hld (some 5) c6 c7 c8 h <| oA fun r6 =>
F 71 [(.agg r6),(iN c11)] h <| ooT fun r7 h1 =>
wcons r7 <| ooA fun r1 r8 =>
wcons r8 <| ooB fun _ r9 =>
wnil r9 <|
wle r1 5 <|
nae c8 5 fun c14 =>
hld (some 5) c6 c7 c14 h1 <| oA fun r10 =>
F 71 [(.agg r10),(iN c12)] h1 <| ooT fun r11 h3 =>
wcons r11 <| ooA fun r2 r12 =>
wcons r12 <| ooB fun _ r13 =>
wnil r13 <|
wle r2 5 <|
wcut r1 0 5 fun r14 =>
wcut r2 0 5 fun r15 =>
F 97 [(.agg r14),(.agg r15)] h3 <| ooT fun r16 h4 =>
wcons r16 <| ooP fun c13 r17 =>
wcons r17 <| ooN fun _ r18 =>
wnil r18 <|
v_len (.p c13) <| oN fun c15 =>
wblock (fun(h5:FH) =>
kr (.tup []) h5) fun j1 =>
wloop (fun _ _ _ _ _ _ _ _ _=>none) (fun j2 (c0 c1 c2 c3 c4 c5:Nat) (c9:PVal) (c10:Nat) (h0:FH) =>
nbl c0 c10 fun c16 =>
wif c16 (wblock (fun(c17 c18 c19 c20 c21 c22:Nat) (c23:PVal) (c24:Nat) (h6:FH) =>
nad c17 1 fun c25 =>
j2 c25 c18 c19 c20 c21 c22 c23 c24 h6) fun j3 =>
zab 2 (.p c9) (iN c0) <| oP fun c26 =>
zac (some 2) (.p c26) ⟨[nb_ 13],h0⟩ <| oA fun r0 =>
wle r0 2 <|
wg 0 r0 <| oN fun c27 =>
nad c2 c27 fun c28 =>
wg 1 r0 <| oN fun c29 =>
nad c1 c29 fun c30 =>
F 61 [(iH c3 c4 c5),(iN c28),(iN c30)] h0 <| ooB fun c31 h2 =>
wblock (fun(c32 c33 c34 c35 c36 c37:Nat) (c38:PVal) (c39:Nat) (h7:FH) =>
j3 c32 c33 c34 c35 c36 c37 c38 c39 h7) fun j0 =>
wif c31 (wg 0 r0 <| oN fun c40 =>
nad c2 c40 fun c41 =>
wg 1 r0 <| oN fun c42 =>
nad c1 c42 fun c43 =>
F 57 [(iH c3 c4 c5),(iN c41),(iN c43)] h2 <| ooT fun r19 h8 =>
wnil r19 <|
j0 c0 c1 c2 c3 c4 c5 c9 c10 h8) <|
j0 c0 c1 c2 c3 c4 c5 c9 c10 h2) <|
j1 h0) L 0 c12 c11 c6 c7 c8 c13 c15 h4
noncomputable def zei:KFun:=⟨zkx,false,false⟩
theorem zip:KOK tr.look F_Q60 zei:=⟨i_Q60,(.sq (.rg [qh,qh,qh,qv,qn,(.tup [.aggv,(.c .bool)]),(.tup [.aggv,(.c .bool)]),qv,qb,(qx 6 0),(.tup []),qb]) (.sq (.rg [qh,qh,qh,qv,qn,(.tup [.aggv,(.c .bool)]),(.tup [.aggv,(.c .bool)]),qv,qb,(qx 8 0),(.tup []),qb]) (.sq (.rg [qv,qv,(.tup [(.c .pv),(.c .nat)]),(.tup [(.c .pv),(.c .nat)]),qp,qn,qp,qn]) (.sq (.rg [qp,qn,qn]) (.bk [] (.lp [.slot 40 qn, .slot 2 qn, .slot 1 qn, .slot 0 qh, .slot 38 qp, .slot 39 qn] (.sq (.rg [qb]) (.sq (.cj .lf .lf) (.sq (.bk [.slot 40 qn, .slot 2 qn, .slot 1 qn, .slot 0 qh, .slot 38 qp, .slot 39 qn] (.sq (.rg [qp,qv,(qx 13 0),(.tup [])]) (.sq (.rg [qh,qn,(qx 13 0),qn,qn,qn,(qx 13 1),qn,qn,qb]) (.cd [.slot 40 qn, .slot 2 qn, .slot 1 qn, .slot 0 qh, .slot 38 qp, .slot 39 qn] (.rg [qh,qn,(qx 13 0),qn,qn,qn,(qx 13 1),qn,qn,(.tup [])]) .lf)))) (.rg [qn,qn])))))))))),[qh,qn,qn],[8,13,6],[],look_Q60,rfl,rfl,rfl,rfl,by kernel_rfl⟩
noncomputable def zlz:KC:=fun _ _ v h kr =>
wcons v <| ooH fun c1 c2 c3 r0 =>
wcons r0 <| ooN fun c4 r1 =>
wcons r1 <| ooN fun c5 r2 =>
wnil r2 <|
nae c3 14 fun c6 =>
hld none c1 c2 c6 h <| oM fun c7 =>
zaj true (.p (.int .i64 0)) ⟨false,[.int]⟩ (.map c7) (iN c4) h <| ooT fun r3 h0 =>
wcons r3 <| ooN fun _ r4 =>
wcons r4 <| ooB fun c8 r5 =>
wnil r5 <|
nae c3 15 fun c9 =>
hld none c1 c2 c9 h0 <| oM fun c10 =>
zaj true (.p (.int .i64 0)) ⟨false,[.int]⟩ (.map c10) (iN c5) h0 <| ooT fun r6 h1 =>
wcons r6 <| ooN fun _ r7 =>
wcons r7 <| ooB fun c11 r8 =>
wnil r8 <|
bf (gnot c8) fun c0 =>
wgV (iB c0) true (vv (x_mov (iB c11))) fun a0 =>
wgV (iB c0) true (v_not a0) fun a1 =>
pk c0 a1 (iB false) <| oB fun c12 =>
kr (iB c12) h1
noncomputable def zeu:KFun:=⟨zlz,false,false⟩
theorem zjc:KOK tr.look F_Q61 zeu:=⟨i_Q61,(.sq (.rg [qb]) (.sq (.rg [qh,qh,qh,qm,qn,(.tup [(.c .nat),(.c .bool)]),(.tup [(.c .nat),(.c .bool)]),qn,qb,qn,qb]) (.sq (.rg [qh,qh,qh,qm,qn,(.tup [(.c .nat),(.c .bool)]),(.tup [(.c .nat),(.c .bool)]),qn,qb,qn,qb]) (.sq (.rg [qb,qb,qb,qa,qa,qb,qb]) .lf)))),[qh,qn,qn],[],[],look_Q61,rfl,rfl,rfl,rfl,by kernel_rfl⟩
noncomputable def zma:KC:=fun F L v h kr =>
wcons v <| ooH fun c12 c13 c14 r0 =>
wcons r0 <| ooN fun c25 r1 =>
wcons r1 <| ooN fun c26 r2 =>
wnil r2 <|
nae c14 12 fun c27 =>
nlt 0 2 <|
nam c27 0 1 fun c28 =>
hld none c12 c13 c28 h <| oP fun c29 =>
zab 1 (.p c29) (iN c25) <| oP fun c30 =>
zac none (.p c30) ⟨[],h⟩ <| oP fun c15 =>
v_len (.p c15) <| oN fun c31 =>
wblock (fun(h5:FH) =>
kr (.tup []) h5) fun j1 =>
wloop (fun _ _ _ _ _ _ _ _=>none) (fun j2 (c16 c17 c18 c5 c19:Nat) (c20:PVal) (c21:Nat) (h0:FH) =>
nbl c5 c21 fun c32 =>
wif c32 (wblock (fun(c33 c34 c35 c36 c37:Nat) (c38:PVal) (c39:Nat) (h6:FH) =>
nad c33 1 fun c40 =>
j2 c34 c35 c36 c40 c37 c38 c39 h6) fun j3 =>
zab 1 (.p c20) (iN c5) <| oP fun c41 =>
zac none (.p c41) ⟨[],h0⟩ <| oN fun c42 =>
nae c18 12 fun c43 =>
nlt 1 2 <|
nam c43 1 1 fun c44 =>
hld none c16 c17 c44 h0 <| oP fun c45 =>
zab 1 (.p c45) (iN c19) <| oP fun c46 =>
zac none (.p c46) ⟨[],h0⟩ <| oP fun c22 =>
v_len (.p c22) <| oN fun c47 =>
wblock (fun(c48 c49 c50 c51 c52:Nat) (c53:PVal) (c54:Nat) (h7:FH) =>
j3 c48 c49 c50 c51 c52 c53 c54 h7) fun j0 =>
wloop (fun _ _ _ _ _ _ _ _ _ _ _ _=>none) (fun j4 (c6:Nat) (c7:PVal) (c8 c1 c2 c3 c9 c4 c10:Nat) (c23:PVal) (c24:Nat) (h2:FH) =>
nbl c10 c24 fun c55 =>
wif c55 (wblock (fun(c56 c57:Nat) (c58:PVal) (c59 c60 c61 c62 c63 c64:Nat) (c65:PVal) (c66:Nat) (h8:FH) =>
nad c56 1 fun c67 =>
j4 c57 c58 c59 c60 c61 c62 c63 c64 c67 c65 c66 h8) fun j5 =>
zab 1 (.p c23) (iN c10) <| oP fun c68 =>
zac none (.p c68) ⟨[],h2⟩ <| oN fun c11 =>
F 61 [(iH c1 c2 c3),(iN c4),(iN c11)] h2 <| ooB fun c0 h1 =>
wgV (iB c0) true (vv (x_mov (iH c1 c2 c3))) fun a4 =>
wgV (iB c0) true (v_nil a4) fun a5 =>
wgV (iB c0) true (zaa 10 a5) fun a6 =>
wgV (iB c0) true (zac none a6 ⟨[],h1⟩) fun a7 =>
wgV (iB c0) true (vv (x_mov (iN c4))) fun a8 =>
wgV (iB c0) true (zab 10 a7 a8) fun a9 =>
wgV (iB c0) true (zac (some 10) a9 ⟨[],h1⟩) fun a10 =>
wgV (iB c0) true (vv (x_mov (iH c1 c2 c3))) fun a11 =>
wgV (iB c0) true (v_nil a11) fun a12 =>
wgV (iB c0) true (zaa 11 a12) fun a0 =>
wgV (iB c0) true (zac none a0 ⟨[],h1⟩) fun a1 =>
wgV (iB c0) true (vv (x_mov (iN c11))) fun a13 =>
wgV (iB c0) true (zab 10 a1 a13) fun a2 =>
wgV (iB c0) true (zac (some 10) a2 ⟨[],h1⟩) fun a3 =>
wgH (iB c0) true (wcallH (.p (.func 94)) [a10] F) h1 fun a14 h3 =>
ift (wgb (iB c0) true (wchk F ⟨[],h3⟩ (.load none (.const a0)) a1)) <|
ift (wgb (iB c0) true (wchk F ⟨[],h3⟩ (.load (some 10) (.const a2)) a3)) <|
wgH (iB c0) true (wcallH (.p (.func 94)) [a3] F) h3 fun a15 h4 =>
wgV (iB c0) true (vv (x_eqv false ⟨true,[.int, .str]⟩ (.const a14) (.const a15))) fun a16 =>
pk c0 a16 (iB false) <| oB fun c69 =>
wif c69 (F 57 [(iH c1 c2 c3),(iN c4),(iN c11)] h4 <| ooT fun r3 h9 =>
wnil r3 <|
j0 c9 c1 c2 c3 c8 c7 c6 h9) <|
j5 c10 c6 c7 c8 c1 c2 c3 c9 c4 c23 c24 h4) <|
j0 c9 c1 c2 c3 c8 c7 c6 h2) L c21 c20 c19 c16 c17 c18 c5 c42 0 c22 c47 h0) <|
j1 h0) L c12 c13 c14 0 c26 c15 c31 h
noncomputable def zev:KFun:=⟨zma,false,false⟩
theorem zjd:KOK tr.look F_Q62 zev:=⟨i_Q62,(.sq (.rg [qh,qh,qh,qh,qp,qn,qp,qp,qn,qn]) (.bk [] (.lp [.slot 0 qh, .slot 19 qn, .slot 2 qn, .slot 17 qp, .slot 18 qn] (.sq (.rg [qb]) (.sq (.cj .lf .lf) (.sq (.bk [.slot 19 qn, .slot 0 qh, .slot 2 qn, .slot 17 qp, .slot 18 qn] (.sq (.rg [qp,qn,qn]) (.sq (.rg [qh,qh,qh,qh,qp,qn,qp,qp,qn,qn]) (.bk [.slot 19 qn, .slot 0 qh, .slot 2 qn, .slot 17 qp, .slot 18 qn] (.lp [.slot 18 qn, .slot 17 qp, .slot 2 qn, .slot 0 qh, .slot 19 qn, .slot 7 qn, .slot 32 qn, .slot 30 qp, .slot 31 qn] (.sq (.rg [qb]) (.sq (.cj .lf .lf) (.sq (.bk [.slot 32 qn, .slot 18 qn, .slot 17 qp, .slot 2 qn, .slot 0 qh, .slot 19 qn, .slot 7 qn, .slot 30 qp, .slot 31 qn] (.sq (.rg [qp,qn,qn]) (.sq (.rg [qh,qn,qn,qb,qb,qa,qa,qa,qa,qa,qa,qa,qa,qa,qa,qa,qa,qa,qa,qa,qa,qa,qb]) (.cj (.sq (.rg [qh,qn,qn,(.tup [])]) .lf) .lf)))) (.rg [qn,qn]))))))))) (.rg [qn,qn]))))))),[qh,qn,qn],[],[],look_Q62,rfl,rfl,rfl,rfl,by kernel_rfl⟩
noncomputable def zaed:KC:=fun F L v h kr =>
wcons v <| ooA fun r1 r4 =>
wcons r4 <| ooA fun r2 r5 =>
wcons r5 <| ooP fun c5 r6 =>
wnil r6 <|
wle r1 5 <|
wle r2 5 <|
wcut r1 0 5 fun r7 =>
F 15 [(.agg r7)] h <| ooB fun c15 h3 =>
bf (gnot c15) fun c6 =>
wgV (iB c6) false (zac (some 5) (iX 4 0) ⟨[b_ 4 r2 5,b_ 3 r1 5,nb_ 12,nb_ 3,nb_ 4],h3⟩) fun a4 =>
wgH (iB c6) false (wcallH (.p (.func 15)) [a4] F) h3 fun a5 h4 =>
wgV (iB c6) false (v_not a5) fun a6 =>
pk c6 (iB true) a6 <| oB fun c7 =>
wgV (iB c7) false (vv (x_mov (.p c5))) fun a7 =>
wgV (iB c7) false (v_len a7) fun a8 =>
wgV (iB c7) false (v_eql a8 (iN 0)) fun a9 =>
pk c7 (iB true) a9 <| oB fun c1 =>
wgV (iB c1) false (vv (x_mov (.p c5))) fun a10 =>
wgV (iB c1) false (zab 2 a10 (iN 0)) fun a11 =>
wgV (iB c1) false (zac (some 2) a11 ⟨[b_ 4 r2 5,b_ 3 r1 5,nb_ 12,nb_ 3,nb_ 4],h4⟩) fun a12 =>
wgV (iB c1) false (zri [(.int .i64 0),(.int .i64 0)] []) fun a13 =>
wgV (iB c1) false (vv (x_eqv true ⟨true,[.int, .int]⟩ (.const a12) (.const a13))) fun a14 =>
pk c1 (iB true) a14 <| oB fun c16 =>
wif c16 ((none:WR)) <|
wcut r1 0 5 fun r8 =>
wcut r2 0 5 fun r3 =>
F 27 [(.agg r8)] h4 <| ooP fun c17 h5 =>
ift (wchk F ⟨[b_ 4 r2 5,b_ 3 r1 5,nb_ 12,nb_ 3,nb_ 4],h5⟩ (.load (some 5) (.const (iX 4 0))) (.agg r3)) <|
F 27 [(.agg r3)] h5 <| ooP fun c18 h6 =>
hpush h6 (.map [] 0) fun c19 h7 =>
v_len (.p c5) <| oN fun c20 =>
wblock (fun(h8:FH) =>
kr (iB true) h8) fun j0 =>
wloop (fun _ _ _ _ _ _ _ _=>none) (fun j1 (c9 c10:Nat) (c21:Int) (c11 c12 c13:PVal) (c14:Nat) (h0:FH) =>
nbl c10 c14 fun c22 =>
wif c22 (wblock (fun(c23 c24 c25:Nat) (c26 c27 c28:PVal) (c29:Nat) (h9:FH) =>
nad c23 1 fun c30 =>
j1 c24 c30 (.ofNat c25) c26 c27 c28 c29 h9) fun j2 =>
zab 2 (.p c13) (iN c10) <| oP fun c31 =>
zac (some 2) (.p c31) ⟨[nb_ 12],h0⟩ <| oA fun r0 =>
wle r0 2 <|
wg 0 r0 <| oN fun c32 =>
v_leq (iN c32) (iI c21) <| oB fun c2 =>
wgV (iB c2) false (zaa 0 (iX 12 0)) fun a15 =>
wgV (iB c2) false (zac none a15 ⟨[b_ 12 r0 2,b_ 12 [(iN 0),(iN 0)] 2,nb_ 12],h0⟩) fun a16 =>
wgV (iB c2) false (vv (x_mov (.p c11))) fun a17 =>
wgV (iB c2) false (v_len a17) fun a18 =>
wgV (iB c2) false (v_geq a16 a18) fun a19 =>
pk c2 (iB true) a19 <| oB fun c8 =>
wgV (iB c8) false (zaa 1 (iX 12 0)) fun a20 =>
wgV (iB c8) false (zac none a20 ⟨[b_ 12 r0 2,b_ 12 [(iN 0),(iN 0)] 2,nb_ 12],h0⟩) fun a21 =>
wgV (iB c8) false (v_lss a21 (iN 0)) fun a22 =>
pk c8 (iB true) a22 <| oB fun c3 =>
wgV (iB c3) false (zaa 1 (iX 12 0)) fun a23 =>
wgV (iB c3) false (zac none a23 ⟨[b_ 12 r0 2,b_ 12 [(iN 0),(iN 0)] 2,nb_ 12],h0⟩) fun a24 =>
wgV (iB c3) false (vv (x_mov (.p c12))) fun a25 =>
wgV (iB c3) false (v_len a25) fun a26 =>
wgV (iB c3) false (v_geq a24 a26) fun a27 =>
pk c3 (iB true) a27 <| oB fun c4 =>
wgV (iB c4) false (vv (x_mov (.map c9))) fun a28 =>
wgV (iB c4) false (zaa 1 (iX 12 0)) fun a29 =>
wgV (iB c4) false (zac none a29 ⟨[b_ 12 r0 2,b_ 12 [(iN 0),(iN 0)] 2,nb_ 12],h0⟩) fun a30 =>
wgH (iB c4) false (zaj false (.p (.bool false)) ⟨false,[.int]⟩ a28 a30) h0 fun a31 h1 =>
pk c4 (iB true) a31 <| oB fun c0 =>
wgV (iB c0) false (vv (x_mov (.p c11))) fun a32 =>
wgV (iB c0) false (zaa 0 (iX 12 0)) fun a33 =>
wgV (iB c0) false (zac none a33 ⟨[b_ 12 r0 2,b_ 12 [(iN 0),(iN 0)] 2,nb_ 12],h1⟩) fun a34 =>
wgV (iB c0) false (zab 10 a32 a34) fun a35 =>
wgV (iB c0) false (zac (some 10) a35 ⟨[b_ 12 r0 2,b_ 12 [(iN 0),(iN 0)] 2,nb_ 12],h1⟩) fun a36 =>
wgV (iB c0) false (vv (x_mov (.p c12))) fun a37 =>
wgV (iB c0) false (zaa 1 (iX 12 0)) fun a0 =>
wgV (iB c0) false (zac none a0 ⟨[b_ 12 r0 2,b_ 12 [(iN 0),(iN 0)] 2,nb_ 12],h1⟩) fun a1 =>
wgV (iB c0) false (zab 10 a37 a1) fun a2 =>
wgV (iB c0) false (zac (some 10) a2 ⟨[b_ 12 r0 2,b_ 12 [(iN 0),(iN 0)] 2,nb_ 12],h1⟩) fun a3 =>
wgH (iB c0) false (wcallH (.p (.func 94)) [a36] F) h1 fun a38 h2 =>
ift (wgb (iB c0) false (wchk F ⟨[b_ 12 r0 2,b_ 12 [(iN 0),(iN 0)] 2,nb_ 12],h2⟩ (.load none (.const a0)) a1)) <|
ift (wgb (iB c0) false (wchk F ⟨[b_ 12 r0 2,b_ 12 [(iN 0),(iN 0)] 2,nb_ 12],h2⟩ (.load (some 10) (.const a2)) a3)) <|
wgH (iB c0) false (wcallH (.p (.func 94)) [a3] F) h2 fun a39 h10 =>
wgV (iB c0) false (vv (x_eqv true ⟨true,[.int, .str]⟩ (.const a38) (.const a39))) fun a40 =>
pk c0 (iB true) a40 <| oB fun c33 =>
wif c33 ((none:WR)) <|
wg 0 r0 <| oN fun c34 =>
wg 1 r0 <| oN fun c35 =>
zbp ⟨false,[.int]⟩ (.map c9) (iN c35) (iB true) h10 <| ooT fun r9 h11 =>
wnil r9 <|
j2 c10 c9 c34 c11 c12 c13 c14 h11) <|
j0 h0) L c19 0 (-1) c17 c18 c5 c20 h7
noncomputable def zqb:KFun:=⟨zaed,true,true⟩
theorem zxt:KOK tr.look F_Q64 zqb:=⟨i_Q64,(.sq (.rg [(qx 3 0),(qx 4 0),qb]) (.sq (.sq (.rg [qv,qb,qb,qb,qa,qa,qa,qb,qb,qa,qa,qa,qb,qb,qa,qa,qa,qa,qa,qb]) (.cj (.sq .lf .lf) .lf)) (.sq (.rg [qv,qp,qv,qp,qp,qp]) (.sq (.rg [qi]) (.sq (.rg [qm,qm]) (.sq (.sq (.rg [qp,qn,qn]) (.bk [] (.lp [.slot 10 qm, .slot 40 qn, .slot 9 qi, .slot 7 qp, .slot 8 qp, .slot 38 qp, .slot 39 qn] (.sq (.rg [qb]) (.sq (.cj .lf .lf) (.sq (.bk [.slot 40 qn, .slot 10 qm, .slot 9 qn, .slot 7 qp, .slot 8 qp, .slot 38 qp, .slot 39 qn] (.sq (.rg [qp,qv,(qx 12 0),(.tup [])]) (.sq (.sq (.rg [(qx 12 0),qn,qi,qb,qb,qa,qa,qa,qa,qa,qb,qb,qa,qa,qa,qb,qb,qa,qa,qa,qa,qa,qb,qb,qa,qa,qa,qa,qb,qb,qa,qa,qa,qa,qa,qa,qa,qa,qa,qa,qa,qa,qa,qb]) (.cj (.sq .lf .lf) .lf)) (.sq (.rg [(qx 12 0),qn,qn]) (.rg [qm,(qx 12 1),qn,(.tup [])]))))) (.rg [qn,qn]))))))) (.sq (.rg [qb]) .lf))))))),[qv,qv,qp],[12,3,4],[],look_Q64,rfl,rfl,rfl,rfl,by kernel_rfl⟩
noncomputable def zahj:KC:=fun _ _ v h kr =>
wcons v <| ooN fun c0 r0 =>
wcons r0 <| ooH fun c1 c2 c3 r1 =>
wnil r1 <|
hld none c1 c2 c3 h <| oM fun c4 =>
zaj true (.p (.int .i64 0)) ⟨false,[.int]⟩ (.map c4) (iN c0) h <| ooT fun r2 h0 =>
wcons r2 <| ooN fun c5 r3 =>
wcons r3 <| ooB fun c6 r4 =>
wnil r4 <|
wif c6 (kr (iN c5) h0) <|
v_sub (iI (-2)) (iN c0) <| oI fun c7 =>
kr (iI c7) h0
noncomputable def zte:KFun:=⟨zahj,false,false⟩
theorem zzf:KOK tr.look F_Q65 zte:=⟨i_Q65,(.sq (.rg [qn]) (.sq (.sq (.rg [qm,qn,(.tup [(.c .nat),(.c .bool)]),(.tup [(.c .nat),(.c .bool)]),qn,qb,qn,qb]) (.sq (.rg [qb]) (.cj (.sq (.rg [qn,qn]) .lf) .lf))) (.sq (.rg [qn,qi,qi]) .lf))),[qn,qh],[],[],look_Q65,rfl,rfl,rfl,rfl,by kernel_rfl⟩
noncomputable def zxu:KC:=fun F L v h kr =>
wcons v <| ooA fun r6 r9 =>
wcons r9 <| ooA fun r4 r10 =>
wnil r10 <|
wle r6 5 <|
wle r4 5 <|
wg 2 r6 <| oS fun c6 =>
wg 2 r4 <| oS fun c7 =>
v_neq (iS c6) (iS c7) <| oB fun c8 =>
wg 3 r4 <| oP fun c4 =>
v_len (.p c4) <| oN fun c9 =>
wblock (fun(r11 r12 r13 r14:LI) (h2:FH) =>
wg 3 r11 <| oP fun c5 =>
v_len (.p c5) <| oN fun c10 =>
wblock (fun(r15 r16:LI) (h3:FH) =>
wcut r15 0 6 fun r7 =>
wle r7 6 <|
wle r16 6 <|
wcut r7 0 6 fun r17 =>
kr (.agg r17) h3) fun j1 =>
wloop (fun _ _ _ _ _ _ _=>none) (fun _ (c11:Nat) (_:PVal) (c12:Nat) (r18 _ r19:LI) (h4:FH) =>
nbl c11 c12 fun c13 =>
wif c13 ((none:WR)) <|
j1 r18 r19 h4) L 0 c5 c10 r12 r13 r14 h2) fun j2 =>
wloop (fun _ _ _ _ _ _ _ _=>none) (fun j3 (c1:Nat) (c2:PVal) (c3:Nat) (r0 r1 r2 r3:LI) (h0:FH) =>
nbl c1 c3 fun c14 =>
wif c14 (wblock (fun(c15:Nat) (c16:PVal) (c17:Nat) (r20 r21 r22 r23:LI) (h5:FH) =>
nad c15 1 fun c18 =>
j3 c18 c16 c17 r20 r21 r22 r23 h5) fun j4 =>
zab 2 (.p c2) (iN c1) <| oP fun c19 =>
zac (some 2) (.p c19) ⟨[nb_ 7,b_ 5 r0 6,b_ 2 r1 5,b_ 3 r2 5,b_ 4 r3 6],h0⟩ <| oA fun r5 =>
wle r5 2 <|
wcut r1 0 5 fun r24 =>
wg 0 r5 <| oS fun c20 =>
F 98 [(.agg r24),(iS c20)] h0 <| ooT fun r25 h1 =>
wcons r25 <| ooS fun c21 r26 =>
wcons r26 <| ooB fun c22 r27 =>
wnil r27 <|
bf (gnot c22) fun c0 =>
wgV (iB c0) false (vv (x_mov (iS c21))) fun a0 =>
wgV (iB c0) false (zaa 1 (iX 7 0)) fun a1 =>
wgV (iB c0) false (zac none a1 ⟨[b_ 7 r5 2,b_ 7 [(iS []),(iS [])] 2,nb_ 7,b_ 5 r0 6,b_ 2 r1 5,b_ 3 r2 5,b_ 4 r3 6],h1⟩) fun a2 =>
wgV (iB c0) false (v_neq a0 a2) fun a3 =>
pk c0 (iB true) a3 <| oB fun c23 =>
wblock (fun(c24:Nat) (c25:PVal) (c26:Nat) (r28 r29 r30 r31:LI) (h6:FH) =>
j4 c24 c25 c26 r28 r29 r30 r31 h6) fun j0 =>
wif c23 (wg 2 r0 <| oP fun c27 =>
wcut r5 0 2 fun r8 =>
wle r8 2 <|
wspl [(iS []),(iS [])] 0 r8 fun r32 =>
hpush h1 (.cells r32 2 0 false) fun c28 h7 =>
zad 2 (.p c27) (.slice c28 0 0 1) h7 <| ooL fun c29 c30 c31 c32 h8 =>
wspl r0 2 [(.slice c29 c30 c31 c32)] fun r33 =>
j0 c1 c2 c3 r33 r1 r2 r3 h8) <|
j0 c1 c2 c3 r0 r1 r2 r3 h1) <|
j2 r1 r0 r2 r3 h0) L 0 c4 c9 [(iB false),(iB c8),(.p .nilslice),(.p .nilslice),(iN 0),(.p .nilslice)] r6 r4 [(iB false),(iB false),(.p .nilslice),(.p .nilslice),(iN 0),(.p .nilslice)] h
noncomputable def zky:KFun:=⟨zxu,true,false⟩
theorem zrq:KOK tr.look F_Q66 zky:=⟨i_Q66,(.sq (.rg [(qx 2 0),(qx 3 0),(qx 4 0)]) (.sq (.rg [(qx 2 2),qs,(qx 3 2),qs,qb,qv,(qx 5 0),(.tup [])]) (.sq (.sq (.rg [(qx 3 3),qp,qn,qn]) (.bk [sx 2,sx 5,sx 3,sx 4,bl 2 5,bl 5 6,bl 3 5,bl 4 6] (.lp [.slot 23 qn,sx 5,sx 2, .slot 21 qp,sx 3,sx 4, .slot 22 qn,bl 5 6,bl 2 5,bl 3 5,bl 4 6] (.sq (.rg [qb]) (.sq (.cj .lf .lf) (.sq (.bk [.slot 23 qn,sx 5,sx 2, .slot 21 qp,sx 3,sx 4, .slot 22 qn,bl 5 6,bl 2 5,bl 3 5,bl 4 6] (.sq (.rg [qp,qv,(qx 7 0),(.tup [])]) (.sq (.rg [qv,(qx 7 0),qs,(.tup [(.c .str),(.c .bool)]),(.tup [(.c .str),(.c .bool)]),qs,qb,qs,qb]) (.sq (.rg [qb,qb,qb,qa,qa,qa,qa,qb]) (.cd [.slot 23 qn,sx 5,sx 2, .slot 21 qp,sx 3,sx 4, .slot 22 qn,bl 5 6,bl 2 5,bl 3 5,bl 4 6] (.rg [(qx 5 2),qp,qv,ql,ql,(qx 5 2),(.tup [])]) .lf))))) (.rg [qn,qn]))))))) (.sq (.sq (.rg [(qx 2 3),qp,qn,qn]) (.bk [sx 5,sx 4,bl 5 6,bl 4 6] (.lp [.slot 52 qn,sx 5,sx 3, .slot 50 qp,sx 4, .slot 51 qn,bl 5 6,bl 3 5,bl 4 6] (.sq (.rg [qb]) (.sq (.cj .lf .lf) (.sq .lf .lf)))))) (.sq (.rg [qv,(.tup [])]) .lf))))),[qv,qv],[5,11,7,2,3,4],[],look_Q66,rfl,rfl,rfl,rfl,by kernel_rfl⟩
noncomputable def zej:KC:=fun F L v h kr =>
wcons v <| ooP fun c3 r0 =>
wcons r0 <| ooN fun c4 r1 =>
wcons r1 <| ooN fun c5 r2 =>
wcons r2 <| ooN fun c6 r3 =>
wnil r3 <|
wblock (fun(h0:FH) =>
kr (.tup []) h0) fun _ =>
wloop (fun _ _ _ _ _ _ _=>none) (fun j0 (c0 c1:Nat) (c7:PVal) (_ _:Bool) (_:Nat) (h1:FH) =>
wblock (fun(a0 a1 a2 a3 a4 a5:IVal) (h2:FH) =>
tN a0 fun c8 =>
tN a1 fun c9 =>
tP a2 fun c10 =>
tB a3 fun c11 =>
tB a4 fun c12 =>
tN a5 fun c13 =>
j0 c8 c9 c10 c11 c12 c13 h2) fun _ =>
ift (Nat.ble c1 c0) <|
nforce (Nat.sub c0 c1) fun c2 =>
nlt c2 lim63 <|
bf (Nat.ble c2 12) fun c14 =>
wif c14 (F 99 [(.p c7),(iN c1),(iN c0)] h1 <| ooT fun r4 h3 =>
wnil r4 <|
kr (.tup []) h3) <|
(none:WR)) L c5 c4 c3 true true c6 h
noncomputable def zbl:KFun:=⟨zej,true,false⟩
theorem zdj:KOK tr.look F_Q67 zbl:=⟨i_Q67,(.sq (.rg [qb]) (.sq (.rg [qb]) (.bk [] (.lp [.slot 2 qn, .slot 1 qn, .slot 0 qp, .slot 9 qb, .slot 8 qb, .slot 3 qn] (.bk [.slot 2 qa, .slot 1 qa, .slot 0 qa, .slot 9 qa, .slot 8 qa, .slot 3 qa] (.sq (.rg [qn,qn,qn,qn]) (.sq (.sq (.rg [qn,qb]) (.cj (.sq (.rg [qp,qn,qn,(.tup [])]) .lf) .lf)) (.sq (.sq .lf (.cj (.sq .lf .lf) .lf)) (.sq (.sq .lf .lf) (.sq .lf (.sq (.sq .lf .lf) (.sq (.sq .lf .lf) (.sq (.sq .lf (.cj (.sq .lf (.sq .lf .lf)) .lf)) (.sq .lf (.sq .lf (.sq .lf (.sq .lf (.sq .lf .lf)))))))))))))))))),[qp,qn,qn,qn],[],[],look_Q67,rfl,rfl,rfl,rfl,by kernel_rfl⟩
noncomputable def zxv:KC:=fun F _ v h kr =>
wcons v <| ooP fun c0 r0 =>
wnil r0 <|
F 109 [(.p c0)] h <| ooN fun c1 h0 =>
kr (iN c1) h0
noncomputable def zkz:KFun:=⟨zxv,true,false⟩
theorem zrr:KOK tr.look F_Q68 zkz:=⟨i_Q68,(.sq (.rg [qn]) (.sq (.cj (.sq .lf .lf) .lf) (.sq (.rg [qp,qn,qn]) .lf))),[qp],[],[],look_Q68,rfl,rfl,rfl,rfl,by kernel_rfl⟩
noncomputable def zaoj:KC:=fun _ _ v h kr =>
wcons v <| ooI fun c0 r0 =>
wnil r0 <|
v_lss (iI c0) (iI (-1048576)) <| oB fun c1 =>
wif c1 (v_sub (iI (-2)) (iI c0) <| oI fun c2 =>
zaml (iI c2) (iN 1048576) <| oN fun c3 =>
kr (.agg [(iN 1),(iN c3)]) h) <|
(none:WR)
noncomputable def zabh:KFun:=⟨zaoj,true,false⟩
theorem zahk:KOK tr.look F_Q70 zabh:=⟨i_Q70,(.sq (.rg [(qx 2 0)]) (.sq (.sq (.rg [qi,qb]) (.cj (.sq (.rg [qi,qi,qn,qv,(.tup [])]) .lf) .lf)) (.sq .lf .lf))),[qi],[2],[],look_Q70,rfl,rfl,rfl,rfl,by kernel_rfl⟩
noncomputable def zaok:KC:=fun F _ v h kr =>
wcons v <| ooA fun r1 r2 =>
wcons r2 <| ooN fun c3 r3 =>
wnil r3 <|
wle r1 5 <|
hpush h (.cells r1 5 0 false) fun c4 h1 =>
hpush h1 (.cells [(iN c3)] 1 0 false) fun c5 h2 =>
hpush h2 (.cells zt5 5 0 false) fun c1 h3 =>
hpush h3 (.cells [(iB false)] 1 0 false) fun c0 h4 =>
hwr h4 c0 0 0 [(iB false)] fun h5 =>
vv (zea 110 [(.const (iH c5 0 0)),(.const (iH c1 0 0)),(.const (iH c0 0 0))]) fun a0 =>
ift (passB a0) <|
F 51 [(iH c4 0 0),a0] h5 <| ooT fun r4 h0 =>
wnil r4 <|
hld (some 5) c1 0 0 h0 <| oA fun r0 =>
hld none c0 0 0 h0 <| oB fun c2 =>
wle r0 5 <|
ift (wchk F ⟨[b_ 4 r0 5,b_ 4 zt5 5,nb_ 4],h0⟩ (.load none (.const (iH c0 0 0))) (iB c2)) <|
wcut r0 0 5 fun r5 =>
kr (.tup [(.agg r5),(iB c2)]) h0
noncomputable def zabi:KFun:=⟨zaok,true,false⟩
theorem zahl:KOK tr.look F_Q71 zabi:=⟨i_Q71,(.sq (.rg [qh,qh,(qx 4 0),qb]) (.sq (.rg [qh]) (.sq (.rg [qh,(.tup [])]) (.sq (.rg [qa,(.tup [])]) (.sq (.rg [qv,qb,(.tup []),qb]) .lf))))),[qv,qn],[4],[],look_Q71,rfl,rfl,rfl,rfl,by kernel_rfl⟩
noncomputable def zco:KC:=fun F _ v h kr =>
wcons v fun a0 r0 =>
wcons r0 <| ooP fun c1 r1 =>
wnil r1 <|
v_len a0 <| oN fun c0 =>
vv (zfs .u64 (iN c0)) <| oP fun c2 =>
F 68 [(.p c2)] h <| ooN fun c3 h0 =>
ift (passB a0) <|
F 111 [a0,(iN 0),(iN c0),(iN c3),(.p c1)] h0 <| ooT fun r2 h1 =>
wnil r2 <|
kr (.tup []) h1
noncomputable def zax:KFun:=⟨zco,false,false⟩
theorem zce:KOK tr.look F_Q73 zax:=⟨i_Q73,(.sq (.rg [qa,qn,qn]) (.rg [qa,qn,qn,qp,qn,qp,(.tup [])])),[qa,qp],[],[],look_Q73,rfl,rfl,rfl,rfl,by kernel_rfl⟩
noncomputable def zqc:KC:=fun F L v h kr =>
wcons v <| ooH fun c0 c1 c2 r5 =>
wcons r5 <| ooA fun r0 r6 =>
wnil r6 <|
wle r0 2 <|
wg 0 r0 <| oN fun c9 =>
nae c2 12 fun c19 =>
nlt c9 2 <|
nam c19 c9 1 fun c20 =>
hld none c0 c1 c20 h <| oP fun c21 =>
wg 1 r0 <| oN fun c22 =>
zab 10 (.p c21) (iN c22) <| oP fun c23 =>
zaa 5 (.p c23) <| oP fun c24 =>
zac (some 5) (.p c24) ⟨[b_ 4 zt5 5,b_ 3 r0 2,nb_ 6,nb_ 3,nb_ 4],h⟩ <| oA fun r1 =>
hpush h (.cells zt5 5 0 false) fun c10 h6 =>
wle r1 5 <|
hwr h6 c10 0 0 r1 fun h0 =>
wg 0 r0 <| oN fun c3 =>
wg 0 r0 <| oN fun c11 =>
nae c2 23 fun c25 =>
nlt c11 2 <|
nam c25 c11 1 fun c26 =>
hld none c0 c1 c26 h0 <| oL fun c27 c28 c29 c30 =>
wg 1 r0 <| oN fun c31 =>
nae c2 22 fun c32 =>
hld none c0 c1 c32 h0 <| oN fun c33 =>
hpush h0 (.cells [(iN c31),(iN c33)] 2 0 false) fun c34 h7 =>
nae c2 23 fun c35 =>
zad 2 (.slice c27 c28 c29 c30) (.slice c34 0 0 1) h7 <| ooL fun c36 c37 c38 c39 h2 =>
nlt c3 2 <|
nam c35 c3 1 fun c40 =>
ift (wchk F ⟨[b_ 4 zt5 5,b_ 3 r0 2,nb_ 6,nb_ 3,nb_ 4],h2⟩ (.load none (.const (iX 3 0))) (iN c3)) <|
hwr h2 c0 c1 c40 [(.slice c36 c37 c38 c39)] fun h3 =>
nae c2 20 fun c41 =>
hld none c0 c1 c41 h3 <| oM fun c42 =>
wcut r0 0 2 fun r7 =>
zaj false (.agg [(.p (.int .i64 0)),(.p (.int .i64 0))]) ⟨true,[.int, .int]⟩ (.map c42) (.agg r7) h3 <| ooA fun r2 h8 =>
wle r2 2 <|
wcut r2 0 2 fun r8 =>
vv (x_eqv true ⟨true,[.int, .int]⟩ (.const (.agg r8)) (.const (.agg [(iN 0),(iN 0)]))) <| oB fun c43 =>
wblock (fun(c4 c5 c6 c44 c45 c46 c47 c12:Nat) (r9:LI) (h4:FH) =>
nae c6 22 fun c48 =>
hld none c4 c5 c48 h4 <| oN fun c49 =>
nad c49 1 fun c50 =>
nae c6 22 fun c51 =>
hwr h4 c4 c5 c51 [(iN c50)] fun h9 =>
nad c12 1 fun c52 =>
wblock (fun(c53 c54 c55:Nat) (c56:PVal) (c13 c14 c15:Nat) (r10:LI) (h10:FH) =>
F 37 [(iH c53 c54 c55),(iH c13 c14 c15),(.p c56)] h10 <| ooT fun r11 h5 =>
wnil r11 <|
hld (some 5) c13 c14 c15 h5 <| oA fun r3 =>
wle r3 5 <|
wle r10 5 <|
wcut r3 0 5 fun r12 =>
kr (.agg r12) h5) fun j0 =>
wloop (fun _ _ _ _ _ _ _ _ _ _ _ _=>none) (fun _ (c57 c16 c17 c18:Nat) (c58:PVal) (c59 c60 c61 c7 c8:Nat) (r4:LI) (h1:FH) =>
nae c18 12 fun c62 =>
nlt c7 2 <|
nam c62 c7 1 fun c63 =>
hld none c16 c17 c63 h1 <| oP fun c64 =>
zab 10 (.p c64) (iN c8) <| oP fun c65 =>
zaa 1 (.p c65) <| oP fun c66 =>
zac none (.p c66) ⟨[b_ 3 [(iN c7),(iN c8)] 2,b_ 4 r4 5],h1⟩ <| oN fun c67 =>
nad c8 c67 fun c68 =>
nbl c57 c68 fun c69 =>
wif c69 ((none:WR)) <|
j0 c16 c17 c18 c58 c59 c60 c61 r4 h1) L c52 c4 c5 c6 .nilslice c44 c45 c46 c47 c12 r9 h9) fun j1 =>
wif c43 ((none:WR)) <|
wcons r0 <| ooN fun c70 r13 =>
wcons r13 <| ooN fun c71 r14 =>
wnil r14 <|
j1 c0 c1 c2 c10 0 0 c70 c71 zt5 h8
noncomputable def zgl:KFun:=⟨zqc,false,false⟩
theorem zmb:KOK tr.look F_Q76 zgl:=⟨i_Q76,(.sq (.rg [(qx 3 0),(qx 4 0)]) (.sq (.rg [qh,(qx 3 0),qn,qh,qh,qh,qp,(qx 3 1),qn,qp,qp,qv,qh,(.tup [])]) (.sq (.rg [qh,(qx 3 0),qn,qh,(qx 3 0),qn,qh,qh,qh,ql,(qx 3 1),qn,qh,qh,qh,qn,qv,ql,ql,qh,qh,qh,(.tup [])]) (.sq (.sq (.rg [qh,qh,qh,qm,qv,qv,(qx 6 0),(.tup [])]) (.sq (.rg [qv,qv,qb]) (.cd [.slot 0 qh,sx 3, .slot 5 qh,sx 4,(.box 3 (.cells 2 [.nat, .nat])),bl 4 5] .lf .lf))) (.sq (.rg [qh,qh,qh,qn,qn,qh,qh,(.tup [])]) (.sq (.rg [qp]) (.sq (.sq (.rg [(qx 3 1),qn,qn,qn]) (.bk [.slot 0 qh, .slot 7 qp, .slot 5 qh,sx 4,bl 4 5] (.lp [.slot 8 qn, .slot 0 qh,sx 3, .slot 7 qp, .slot 5 qh,sx 4,(.box 3 (.cells 2 [.nat, .nat])),bl 4 5] (.sq (.sq (.rg [qn,(qx 3 1),qn,qh,(qx 3 0),qn,qh,qh,qh,qp,(qx 3 1),qn,qp,qp,qn,qn,qb]) (.cj .lf .lf)) (.sq .lf .lf))))) (.sq (.rg [qh,qp,(.tup [])]) (.sq (.rg [qv,(.tup [])]) .lf))))))))),[qh,qv],[6,3,4],[],look_Q76,rfl,rfl,rfl,rfl,by kernel_rfl⟩
noncomputable def zxw:KC:=fun _ _ v h kr =>
wcons v <| ooN fun c0 r0 =>
wnil r0 <|
bf (gnot (Nat.beq c0 c0)) fun c1 =>
kr (iB c1) h
noncomputable def zla:KFun:=⟨zxw,true,false⟩
theorem zrs:KOK tr.look F_Q78 zla:=⟨i_Q78,(.sq (.rg [qb]) (.sq (.rg [qn,qn,qb,qb]) .lf)),[qn],[],[],look_Q78,rfl,rfl,rfl,rfl,by kernel_rfl⟩
noncomputable def zasl:KC:=fun F _ v h kr =>
wcons v <| ooA fun r0 r1 =>
wnil r1 <|
wle r0 5 <|
wcut r0 0 5 fun r2 =>
F 15 [(.agg r2)] h <| ooB fun c1 h0 =>
bf (gnot c1) fun c2 =>
wif c2 ((none:WR)) <|
hpush h0 (.map [] 0) fun c3 h1 =>
hpush h1 (.cells [(.p .nilslice),(.map c3)] 2 0 false) fun c0 h2 =>
wcut r0 0 5 fun r3 =>
F 121 [(iH c0 0 0),(.agg r3),(iI (-1))] h2 <| ooN fun _ h3 =>
kr (.tup [(iH c0 0 0),(iN 0)]) h3
noncomputable def zahm:KFun:=⟨zasl,false,false⟩
theorem zakl:KOK tr.look F_Q79 zahm:=⟨i_Q79,(.sq (.rg [(qx 1 0),qp,qn]) (.sq (.sq (.rg [qv,qb,qb]) (.cj (.sq .lf .lf) .lf)) (.sq (.rg [qm,qv,qh,qh]) (.sq (.rg [qh,qv,qn]) (.sq (.rg [qh,qh,qn]) .lf))))),[qv],[1],[],look_Q79,rfl,rfl,rfl,rfl,by kernel_rfl⟩
noncomputable def zny:KC:=fun F _ v h kr =>
wcons v <| ooH fun c0 c1 c2 r3 =>
wcons r3 <| ooA fun r0 r4 =>
wnil r4 <|
wle r0 7 <|
nae c2 5 fun c8 =>
hld none c0 c1 c8 h <| oB fun c9 =>
wif c9 (kr (.tup []) h) <|
wg 0 r0 <| oN fun c4 =>
wblock (fun(c10 c5 c6 c7:Nat) (r1:LI) (h0:FH) =>
nae c7 4 fun c11 =>
hld none c5 c6 c11 h0 <| oP fun c12 =>
nae c7 4 fun c13 =>
hld none c5 c6 c13 h0 <| oP fun c14 =>
v_len (.p c14) <| oN fun c15 =>
nae c7 4 fun c16 =>
hld none c5 c6 c16 h0 <| oP fun c17 =>
v_len (.p c17) <| oN fun c18 =>
zagu 7 (.p c12) (iN c15) (iN c18) h0 <| ooP fun c19 h2 =>
wcut r1 0 7 fun r2 =>
wle r2 7 <|
wspl [(iN 0),(iN 0),(iN 0),(iN 0),(iN 0),(iS []),(iS [])] 0 r2 fun r5 =>
hpush h2 (.cells r5 7 0 false) fun c20 h3 =>
zad 7 (.p c19) (.slice c20 0 0 1) h3 <| ooL fun c21 c22 c23 c24 h4 =>
nae c7 4 fun c25 =>
hwr h4 c5 c6 c25 [(.slice c21 c22 c23 c24)] fun h1 =>
bf (gnot (Nat.beq c10 0)) fun c3 =>
wgV (iB c3) false (vv (x_mov (iH c5 c6 c7))) fun a0 =>
wgV (iB c3) false (v_nil a0) fun a1 =>
wgV (iB c3) false (zaa 4 a1) fun a2 =>
wgV (iB c3) false (zac none a2 ⟨[b_ 3 r1 7],h1⟩) fun a3 =>
wgV (iB c3) false (v_len a3) fun a4 =>
wgV (iB c3) false (v_gtr a4 (iN 1500)) fun a5 =>
pk c3 (iB true) a5 <| oB fun c26 =>
nae c7 5 fun c27 =>
hwr h1 c5 c6 c27 [(iB c26)] fun h5 =>
kr (.tup []) h5) fun j3 =>
nbe c4 1 fun c28 =>
wblock (fun(c29 c30 c31 c32:Nat) (r6:LI) (h6:FH) =>
j3 c29 c30 c31 c32 r6 h6) fun j0 =>
wif c28 (hld none c0 c1 c2 h <| oH fun c33 c34 c35 =>
wg 1 r0 <| oN fun c36 =>
wg 2 r0 <| oN fun c37 =>
wg 3 r0 <| oN fun c38 =>
wg 4 r0 <| oN fun c39 =>
wg 5 r0 <| oS fun c40 =>
wg 6 r0 <| oS fun c41 =>
F 122 [(iH c33 c34 c35),(iN c36),(iN c37),(iN c38),(.agg [(iN c39),(iS c40),(iS c41),(.p .nilslice),(.p .nilslice)])] h <| ooN fun c42 h7 =>
j0 c42 c0 c1 c2 r0 h7) <|
nbe c4 2 fun c43 =>
wblock (fun(c44 c45 c46 c47:Nat) (r7:LI) (h8:FH) =>
j0 c44 c45 c46 c47 r7 h8) fun j4 =>
wif c43 ((none:WR)) <|
nbe c4 3 fun c48 =>
wblock (fun(c49 c50 c51 c52:Nat) (r8:LI) (h9:FH) =>
j4 c49 c50 c51 c52 r8 h9) fun j5 =>
wif c48 ((none:WR)) <|
nbe c4 4 fun c53 =>
wblock (fun(c54 c55 c56 c57:Nat) (r9:LI) (h10:FH) =>
j5 c54 c55 c56 c57 r9 h10) fun j1 =>
wif c53 (hld none c0 c1 c2 h <| oH fun c58 c59 c60 =>
wg 1 r0 <| oN fun c61 =>
wg 5 r0 <| oS fun c62 =>
wg 6 r0 <| oS fun c63 =>
F 125 [(iH c58 c59 c60),(iN c61),(iS c62),(iS c63)] h <| ooN fun c64 h11 =>
j1 c64 c0 c1 c2 r0 h11) <|
nbe c4 5 fun c65 =>
wblock (fun(c66 c67 c68 c69:Nat) (r10:LI) (h12:FH) =>
j1 c66 c67 c68 c69 r10 h12) fun j6 =>
wif c65 ((none:WR)) <|
nbe c4 6 fun c70 =>
wblock (fun(c71 c72 c73 c74:Nat) (r11:LI) (h13:FH) =>
j6 c71 c72 c73 c74 r11 h13) fun j2 =>
wif c70 (hld none c0 c1 c2 h <| oH fun c75 c76 c77 =>
wg 1 r0 <| oN fun c78 =>
wg 6 r0 <| oS fun c79 =>
F 127 [(iH c75 c76 c77),(iN c78),(iS c79)] h <| ooN fun c80 h14 =>
j2 c80 c0 c1 c2 r0 h14) <|
j2 15 c0 c1 c2 r0 h
noncomputable def zgb:KFun:=⟨zny,false,false⟩
theorem zlb:KOK tr.look F_Q80 zgb:=⟨i_Q80,(.sq (.rg [(qx 3 0)]) (.sq (.sq (.rg [qh,qh,qh,qb]) (.cj .lf .lf)) (.sq (.rg [qn]) (.sq (.sq (.rg [(qx 3 0),qn]) (.bk [sx 3, .slot 4 qn, .slot 0 qh,bl 3 7] (.sq (.rg [qb,qb]) (.cd [sx 3, .slot 4 qn, .slot 0 qh,bl 3 7] (.rg [qh,qh,qh,qh,(qx 3 1),qn,(qx 3 2),qn,(qx 3 3),qn,(qx 3 4),qn,(qx 3 5),qs,(qx 3 6),qs,qv,qn,qn]) (.sq (.rg [qb,qb]) (.cd [sx 3, .slot 4 qn, .slot 0 qh,bl 3 7] .lf (.sq (.rg [qb,qb]) (.cd [sx 3, .slot 4 qn, .slot 0 qh,bl 3 7] .lf (.sq (.rg [qb,qb]) (.cd [sx 3, .slot 4 qn, .slot 0 qh,bl 3 7] (.rg [qh,qh,qh,qh,(qx 3 1),qn,(qx 3 5),qs,(qx 3 6),qs,qn,qn]) (.sq (.rg [qb,qb]) (.cd [sx 3, .slot 4 qn, .slot 0 qh,bl 3 7] .lf (.sq (.rg [qb,qb]) (.cd [sx 3, .slot 4 qn, .slot 0 qh,bl 3 7] (.rg [qh,qh,qh,qh,(qx 3 1),qn,(qx 3 6),qs,qn,qn]) .lf)))))))))))))) (.sq (.rg [qh,qh,qh,qh,qp,qh,qh,qh,qp,qn,qh,qh,qh,qp,qn,qp,qv,ql,ql,qh,qh,(.tup [])]) (.rg [qh,qn,qb,qb,qa,qa,qa,qa,qa,qa,qb,qh,qh,(.tup [])])))))),[qh,qv],[3],[],look_Q80,rfl,rfl,rfl,rfl,by kernel_rfl⟩
noncomputable def znz:KC:=fun F L v h kr =>
wcons v <| ooH fun c0 c1 c2 r9 =>
wcons r9 <| ooN fun c10 r10 =>
wnil r10 <|
nae c2 1 fun c29 =>
hld none c0 c1 c29 h <| oP fun c30 =>
zab 10 (.p c30) (iN c10) <| oP fun c31 =>
zac (some 10) (.p c31) ⟨[nb_ 15,nb_ 11,nb_ 8,nb_ 4],h⟩ <| oA fun r0 =>
wle r0 10 <|
nae c2 2 fun c32 =>
hld none c0 c1 c32 h <| oM fun c33 =>
wg 0 r0 <| oN fun c34 =>
zaj false (.p (.int .i64 0)) ⟨false,[.int]⟩ (.map c33) (iN c34) h <| ooN fun c20 h5 =>
nae c2 2 fun c35 =>
hld none c0 c1 c35 h5 <| oM fun c36 =>
zaj true (.p (.int .i64 0)) ⟨false,[.int]⟩ (.map c36) (iN c10) h5 <| ooT fun r11 h0 =>
wcons r11 <| ooN fun c11 r12 =>
wcons r12 <| ooB fun c37 r13 =>
wnil r13 <|
wblock (fun(c5 c6 c7 c8:Nat) (r3:LI) (h6:FH) =>
hld none c6 c7 c8 h6 <| oH fun c38 c39 c40 =>
F 130 [(iH c38 c39 c40),(iN c5)] h6 <| ooT fun r14 h7 =>
wcons r14 <| ooA fun r4 r15 =>
wcons r15 <| ooB fun _ r16 =>
wnil r16 <|
wle r4 5 <|
wg 7 r3 <| oS fun c41 =>
wg 2 r4 <| oS fun c42 =>
v_neq (iS c41) (iS c42) <| oB fun c43 =>
wblock (fun(c44 c45 c46 c47:Nat) (r17 r7:LI) (h10:FH) =>
wg 3 r7 <| oP fun c21 =>
v_len (.p c21) <| oN fun c48 =>
wblock (fun(c49 c50 c51 c52:Nat) (r18 r19:LI) (h11:FH) =>
wg 8 r18 <| oP fun c22 =>
v_len (.p c22) <| oN fun c53 =>
wblock (fun(h12:FH) =>
kr (.tup []) h12) fun j3 =>
wloop (fun _ _ _ _ _ _ _ _ _=>none) (fun j4 (c9 c12 c13 c14 c15:Nat) (c16:PVal) (c17:Nat) (r1:LI) (h1:FH) =>
nbl c9 c17 fun c54 =>
wif c54 (wblock (fun(c55 c56 c57 c58 c59:Nat) (c60:PVal) (c61:Nat) (r20:LI) (h13:FH) =>
nad c55 1 fun c62 =>
j4 c62 c56 c57 c58 c59 c60 c61 r20 h13) fun j5 =>
zab 2 (.p c16) (iN c9) <| oP fun c63 =>
zac (some 2) (.p c63) ⟨[nb_ 15,b_ 8 r1 5],h1⟩ <| oA fun r2 =>
wle r2 2 <|
wcut r1 0 5 fun r21 =>
wg 0 r2 <| oS fun c64 =>
F 98 [(.agg r21),(iS c64)] h1 <| ooT fun r22 h2 =>
wcons r22 <| ooS fun c65 r23 =>
wcons r23 <| ooB fun c66 r24 =>
wnil r24 <|
bf (gnot c66) fun c4 =>
wgV (iB c4) false (vv (x_mov (iS c65))) fun a2 =>
wgV (iB c4) false (zaa 1 (iX 15 0)) fun a3 =>
wgV (iB c4) false (zac none a3 ⟨[b_ 15 r2 2,b_ 15 [(iS []),(iS [])] 2,nb_ 15,b_ 8 r1 5],h2⟩) fun a4 =>
wgV (iB c4) false (v_neq a2 a4) fun a5 =>
pk c4 (iB true) a5 <| oB fun c67 =>
wblock (fun(c68 c69 c70 c71 c72:Nat) (c73:PVal) (c74:Nat) (r25:LI) (h14:FH) =>
j5 c68 c69 c70 c71 c72 c73 c74 r25 h14) fun j0 =>
wif c67 (wg 0 r2 <| oS fun c75 =>
wg 1 r2 <| oS fun c76 =>
F 80 [(iH c13 c14 c15),(.agg [(iN 4),(iN c12),(iN 0),(iN 0),(iN 0),(iS c75),(iS c76)])] h2 <| ooT fun r26 h15 =>
wnil r26 <|
j0 c9 c12 c13 c14 c15 c16 c17 r1 h15) <|
j0 c9 c12 c13 c14 c15 c16 c17 r1 h2) <|
j3 h1) L 0 c49 c50 c51 c52 c22 c53 r19 h11) fun j6 =>
wloop (fun _ _ _ _ _ _ _ _ _ _=>none) (fun j7 (c18 c23 c24 c25 c26:Nat) (c27:PVal) (c28:Nat) (r5 r6:LI) (h3:FH) =>
nbl c18 c28 fun c77 =>
wif c77 (wblock (fun(c78 c79 c80 c81 c82:Nat) (c83:PVal) (c84:Nat) (r27 r28:LI) (h16:FH) =>
nad c78 1 fun c85 =>
j7 c85 c79 c80 c81 c82 c83 c84 r27 r28 h16) fun j8 =>
zab 2 (.p c27) (iN c18) <| oP fun c86 =>
zac (some 2) (.p c86) ⟨[nb_ 11,b_ 4 r5 10,b_ 8 r6 5],h3⟩ <| oA fun r8 =>
wle r8 2 <|
wcut r5 5 5 fun r29 =>
wg 0 r8 <| oS fun c87 =>
F 98 [(.agg r29),(iS c87)] h3 <| ooT fun r30 h17 =>
wcons r30 <| ooS fun _ r31 =>
wcons r31 <| ooB fun c88 r32 =>
wnil r32 <|
bf (gnot c88) fun c89 =>
wblock (fun(c90 c91 c92 c93 c94:Nat) (c95:PVal) (c96:Nat) (r33 r34:LI) (h18:FH) =>
j8 c90 c91 c92 c93 c94 c95 c96 r33 r34 h18) fun j9 =>
wif c89 ((none:WR)) <|
j9 c18 c23 c24 c25 c26 c27 c28 r5 r6 h17) <|
j6 c23 c24 c25 c26 r5 r6 h3) L 0 c44 c45 c46 c47 c21 c48 r17 r7 h10) fun j1 =>
wif c43 (wg 7 r3 <| oS fun c97 =>
F 80 [(iH c6 c7 c8),(.agg [(iN 6),(iN c5),(iN 0),(iN 0),(iN 0),(iS []),(iS c97)])] h7 <| ooT fun r35 h19 =>
wnil r35 <|
j1 c5 c6 c7 c8 r3 r4 h19) <|
j1 c5 c6 c7 c8 r3 r4 h7) fun j10 =>
bf (gnot c37) fun c98 =>
wblock (fun(c99 c100 c101 c102:Nat) (r36:LI) (h20:FH) =>
j10 c99 c100 c101 c102 r36 h20) fun j2 =>
wif c98 (nae c2 3 fun c103 =>
hld none c0 c1 c103 h0 <| oN fun c19 =>
nae c2 3 fun c104 =>
hld none c0 c1 c104 h0 <| oN fun c105 =>
nad c105 1 fun c106 =>
nae c2 3 fun c107 =>
hwr h0 c0 c1 c107 [(iN c106)] fun h8 =>
nae c2 2 fun c108 =>
hld none c0 c1 c108 h8 <| oM fun c109 =>
zbp ⟨false,[.int]⟩ (.map c109) (iN c10) (iN c19) h8 <| ooT fun r37 h21 =>
wnil r37 <|
wg 4 r0 <| oN fun c110 =>
wg 5 r0 <| oN fun c111 =>
wg 6 r0 <| oS fun c112 =>
wg 7 r0 <| oS fun c113 =>
F 80 [(iH c0 c1 c2),(.agg [(iN 1),(iN c19),(iN c20),(iN c110),(iN c111),(iS c112),(iS c113)])] h21 <| ooT fun r38 h22 =>
wnil r38 <|
j2 c19 c0 c1 c2 r0 h22) <|
hld none c0 c1 c2 h0 <| oH fun c114 c115 c116 =>
F 128 [(iH c114 c115 c116),(iN c11)] h0 <| ooN fun c117 h4 =>
bf (gnot (Nat.beq c117 c20)) fun c3 =>
wgV (iB c3) false (vv (x_mov (iH c0 c1 c2))) fun a6 =>
wgV (iB c3) false (v_nil a6) fun a7 =>
wgV (iB c3) false (zaa 0 a7) fun a8 =>
wgV (iB c3) false (zac none a8 ⟨[b_ 4 r0 10,b_ 4 [(iN 0),(iN 0),(iN 0),(iN 0),(iN 0),(iN 0),(iS []),(iS []),(.p .nilslice),(.p .nilslice)] 10,nb_ 15,nb_ 11,nb_ 8,nb_ 4],h4⟩) fun a9 =>
wgV (iB c3) false (vv (x_mov (iN c11))) fun a10 =>
wgV (iB c3) false (zaa 4 (iX 4 0)) fun a0 =>
wgV (iB c3) false (zac none a0 ⟨[b_ 4 r0 10,b_ 4 [(iN 0),(iN 0),(iN 0),(iN 0),(iN 0),(iN 0),(iS []),(iS []),(.p .nilslice),(.p .nilslice)] 10,nb_ 15,nb_ 11,nb_ 8,nb_ 4],h4⟩) fun a1 =>
wgH (iB c3) false (wcallH (.p (.func 129)) [a9,a10] F) h4 fun a11 h9 =>
wgV (iB c3) false (v_neq a11 a1) fun a12 =>
pk c3 (iB true) a12 <| oB fun c118 =>
ift (wgb (iB c3) false (wchk F ⟨[b_ 4 r0 10,b_ 4 [(iN 0),(iN 0),(iN 0),(iN 0),(iN 0),(iN 0),(iS []),(iS []),(.p .nilslice),(.p .nilslice)] 10,nb_ 15,nb_ 11,nb_ 8,nb_ 4],h9⟩ (.load none (.const a0)) a1)) <|
wblock (fun(c119 c120 c121 c122:Nat) (r39:LI) (h23:FH) =>
j2 c119 c120 c121 c122 r39 h23) fun j11 =>
wif c118 ((none:WR)) <|
j11 c11 c0 c1 c2 r0 h9
noncomputable def zgc:KFun:=⟨znz,false,false⟩
theorem zlc:KOK tr.look F_Q81 zgc:=⟨i_Q81,(.sq (.rg [qh,qh,qh,qp,qn,qp,qv,(qx 4 0),(.tup [])]) (.sq (.rg [qh,qh,qh,qm,(qx 4 0),qn,qn,qn]) (.sq (.rg [qh,qh,qh,qm,qn,(.tup [(.c .nat),(.c .bool)]),(.tup [(.c .nat),(.c .bool)]),qn,qb,qn,qb]) (.sq (.bk [.slot 6 qn, .slot 0 qh,sx 4,bl 4 10] (.sq (.rg [qb,qb,qb]) (.cd [.slot 6 qn, .slot 0 qh,sx 4,bl 4 10] (.sq (.rg [qh,qh,qh,qn,qn]) (.sq (.rg [qh,qh,qh,qn,qn,qh,qh,(.tup [])]) (.sq (.rg [qh,qh,qh,qm,qn,qn,(.tup [])]) (.rg [qh,qn,qn,(qx 4 4),qn,(qx 4 5),(qx 4 5),qn,(qx 4 5),(qx 4 6),qs,(qx 4 5),(qx 4 7),qs,qv,(.tup [])])))) (.sq (.rg [qh,qh,qh,qh,qn,qn,qn,qb,qb,qa,qa,qa,qa,qa,qa,qa,qa,qa,qb,qb]) (.cd [.slot 6 qn, .slot 0 qh,sx 4,bl 4 10] .lf .lf))))) (.sq (.rg [qh,qh,qh,qh,qn,(.tup [.aggv,(.c .bool)]),(.tup [.aggv,(.c .bool)]),qv,qb,(qx 8 0),(.tup []),qb]) (.sq (.sq (.rg [(qx 4 5),(qx 4 7),qs,(qx 8 2),qs,qb]) (.cd [.slot 6 qn, .slot 0 qh,sx 4,sx 8,bl 4 10,bl 8 5] (.rg [qh,qn,(qx 4 5),(qx 4 7),qs,qv,(.tup [])]) .lf)) (.sq (.sq (.rg [(qx 8 3),qp,qn,qn]) (.bk [sx 4, .slot 6 qn, .slot 0 qh,sx 8,bl 4 10,bl 8 5] (.lp [.slot 129 qn, .slot 6 qn, .slot 0 qh,sx 4, .slot 127 qp,sx 8, .slot 128 qn,bl 4 10,bl 8 5] (.sq (.rg [qb]) (.sq (.cj .lf .lf) (.sq (.bk [.slot 129 qn, .slot 6 qn, .slot 0 qh,sx 4, .slot 127 qp,sx 8, .slot 128 qn,bl 4 10,bl 8 5] (.sq (.rg [qp,qv,(qx 11 0),(.tup [])]) (.sq (.rg [(qx 4 5),qv,(qx 11 0),qs,(.tup [(.c .str),(.c .bool)]),(.tup [(.c .str),(.c .bool)]),qs,qb,qs,qb]) (.sq (.rg [qb,qb]) (.cd [.slot 129 qn, .slot 6 qn, .slot 0 qh,sx 4, .slot 127 qp,sx 8, .slot 128 qn,bl 4 10,bl 8 5] .lf .lf))))) (.rg [qn,qn]))))))) (.sq (.rg [(qx 4 5),(qx 4 8),qp,qn,qn]) (.bk [] (.lp [.slot 154 qn, .slot 6 qn, .slot 0 qh,sx 8, .slot 152 qp, .slot 153 qn,bl 8 5] (.sq (.rg [qb]) (.sq (.cj .lf .lf) (.sq (.bk [.slot 154 qn, .slot 6 qn, .slot 0 qh,sx 8, .slot 152 qp, .slot 153 qn,bl 8 5] (.sq (.rg [qp,qv,(qx 15 0),(.tup [])]) (.sq (.rg [qv,(qx 15 0),qs,(.tup [(.c .str),(.c .bool)]),(.tup [(.c .str),(.c .bool)]),qs,qb,qs,qb]) (.sq (.rg [qb,qb,qb,qa,qa,qa,qa,qb]) (.cd [.slot 154 qn, .slot 6 qn, .slot 0 qh,sx 8, .slot 152 qp, .slot 153 qn,bl 8 5] (.rg [qh,qn,(qx 15 0),qs,(qx 15 1),qs,qv,(.tup [])]) .lf))))) (.rg [qn,qn])))))))))))))),[qh,qn],[15,11,8,4],[],look_Q81,rfl,rfl,rfl,rfl,by kernel_rfl⟩
end Go.Ideal
