import Derived.Test.YtjlnpggbekondaaW4
import Derived.Test.YtjlnpggbekondaaW3
import Derived.Test.YtjlnpggbekondaaW1
namespace Go.Ideal
open Go
set_option maxHeartbeats 4000000
set_option maxRecDepth 20000
attribute [-simp] getElem?_pos
def zeroT:J3:=[J4 0, .p (.str []), .p (.str []), .p .nilslice, .p .nilslice]
def SubI (t0:Tree) (id:Nat) (i:Nat) (H:J2):Prop :=
 H[1]? = some (.cells [J4 id] 1 0 false)/\H[2]? = some (.cells (if id<i then pcells (subT t0 id).cells else zeroT) 5 0 false)/\H[3]? = some (.cells [.p (.bool (decide (id<i)))] 1 0 false)
theorem zabu (t0:Tree) (id k0:Nat) (_:t0.size<1000000) (hk3:3<k0):Looks F_Q64 [J5 1 0 0, J5 2 0 0, J5 3 0 0] t0 0 k0 (SubI t0 id) (fun i=>decide (i<id)):=by
 intro i v H pv hv ⟨i1,i2,i3⟩ hk0 hr hp
 have hi:i<(visT t0 0 (-1) 0 0).length:=(Aa.1 hv).1
 rw[zab]at hi
 have hnc:evalOp (CW tr.look) (fun _=>pv) ⟨[],H⟩ (.nilCheck (t_ 0))=some (pv,⟨[],H⟩):=by
  rcases hp with⟨h,_⟩|⟨rest,h⟩<;>rw[h]<;>rfl
 simp only[evalOp]at hnc
 have hld:loadVal ⟨[],H⟩ (some 5) pv=some (tagg v.t):=by
  rcases hp with⟨h,h2⟩|⟨rest,h⟩
  ·rw[h,h2,zce (off:=0) (n:=5) hr (by simp[pcells,Tree.zbg])]
   simp[tagg,Tree.zax]
  ·rw[h]
   simp[Tree.zbg,tagg]
 have l1:=zac (bx:=[]) (off:=0) i1 rfl
 have l3:=zac (bx:=[]) (off:=0) i3 rfl
 by_cases he:i=id
 ·subst he
  have n1:¬i<i:=by omega
  rw[if_neg n1]at i2
  simp only[n1,decide_false]at i3 l3
  have w2:writeCells ⟨[],H⟩ (J5 2 0 0) (pcells v.t.cells)=some ⟨[],H.set 2 (.cells (pcells v.t.cells) 5 0 false)⟩:=by
   rw[zam i2 (by simp[pcells,Tree.zbg,zeroT])]
   simp[splice,pcells,zeroT,Tree.zax]
  have i3':(H.set 2 (.cells (pcells v.t.cells) 5 0 false))[3]? = some (.cells [.p (.bool false)] 1 0 false):=by
   rw[Ac (by omega)];exact i3
  have w3:writeCells ⟨[],H.set 2 (.cells (pcells v.t.cells) 5 0 false)⟩ (J5 3 0 0) [.p (.bool true)]=some ⟨[],(H.set 2 (.cells (pcells v.t.cells) 5 0 false)).set 3 (.cells [.p (.bool true)] 1 0 false)⟩:=by
   rw[zam i3' (by simp)]
   rfl
  have i3l:((H.set 2 (.cells (pcells v.t.cells) 5 0 false)).set 3 (.cells [.p (.bool true)] 1 0 false))[3]? = some (.cells [.p (.bool true)] 1 0 false):=zan (by have:=(Aa.1 i3').1;exact this)
  have l3':=zac (bx:=[]) (off:=0) i3l rfl
  have hco:(tagg v.t).cellsOf=some (pcells v.t.cells):=rfl
  have hpl:pcells v.t.cells=[J4 v.t.kind, .p (.str v.t.name), .p (.str v.t.text), .p (aval v.t.attrs), .p (kval v.t.kids)]:=by rw[Tree.zax];rfl
  obtain⟨rr,H',e1,e2⟩:=zay (args:=[J4 i, .agg [pv, J4 v.parent, J4 v.depth, J4 v.place], J5 1 0 0, J5 2 0 0, J5 3 0 0]) (H:=H)
   (Q:=fun rv H'=>rv = .p (.bool false)/\Keep (fun x=>x≠0/\x≠k0) H H'/\SubI t0 i (i+1) H') look_Q64 rfl rfl (by
   dsimp only[i_Q64,c_Q64]
   rw[hpl]at w2 w3 i3' i3l l3'
   simp(disch:=omega) [hp.cell.2.2,hnc,hld,l1,w2,w3,l3']
   refine⟨(Keep.set (.inl ⟨by omega,by omega⟩)).trans (Keep.set (.inl ⟨by omega,by omega⟩)),?_,?_,?_⟩
   ·rw[Ac (by omega),Ac (by omega)];exact i1
   ·rw[Ac (by omega),if_pos (by omega),zfj hv,hpl]
    exact zan (Aa.1 i2).1
   ·rw[show decide (i<i+1)=true by simp]
    exact i3l)
  obtain⟨e2,e3,e4⟩:=e2
  subst e2
  exact⟨H',by show CW tr.look F_Q64 _ H=some (.p (.bool (decide (i<i))),H');rw[show decide (i<i)=false by simp];exact e1,e3,e4⟩
 ·have he':¬(i:Int)=(id:Int):=by omega
  obtain⟨rr,H',e1,e2⟩:=zay (args:=[J4 i, .agg [pv, J4 v.parent, J4 v.depth, J4 v.place], J5 1 0 0, J5 2 0 0, J5 3 0 0]) (H:=H)
   (Q:=fun rv H'=>rv = .p (.bool (decide (i<id)))/\H'=H) look_Q64 rfl rfl (by
   dsimp only[i_Q64,c_Q64]
   by_cases hlt:id<i
   ·have hn:¬i<id:=by omega
    simp only[hlt,decide_true]at l3
    simp(disch:=omega) [hp.cell.2.2,l1,l3,hn]
   ·have hn:i<id:=by omega
    simp only[hlt,decide_false]at l3
    simp(disch:=omega) [hp.cell.2.2,l1,l3,hn])
  obtain⟨e2,e3⟩:=e2
  subst e2 e3
  refine⟨H',e1,Keep.refl,i1,?_,?_⟩
  ·rw[i2];congr 2;simp only[show id<i+1↔id<i by omega]
  ·rw[i3];simp only[show id<i+1↔id<i by omega]
theorem zaez (t:Tree) (hs:t.size<1000000) (id:Nat) (hid:id<t.size) (H:J2):CW tr.look F_Q55 [tagg t, J4 id] H=some (.tup [tagg (subT t id), .p (.bool true)],H):=by
 refine zal look_Q55 rfl (by simp) rfl ?_
 dsimp only[i_Q55,c_Q55]
 obtain⟨H',h1,n,hI,hn,hor,_⟩:=zaek F_Q64 [J5 1 0 0, J5 2 0 0, J5 3 0 0] t 0 [.cells (pcells t.cells) 5 0 false, .cells [J4 id] 1 0 false, .cells zeroT 5 0 false, .cells [.p (.bool false)] 1 0 false] rfl hs (SubI t id) (fun i=>decide (i<id))
  (fun H hk=>⟨by rw[hk.2 1 (by simp) (by simp)];rfl,by rw[hk.2 2 (by simp) (by simp)];rfl,by rw[hk.2 3 (by simp) (by simp)];rfl⟩)
  (by
   rintro i H H' ⟨h1,h2,h3⟩ hk
   exact⟨by rw[hk.2 1 (Aa.1 h1).1 (by simp)];exact h1,by rw[hk.2 2 (Aa.1 h2).1 (by simp)];exact h2,by rw[hk.2 3 (Aa.1 h3).1 (by simp)];exact h3⟩)
  (zabu t id 4 hs (by omega))
 have hlt:id<n:=by
  rcases hor with h|⟨m,h,h2⟩
  ·omega
  ·have:¬m<id:=of_decide_eq_false h2
   omega
 obtain⟨_,i2,i3⟩:=hI
 rw[if_pos hlt]at i2
 have hpl:pcells (subT t id).cells=[J4 (subT t id).kind, .p (.str (subT t id).name), .p (.str (subT t id).text), .p (aval (subT t id).attrs), .p (kval (subT t id).kids)]:=by rw[Tree.zax];rfl
 have hpc:(pcells t.cells)=[J4 t.kind, .p (.str t.name), .p (.str t.text), .p (aval t.attrs), .p (kval t.kids)]:=by rw[Tree.zax];rfl
 rw[hpc]at h1
 simp only[zeroT]at h1
 have l2:=zce (bx:=[]) (off:=0) (n:=5) i2 (by simp[pcells,Tree.zbg])
 rw[hpl]at l2
 simp only[BF,AA (show([IVal.p (.int .i64 (subT t id).kind), .p (.str (subT t id).name), .p (.str (subT t id).text), .p (aval (subT t id).attrs), .p (kval (subT t id).kids)]).length<=5 by simp)]at l2
 have l3:=zac (bx:=[]) (off:=0) i3 rfl
 simp only[hlt,decide_true]at l3
 have w0:∀a b c:IBlk,writeCells ⟨[],[a,b,c, .cells [.p (.bool false)] 1 0 false]⟩ (J5 3 0 0) [.p (.bool false)]=some ⟨[],[a,b,c, .cells [.p (.bool false)] 1 0 false]⟩:=fun _ _ _=>rfl
 simp(disch:=omega) [w0,h1,l2,l3]
 simp[freezeOne,freezeList,freezeCell,tagg,Tree.zax,pcells]
abbrev vi (n:Int):IVal := J4 n
abbrev vu (n:Int):IVal := .p (.int .u64 n)
theorem zsy {Γ:Prog} {F:IFun} {k:FuncId} {args:J3} {H:J2} {r:IVal} (hk:Γ k=some F) (hp:F.pure=true) (hpl:plainArgs args=true) (h:CW Γ k args []=some (r,[])):CW Γ k args H=some (r,H):=by
 have h:=zgm.1 h
 generalize hq:(r,([]:J2))=q at h
 cases h with
 |base hn _=>rw[hk]at hn;cases hn
 |more hn _ _ _=>rw[hk]at hn;cases hn
 |mk C hC hb =>
  subst hq
  refine zgm.2 (.mk C hC ?_)
  unfold callBody at hb ⊢
  simp only[hk,hp,zby hpl]at hb ⊢
  cases hrun:runBody C loopW F args []with
  |none=>rw[hrun]at hb;cases hb
  |some p =>
   obtain⟨v,H'⟩:=p
   rw[hrun]at hb
   dsimp only at hb ⊢
   cases hz:freezeRes H' v with
   |none=>rw[hz]at hb;cases hb
   |some w =>
    rw[hz]at hb
    dsimp only at hb ⊢
    rw[hpl,CP]at hb ⊢
    injection hb with hb
    injection hb with hb _
    subst hb
    rfl
def someU (r:IVal):Prop:=∃n,r=vu n
theorem zcz {k:IntKind} {x y:Int} (h:0<=y):shiftBin .shl k x y=some (.int k (k.wrap (x*2 ^ (min y.toNat k.bits)))):=by
 unfold shiftBin
 rw[if_neg (by omega)]
theorem zzt {k:IntKind} {x y:Int} (h:0<=y):shiftBin .shr k x y=some (.int k (x.fdiv (2 ^ (min y.toNat k.bits)))):=by
 unfold shiftBin
 rw[if_neg (by omega)]
theorem zapg (a:Int) (H:J2):∃r,CW tr.look F_Q102 [vu a,vi 31] H=some (r,H)/\someU r:=by
 refine zfr look_Q102 rfl (show freezeAll H [vu a,vi 31]=some [vu a,vi 31]from rfl) rfl ?_
 dsimp only[i_Q102,c_Q102]
 have hc:IntKind.u64.wrap ↑((IntKind.u64.wrap 31 % 2 ^ IntKind.u64.bits).toNat &&& 63 % 2 ^ IntKind.u64.bits)=31:=by decide
 have h33:IntKind.u64.wrap 33=33:=by decide
 simp(disch:=omega) [hc,zcz,zzt,h33]
 exact⟨_,rfl⟩
noncomputable def pickU (k:FuncId) (args:J3):Int := @dite _ (∃ n,CW tr.look k args []=some (vu n,[])) (Classical.propDecidable _) (fun h=>Classical.choose h) (fun _=>0)
theorem zmz {k:FuncId} {args:J3} {F:IFun} (hk:tr.look k=some F) (hp:F.pure=true) (hpl:plainArgs args=true) (h:∃r,CW tr.look k args []=some (r,[])/\someU r) (H:J2):CW tr.look k args H=some (vu (pickU k args),H):=by
 obtain⟨r,h1,n,rfl⟩:=h
 have h2:∃n,CW tr.look k args []=some (vu n,[]):=⟨n,h1⟩
 have h3:=Classical.choose_spec h2
 refine zsy hk hp hpl ?_
 unfold pickU
 rw[dif_pos h2]
 exact h3
theorem zaph (a:Int) (H:J2):CW tr.look F_Q102 [vu a,vi 31] H=some (vu (pickU F_Q102 [vu a,vi 31]),H):=zmz look_Q102 rfl rfl (zapg a []) H
theorem zavt (a b:Int) (H:J2):∃r,CW tr.look F_Q98 [vu a,vu b] H=some (r,H)/\someU r:=by
 refine zfr look_Q98 rfl (show freezeAll H [vu a,vu b]=some [vu a,vu b]from rfl) rfl ?_
 dsimp only[i_Q98,c_Q98]
 simp(disch:=omega) [zzt,zaph]
 exact⟨_,rfl⟩
noncomputable def mixU (a b:Int):Int:=pickU F_Q98 [vu a,vu b]
theorem zvu (a b:Int) (H:J2):CW tr.look F_Q98 [vu a,vu b] H=some (vu (mixU a b),H):=zmz look_Q98 rfl rfl (zavt a b []) H
theorem zapi (b0 b1 b2 b3 b4 b5 b6 b7:Int) (Q:J0) (hQ:∀v,Q .normal [(3, .int .u64 v)] ⟨[],[]⟩) :
 wpLoop (CW tr.look) 19 m_Q103_0 l_Q103_0 (blkK 0 b_Q103_0 Q) [(1, .box 1 0),(3, .int .u64 0),(5, .int .i64 0)] ⟨[(1,some ⟨[.int .u8 b0, .int .u8 b1, .int .u8 b2, .int .u8 b3, .int .u8 b4, .int .u8 b5, .int .u8 b6, .int .u8 b7],8⟩)],[]⟩:=by
 refine zae (α:=Int×Nat) (fun s=>[(1, .box 1 0),(3, .int .u64 s.1),(5, .int .i64 s.2)]) (fun _=>⟨[(1,some ⟨[.int .u8 b0, .int .u8 b1, .int .u8 b2, .int .u8 b3, .int .u8 b4, .int .u8 b5, .int .u8 b6, .int .u8 b7],8⟩)],[]⟩)
  (fun s=>s.2<=8) (fun s=>8-s.2) ?_ (0,0) (by simp)
 rintro⟨v,j⟩ hj L hL
 dsimp only at hj hL ⊢
 dsimp only[l_Q103_0]
 rcases(show j=0\/j=1\/j=2\/j=3\/j=4\/j=5\/j=6\/j=7\/j=8 by omega)with rfl|rfl|rfl|rfl|rfl|rfl|rfl|rfl|rfl
 case inr.inr.inr.inr.inr.inr.inr.inr =>
  simp(disch:=omega) []
  exact hQ _
 ·simp(disch:=omega) [zcz,zaa,asIndex]
  exact hL (_,1) (by simp) (by simp)
 ·simp(disch:=omega) [zcz,zaa,asIndex]
  exact hL (_,2) (by simp) (by simp)
 ·simp(disch:=omega) [zcz,zaa,asIndex]
  exact hL (_,3) (by simp) (by simp)
 ·simp(disch:=omega) [zcz,zaa,asIndex]
  exact hL (_,4) (by simp) (by simp)
 ·simp(disch:=omega) [zcz,zaa,asIndex]
  exact hL (_,5) (by simp) (by simp)
 ·simp(disch:=omega) [zcz,zaa,asIndex]
  exact hL (_,6) (by simp) (by simp)
 ·simp(disch:=omega) [zcz,zaa,asIndex]
  exact hL (_,7) (by simp) (by simp)
 ·simp(disch:=omega) [zcz,zaa,asIndex]
  exact hL (_,8) (by simp) (by simp)
abbrev eight (b0 b1 b2 b3 b4 b5 b6 b7:Int):IVal := .agg [.p (.int .u8 b0), .p (.int .u8 b1), .p (.int .u8 b2), .p (.int .u8 b3), .p (.int .u8 b4), .p (.int .u8 b5), .p (.int .u8 b6), .p (.int .u8 b7)]
theorem of_ex (b0 b1 b2 b3 b4 b5 b6 b7:Int) (H:J2):∃r,CW tr.look F_Q103 [eight b0 b1 b2 b3 b4 b5 b6 b7] H=some (r,H)/\someU r:=by
 refine zfr look_Q103 rfl (show freezeAll H _=some [eight b0 b1 b2 b3 b4 b5 b6 b7]from rfl) rfl ?_
 dsimp only[i_Q103,c_Q103]
 simp(disch:=omega) []
 refine zapi b0 b1 b2 b3 b4 b5 b6 b7 _ fun v=>?_
 simp(disch:=omega) []
 exact⟨.inl rfl,_,rfl⟩
noncomputable def ofU (b0 b1 b2 b3 b4 b5 b6 b7:Int):Int:=pickU F_Q103 [eight b0 b1 b2 b3 b4 b5 b6 b7]
theorem of_ok (b0 b1 b2 b3 b4 b5 b6 b7:Int) (H:J2):CW tr.look F_Q103 [eight b0 b1 b2 b3 b4 b5 b6 b7] H=some (vu (ofU b0 b1 b2 b3 b4 b5 b6 b7),H):=zmz look_Q103 rfl rfl (of_ex b0 b1 b2 b3 b4 b5 b6 b7 []) H
theorem zajn {L:J3} (h:L.length=8) (hu:∀x∈L,∃b:Int,x = .p (.int .u8 b)):∃b0 b1 b2 b3 b4 b5 b6 b7:Int,L=[.p (.int .u8 b0), .p (.int .u8 b1), .p (.int .u8 b2), .p (.int .u8 b3), .p (.int .u8 b4), .p (.int .u8 b5), .p (.int .u8 b6), .p (.int .u8 b7)]:=by
 match L,h with
 | [x0,x1,x2,x3,x4,x5,x6,x7],_ =>
   obtain⟨b0,rfl⟩:=hu x0 (by simp)
   obtain⟨b1,rfl⟩:=hu x1 (by simp)
   obtain⟨b2,rfl⟩:=hu x2 (by simp)
   obtain⟨b3,rfl⟩:=hu x3 (by simp)
   obtain⟨b4,rfl⟩:=hu x4 (by simp)
   obtain⟨b5,rfl⟩:=hu x5 (by simp)
   obtain⟨b6,rfl⟩:=hu x6 (by simp)
   obtain⟨b7,rfl⟩:=hu x7 (by simp)
   exact⟨b0,b1,b2,b3,b4,b5,b6,b7,rfl⟩
def zero8:J3:=[.p (.int .u8 0), .p (.int .u8 0), .p (.int .u8 0), .p (.int .u8 0), .p (.int .u8 0), .p (.int .u8 0), .p (.int .u8 0), .p (.int .u8 0)]
theorem copy8 (H:J2) (s:Bytes) (hs:0<s.length):∃b0 b1 b2 b3 b4 b5 b6 b7 n:Int,evalCopy ⟨[],H++[.cells zero8 1 0 false]⟩ 1 (.slice H.length 0 0 8) (.p (.str s))=some (vi n,⟨[],H++[.cells [.p (.int .u8 b0), .p (.int .u8 b1), .p (.int .u8 b2), .p (.int .u8 b3), .p (.int .u8 b4), .p (.int .u8 b5), .p (.int .u8 b6), .p (.int .u8 b7)] 1 0 false]⟩):=by
 have hg:(H++[IBlk.cells zero8 1 0 false])[H.length]? = some (.cells zero8 1 0 false):=zbd
 obtain⟨ys,hys⟩:∃ys:J3,ys=(s.take (min s.length 8)).map fun b=>IVal.p (.int .u8 b.toNat):=⟨_,rfl⟩
 have hyl:ys.length=min s.length 8:=by rw[hys];simp
 have hw:=zam (bx:=[]) (H:=H++[IBlk.cells zero8 1 0 false]) (i:=H.length) (off:=0) (new:=ys) hg (by rw[hyl];show 0+min s.length 8<=8;omega)
 have hz:∀x∈zero8,∃b:Int,x = .p (.int .u8 b):=by
  intro x hx
  simp only[zero8,Aj,BR,or_false]at hx
  exact⟨0,by rcases hx with h|h|h|h|h|h|h|h<;>exact h⟩
 obtain⟨b0,b1,b2,b3,b4,b5,b6,b7,hb⟩:=zajn (L:=splice zero8 0 ys) (by simp[splice,hyl,zero8];omega) (by
  intro x hx
  simp only[splice,Ch,AV,Aq,Ao]at hx
  rcases hx with hx|hx
  ·rw[hys]at hx
   obtain⟨b,_,rfl⟩:=Au.1 hx
   exact⟨_,rfl⟩
  ·exact hz x (List.mem_of_mem_drop hx))
 rw[hb]at hw
 refine⟨b0,b1,b2,b3,b4,b5,b6,b7,(min s.length 8:Nat),?_⟩
 have h1:Nat.beq (min s.length 8) 0=false:=by
  cases h:Nat.beq (min s.length 8) 0 with
  |false=>rfl
  |true=>have:=Ah h;omega
 have h2:srcCells ⟨[],H++[IBlk.cells zero8 1 0 false]⟩ 1 (takeVal 1 (min s.length 8) (.p (.str s)))=some ys:=by
  rw[hys];rfl
 have h3:srcLen (.p (.str s))=some s.length:=rfl
 simp only[evalCopy,h3,h2]
 have h4:Nat.beq (Nat.min s.length 8) 0=false:=h1
 rw[h1,hw]
 simp
theorem zafa (s:Bytes) (hs:s.length<1000000000000) (Q:J0) (hQ:∀v H,Q .normal [(3, .int .u64 v)] ⟨[],H⟩) (v0:Int) :
 wpLoop (CW tr.look) 25 m_Q99_0 l_Q99_0 (blkK 0 b_Q99_0 Q) [(0, .str s),(3, .int .u64 v0),(4, .int .i64 0)] ⟨[],[]⟩:=by
 refine zae (α:=Int×Nat×J2) (fun a=>[(0, .str s),(3, .int .u64 a.1),(4, .int .i64 a.2.1)]) (fun a=>⟨[],a.2.2⟩)
  (fun a=>a.2.1<=s.length+8) (fun a=>s.length+8-a.2.1) ?_ (v0,0,[]) (by simp)
 rintro⟨v,j,H⟩ hj L hL
 dsimp only at hj hL ⊢
 dsimp only[l_Q99_0]
 by_cases hjl:j<s.length
 ·obtain⟨b0,b1,b2,b3,b4,b5,b6,b7,n,hc⟩:=copy8 H (s.drop j) (by rw[Bc];omega)
  have hg:∀T:J3,(H++[IBlk.cells T 1 0 false])[H.length]? = some (.cells T 1 0 false):=fun T=>zbd
  have hb:asBound s.length (J4 j)=some j:=by
   simp[asBound];omega
  simp only[zero8]at hc
  have hld:=zce (bx:=[]) (off:=0) (n:=8) (hg [.p (.int .u8 b0), .p (.int .u8 b1), .p (.int .u8 b2), .p (.int .u8 b3), .p (.int .u8 b4), .p (.int .u8 b5), .p (.int .u8 b6), .p (.int .u8 b7)]) (by simp)
  have htk:(s.drop j).take (s.length-j)=s.drop j:=AA (by rw[Bc];omega)
  have ho:=of_ok b0 b1 b2 b3 b4 b5 b6 b7
  simp(disch:=omega) [zaa,boundHi,boundLo,Mem.get,hg,hb,htk,hc,hld,ho,zvu]
  exact hL (_,j+8,_) (by dsimp only;omega) (by dsimp only;omega)
 ·simp(disch:=omega) []
  exact hQ _ _
theorem zapj (s:Bytes) (hs:s.length<1000000000000) (H:J2):∃r,CW tr.look F_Q99 [.p (.str s)] H=some (r,H)/\someU r:=by
 refine zfr look_Q99 rfl (show freezeAll H _=some [.p (.str s)]from rfl) rfl ?_
 dsimp only[i_Q99,c_Q99]
 simp(disch:=omega) []
 refine zafa s hs _ (fun v H=>?_) _
 simp(disch:=omega) []
 exact⟨_,rfl⟩
noncomputable def textU (s:Bytes):Int:=pickU F_Q99 [.p (.str s)]
theorem zsz (s:Bytes) (hs:s.length<1000000000000) (H:J2):CW tr.look F_Q99 [.p (.str s)] H=some (vu (textU s),H):=zmz look_Q99 rfl rfl (zapj s hs []) H
def uval:List Int->PVal
 | []=>.nilslice
 |n::l=>.slice 1 (l.length+1) ((n::l).map (.int .u64))
theorem zzu (l:List Int):sliceLen (.p (uval l))=some l.length:=by cases l<;>rfl
theorem zzv {l:List Int} {j:Nat} (h:j<l.length):idxS 1 (.p (uval l)) (J4 j)=some (.p (.ptr (.int .u64 l[j]::(l.drop (j+1)).map (.int .u64)))):=by
 cases l with
 |nil=>simp at h
 |cons n l =>
  rw[uval,zcd (by simpa using h)]
  rw[B9,<-List.map_drop,AG h,As]
@[simp] theorem zayn (ks:List Int):up (.p (uval ks)) = .v (.p (uval ks)):=by cases ks<;>rfl
noncomputable def foldA (v:Int):List (Bytes×Bytes)->Int
 | []=>v
 |p::l=>foldA (mixU (mixU v (textU p.1)) (textU p.2)) l
noncomputable def foldK (v:Int):List Int->Int
 | []=>v
 |n::l=>foldK (mixU v n) l
theorem zyf (a:Option Attrs) (ks:List Int) (v0:Int) (hs:(alist a).length<1000000) (hb:∀p∈alist a,p.1.length<1000000000000/\p.2.length<1000000000000) (Q:J0) (hQ:Q .normal [(1, .v (.p (uval ks))),(5, .int .u64 (foldA v0 (alist a)))] ⟨[],[]⟩) :
 wpLoop (CW tr.look) 63 m_Q82_0 l_Q82_0 (blkK 0 b_Q82_0 Q) [(1, .v (.p (uval ks))),(5, .int .u64 v0),(30, .v (.p (aval a))),(31, .int .i64 (alist a).length),(32, .int .i64 0)] ⟨[],[]⟩:=by
 refine zae (α:=Int×Nat) (fun s=>[(1, .v (.p (uval ks))),(5, .int .u64 s.1),(30, .v (.p (aval a))),(31, .int .i64 (alist a).length),(32, .int .i64 s.2)]) (fun _=>⟨[],[]⟩)
  (fun s=>s.2<=(alist a).length/\foldA s.1 ((alist a).drop s.2)=foldA v0 (alist a)) (fun s=>(alist a).length-s.2) ?_ (v0,0) (by simp)
 rintro⟨v,j⟩ ⟨hj,hfo⟩ L hL
 dsimp only at hj hfo hL ⊢
 dsimp only[l_Q82_0]
 by_cases hjl:j<(alist a).length
 ·obtain⟨g1,g2⟩:=hb _ (BA hjl)
  have t1:=zsz _ g1
  have t2:=zsz _ g2
  simp(disch:=omega) [zee,zaa,t1,t2,zvu]
  rw[AG hjl,foldA]at hfo
  exact hL (_,j+1) ⟨by dsimp only;omega,hfo⟩ (by dsimp only;omega)
 ·obtain rfl:j=(alist a).length:=by omega
  simp(disch:=omega) []
  rw[CI,foldA]at hfo
  rw[hfo]
  exact hQ
theorem zabv (ks:List Int) (v0:Int) (hs:ks.length<1000000) (Q:J0) (hQ:Q .normal [(5, .int .u64 (foldK v0 ks))] ⟨[],[]⟩) :
 wpLoop (CW tr.look) 63 m_Q82_1 l_Q82_1 (blkK 2 b_Q82_2 Q) [(5, .int .u64 v0),(52, .v (.p (uval ks))),(53, .int .i64 ks.length),(54, .int .i64 0)] ⟨[],[]⟩:=by
 refine zae (α:=Int×Nat) (fun s=>[(5, .int .u64 s.1),(52, .v (.p (uval ks))),(53, .int .i64 ks.length),(54, .int .i64 s.2)]) (fun _=>⟨[],[]⟩)
  (fun s=>s.2<=ks.length/\foldK s.1 (ks.drop s.2)=foldK v0 ks) (fun s=>ks.length-s.2) ?_ (v0,0) (by simp)
 rintro⟨v,j⟩ ⟨hj,hfo⟩ L hL
 dsimp only at hj hfo hL ⊢
 dsimp only[l_Q82_1]
 by_cases hjl:j<ks.length
 ·simp(disch:=omega) [zzv,zaa,zvu]
  rw[AG hjl,foldK]at hfo
  exact hL (_,j+1) ⟨by dsimp only;omega,hfo⟩ (by dsimp only;omega)
 ·obtain rfl:j=ks.length:=by omega
  simp(disch:=omega) []
  rw[CI,foldK]at hfo
  rw[hfo]
  exact hQ
def NodeStr (t:Tree):Prop:=t.name.length<1000000000000/\t.text.length<1000000000000/\(alist t.attrs).length<1000000/\∀p∈alist t.attrs,p.1.length<1000000000000/\p.2.length<1000000000000
noncomputable def nodeU (t:Tree) (ks:List Int):Int:=foldK (mixU (foldA (mixU (mixU (mixU (IntKind.u64.wrap t.kind) (textU t.name)) (textU t.text)) (IntKind.u64.wrap ((alist t.attrs).length:Nat))) (alist t.attrs)) (IntKind.u64.wrap (ks.length:Nat))) ks
theorem zajo (t:Tree) (ks:List Int) (hs:ks.length<1000000) (h:NodeStr t) (H:J2):CW tr.look F_Q82 [tagg t, .p (uval ks)] H=some (vu (nodeU t ks),H):=by
 obtain⟨h1,h2,h3,h4⟩:=h
 have t1:=zsz _ h1
 have t2:=zsz _ h2
 refine zal look_Q82 rfl (by simp) rfl ?_
 dsimp only[i_Q82,c_Q82]
 simp(disch:=omega) [t1,t2,zvu]
 refine zyf t.attrs ks _ h3 h4 _ ?_
 simp(disch:=omega) [zvu,zzu]
 refine zabv ks _ hs _ ?_
 simp(disch:=omega) []
 rfl
mutual
noncomputable def hashT:Tree->Int
 | .mk k n x a none=>nodeU (.mk k n x a none) []
 | .mk k n x a (some l)=>nodeU (.mk k n x a none) (hashL l)
noncomputable def hashL:List Tree->List Int
 | []=>[]
 |t::l=>hashT t::hashL l
end
theorem zta (t:Tree):hashT t=nodeU t.bare (hashL (klist t.kids)):=by
 cases t with
 |mk k n x a c=>cases c<;>simp[hashT,hashL,klist,Tree.kids,Tree.bare,Tree.kind,Tree.name,Tree.text,Tree.attrs]
theorem zoz:∀l:List Tree,(hashL l).length=l.length
 | []=>by simp[hashL]
 |t::l=>by simp[hashL,zoz l]
theorem zri:∀ {l:List Tree} {j:Nat} (h:j<l.length),hashL (l.take (j+1))=hashL (l.take j)++[hashT l[j]]
 |t::l,0,_=>by simp[hashL]
 |t::l,j+1,h=>by
  simp only[Cr,hashL,List.getElem_cons_succ,At]
  rw[zri (by simpa using h)]
def ucells (l:List Int):J3:=l.map fun n=>.p (.int .u64 n)
theorem zabw (t:Tree) (hs:t.size<1000000) (i:Nat) (v:Vis) (hv:t.vis[i]? = some v) (L0:List Int) (hL0:L0.length=t.size) (hL:∀(k:Nat) (w:Vis),i<k->t.vis[k]? = some w->L0[k]? = some (hashT w.t))
 (H0:J2) (h0:H0[0]? = some (.cells (ucells L0) 1 0 false)) (Q:J0)
 (hQ:∀H kv,Keep (fun _=>False) H0 H->(kv = .p .nilslice/\hashL (klist v.t.kids)=[]\/∃kl,H0.length<=kl/\HS H kl 1 (klist v.t.kids).length kv (ucells (hashL (klist v.t.kids)))/\0<(klist v.t.kids).length)->Q .normal [(3, .v (.p (ival t))),(4, .v (.slice 0 0 0 t.size)),(5, .int .i64 i),(6,up kv)] ⟨[],H⟩) :
 wpLoop (CW tr.look) 56 m_Q63_0 l_Q63_0 (blkK 2 b_Q63_2 Q) [(3, .v (.p (ival t))),(4, .v (.slice 0 0 0 t.size)),(5, .int .i64 i),(6,up (.p .nilslice)),(7, .int .i64 (i+1))] ⟨[],H0⟩:=by
 refine zae (α:=Nat×IVal×J2) (fun a=>[(3, .v (.p (ival t))),(4, .v (.slice 0 0 0 t.size)),(5, .int .i64 i),(6,up a.2.1),(7, .int .i64 (i+1+lsize ((klist v.t.kids).take a.1):Nat))]) (fun a=>⟨[],a.2.2⟩)
  (fun a=>a.1<=(klist v.t.kids).length/\Keep (fun _=>False) H0 a.2.2/\(a.2.1 = .p .nilslice/\a.1=0\/∃kl,H0.length<=kl/\HS a.2.2 kl 1 a.1 a.2.1 (ucells (hashL ((klist v.t.kids).take a.1)))/\0<a.1)) (fun a=>(klist v.t.kids).length-a.1) ?_ (0, .p .nilslice,H0) ⟨by simp,Keep.refl, .inl ⟨rfl,rfl⟩⟩
 rintro⟨m,kv,H⟩ ⟨hm,hk,hkv⟩ L hL'
 dsimp only at hm hk hkv hL' ⊢
 dsimp only[l_Q63_0]
 have hi:t.items[i]? = some (fullOf v):=by rw[Tree.items,zdf,Ap];rw[show visT t 0 (-1) 0 0=t.vis from rfl,hv];rfl
 have ix:=zbk hi
 have hend:=zso hv
 have hsz:=zag v.t
 by_cases hml:m<(klist v.t.kids).length
 ·obtain⟨w,hw,hwt,_⟩:=zxt hv hml
  have hwi:t.items[i+1+lsize ((klist v.t.kids).take m)]? = some (fullOf w):=by rw[Tree.items,zdf,Ap];rw[show visT t 0 (-1) 0 0=t.vis from rfl,hw];rfl
  have ixw:=zbk hwi
  have hwl:=(Aa.1 hw).1
  rw[zaw]at hwl
  have hLk:=hL _ _ (by omega) hw
  have h0l:=(Aa.1 h0).1
  have h0H:H[0]? = some (.cells (ucells L0) 1 0 false):=by rw[hk.2 0 h0l (by simp)];exact h0
  have hsucc:=zcf hml
  have hle:=zsp (klist v.t.kids) (m+1)
  have hws:=zad (klist v.t.kids)[m]
  have hlt:((i+1+lsize ((klist v.t.kids).take m):Nat):Int)<(i:Int)+(v.t.size:Nat):=by omega
  have hwe:=zso hw
  have hkl2:=zau (klist v.t.kids)
  have hws2:w.t.size=(klist v.t.kids)[m].size:=by rw[hwt]
  have hld:loadVal ⟨[],H⟩ none (J5 0 0 (i+1+lsize ((klist v.t.kids).take m)))=some (.p (.int .u64 (hashT w.t))) :=
   zac h0H (by rw[ucells,Ap,hLk];rfl)
  have htake:ucells (hashL ((klist v.t.kids).take (m+1)))=ucells (hashL ((klist v.t.kids).take m))++[.p (.int .u64 (hashT w.t))]:=by
   rw[zri hml,ucells,AF,hwt];rfl
  have hpn:((i+1+lsize ((klist v.t.kids).take m):Nat):Int)+(w.t.size:Nat)=((i+1+lsize ((klist v.t.kids).take (m+1)):Nat):Int):=by omega
  have hnx:=fun kv' H' hk' hv'=>hL' (m+1,kv',H') ⟨by dsimp only;omega,hk',hv'⟩ (by dsimp only;omega)
  dsimp only at hnx
  generalize i+1+lsize ((klist v.t.kids).take (m+1))=p' at *
  generalize hp:i+1+lsize ((klist v.t.kids).take m)=p at *
  rcases hkv with⟨rfl,rfl⟩|⟨kl,hkl,hhs,hm0⟩
  ·have happ:=append_nil (bx:=[]) (H:=H++[IBlk.cells [.p (.int .u64 (hashT w.t))] 1 0 false]) (esz:=1) (ny:=1) (y := .slice H.length 0 0 1) (zcl (op:=false) zbd (by simp)) rfl (by omega) (by omega)
   simp(disch:=omega) [zaa,ix,ixw,fullOf,zaq,hld,happ,hpn]
   refine hnx (.slice (H.length+1) 0 0 1) _ (hk.trans Keep.new) (.inr ⟨H.length+1,by have:=hk.1;omega,⟨0,[.p (.int .u64 (hashT w.t))],true,rfl,?_,by simp,?_⟩,by omega⟩)
   ·rw[Ad (by omega),show H.length+1-H.length=1 by omega];rfl
   ·rw[htake];simp[hashL,ucells]
  ·obtain⟨ver,cs,op,rfl,hkk,hnn,hxs⟩:=hhs
   have hkll:=(Aa.1 hkk).1
   have happ:=zbw (bx:=[]) (H:=H++[IBlk.cells [.p (.int .u64 (hashT w.t))] 1 0 false]) (y := .slice H.length 0 0 1) (ny:=1) (by rw[Ab hkll];exact hkk) hnn (zcl (op:=false) (ver:=0) (n:=1) zbd (by simp)) rfl (by omega) (by omega)
   have hnew:=zko (H:=H) (ver:=ver) (op:=op) (ys:=[.p (.int .u64 (hashT w.t))]) (ny:=1) (k:=kl) hkll hnn (by simp)
   rw[hxs]at hnew
   rw[Bn _ _ hkll]at happ
   generalize appBlk cs [.p (.int .u64 (hashT w.t))] 1 m 1 ver op=BB at happ hnew
   generalize appVer cs 1 m 1 ver=vv at happ hnew
   simp(disch:=omega) [zaa,ix,ixw,fullOf,zaq,hld,happ,hpn]
   refine hnx (.slice kl vv 0 (m+1)) _ ⟨by have:=hk.1;simp;omega,fun x hx hs=>?_⟩ (.inr ⟨kl,hkl,?_,by omega⟩)
   ·have:=hk.1
    rw[Ab (by simp;omega),Ac (by omega)]
    exact hk.2 x hx hs
   ·rw[htake]
    exact hnew.keep (Ab (by simpa using hkll))
 ·obtain rfl:m=(klist v.t.kids).length:=by omega
  have hlt:¬((i+1+lsize ((klist v.t.kids).take (klist v.t.kids).length):Nat):Int)<(i:Int)+(v.t.size:Nat):=by
   rw[A8];omega
  generalize i+1+lsize ((klist v.t.kids).take (klist v.t.kids).length)=p at *
  simp(disch:=omega) [zaa,ix,fullOf]
  rw[A8]at hkv
  refine hQ H kv hk ?_
  rcases hkv with⟨h1,h2⟩|⟨kl,h1,h2,h3⟩
  ·exact .inl ⟨h1,by rw[Av.1 h2];rfl⟩
  ·exact .inr ⟨kl,h1,h2,h3⟩
def StrT (t:Tree):Prop:=∀(k:Nat) (v:Vis),t.vis[k]? = some v->NodeStr v.t
theorem zpa {H:J2} {kl n:Nat} {kv:IVal} {ks:List Int} (h:HS H kl 1 n kv (ucells ks)) (hn:ks.length=n) (h0:0<n):freezeOne H kv=some (.p (uval ks)):=by
 have hz:=zeu (H:=H) (k:=kl) (e:=1) (n:=n) (v:=kv) (xs:=ks.map (.int .u64)) (by
  have:pcells (ks.map (PVal.int .u64))=ucells ks:=by simp[pcells,ucells]
  rw[this];exact h)
 obtain⟨ver,cs,op,rfl,_⟩:=h
 cases ks with
 |nil=>simp at hn;omega
 |cons a l =>
  simp only[freezeOne,hz]
  rw[uval,<-hn]
  rfl
theorem zalx:∀n:Nat,repl n [.int .u64 0]=ucells (List.replicate n 0)
 |0=>rfl
 |n+1=>by rw[repl,zalx n];rfl
theorem zajp {t:Tree} (h:NodeStr t):NodeStr t.bare:=by
 cases t with
 |mk k n x a c=>exact h
theorem zapk {t:Tree} {m:Nat} {v:Vis} (h:t.vis[m]? = some v):(klist v.t.kids).length<t.size:=by
 have:=zso h
 have h2:=zag v.t
 have h3:=zau (klist v.t.kids)
 omega
theorem zafb (t:Tree) (hf:Fine t) (hst:StrT t) (Q:J0)
 (hQ:∀H,H[0]? = some (.cells (ucells (t.vis.map fun v=>hashT v.t)) 1 0 false)->Q .normal [(4, .v (.slice 0 0 0 t.size))] ⟨[],H⟩) :
 wpLoop (CW tr.look) 56 m_Q63_1 l_Q63_1 (blkK 0 b_Q63_0 Q) [(3, .v (.p (ival t))),(4, .v (.slice 0 0 0 t.size)),(5, .int .i64 ((t.size:Int)-1))] ⟨[],[.cells (ucells (List.replicate t.size 0)) 1 0 false]⟩:=by
 have hs:=hf.1
 refine zae (α:=Nat×J2) (fun a=>[(3, .v (.p (ival t))),(4, .v (.slice 0 0 0 t.size)),(5, .int .i64 ((a.1:Int)-1))]) (fun a=>⟨[],a.2⟩)
  (fun a=>a.1<=t.size/\∃L0:List Int,a.2[0]? = some (.cells (ucells L0) 1 0 false)/\L0.length=t.size/\∀(k:Nat) (w:Vis),a.1<=k->t.vis[k]? = some w->L0[k]? = some (hashT w.t)) (fun a=>a.1) ?_ (t.size,_) ⟨Ai _,_,rfl,by simp,fun k w hk hw=>by
   have:=(Aa.1 hw).1
   rw[zaw]at this
   dsimp only at hk
   omega⟩
 rintro⟨m,H⟩ ⟨hm,L0,h0,hl0,hall⟩ L hL
 dsimp only at hm h0 hall hL ⊢
 dsimp only[l_Q63_1]
 cases m with
 |zero =>
  have hneg:¬(0:Int)<=((0:Nat):Int)-1:=by omega
  simp(disch:=omega) []
  refine hQ H ?_
  rw[h0]
  congr 3
  refine BC fun k=>?_
  rw[Ap]
  cases hk:t.vis[k]? with
  |none =>
   rw[Cp,zaw]at hk
   rw[AU (by omega)]
   rfl
  |some w=>exact hall k w (AY _) hk
 |succ m =>
  obtain⟨v,hv⟩:∃v,t.vis[m]? = some v:=⟨_,Ae (by rw[zaw];omega)⟩
  have hc:((m+1:Nat):Int)-1=(m:Int):=by omega
  have hge:(0:Int)<=(m:Int):=by omega
  rw[hc]
  simp(disch:=omega) [zaa]
  have hks:=zapk hv
  refine zabw t hs m v hv L0 hl0 (fun k w hk hw=>hall k w (by omega) hw) H h0 _ (fun H' kv hk hkv=>?_)
  have hi:t.items[m]? = some (fullOf v):=by rw[Tree.items,zdf,Ap];rw[show visT t 0 (-1) 0 0=t.vis from rfl,hv];rfl
  have ix:=zbk hi
  have h0l:=(Aa.1 h0).1
  have h0':H'[0]? = some (.cells (ucells L0) 1 0 false):=by rw[hk.2 0 h0l (by simp)];exact h0
  have hml:m<L0.length:=by omega
  have hbare:v.t.bare = .mk v.t.kind v.t.name v.t.text v.t.attrs none:=rfl
  have hagg:tagg v.t.bare = .agg [J4 v.t.kind, .p (.str v.t.name), .p (.str v.t.text), .p (aval v.t.attrs), .p .nilslice]:=rfl
  have hn:=zajo v.t.bare (hashL (klist v.t.kids)) (by rw[zoz];omega) (zajp (hst m v hv))
  rw[<- zta]at hn
  have hcall:CW tr.look F_Q82 [tagg v.t.bare,kv] H'=some (vu (hashT v.t),H'):=by
   refine zyc (al:=[tagg v.t.bare, .p (uval (hashL (klist v.t.kids)))]) look_Q82 rfl ?_ (by simp) rfl (hn [])
   have f1:freezeOne H' (tagg v.t.bare)=some (tagg v.t.bare):=by
    have:=zby (H:=H') (l:=[tagg v.t.bare]) (by simp)
    simp only[freezeAll]at this
    cases hz:freezeOne H' (tagg v.t.bare)with
    |none=>rw[hz]at this;cases this
    |some y=>rw[hz]at this;injection this with this;injection this with this;rw[this]
   have f2:freezeOne H' kv=some (.p (uval (hashL (klist v.t.kids)))):=by
    rcases hkv with⟨rfl,h2⟩|⟨kl,h1,h2,h3⟩
    ·rw[h2];rfl
    ·exact zpa h2 (zoz _) h3
   rw[freezeAll,f1,freezeAll,f2,freezeAll]
  have hw:=zam (bx:=[]) (off:=m) (new:=[vu (hashT v.t)]) h0' (by simp[ucells];omega)
  have hsp:splice (ucells L0) m [vu (hashT v.t)]=ucells (L0.set m (hashT v.t)):=by
   simp only[splice,ucells,CD]
   rw[Bu,if_pos (by simpa using hml)]
   rfl
  rw[hsp]at hw
  have hup:up kv = .v kv:=by
   rcases hkv with⟨rfl,_⟩|⟨kl,h1,⟨ver,cs,op,rfl,_⟩,_⟩<;>rfl
  rw[hagg]at hcall
  have hpass:kv.passOK=true:=by
   rcases hkv with⟨rfl,_⟩|⟨kl,h1,⟨ver,cs,op,rfl,_⟩,_⟩<;>rfl
  rw[hup]
  have b1:v.t.bare.kind=v.t.kind:=rfl
  have b2:v.t.bare.name=v.t.name:=rfl
  have b3:v.t.bare.text=v.t.text:=rfl
  have b4:v.t.bare.attrs=v.t.attrs:=rfl
  simp(disch:=omega) [zaa,ix,fullOf,b1,b2,b3,b4,zaq,hpass,hcall,hw]
  refine hL (m,_) ⟨by dsimp only;omega,_,zan (Aa.1 h0').1,by simp[hl0],fun k w hk hkw=>?_⟩ (by dsimp only;omega)
  dsimp only at hk
  by_cases he:k=m
  ·subst he
   rw[hv]at hkw
   injection hkw with hkw
   subst hkw
   rw[AO hml]
  ·rw[Ac (by omega)]
   exact hall k w (by omega) hkw
theorem zapl (t:Tree) (hf:Fine t) (hst:StrT t) (H:J2):CW tr.look F_Q63 [tagg t] H=some (.p (uval (t.vis.map fun v=>hashT v.t)),H):=by
 have hfl:=zcg t hf
 have hs:=hf.1
 have h1:=zad t
 refine zal look_Q63 rfl (by simp) rfl ?_
 dsimp only[i_Q63,c_Q63]
 have hle:(t.size:Int)<=4294967296:=by omega
 simp(disch:=omega) [hfl,zaj,zaa,hle,zalx]
 refine zafb t hf hst _ fun H' h0=>?_
 have hz:freezeOne H' (.slice 0 0 0 t.size)=some (.p (uval (t.vis.map fun v=>hashT v.t))):=by
  refine zpa (kl:=0) (n:=t.size) ⟨0,_,false,rfl,h0,?_,?_⟩ (by simp[zaw]) (by omega)
  ·simp[ucells,zaw]
  ·rw[AA (by simp[ucells,zaw])]
 simp(disch:=omega) [hz]
def szU (t:Tree):Int:=IntKind.u64.wrap (((IntKind.u64.wrap (IntKind.u64.wrap (t.size:Int)*2 ^ (min 32 IntKind.u64.bits)) % 2 ^ IntKind.u64.bits).toNat ||| (IntKind.u64.wrap (t.height:Int) % 2 ^ IntKind.u64.bits).toNat:Nat):Int)
noncomputable def keyC (v:Vis):J3:=[vu (hashT v.t),vu (szU v.t)]
def sideB (t:Tree) (kv iv:IVal):IBlk := .cells [J4 t.kind, .p (.str t.name), .p (.str t.text), .p (aval t.attrs), .p (kval t.kids), .p (ival t),kv,iv] 8 0 false
theorem zapm (t:Tree) (hf:Fine t) (H0:J2) (Q:J0)
 (hQ:∀H kv kl,Keep (fun _=>False) H0 H->H[H0.length]? = some (sideB t kv (.p .nilslice))->H0.length<kl->HS H kl 2 t.size kv (t.vis.flatMap keyC)->Q .normal [(3, .v (J5 H0.length 0 0))] ⟨[],H⟩) :
 wpLoop (CW tr.look) 61 m_Q46_0 l_Q46_0 (blkK 0 b_Q46_0 Q) [(3, .v (J5 H0.length 0 0)),(12, .v (.p (uval (t.vis.map fun v=>hashT v.t)))),(13, .int .i64 t.vis.length),(14, .int .i64 0)] ⟨[],H0++[sideB t (.p .nilslice) (.p .nilslice)]⟩:=by
 have hs:=hf.1
 have hvl:=zaw t
 refine zae (α:=Nat×IVal×J2) (fun a=>[(3, .v (J5 H0.length 0 0)),(12, .v (.p (uval (t.vis.map fun v=>hashT v.t)))),(13, .int .i64 t.vis.length),(14, .int .i64 a.1)]) (fun a=>⟨[],a.2.2⟩)
  (fun a=>a.1<=t.size/\Keep (fun _=>False) H0 a.2.2/\a.2.2[H0.length]? = some (sideB t a.2.1 (.p .nilslice))/\(a.2.1 = .p .nilslice/\a.1=0\/∃kl,H0.length<kl/\HS a.2.2 kl 2 a.1 a.2.1 ((t.vis.take a.1).flatMap keyC)/\0<a.1)) (fun a=>t.size-a.1) ?_ (0, .p .nilslice,_) ⟨by simp,Keep.new,zbd, .inl ⟨rfl,rfl⟩⟩
 rintro⟨j,kv,H⟩ ⟨hj,hk,hsd,hkv⟩ L hL
 dsimp only at hj hk hsd hkv hL ⊢
 dsimp only[l_Q46_0]
 by_cases hjl:j<t.size
 ·obtain⟨v,hv⟩:∃v,t.vis[j]? = some v:=⟨_,Ae (by omega)⟩
  have hi:t.items[j]? = some (fullOf v):=by rw[Tree.items,zdf,Ap];rw[show visT t 0 (-1) 0 0=t.vis from rfl,hv];rfl
  have ix:=zbk hi
  have hux:=zzv (l:=t.vis.map fun v=>hashT v.t) (j:=j) (by simp;omega)
  have hj2:(t.vis.map fun v=>hashT v.t)[j]'(by simp;omega)=hashT v.t:=by
   have:=(Aa.1 hv).2
   rw[BO,this]
  rw[hj2]at hux
  have l5:loadVal ⟨[],H⟩ none (J5 H0.length 0 5)=some (.p (ival t)):=zac hsd rfl
  have l6:loadVal ⟨[],H⟩ none (J5 H0.length 0 6)=some kv:=zac hsd rfl
  have hlt:(j:Int)<(t.vis.length:Nat):=by omega
  have htake:(t.vis.take (j+1)).flatMap keyC=(t.vis.take j).flatMap keyC++keyC v:=by
   rw[AX,hv,BQ];simp
  have hsl:=(Aa.1 hsd).1
  have hY:[vu (hashT v.t),vu (IntKind.u64.wrap (((IntKind.u64.wrap (IntKind.u64.wrap (v.t.size:Int)*2 ^ (min 32 IntKind.u64.bits)) % 2 ^ IntKind.u64.bits).toNat ||| (IntKind.u64.wrap (v.t.height:Int) % 2 ^ IntKind.u64.bits).toNat:Nat):Int))]=keyC v:=rfl
  have hYl:(keyC v).length=2:=rfl
  generalize keyC v=Y at *
  rcases hkv with⟨rfl,rfl⟩|⟨kl,hkl,hhs,hm0⟩
  ·have hux0:idxS 1 (.p (uval (t.vis.map fun v=>hashT v.t))) (J4 0)=_:=hux
   have ix0:idxS 10 (.p (ival t)) (J4 0)=_:=ix
   have happ:=append_nil (bx:=[]) (H:=H++[IBlk.cells Y 2 0 false]) (esz:=2) (ny:=1) (y := .slice H.length 0 0 1) (zcl (op:=false) zbd (by omega)) rfl (by omega) (by omega)
   have hw:=zam (bx:=[]) (H:=H++[IBlk.cells Y 2 0 false,IBlk.cells Y 2 0 true]) (i:=H0.length) (off:=6) (new:=[.slice (H.length+1) 0 0 1]) (by rw[Ab hsl];exact hsd) (by simp)
   simp(disch:=omega) [zaa,hux0,ix0,fullOf,l5,l6,zcz,hY,happ,hw]
   refine hL (1, .slice (H.length+1) 0 0 1,_) ⟨by dsimp only;omega,⟨by have:=hk.1;simp;omega,fun x hx hs=>?_⟩,?_, .inr ⟨H.length+1,by omega,⟨0,Y,true,rfl,?_,by omega,?_⟩,by dsimp only;omega⟩⟩ (by dsimp only;omega)
   ·have:=hk.1
    dsimp only
    rw[Ab (by rw[Ay];omega),Ac (by omega)]
    exact hk.2 x hx hs
   ·dsimp only
    rw[Ab (by rw[Ay];omega)]
    exact zan hsl
   ·dsimp only
    rw[Ad (by rw[Ay];omega),Ay,show H.length+1-H.length=1 by omega];rfl
   ·dsimp only
    rw[show(1:Nat)=0+1 from rfl,htake,AA (by omega)]
    rfl
  ·obtain⟨ver,cs,op,rfl,hkk,hnn,hxs⟩:=hhs
   have hkll:=(Aa.1 hkk).1
   have happ:=zbw (bx:=[]) (H:=H++[IBlk.cells Y 2 0 false]) (y := .slice H.length 0 0 1) (ny:=1) (by rw[Ab hkll];exact hkk) hnn (zcl (op:=false) (ver:=0) (n:=1) zbd (by omega)) rfl (by omega) (by omega)
   have hnew:=zko (H:=H) (ver:=ver) (op:=op) (ys:=Y) (ny:=1) (k:=kl) hkll hnn (by omega)
   rw[hxs]at hnew
   rw[Bn _ _ hkll]at happ
   generalize appBlk cs Y 2 j 1 ver op=BB at happ hnew
   generalize appVer cs 2 j 1 ver=vv at happ hnew
   have hw:=zam (bx:=[]) (H:=H.set kl BB++[IBlk.cells Y 2 0 false]) (i:=H0.length) (off:=6) (new:=[.slice kl vv 0 (j+1)]) (by rw[Ab (by simpa using hsl),Ac (by omega)];exact hsd) (by simp)
   simp(disch:=omega) [zaa,hux,ix,fullOf,l5,l6,zcz,hY,happ,hw]
   refine hL (j+1, .slice kl vv 0 (j+1),_) ⟨by dsimp only;omega,⟨by have:=hk.1;simp;omega,fun x hx hs=>?_⟩,zan (by simp;omega), .inr ⟨kl,hkl,?_,by dsimp only;omega⟩⟩ (by dsimp only;omega)
   ·have:=hk.1
    rw[Ac (by omega),Ab (by simp;omega),Ac (by omega)]
    exact hk.2 x hx hs
   ·dsimp only
    rw[htake]
    exact hnew.keep (by rw[Ac (by omega),Ab (by simpa using hkll)])
 ·obtain rfl:j=t.size:=by omega
  have hlt:¬(t.size:Int)<(t.vis.length:Nat):=by omega
  simp(disch:=omega) []
  rcases hkv with⟨_,h⟩|⟨kl,h1,h2,h3⟩
  ·have:=zad t;omega
  ·rw[AA (by omega)]at h2
   exact hQ H kv kl hk hsd h1 h2
def SideOK (t:Tree) (k0:Nat) (kl il:Nat) (bs:List Bool) (H:J2):Prop:=∃kv iv,H[k0]? = some (sideB t kv iv)/\HS H kl 2 t.size kv (t.vis.flatMap keyC)/\HS H il 1 t.size iv (bs.map fun b=>.p (.bool b))
def OfQ (t:Tree) (H:J2) (r:IVal) (H':J2):Prop:=r = J5 H.length 0 0/\∃kl il,Keep (fun _=>False) H H'/\H.length<kl/\H.length<il/\kl≠il/\SideOK t H.length kl il (List.replicate t.size false) H'
theorem ztb (t:Tree) (hf:Fine t) (hst:StrT t) (H:J2):∃H' kl il,CW tr.look F_Q46 [tagg t] H=some (J5 H.length 0 0,H')/\Keep (fun _=>False) H H'/\H.length<kl/\H.length<il/\kl≠il/\SideOK t H.length kl il (List.replicate t.size false) H':=by
 have hfl:=zcg t hf
 have hal:=zapl t hf hst
 have hs:=hf.1
 obtain⟨r,H',e1,rfl,kl,il,e2⟩:∃r H',CW tr.look F_Q46 [tagg t] H=some (r,H')/\OfQ t H r H':=by
  refine zay look_Q46 rfl rfl ?_
  dsimp only[i_Q46,c_Q46]
  simp(disch:=omega) [hfl,zaj,hal,zzu]
  refine zapm t hf H _ fun H' kv kl h1 h2 h3 h4=>?_
  have l5:loadVal ⟨[],H'⟩ none (J5 H.length 0 5)=some (.p (ival t)):=zac h2 rfl
  have hle:(t.size:Int)<=4294967296:=by omega
  have hrep:∀n:Nat,repl n [.bool false]=(List.replicate n false).map fun b=>IVal.p (.bool b):=by
   intro n
   induction n with
   |zero=>rfl
   |succ n ih=>rw[repl,ih];rfl
  have h2l:=(Aa.1 h2).1
  have hw:=zam (bx:=[]) (H:=H'++[IBlk.cells (repl t.size [PVal.bool false]) 1 0 false]) (i:=H.length) (off:=7) (new:=[.slice H'.length 0 0 t.size]) (by rw[Ab h2l];exact h2) (by simp)
  simp(disch:=omega) [l5,hle,hw]
  have hkll:=h4.lt
  have hrl:(repl t.size [PVal.bool false]).length=t.size:=by rw[hrep];simp
  refine⟨rfl,kl,H'.length,⟨?_,fun x hx hs=>?_⟩,h3,h2l,by omega,kv, .slice H'.length 0 0 t.size,?_,h4.keep ?_,⟨0,repl t.size [.bool false],false,rfl,?_,?_,?_⟩⟩
  ·have:=h1.1;simp;omega
  ·rw[Ab (by rw[Ay];omega),Ac (by omega)]
   exact h1.2 x hx hs
  ·rw[Ab (by rw[Ay];omega)]
   exact zan h2l
  ·rw[Ab (by rw[Ay];omega),Ac (by omega)]
  ·rw[Ad (by rw[Ay];omega),Ay,Bb];rfl
  ·omega
  ·rw[AA (by omega),hrep]
 exact⟨H',kl,il,e1,e2⟩
theorem zafc {t:Tree} {k0 kl il:Nat} {bs:List Bool} {H:J2} (h:SideOK t k0 kl il bs H):loadVal ⟨[],H⟩ (some 5) (J5 k0 0 0)=some (tagg t):=by
 obtain⟨kv,iv,h1,_⟩:=h
 rw[zce (off:=0) (n:=5) h1 (by simp)]
 simp[tagg,Tree.zax,pcells]
theorem zpb (t:Tree) (hs:t.size<1000000) {k0 kl il:Nat} {bs:List Bool} {H:J2} (h:SideOK t k0 kl il bs H) (id:Nat) (hid:id<t.size):CW tr.look F_Q49 [J5 k0 0 0, J4 id] H=some (tagg (subT t id),H):=by
 have hl:=zafc h
 have hsub:=zaez t hs id hid
 obtain⟨r,H',e1,e2,e3⟩:=zay (args:=[J5 k0 0 0, J4 id]) (H:=H) (Q:=fun r H'=>r=tagg (subT t id)/\H'=H) look_Q49 rfl rfl (by
  dsimp only[i_Q49,c_Q49]
  simp(disch:=omega) [hl,zaj,hsub])
 rw[e1,e2,e3]
def pc (p:Nat×Nat):J3:=[J4 p.1, J4 p.2]
structure AP where
 xb:Nat
 yb:Nat
 lb:Nat
 x0:Nat
 y0:Nat
 xk:Nat
 xi:Nat
 yk:Nat
 yi:Nat
 fz:List Nat
def AP.all (p:AP):List Nat:=[p.xb,p.yb,p.lb,p.x0,p.y0,p.xk,p.xi,p.yk,p.yi]++p.fz
def LOK (p:AP) (ps:J1) (H:J2):Prop:=∃lv,H[p.lb]? = some (.cells [lv] 1 0 false)/\(lv = .p .nilslice/\ps=[]\/∃ll,ll∉p.all/\HS H ll 2 ps.length lv (ps.flatMap pc)/\0<ps.length)
structure AS (a b:Tree) (p:AP) (bx bz:List Bool) (ps:J1) (H:J2):Prop where
 nd:p.all.Nodup
 xb:H[p.xb]? = some (.cells [J5 p.x0 0 0] 1 0 false)
 yb:H[p.yb]? = some (.cells [J5 p.y0 0 0] 1 0 false)
 lx:bx.length=a.size
 lz:bz.length=b.size
 sx:SideOK a p.x0 p.xk p.xi bx H
 sy:SideOK b p.y0 p.yk p.yi bz H
 l:LOK p ps H
theorem AP.ne {p:AP} (nd:p.all.Nodup):(p.xb≠p.lb/\p.yb≠p.lb/\p.x0≠p.lb/\p.y0≠p.lb/\p.xk≠p.lb/\p.xi≠p.lb/\p.yk≠p.lb/\p.yi≠p.lb) /\
 (p.xb≠p.xi/\p.yb≠p.xi/\p.x0≠p.xi/\p.y0≠p.xi/\p.xk≠p.xi/\p.yk≠p.xi/\p.yi≠p.xi)/\(p.xb≠p.yi/\p.yb≠p.yi/\p.x0≠p.yi/\p.y0≠p.yi/\p.xk≠p.yi/\p.yk≠p.yi)/\∀x∈p.fz,x≠p.lb/\x≠p.xi/\x≠p.yi:=by
 simp only[AP.all,At,AV,Bj,Aj,not_or]at nd
 obtain⟨⟨a1,a2,a3,a4,a5,a6,a7,a8,a9⟩,⟨b1,b2,b3,b4,b5,b6,b7,b8⟩,⟨c1,c2,c3,c4,c5,c6,c7⟩,⟨d1,d2,d3,d4,d5,d6⟩,⟨e1,e2,e3,e4,e5⟩,⟨f1,f2,f3,f4⟩,⟨g1,g2,g3⟩,⟨h1,h2⟩,i1,_⟩:=nd
 refine⟨⟨a2,b1,Ne.symm c1,Ne.symm c2,Ne.symm c3,Ne.symm c4,Ne.symm c5,Ne.symm c6⟩,⟨a6,b5,d3,e2,f1,Ne.symm g1,Ne.symm g2⟩,⟨a8,b7,d5,e4,f3,h1⟩,fun x hx=>⟨?_,?_,?_⟩⟩
 ·rintro rfl;exact c7 hx
 ·rintro rfl;exact g3 hx
 ·rintro rfl;exact i1 hx
theorem zzw {t:Tree} {k0 kl il:Nat} {bs:List Bool} {H:J2} (h:SideOK t k0 kl il bs H) (_:bs.length=t.size) (h1:k0≠il) (h2:kl≠il) {j:Nat} (hj:j<t.size) :
 ∃kv iv il' ver,H[k0]? = some (sideB t kv iv)/\iv = .slice il' ver 0 t.size/\il'=il/\∃B,writeCells ⟨[],H⟩ (J5 il ver j) [.p (.bool true)]=some ⟨[],H.set il B⟩/\SideOK t k0 kl il (bs.set j true) (H.set il B):=by
 obtain⟨kv,iv,e1,e2,ver,cs,op,rfl,e3,e4,e5⟩:=h
 have hlt:=(Aa.1 e3).1
 refine⟨kv,_,il,ver,e1,rfl,rfl, .cells (splice cs j [.p (.bool true)]) 1 ver op,zam e3 (by simp;omega),kv,_,?_,e2.keep ?_,ver,_,op,rfl,zan hlt,?_,?_⟩
 ·rw[Ac (by omega)];exact e1
 ·rw[Ac (by omega)]
 ·simp[splice];omega
 ·have hsp:splice cs j [IVal.p (.bool true)]=cs.set j (.p (.bool true)):=by
   rw[Bu,if_pos (by omega)]
   rfl
  rw[CD,<-e5,hsp,List.take_set]
theorem SideOK.keep {t:Tree} {k0 kl il:Nat} {bs:List Bool} {H H':J2} (h:SideOK t k0 kl il bs H) (h1:H'[k0]? = H[k0]?) (h2:H'[kl]? = H[kl]?) (h3:H'[il]? = H[il]?):SideOK t k0 kl il bs H':=by
 obtain⟨kv,iv,e1,e2,e3⟩:=h
 exact⟨kv,iv,by rw[h1];exact e1,e2.keep h2,e3.keep h3⟩
theorem LOK.keep {p:AP} {ps:J1} {H H':J2} (h:LOK p ps H) (h1:H'[p.lb]? = H[p.lb]?) (h2:∀x,x∉p.all->x<H.length->H'[x]? = H[x]?):LOK p ps H':=by
 obtain⟨lv,e1,e2⟩:=h
 refine⟨lv,by rw[h1];exact e1,?_⟩
 rcases e2 with e2|⟨ll,e2,e3,e4⟩
 ·exact .inl e2
 ·exact .inr ⟨ll,e2,e3.keep (h2 ll e2 e3.lt),e4⟩
theorem l_app {p:AP} {ps:J1} {H:J2} (h:LOK p ps H) (hall:∀x∈p.all,x<H.length) (hb:ps.length<1000000) (q:Nat×Nat):∃lv lv' H2,H[p.lb]? = some (.cells [lv] 1 0 false)/\up lv = .v lv/\evalAppend ⟨[],H++[.cells (pc q) 2 0 false]⟩ 2 lv (.slice H.length 0 0 1)=some (lv',⟨[],H2⟩)/\(∃ ll vv,lv' = .slice ll vv 0 (ps.length+1)) /\
 lv'.cellOK=true/\H2[p.lb]? = some (.cells [lv] 1 0 false)/\(∀ x∈p.all,H2[x]? = H[x]?)/\H.length<=H2.length/\LOK p (ps++[q]) (H2.set p.lb (.cells [lv'] 1 0 false)):=by
 obtain⟨lv,e1,e2⟩:=h
 have hlb:p.lb∈p.all:=by simp[AP.all]
 have hY:(pc q).length=2:=rfl
 rcases e2 with⟨rfl,rfl⟩|⟨ll,hll,⟨ver,cs,op,rfl,hkk,hnn,hxs⟩,h0⟩
 ·have happ:=append_nil (bx:=[]) (H:=H++[IBlk.cells (pc q) 2 0 false]) (esz:=2) (ny:=1) (y := .slice H.length 0 0 1) (zcl (op:=false) zbd (by omega)) rfl (by omega) (by omega)
  have hx:∀x∈p.all,(H++[IBlk.cells (pc q) 2 0 false]++[IBlk.cells (pc q) 2 0 true])[x]? = H[x]? := fun x hx=>by
   have:=hall x hx
   rw[Ab (by simp;omega),Ab this]
  refine⟨_,_,_,e1,rfl,happ,⟨_,_,rfl⟩,rfl,by rw[hx _ hlb];exact e1,hx,by simp,_,zan (by have:=hall _ hlb;simp;omega), .inr ⟨H.length+1,?_,⟨0,pc q,true,by simp,?_,by simp[hY],?_⟩,by simp⟩⟩
  ·intro hm;have:=hall _ hm;omega
  ·have:=hall _ hlb
   rw[Ac (by omega),Ad (by simp)];simp;rfl
  ·simp[];exact AA (by omega)
 ·have hkll:=(Aa.1 hkk).1
  have happ:=zbw (bx:=[]) (H:=H++[IBlk.cells (pc q) 2 0 false]) (y := .slice H.length 0 0 1) (ny:=1) (by rw[Ab hkll];exact hkk) hnn (zcl (op:=false) (ver:=0) (n:=1) zbd (by omega)) rfl (by omega) (by omega)
  have hnew:=zko (H:=H) (ver:=ver) (op:=op) (ys:=pc q) (ny:=1) (k:=ll) hkll hnn (by omega)
  rw[hxs]at hnew
  rw[Bn _ _ hkll]at happ
  have hx:∀x∈p.all,(H.set ll (appBlk cs (pc q) 2 ps.length 1 ver op)++[IBlk.cells (pc q) 2 0 false])[x]? = H[x]? := fun x hx=>by
   have:=hall x hx
   rw[Ab (by simp;omega),Ac (by rintro rfl;exact hll hx)]
  refine⟨_,_,_,e1,rfl,happ,⟨_,_,rfl⟩,rfl,by rw[hx _ hlb];exact e1,hx,by simp,_,zan (by have:=hall _ hlb;simp;omega), .inr ⟨ll,hll,?_,by simp⟩⟩
  have he:(ps++[q]).flatMap pc=ps.flatMap pc++pc q:=by simp
  rw[he,Ag]
  exact hnew.keep (by rw[Ac (by rintro h;exact hll (h ▸ hlb)),Ab (by simpa using hkll)])
theorem AS.lt {a b:Tree} {p:AP} {bx bz:List Bool} {ps:J1} {H:J2} (h:AS a b p bx bz ps H) (hfz:∀x∈p.fz,x<H.length):∀x∈p.all,x<H.length:=by
 obtain⟨kv,iv,s1,s2,s3⟩:=h.sx
 obtain⟨kw,iw,t1,t2,t3⟩:=h.sy
 obtain⟨lv,l1,_⟩:=h.l
 intro x hx
 simp only[AP.all,Ao,Aj,BR,or_false]at hx
 rcases hx with(rfl|rfl|rfl|rfl|rfl|rfl|rfl|rfl|rfl)|hx
 ·exact(Aa.1 h.xb).1
 ·exact(Aa.1 h.yb).1
 ·exact(Aa.1 l1).1
 ·exact(Aa.1 s1).1
 ·exact(Aa.1 t1).1
 ·exact s2.lt
 ·exact s3.lt
 ·exact t2.lt
 ·exact t3.lt
 ·exact hfz x hx
theorem zafd (a b:Tree) (p:AP) (i j sz:Nat) (hi:i+sz<=a.size) (hj:j+sz<=b.size) (hab:a.size<1000000/\b.size<1000000) (bx bz:List Bool) (ps:J1) (hps:ps.length+sz<1000000) (H:J2) (hfz:∀x∈p.fz,x<H.length) (h:AS a b p bx bz ps H) (Q:J0)
 (hQ:∀H',AS a b p (markN bx i sz) (markN bz j sz) (ps++pairsN i j sz) H'->H.length<=H'.length->(∀ x∈p.fz,H'[x]? = H[x]?)->Q .normal [] ⟨[],H'⟩) :
 wpLoop (CW tr.look) 46 m_Q47_0 l_Q47_0 (blkK 0 b_Q47_0 Q) [(0, .int .i64 i),(1, .int .i64 j),(2, .v (J5 p.xb 0 0)),(3, .v (J5 p.lb 0 0)),(4, .v (J5 p.yb 0 0)),(15, .int .i64 sz),(16, .int .i64 0)] ⟨[],H⟩:=by
 refine zae (α:=Nat×J2) (fun s=>[(0, .int .i64 i),(1, .int .i64 j),(2, .v (J5 p.xb 0 0)),(3, .v (J5 p.lb 0 0)),(4, .v (J5 p.yb 0 0)),(15, .int .i64 sz),(16, .int .i64 s.1)]) (fun s=>⟨[],s.2⟩)
  (fun s=>s.1<=sz/\AS a b p (markN bx i s.1) (markN bz j s.1) (ps++pairsN i j s.1) s.2/\H.length<=s.2.length/\∀x∈p.fz,s.2[x]? = H[x]?) (fun s=>sz-s.1) ?_ (0,H) ⟨by simp,by simpa[markN,pairsN]using h,Ai _,fun _ _=>rfl⟩
 rintro⟨k,K⟩ ⟨hk,hA,hlen,hfr⟩ L hL
 dsimp only at hk hA hlen hfr hL ⊢
 dsimp only[l_Q47_0]
 by_cases hkl:k<sz
 ·have hfzK:∀x∈p.fz,x<K.length:=fun x hx=>by have:=hfz x hx;omega
  have hall:=hA.lt hfzK
  obtain⟨lv,lv',H2,l1,l2,l3,l4,l5,l6,l7,l8,l9⟩:=l_app hA.l hall (by rw[Ag,zcm];omega) (i+k,j+k)
  obtain⟨ll,vv,rfl⟩:=l4
  have ll1:=zac (bx:=[]) (off:=0) l1 rfl
  have hlk:(k:Int)<(sz:Int):=by omega
  simp only[pc,Da]at l3
  have hw:=zam (bx:=[]) (off:=0) (new:=[.slice ll vv 0 ((ps++pairsN i j k).length+1)]) l6 (by simp)
  have hsp:splice [lv] 0 [.slice ll vv 0 ((ps++pairsN i j k).length+1)]=[.slice ll vv 0 ((ps++pairsN i j k).length+1)]:=rfl
  generalize (ps++pairsN i j k).length+1=nn at *
  rw[hsp]at hw
  obtain⟨K2,hK2⟩:∃K2,H2.set p.lb (IBlk.cells [IVal.slice ll vv 0 nn] 1 0 false)=K2:=⟨_,rfl⟩
  rw[hK2]at hw l9
  have hall2:∀x∈p.all,x≠p.lb->K2[x]? = K[x]? := fun x hx hne=>by
   rw[<- hK2,Ac (by omega)]
   exact l7 x hx
  have hlen2:K.length<=K2.length:=by rw[<- hK2,Ay];exact l8
  obtain⟨⟨n1,n2,n3,n4,n5,n6,n7,n8⟩,⟨u1,u2,u3,u4,u5,u6,u7⟩,⟨w1,w2,w3,w4,w5,w6⟩,nf⟩:=AP.ne hA.nd
  have mem:p.xb∈p.all/\p.yb∈p.all/\p.x0∈p.all/\p.y0∈p.all/\p.xk∈p.all/\p.xi∈p.all/\p.yk∈p.all/\p.yi∈p.all:=by simp[AP.all]
  obtain⟨m1,m2,m3,m4,m5,m6,m7,m8⟩:=mem
  have sx2:=hA.sx.keep (hall2 _ m3 n3) (hall2 _ m5 n5) (hall2 _ m6 n6)
  have sy2:=hA.sy.keep (hall2 _ m4 n4) (hall2 _ m7 n7) (hall2 _ m8 n8)
  obtain⟨kv,iv,_,ver,x1,rfl,rfl,B,x2,x3⟩:=zzw sx2 hA.lx u3 u5 (j:=i+k) (by omega)
  obtain⟨K3,hK3⟩:∃K3,K2.set p.xi B=K3:=⟨_,rfl⟩
  rw[hK3]at x2 x3
  have h3:∀x,x≠p.xi->K3[x]? = K2[x]? := fun x hx=>by rw[<- hK3,Ac (Ne.symm hx)]
  have sy3:=sy2.keep (h3 _ u4) (h3 _ u6) (h3 _ u7)
  obtain⟨kw,iw,_,ver2,y1,rfl,rfl,B2,y2,y3⟩:=zzw sy3 hA.lz w4 w6 (j:=j+k) (by omega)
  obtain⟨K4,hK4⟩:∃K4,K3.set p.yi B2=K4:=⟨_,rfl⟩
  rw[hK4]at y2 y3
  have h4:∀x,x≠p.yi->K4[x]? = K3[x]? := fun x hx=>by rw[<- hK4,Ac (Ne.symm hx)]
  have y1':K2[p.y0]? = _:=(h3 _ u4).symm.trans y1
  have lx:=zac (bx:=[]) (off:=0) ((hall2 _ m1 n1).trans hA.xb) rfl
  have ly:=zac (bx:=[]) (off:=0) ((hall2 _ m2 n2).trans hA.yb) rfl
  have l7x:loadVal ⟨[],K2⟩ none (J5 p.x0 0 7)=_:=zac x1 rfl
  have l7y:loadVal ⟨[],K2⟩ none (J5 p.y0 0 7)=_:=zac y1' rfl
  have ixx:idxS 1 (.slice p.xi ver 0 a.size) (J4 ((i:Int)+(k:Int)))=some (J5 p.xi ver (i+k)):=by
   have:=zaq (e:=1) (k:=p.xi) (v:=ver) (o:=0) (n:=a.size) (j:=i+k) (by omega)
   simpa using this
  have ixy:idxS 1 (.slice p.yi ver2 0 b.size) (J4 ((j:Int)+(k:Int)))=some (J5 p.yi ver2 (j+k)):=by
   have:=zaq (e:=1) (k:=p.yi) (v:=ver2) (o:=0) (n:=b.size) (j:=j+k) (by omega)
   simpa using this
  simp(disch:=omega) [zaa,ll1,l2,l3,hw,lx,ly,l7x,l7y,ixx,ixy,x2,y2]
  have hfin:AS a b p (markN bx i (k+1)) (markN bz j (k+1)) (ps++pairsN i j (k+1)) K4:=by
   refine⟨hA.nd,?_,?_,by rw[markN,Ay];exact hA.lx,by rw[markN,Ay];exact hA.lz,?_,y3,?_⟩
   ·rw[h4 _ w1,h3 _ u1,hall2 _ m1 n1];exact hA.xb
   ·rw[h4 _ w2,h3 _ u2,hall2 _ m2 n2];exact hA.yb
   ·exact x3.keep (h4 _ w3) (h4 _ w5) (h4 _ (Ne.symm u7))
   ·rw[pairsN,<-Ax]
    refine l9.keep ?_ fun x hx _=>?_
    ·rw[h4 _ (Ne.symm n8),h3 _ (Ne.symm n6)]
    ·rw[h4 x (fun e=>hx (by rw[e];exact m8)),h3 x (fun e=>hx (by rw[e];exact m6))]
  refine hL (k+1,K4) ⟨by dsimp only;omega,hfin,?_,fun x hx=>?_⟩ (by dsimp only;omega)
  ·dsimp only
   rw[<- hK4,Ay,<-hK3,Ay];omega
  ·obtain⟨z1,z2,z3⟩:=nf x hx
   dsimp only
   rw[h4 _ z3,h3 _ z2,hall2 x (by simp[AP.all,hx]) z1]
   exact hfr x hx
 ·obtain rfl:k=sz:=by omega
  simp(disch:=omega) []
  exact hQ K hA hlen hfr
def PairQ (a b:Tree) (p:AP) (bx bz:List Bool) (ps:J1) (H H':J2):Prop:=AS a b p bx bz ps H'/\H.length<=H'.length/\∀x∈p.fz,H'[x]? = H[x]?
theorem zafe (a b:Tree) (p:AP) (i j:Nat) (v:Vis) (hv:a.vis[i]? = some v) (hj:j+v.t.size<=b.size) (hab:a.size<1000000/\b.size<1000000) (bx bz:List Bool) (ps:J1) (hps:ps.length+v.t.size<1000000) (H:J2) (hfz:∀x∈p.fz,x<H.length) (h:AS a b p bx bz ps H) :
 ∃H',CW tr.look F_Q47 [J4 i, J4 j, J5 p.xb 0 0, J5 p.lb 0 0, J5 p.yb 0 0] H=some (.tup [],H')/\PairQ a b p (markN bx i v.t.size) (markN bz j v.t.size) (ps++pairsN i j v.t.size) H H':=by
 have hi:a.items[i]? = some (fullOf v):=by rw[Tree.items,zdf,Ap];rw[show visT a 0 (-1) 0 0=a.vis from rfl,hv];rfl
 have ix:=zbk hi
 have hend:=zso hv
 obtain⟨kv,iv,s1,s2,s3⟩:=h.sx
 have lx:=zac (bx:=[]) (off:=0) h.xb rfl
 have l5:loadVal ⟨[],H⟩ none (J5 p.x0 0 5)=some (.p (ival a)):=zac s1 rfl
 obtain⟨r,H',e1,e2,e3⟩:=zay (args:=[J4 i, J4 j, J5 p.xb 0 0, J5 p.lb 0 0, J5 p.yb 0 0]) (H:=H)
  (Q:=fun r H'=>r = .tup []/\PairQ a b p (markN bx i v.t.size) (markN bz j v.t.size) (ps++pairsN i j v.t.size) H H') look_Q47 rfl rfl (by
  dsimp only[i_Q47,c_Q47]
  simp(disch:=omega) [lx,l5,ix,fullOf]
  refine zafd a b p i j v.t.size (by omega) hj hab bx bz ps hps H hfz h _ fun H' g1 g2 g3=>?_
  simp(disch:=omega) []
  exact⟨g1,g2,g3⟩)
 exact⟨H',by rw[e1,e2],e3⟩
end Go.Ideal
namespace Go.Ideal
open Go
set_option maxHeartbeats 4000000
attribute [-simp] getElem?_pos
theorem zaff:∀(n:Nat) (t u:Tree),t.size<n->SameT t u->hashT t=hashT u:=by
 intro n
 induction n with
 |zero=>intro t u h;omega
 |succ n ih =>
  intro t u h hs
  have hts:=zag t
  obtain⟨⟨h1,h2,h3,h4⟩,h5,h6⟩:=zid.1 hs
  have hl:∀(l m:List Tree),lsize l<n->l.length=m.length->(∀ (j:Nat) (a b:Tree),l[j]? = some a->m[j]? = some b->SameT a b)->hashL l=hashL m:=by
   intro l
   induction l with
   |nil=>intro m _ hl _;rw[Av.1 hl.symm]
   |cons a l ihl =>
    intro m hsz hlen hj
    cases m with
    |nil=>simp at hlen
    |cons b m =>
     have:=zad a
     simp only[lsize]at hsz
     rw[hashL,hashL,ih a b (by omega) (hj 0 a b rfl rfl),ihl m (by omega) (by simpa using hlen) (fun j x y hx hy=>hj (j+1) x y (by simpa using hx) (by simpa using hy))]
  rw[zta,zta,hl _ _ (by omega) h5 h6]
  have b1:∀t:Tree,t.bare.kind=t.kind:=fun _=>rfl
  have b2:∀t:Tree,t.bare.name=t.name:=fun _=>rfl
  have b3:∀t:Tree,t.bare.text=t.text:=fun _=>rfl
  have b4:∀t:Tree,t.bare.attrs=t.attrs:=fun _=>rfl
  simp only[nodeU,b1,b2,b3,b4,h1,h2,h3,h4]
theorem zajq {v w:Vis} (h:SameT v.t w.t):keyC v=keyC w:=by
 obtain⟨h1,h2⟩:=zkw _ _ _ (An _) h
 simp only[keyC,szU,zaff _ _ _ (An _) h,h1,h2]
end Go.Ideal
namespace Go.Ideal
open Go
set_option maxHeartbeats 4000000
set_option maxRecDepth 20000
attribute [-simp] getElem?_pos
theorem zabx (a b:Tree) (ha:Fine a) (hb:Fine b) (sa:StrT a) (sb:StrT b) (least:Int) (ca:checkB a=true) (cb:checkB b=true) (hs:SameT a b) (H:J2):CW tr.look F_Q24 [tagg a,tagg b, J4 least] H=some (.p (.slice 2 a.size ((pairsN 0 0 a.size).flatMap fun p=>[.int .i64 p.1, .int .i64 p.2])),H):=by
 have h1:=zdn a ha.1
 have h2:=zdn b hb.1
 rw[ca]at h1
 rw[cb]at h2
 obtain⟨B0,hB0⟩:∃B0,B0=IBlk.cells [IVal.p .nilptr] 1 0 false:=⟨_,rfl⟩
 obtain⟨H1,kl,il,o1,o2,o3,o4,o5,o6⟩:=ztb a ha sa [B0,B0]
 obtain⟨H2,kl2,il2,q1,q2,q3,q4,q5,q6⟩:=ztb b hb sb H1
 have hsm:=zsw _ a b (An _) ha
 rw[decide_eq_true hs]at hsm
 have k0:H2[0]? = some B0:=by rw[q2.2 0 (by have:=o2.1;simp at this;omega) (by simp),o2.2 0 (by simp) (by simp)];rfl
 have k1:H2[1]? = some B0:=by rw[q2.2 1 (by have:=o2.1;simp at this;omega) (by simp),o2.2 1 (by simp) (by simp)];rfl
 have k0l:=(Aa.1 k0).1
 have k1l:=(Aa.1 k1).1
 have j0:H1[0]? = some B0:=by rw[o2.2 0 (by simp) (by simp)];rfl
 have j1:H1[1]? = some B0:=by rw[o2.2 1 (by simp) (by simp)];rfl
 rw[hB0]at k0 k1 o1 j0 j1
 have w1:=zam (bx:=[]) (off:=0) (new:=[J5 2 0 0]) k0 (by simp)
 have k1':(H2.set 0 (.cells [J5 2 0 0] 1 0 false))[1]? = some (.cells [.p .nilptr] 1 0 false):=by rw[Ac (by omega)];exact k1
 have w2:=zam (bx:=[]) (off:=0) (new:=[J5 H1.length 0 0]) k1' (by simp)
 have sp:∀x:IVal,splice [IVal.p .nilptr] 0 [x]=[x]:=fun _=>rfl
 rw[sp]at w1 w2
 refine zal look_Q24 rfl (by simp) rfl ?_
 dsimp only[i_Q24,c_Q24]
 simp only[AC,Db]at o1
 have o3':2<kl:=by simpa using o3
 have o4':2<il:=by simpa using o4
 have l1:2<H1.length:=by have:=o6;obtain⟨kv,iv,e1,_⟩:=this;simpa using(Aa.1 e1).1
 have l1k:kl<H1.length:=by obtain⟨kv,iv,e1,e2,e3⟩:=o6;exact e2.lt
 have l1i:il<H1.length:=by obtain⟨kv,iv,e1,e2,e3⟩:=o6;exact e3.lt
 have l2:H1.length<H2.length/\kl2<H2.length/\il2<H2.length:=by obtain⟨kv,iv,e1,e2,e3⟩:=q6;exact⟨(Aa.1 e1).1,e2.lt,e3.lt⟩
 obtain⟨K,hK⟩:∃K,(H2.set 0 (IBlk.cells [IVal.ptr (Key.heap 2) 0 0] 1 0 false)).set 1 (IBlk.cells [IVal.ptr (Key.heap H1.length) 0 0] 1 0 false)++[IBlk.cells [IVal.p PVal.nilslice] 1 0 false]=K:=⟨_,rfl⟩
 have hKx:∀x,1<x->x<H2.length->K[x]? = H2[x]? := fun x h1 h2=>by
  rw[<- hK,Ab (by simp;omega),Ac (by omega),Ac (by omega)]
 have hAS:AS a b ⟨0,1,H2.length,2,H1.length,kl,il,kl2,il2,[]⟩ (List.replicate a.size false) (List.replicate b.size false) [] K:=by
  refine⟨?_,?_,?_,by simp,by simp,?_,?_,?_⟩
  ·simp[AP.all];omega
  ·rw[<- hK,Ab (by simp;omega),Ac (show(1:Nat)≠0 by omega)];exact zan k0l
  ·rw[<- hK,Ab (by simp;omega)];exact zan (by simpa using k1l)
  ·have:SideOK a 2 kl il (List.replicate a.size false) H1:=o6
   exact this.keep (by rw[hKx 2 (by omega) (by omega),q2.2 2 l1 (by simp)]) (by rw[hKx kl (by omega) (by omega),q2.2 kl l1k (by simp)]) (by rw[hKx il (by omega) (by omega),q2.2 il l1i (by simp)])
  ·exact q6.keep (hKx _ (by omega) (by omega)) (hKx _ (by omega) (by omega)) (hKx _ (by omega) (by omega))
  ·refine⟨.p .nilslice,?_, .inl ⟨rfl,rfl⟩⟩
   rw[<- hK,Ad (by simp)];simp;rfl
 have hsz:=(zkw _ _ _ (An _) hs).1
 have hv0:a.vis[0]? = some ⟨a, -1,0,0⟩:=by rw[show a.vis=visT a 0 (-1) 0 0 from rfl,zbl];rfl
 obtain⟨H3,r1,r2,r3,r4⟩:=zafe a b _ 0 0 _ hv0 (by dsimp only;omega) ⟨ha.1,hb.1⟩ _ _ [] (by have:=ha.1;simpa using this) K (by simp) hAS
 have r1':CW tr.look F_Q47 [J4 0, J4 0, J5 0 0 0, J5 H2.length 0 0, J5 1 0 0] K=some (.tup [],H3):=r1
 obtain⟨lv,z1,z2⟩:=r2.l
 have z1':H3[H2.length]? = some (.cells [lv] 1 0 false):=z1
 have lz:=zac (bx:=[]) (off:=0) z1' rfl
 simp(disch:=omega) [zaj,h1,h2,o1,q1,w1,w2,hsm,j0,j1,k0,k1,hK,r1',lz]
 have one:=zad a
 rcases z2 with⟨_,z3⟩|⟨ll,_,z3,_⟩
 ·have:=congrArg List.length z3
  simp[zcm]at this
  omega
 ·have hpc:([]++pairsN 0 0 a.size).flatMap pc=pcells ((pairsN 0 0 a.size).flatMap fun p=>[.int .i64 p.1, .int .i64 p.2]):=by
   simp[pcells,List.map_flatMap]
   rfl
  have hln:([]++pairsN 0 0 a.size).length=a.size:=by simp[zcm]
  have z4:HS H3 ll 2 a.size lv (pcells ((pairsN 0 0 a.size).flatMap fun p=>[.int .i64 p.1, .int .i64 p.2])):=by
   have z5:HS H3 ll 2 ([]++pairsN 0 0 a.size).length lv (([]++pairsN 0 0 a.size).flatMap pc):=z3
   rw[hln,hpc]at z5;exact z5
  have hz:=zeu z4
  obtain⟨ver,cs,op,rfl,_⟩:=z4
  refine⟨rfl,?_⟩
  have hu:(up (.slice ll ver 0 a.size)).den = .slice ll ver 0 a.size:=rfl
  rw[hu,zes]
  simp only[freezeOne,hz]
end Go.Ideal
namespace Go.Ideal
open Go
set_option maxHeartbeats 1000000
attribute [-simp] getElem?_pos
section
variable {H:J2} {m mp:Nat} {x y:Opd}
structure PEnt where
 key:Int×Int
 blk:Nat
 ids:List Nat
def keyI (k:Int×Int):J3:=[.p (.int .u64 k.1), .p (.int .u64 k.2)]
def idC (l:List Nat):J3:=l.map fun(i:Nat)=>J4 (i:Int)
theorem zyg (a b:Int×Int):eqVals ⟨true,[.int, .int]⟩ (.agg (keyI a)) (.agg (keyI b))=some (decide (a=b)):=by
 obtain⟨a1,a2⟩:=a
 obtain⟨b1,b2⟩:=b
 by_cases h1:a1=b1<;>by_cases h2:a2=b2<;>simp[keyI,eqVals,eqCls,clsEq,h1,h2]
theorem ztc (a:Int×Int):isKey ⟨true,[.int, .int]⟩ (.agg (keyI a))=true:=by rw[isKey,zyg]
def EOK (H:J2):List PEnt->List (IVal×IVal×Nat)->Nat->Prop
 | [],es,_=>es=[]
 |e::E,es,j=>∃v r,es=(.agg (keyI e.key),v,j)::r/\HS H e.blk 1 e.ids.length v (idC e.ids)/\EOK H E r (j+1)
theorem EOK.length:∀ {E:List PEnt} {es:List (IVal×IVal×Nat)} {j:Nat},EOK H E es j->es.length=E.length
 | [],es,j,h=>by simp only[EOK]at h;subst h;rfl
 |e::E,es,j,⟨v,r,h1,_,h2⟩=>by subst h1;simp[h2.length]
theorem EOK.keep {H':J2}:∀ {E:List PEnt} {es:List (IVal×IVal×Nat)} {j:Nat},EOK H E es j->(∀ e∈E,H'[e.blk]? = H[e.blk]?)->EOK H' E es j
 | [],es,j,h,_=>h
 |e::E,es,j,⟨v,r,h1,h2,h3⟩,hk=>⟨v,r,h1,h2.keep (hk e (by simp)),h3.keep fun x hx=>hk x (by simp[hx])⟩
theorem EOK.append {H:J2} {x:PEnt} {v:IVal} (hv:HS H x.blk 1 x.ids.length v (idC x.ids)):∀ {E:List PEnt} {es:List (IVal×IVal×Nat)} {j:Nat},EOK H E es j->EOK H (E++[x]) (es++[(.agg (keyI x.key),v,j+E.length)]) j
 | [],es,j,h=>by simp only[EOK]at h;subst h;exact⟨v,[],by simp,hv,rfl⟩
 |e::E,es,j,⟨w,r,h1,h2,h3⟩=>by
  subst h1
  refine⟨w,_,rfl,h2,?_⟩
  have:=EOK.append hv h3
  rw[show j+1+E.length=j+(e::E).length by simp;omega]at this
  exact this
theorem EOK.find {H:J2} {k:Int×Int}:∀ {E:List PEnt} {es:List (IVal×IVal×Nat)} {j:Nat} (i:Nat),EOK H E es j->(E.map (·.key)).Nodup ->
 (k∉E.map (·.key)/\findEnt ⟨true,[.int, .int]⟩ (.agg (keyI k)) es i=some none) \/
 ∃n e v,E[n]? = some e/\e.key=k/\findEnt ⟨true,[.int, .int]⟩ (.agg (keyI k)) es i=some (some (i+n,v))/\HS H e.blk 1 e.ids.length v (idC e.ids)/\es[n]? = some (.agg (keyI k),v,j+n)
 | [],es,j,i,h,_=>by simp only[EOK]at h;subst h;exact .inl ⟨by simp,rfl⟩
 |e::E,es,j,i,⟨v,r,h1,h2,h3⟩,hn=>by
  subst h1
  rw[As,Bj]at hn
  simp only[findEnt,zyg]
  by_cases hk:k=e.key
  ·subst hk
   exact .inr ⟨0,e,v,rfl,rfl,by simp,h2,rfl⟩
  ·simp only[hk,decide_false]
   rcases EOK.find (i+1) h3 hn.2 with⟨g1,g2⟩|⟨n,e',v',g1,g2,g3,g4,g5⟩
   ·exact .inl ⟨by simp only[As,Aj,not_or];exact⟨hk,g1⟩,g2⟩
   ·refine .inr ⟨n+1,e',v',by simpa using g1,g2,?_,g4,?_⟩
    ·rw[g3];congr 3;omega
    ·rw[Aw,g5];congr 3;omega
theorem EOK.born {H:J2}:∀ {E:List PEnt} {es:List (IVal×IVal×Nat)} {j:Nat} (i n:Nat),EOK H E es j->n<E.length->findBorn ((j+n:Nat):Int) es i=some (i+n)
 | [],es,j,i,n,h,hn=>by simp at hn
 |e::E,es,j,i,n,⟨v,r,h1,h2,h3⟩,hn=>by
  subst h1
  simp only[findBorn]
  cases n with
  |zero=>simp
  |succ n =>
   rw[decide_eq_false (by omega)]
   have:=EOK.born (i+1) n h3 (by simpa using hn)
   rw[show(j+(n+1):Nat)=j+1+n by omega]
   dsimp only
   rw[this];congr 1;omega
theorem EOK.set {H H':J2} {ids':List Nat} {v':IVal}:∀ {E:List PEnt} {es:List (IVal×IVal×Nat)} {j n:Nat} {e:PEnt},EOK H E es j->E[n]? = some e ->
 HS H' e.blk 1 ids'.length v' (idC ids')->(∀ m x,m≠n->E[m]? = some x->H'[x.blk]? = H[x.blk]?)->EOK H' (E.set n ⟨e.key,e.blk,ids'⟩) (es.modify n fun x=>(x.1,v',x.2.2)) j
 | [],es,j,n,e,h,hn,_,_=>by simp at hn
 |x::E,es,j,0,e,⟨v,r,h1,h2,h3⟩,hn,hv,hk=>by
  subst h1
  cases hn
  refine⟨v',r,by simp,hv,h3.keep fun y hy=>?_⟩
  obtain⟨m,hm⟩:=Bi.1 hy
  exact hk (m+1) y (by omega) (by simpa using hm)
 |x::E,es,j,n+1,e,⟨v,r,h1,h2,h3⟩,hn,hv,hk=>by
  subst h1
  refine⟨v,r.modify n fun x=>(x.1,v',x.2.2),by simp,h2.keep (hk 0 x (by omega) rfl),?_⟩
  exact EOK.set h3 (by simpa using hn) hv fun m y hm hy=>hk (m+1) y (by omega) (by simpa using hy)
def idsOf (f:Nat->Int×Int) (m:Nat) (k:Int×Int):List Nat:=(List.range m).filter fun i=>decide (0<i)&&decide (f i=k)
theorem zig (f:Nat->Int×Int) (m:Nat) (k:Int×Int):idsOf f (m+1) k=if 0<m/\f m=k then idsOf f m k++[m]else idsOf f m k:=by
 unfold idsOf
 rw[BY,CV]
 by_cases h1:0<m<;>by_cases h2:f m=k<;>simp[h1,h2]
structure PM (f:Nat->Int×Int) (m mp:Nat) (E:List PEnt) (H:J2):Prop where
 mpe:∃es,H[mp]? = some (.map es E.length)/\EOK H E es 0
 ids:∀e∈E,e.ids=idsOf f m e.key
 all:∀i,0<i->i<m->f i∈E.map (·.key)
 ky:(E.map (·.key)).Nodup
 nd:(mp::E.map (·.blk)).Nodup
theorem PM.keep {f:Nat->Int×Int} {E:List PEnt} {H':J2} (h:PM f m mp E H) (hk:∀x∈mp::E.map (·.blk),H'[x]? = H[x]?):PM f m mp E H':=by
 obtain⟨⟨es,h1,h2⟩,h3,h4,h5,h6⟩:=h
 exact⟨⟨es,by rw[hk _ (by simp)];exact h1,h2.keep fun e he=>hk _ (Al _ (AW he))⟩,h3,h4,h5,h6⟩
theorem PM.look {f:Nat->Int×Int} {E:List PEnt} (h:PM f m mp E H) (k:Int×Int) {bx:List (Nat×IBlk)} {C:Oracle} {ρ:Opd->IVal} {x y:Opd} (hx:ρ x = .map mp) (hy:ρ y = .agg (keyI k)) :
 ∃v,evalOp C ρ ⟨bx,H⟩ (.lookup false (.p .nilslice) ⟨true,[.int, .int]⟩ x y)=some (v,⟨bx,H⟩)/\(v = .p .nilslice/\idsOf f m k=[]\/∃b∈E.map (·.blk),HS H b 1 (idsOf f m k).length v (idC (idsOf f m k))):=by
 obtain⟨⟨es,h1,h2⟩,h3,h4,h5,h6⟩:=h
 have hg:Mem.get ⟨bx,H⟩ (.heap mp)=some (.map es E.length):=h1
 simp only[evalOp,hx,hy,ztc,hg]
 rcases h2.find (k:=k) 0 h5 with⟨g1,g2⟩|⟨n,e,v,g1,g2,g3,g4,g5⟩
 ·refine⟨.p .nilslice,by rw[g2];rfl, .inl ⟨rfl,?_⟩⟩
  refine Cz.2 fun i hi=>?_
  simp only[Ak,decide_eq_true_eq,not_and]
  intro hp he
  exact g1 (he ▸ h4 i hp (Ck.1 hi))
 ·have he:=Az g1
  refine⟨v,by rw[g3];rfl, .inr ⟨e.blk,AW he,?_⟩⟩
  rw[h3 e he,g2]at g4
  exact g4
theorem zpc {α:Type}:∀(l:List α) (n:Nat) (f:α->α) (x:α),l[n]? = some x->f x=x->l.modify n f=l
 | [],n,f,x,h,_=>by simp at h
 |y::l,0,f,x,h,e=>by cases h;simp[e]
 |y::l,n+1,f,x,h,e=>by simp[zpc l n f x (by simpa using h) e]
theorem PM.step {f:Nat->Int×Int} {E:List PEnt} (h:PM f m mp E H) (hm:0<m) (hb:m<1000000) (hlt:∀x∈mp::E.map (·.blk),x<H.length) {bx:List (Nat×IBlk)} {C:Oracle} :
 ∃v s H1 v2 H2 H3 E',
  (∀ {ρ:Opd->IVal} {x y:Opd},ρ x = .map mp->ρ y = .agg (keyI (f m))->evalOp C ρ ⟨bx,H++[.cells (idC [m]) 1 0 false]⟩ (.mapEnt (.p .nilslice) ⟨true,[.int, .int]⟩ x y)=some (.tup [v, J4 s],⟨bx,H1⟩)) /\
  v.passOK=true/\evalAppend ⟨bx,H1⟩ 1 v (.slice H.length 0 0 1)=some (v2,⟨bx,H2⟩)/\v2.passOK=true/\(∃ a b c,v2 = .slice a b 0 c)/\(v = .p .nilslice\/∃a b c,v = .slice a b 0 c) /\
  (∀ {ρ:Opd->IVal} {x y z:Opd},ρ x = .map mp->ρ y = J4 s->ρ z=v2->evalOp C ρ ⟨bx,H2⟩ (.entSt x y z)=some (.tup [],⟨bx,H3⟩)) /\
  PM f (m+1) mp E' H3/\H.length<=H3.length/\(∀ x,x<H.length->x∉mp::E.map (·.blk)->H3[x]? = H[x]?)/\(∀ x∈E'.map (·.blk),x∈E.map (·.blk)\/H.length<=x)/\(∀ x∈mp::E'.map (·.blk),x<H3.length):=by
 obtain⟨⟨es,h1,h2⟩,h3,h4,h5,h6⟩:=h
 have hmp:=hlt mp (by simp)
 obtain⟨B,hB⟩:∃B,B=IBlk.cells (idC [m]) 1 0 false:=⟨_,rfl⟩
 rw[<- hB]
 have hg:Mem.get ⟨bx,H++[B]⟩ (.heap mp)=some (.map es E.length):=by
  show(H++[B])[mp]? = _
  rw[Ab hmp];exact h1
 have hids:∀e∈E,e.ids.length<=m:=fun e he=>by rw[h3 e he];unfold idsOf;exact Bp (BD _ _) (by simp)
 rcases h2.find (k:=f m) 0 h5 with⟨g1,g2⟩|⟨n,e,v,g1,g2,g3,g4,g5⟩
 ·
  have hE0:EOK (H++[B]) E es 0:=h2.keep fun e he=>by rw[Ab (hlt _ (Al _ (AW he)))]
  obtain⟨H1,hH1⟩:∃H1,(H++[B]).set mp (.map (es++[(.agg (keyI (f m)), .p .nilslice,E.length)]) (E.length+1))=H1:=⟨_,rfl⟩
  have hH1l:H1.length=H.length+1:=by rw[<- hH1];simp
  have hsrc:srcCells ⟨bx,H1⟩ 1 (.slice H.length 0 0 1)=some (idC [m]):=by
   refine zcl (op:=false) ?_ ?_
   ·rw[<- hH1,Ac (by omega),Ad (by omega),Bb,hB];rfl
   ·simp[idC]
  have happ:=append_nil (bx:=bx) (H:=H1) (esz:=1) (ny:=1) hsrc rfl (by omega) (by omega)
  have hget1:H1[mp]? = some (.map (es++[(.agg (keyI (f m)), .p .nilslice,E.length)]) (E.length+1)):=by rw[<- hH1];exact zan (by simp;omega)
  obtain⟨H2,hH2⟩:∃H2,H1++[IBlk.cells (idC [m]) 1 0 true]=H2:=⟨_,rfl⟩
  have hget2:H2[mp]? = some (.map (es++[(.agg (keyI (f m)), .p .nilslice,E.length)]) (E.length+1)):=by rw[<- hH2,Ab (by omega)];exact hget1
  have hlen:=h2.length
  have hborn:findBorn ((E.length:Nat):Int) (es++[(.agg (keyI (f m)), .p .nilslice,E.length)]) 0=some E.length:=by
   have key:∀(E:List PEnt) (es:List (IVal×IVal×Nat)) (j i:Nat) (x:IVal×IVal×Nat),EOK H E es j->x.2.2=j+E.length->findBorn ((j+E.length:Nat):Int) (es++[x]) i=some (i+E.length):=by
    intro E
    induction E with
    |nil=>intro es j i x h hx;simp only[EOK]at h;subst h;obtain⟨x1,x2,x3⟩:=x;simp only[Db,Bd]at hx;subst hx;simp[findBorn]
    |cons e E ih =>
     rintro es j i x ⟨v,r,e1,e2,e3⟩ hx
     subst e1
     rw[At,findBorn,decide_eq_false (by simp;omega)]
     dsimp only
     have:=ih r (j+1) (i+1) x e3 (by rw[hx];simp;omega)
     rw[show j+(e::E).length=j+1+E.length by simp;omega,this]
     simp;omega
   have:=key E es 0 0 (.agg (keyI (f m)), .p .nilslice,E.length) h2 (by simp)
   simpa using this
  obtain⟨v2,hv2⟩:∃v2:IVal,v2 = .slice (H.length+1) 0 0 1:=⟨_,rfl⟩
  rw[hH1l,<-hv2,hH2]at happ
  refine⟨.p .nilslice,E.length,H1,v2,H2,H2.set mp (.map (es++[(.agg (keyI (f m)),v2,E.length)]) (E.length+1)),E++[⟨f m,H.length+1,[m]⟩],?_,rfl,happ,by rw[hv2];rfl,⟨_,_,_,hv2⟩, .inl rfl,?_,?_,?_,?_,?_,?_⟩
  ·intro ρ x y hx hy
   simp only[evalOp,hx,hy,ztc,hg,g2,Mem.put,hH1]
  ·intro ρ x y z hx hy hz
   have hg2:Mem.get ⟨bx,H2⟩ (.heap mp)=some (.map (es++[(.agg (keyI (f m)), .p .nilslice,E.length)]) (E.length+1)):=hget2
   have hpo:v2.passOK=true:=by rw[hv2];rfl
   simp only[evalOp,hx,hy,hz,hpo,hg2,hborn,Mem.put]
   congr 4
   have key:∀(es:List (IVal×IVal×Nat)) (x:IVal×IVal×Nat) (n:Nat) (g:IVal×IVal×Nat->IVal×IVal×Nat),es.length=n->(es++[x]).modify n g=es++[g x]:=by
    intro es
    induction es with
    |nil=>intro x n g h;subst h;rfl
    |cons a es ih=>intro x n g h;subst h;simp[ih x es.length g rfl]
   rw[key es _ E.length _ hlen]
  ·obtain⟨H3,hH3⟩:∃H3,H2.set mp (.map (es++[(.agg (keyI (f m)),v2,E.length)]) (E.length+1))=H3:=⟨_,rfl⟩
   rw[hH3]
   have hH3x:∀x,x≠mp->H3[x]? = H2[x]? := fun x hx=>by rw[<- hH3,Ac (Ne.symm hx)]
   have hold:∀x,x<H.length->x≠mp->H3[x]? = H[x]? := fun x hx hne=>by
    rw[hH3x x hne,<-hH2,Ab (by omega),<-hH1,Ac (Ne.symm hne),Ab hx]
   rw[Bj]at h6
   refine⟨⟨_,by rw[<- hH3];simp only[Ag,AK];exact zan (by rw[<- hH2];simp;omega),?_⟩,?_,?_,?_,?_⟩
   ·have hE3:EOK H3 E es 0:=h2.keep fun e he=>hold _ (hlt _ (Al _ (AW he))) (fun e'=>h6.1 (e' ▸ AW he))
    have:=EOK.append (x:=⟨f m,H.length+1,[m]⟩) (v:=v2) (H:=H3) ⟨0,idC [m],true,hv2,by
     dsimp only
     rw[hH3x _ (by omega),<-hH2,Ad (by omega),hH1l,Bb];rfl,by simp[idC],by simp[idC]⟩ hE3
    simpa using this
   ·intro e he
    rcases Ao.1 he with he|he
    ·rw[h3 e he,zig,if_neg (fun hc:0<m/\f m=e.key=>g1 (hc.2 ▸ AW he))]
    ·rw[Bq]at he
     subst he
     dsimp only
     rw[zig,if_pos ⟨hm,rfl⟩]
     have:idsOf f m (f m)=[]:=by
      refine Cz.2 fun i hi=>?_
      simp only[Ak,decide_eq_true_eq,not_and]
      intro hp he
      exact g1 (he ▸ h4 i hp (Ck.1 hi))
     rw[this];rfl
   ·intro i h0 hi
    rw[AF,Ao]
    rcases A7 i m with h'|h'
    ·exact .inl (h4 i h0 h')
    ·have:i=m:=by omega
     subst this;exact .inr (by simp)
   ·rw[AF]
    refine Be.2 ⟨h5,by simp,fun a ha b hb e=>?_⟩
    simp at hb;subst hb e
    exact g1 ha
   ·rw[AF,Bj,Ao,not_or]
    refine⟨⟨h6.1,by simp;omega⟩,Be.2 ⟨h6.2,by simp,fun a ha b hb e=>?_⟩⟩
    simp at hb;subst hb e
    have:=hlt _ (Al _ ha)
    omega
  ·rw[Ay,<-hH2];simp;omega
  ·intro x hx hno
   rw[Aj,not_or]at hno
   rw[Ac (Ne.symm hno.1),<-hH2,Ab (by omega),<-hH1,Ac (Ne.symm hno.1),Ab hx]
  ·intro x hx
   rw[AF,Ao]at hx
   rcases hx with hx|hx
   ·exact .inl hx
   ·simp at hx;exact .inr (by omega)
  ·intro x hx
   rw[Ay,<-hH2,Ag,hH1l]
   rw[Aj,AF,Ao]at hx
   rcases hx with rfl|hx|hx
   ·simp;omega
   ·have:=hlt _ (Al _ hx);simp;omega
   ·simp at hx;subst hx;simp
 ·
  have he:=Az g1
  have hen:=(Aa.1 g1).1
  have hebl:=hlt _ (Al _ (AW he))
  have hids:=hids e he
  rw[Bj]at h6
  have hne:e.blk≠mp:=fun e'=>h6.1 (e' ▸ AW he)
  have hmod:es.modify n (fun x=>(IVal.agg (keyI (f m)),x.2.1,x.2.2))=es:=zpc _ _ _ _ g5 rfl
  have hsame:(H++[B]).set mp (.map es E.length)=H++[B]:=by
   apply BC
   intro i
   by_cases hi:i=mp
   ·subst hi
    rw[zan (by simp;omega)];exact hg.symm
   ·rw[Ac (Ne.symm hi)]
  have hgk:HS (H++[B]) e.blk 1 e.ids.length v (idC e.ids):=g4.keep (Ab hebl)
  obtain⟨ver,cs,op,rfl,hk1,hk2,hk3⟩:=hgk
  have hsrc:srcCells ⟨bx,H++[B]⟩ 1 (.slice H.length 0 0 1)=some (idC [m]):=by
   refine zcl (op:=false) ?_ ?_
   ·rw[Ad (by omega),Bb,hB];rfl
   ·simp[idC]
  have happ:=zbw (bx:=bx) hk1 hk2 hsrc rfl (by omega) (ny:=1) (by omega)
  have hnew:=zko (H:=H++[B]) (ver:=ver) (op:=op) (ys:=idC [m]) (ny:=1) (k:=e.blk) (by simp;omega) hk2 (by simp[idC])
  rw[hk3]at hnew
  obtain⟨H2,hH2⟩:∃H2,(H++[B]).set e.blk (appBlk cs (idC [m]) 1 e.ids.length 1 ver op)=H2:=⟨_,rfl⟩
  rw[hH2]at happ hnew
  obtain⟨v2,hv2⟩:∃v2:IVal,v2 = .slice e.blk (appVer cs 1 e.ids.length 1 ver) 0 (e.ids.length+1):=⟨_,rfl⟩
  rw[<- hv2]at happ hnew
  have hget2:Mem.get ⟨bx,H2⟩ (.heap mp)=some (.map es E.length):=by
   show H2[mp]? = _
   rw[<- hH2,Ac hne];exact hg
  have hborn:=h2.born 0 n hen
  rw[Aq]at hborn
  obtain⟨H3,hH3⟩:∃H3,H2.set mp (.map (es.modify n fun x=>(x.1,v2,x.2.2)) E.length)=H3:=⟨_,rfl⟩
  have hbornAt:bornAt es n=n:=by rw[bornAt,g5];simp
  have hH3x:∀x,x≠mp->H3[x]? = H2[x]? := fun x hx=>by rw[<- hH3,Ac (Ne.symm hx)]
  have hold:∀x,x<H.length->x≠mp->x≠e.blk->H3[x]? = H[x]? := fun x hx h0 h1=>by
   rw[hH3x x h0,<-hH2,Ac (Ne.symm h1),Ab hx]
  have hmap:(E.set n ⟨e.key,e.blk,e.ids++[m]⟩).map (·.blk)=E.map (·.blk):=by
   rw[CD]
   apply BC
   intro i
   by_cases hi:i=n
   ·subst hi;rw[AO (by simpa using hen),Ap,g1];rfl
   ·rw[Ac (Ne.symm hi)]
  have hmapk:(E.set n ⟨e.key,e.blk,e.ids++[m]⟩).map (·.key)=E.map (·.key):=by
   rw[CD]
   apply BC
   intro i
   by_cases hi:i=n
   ·subst hi;rw[AO (by simpa using hen),Ap,g1];rfl
   ·rw[Ac (Ne.symm hi)]
  refine⟨.slice e.blk ver 0 e.ids.length,n,H++[B],v2,H2,H3,E.set n ⟨e.key,e.blk,e.ids++[m]⟩,?_,rfl,happ,by rw[hv2];rfl,⟨_,_,_,hv2⟩, .inr ⟨_,_,_,rfl⟩,?_,?_,?_,?_,?_,?_⟩
  ·intro ρ x y hx hy
   rw[Aq]at g3
   simp only[evalOp,hx,hy,ztc,hg,g3,Mem.put,hmod,hsame,hbornAt]
  ·intro ρ x y z hx hy hz
   have hpo:v2.passOK=true:=by rw[hv2];rfl
   simp only[evalOp,hx,hy,hz,hpo,hget2,hborn,Mem.put,hH3]
  ·refine⟨⟨_,by rw[<- hH3,Ay];exact zan (by rw[<- hH2];simp;omega),?_⟩,?_,?_,by rw[hmapk];exact h5,by rw[hmap,Bj];exact h6⟩
   ·have hH23:H3[e.blk]? = H2[e.blk]? := hH3x _ hne
    have hE3:=EOK.set (H':=H3) (ids':=e.ids++[m]) (v':=v2) h2 g1 (by
     have:idC (e.ids++[m])=idC e.ids++idC [m]:=by simp[idC]
     rw[this,Ag]
     exact hnew.keep hH23) (fun k x hk hx=>by
      have hx':=Az hx
      refine hold _ (hlt _ (Al _ (AW hx'))) (fun e'=>h6.1 (e' ▸ AW hx')) (fun e'=>hk ?_)
      have a1:(E.map (·.blk))[k]? = some x.blk:=by rw[Ap,hx];rfl
      have a2:(E.map (·.blk))[n]? = some e.blk:=by rw[Ap,g1];rfl
      have hkl:k<(E.map (·.blk)).length:=(Aa.1 a1).1
      exact(List.getElem?_inj hkl h6.2).1 (by rw[a1,a2,e']))
    exact hE3
   ·intro x hx
    rcases Bi.1 hx with⟨k,hk⟩
    by_cases hkn:k=n
    ·subst hkn
     rw[AO hen]at hk
     cases hk
     dsimp only
     rw[h3 e he,g2,zig,if_pos ⟨hm,rfl⟩]
    ·rw[Ac (Ne.symm hkn)]at hk
     have hx':=Az hk
     rw[h3 x hx',zig,if_neg]
     rintro⟨_,hc⟩
     have a1:(E.map (·.key))[k]? = some x.key:=by rw[Ap,hk];rfl
     have a2:(E.map (·.key))[n]? = some e.key:=by rw[Ap,g1];rfl
     have hkl:k<(E.map (·.key)).length:=(Aa.1 a1).1
     exact hkn ((List.getElem?_inj hkl h5).1 (by rw[a1,a2,g2,hc]))
   ·intro i h0 hi
    rw[hmapk]
    rcases A7 i m with h'|h'
    ·exact h4 i h0 h'
    ·have:i=m:=by omega
     subst this;rw[<- g2];exact AW he
  ·rw[<- hH3,Ay,<-hH2];simp
  ·intro x hx hno
   rw[Aj,not_or]at hno
   exact hold x hx hno.1 (fun e'=>hno.2 (e' ▸ AW he))
  ·intro x hx
   rw[hmap]at hx;exact .inl hx
  ·intro x hx
   rw[hmap]at hx
   have:=hlt x hx
   rw[<- hH3,Ay,<-hH2];simp;omega
def two (x y:IVal):Opd->IVal
 | .tmp 0=>x
 |_=>y
def three (x y z:IVal):Opd->IVal
 | .tmp 0=>x
 | .tmp 1=>y
 |_=>z
def mapEntF (z:IVal) (cls:KTy) (x k:IVal) (H:J2):Option (IVal×J2):=(evalOp noOracle (two x k) ⟨[],H⟩ (.mapEnt z cls (.tmp 0) (.tmp 1))).map fun p=>(p.1,p.2.heap)
def lookupF (ok:Bool) (z:IVal) (cls:KTy) (x k:IVal) (H:J2):Option IVal:=(evalOp noOracle (two x k) ⟨[],H⟩ (.lookup ok z cls (.tmp 0) (.tmp 1))).map fun p=>p.1
def entStF (x s v:IVal) (H:J2):Option (IVal×J2):=(evalOp noOracle (three x s v) ⟨[],H⟩ (.entSt (.tmp 0) (.tmp 1) (.tmp 2))).map fun p=>(p.1,p.2.heap)
theorem zhr {α β:Type} {o:Option α} {g:α->β} {Q:β->Prop}:gets (o.map g) Q↔gets o fun a=>Q (g a):=by
 cases o<;>simp[gets]
section
variable {C:Oracle} {ρ:Opd->SV} {M:KM} {k:SV->KM->Prop}
@[simp ↓ high] theorem zaly {c:KTy} {z:IVal}:wpOp C ρ M (.mapEnt z c x y) k=gets (mapEntF z c (ρ x).den (ρ y).den M.H) (@hid _ ⟨fun p=>k (up p.1) ⟨M.B,p.2⟩⟩):=by
 have:wpOp C ρ M (.mapEnt z c x y) k=gets (evalOp C (fun o=>(ρ o).den) ⟨[],M.H⟩ (.mapEnt z c x y)) fun p=>k (up p.1) ⟨M.B,p.2.heap⟩:=rfl
 rw[this]
 unfold mapEntF
 apply propext
 refine Iff.trans ?_ zhr.symm
 rfl
@[simp ↓ high] theorem zalz {c:KTy} {z:IVal} {o:Bool}:wpOp C ρ M (.lookup o z c x y) k=gets (lookupF o z c (ρ x).den (ρ y).den M.H) (@hid _ ⟨fun v=>k (up v) M⟩):=by
 have:wpOp C ρ M (.lookup o z c x y) k=gets (evalOp C (fun o=>(ρ o).den) ⟨[],M.H⟩ (.lookup o z c x y)) fun p=>k (up p.1) ⟨M.B,p.2.heap⟩:=rfl
 rw[this]
 unfold lookupF
 apply propext
 refine Iff.trans ?_ zhr.symm
 have e:evalOp C (fun o=>(ρ o).den) ⟨[],M.H⟩ (.lookup o z c x y)=evalOp noOracle (two (ρ x).den (ρ y).den) ⟨[],M.H⟩ (.lookup o z c (.tmp 0) (.tmp 1)):=rfl
 rw[e]
 have hM:∀p,evalOp noOracle (two (ρ x).den (ρ y).den) ⟨[],M.H⟩ (.lookup o z c (.tmp 0) (.tmp 1))=some p->p.2.heap=M.H:=by
  intro p hp
  simp only[evalOp,lookRes]at hp
  repeat' (split at hp)
  all_goals first|(cases hp;done)|(injection hp with hp;subst hp;rfl)
 cases hq:evalOp noOracle (two (ρ x).den (ρ y).den) ⟨[],M.H⟩ (.lookup o z c (.tmp 0) (.tmp 1))with
 |none=>simp[]
 |some p =>
  have e2:=hM p hq
  rw[zeq,zeq,e2]
  rfl
@[simp ↓ high] theorem zapn {z:Opd}:wpOp C ρ M (.entSt x y z) k=gets (entStF (ρ x).den (ρ y).den (ρ z).den M.H) (@hid _ ⟨fun p=>k (up p.1) ⟨M.B,p.2⟩⟩):=by
 have:wpOp C ρ M (.entSt x y z) k=gets (evalOp C (fun o=>(ρ o).den) ⟨[],M.H⟩ (.entSt x y z)) fun p=>k (up p.1) ⟨M.B,p.2.heap⟩:=rfl
 rw[this]
 unfold entStF
 apply propext
 refine Iff.trans ?_ zhr.symm
 rfl
end
theorem PM.lookF {f:Nat->Int×Int} {E:List PEnt} (h:PM f m mp E H) (k:Int×Int) :
 ∃v,lookupF false (.p .nilslice) ⟨true,[.int, .int]⟩ (.map mp) (.agg (keyI k)) H=some v/\(v = .p .nilslice/\idsOf f m k=[]\/∃b∈E.map (·.blk),HS H b 1 (idsOf f m k).length v (idC (idsOf f m k))):=by
 obtain⟨v,h1,h2⟩:=h.look k (bx:=[]) (C:=noOracle) (ρ:=two (.map mp) (.agg (keyI k))) (x := .tmp 0) (y := .tmp 1) rfl rfl
 exact⟨v,by unfold lookupF;rw[h1];rfl,h2⟩
theorem PM.stepF {f:Nat->Int×Int} {E:List PEnt} (h:PM f m mp E H) (hm:0<m) (hb:m<1000000) (hlt:∀x∈mp::E.map (·.blk),x<H.length) :
 ∃v s H1 v2 H2 H3 E',
  mapEntF (.p .nilslice) ⟨true,[.int, .int]⟩ (.map mp) (.agg (keyI (f m))) (H++[.cells (idC [m]) 1 0 false])=some (.tup [v, J4 s],H1) /\
  v.passOK=true/\evalAppend ⟨[],H1⟩ 1 v (.slice H.length 0 0 1)=some (v2,⟨[],H2⟩)/\v2.passOK=true/\(∃ a b c,v2 = .slice a b 0 c)/\(v = .p .nilslice\/∃a b c,v = .slice a b 0 c) /\
  entStF (.map mp) (J4 s) v2 H2=some (.tup [],H3) /\
  PM f (m+1) mp E' H3/\H.length<=H3.length/\(∀ x,x<H.length->x∉mp::E.map (·.blk)->H3[x]? = H[x]?)/\(∀ x∈E'.map (·.blk),x∈E.map (·.blk)\/H.length<=x)/\(∀ x∈mp::E'.map (·.blk),x<H3.length):=by
 obtain⟨v,s,H1,v2,H2,H3,E',h1,h2,h3,h4,h5,h6,h7,h8⟩:=h.step hm hb hlt (bx:=[]) (C:=noOracle)
 refine⟨v,s,H1,v2,H2,H3,E',?_,h2,h3,h4,h5,h6,?_,h8⟩
 ·unfold mapEntF;rw[h1 (ρ:=two (.map mp) (.agg (keyI (f m)))) (x := .tmp 0) (y := .tmp 1) rfl rfl];rfl
 ·unfold entStF;rw[h7 (ρ:=three (.map mp) (J4 s) v2) (x := .tmp 0) (y := .tmp 1) (z := .tmp 2) rfl rfl rfl];rfl
end
end Go.Ideal
namespace Go.Ideal
open Go
set_option maxHeartbeats 4000000
set_option maxRecDepth 20000
attribute [-simp] getElem?_pos
noncomputable def kp (t:Tree):Int×Int:=(hashT t,szU t)
noncomputable def kf (b:Tree) (j:Nat):Int×Int:=kp (subT b j)
@[simp] theorem zavu (k:Int×Int):SV.dens (ups (keyI k))=keyI k:=rfl
theorem zyh {b:Tree} {j:Nat} {v:Vis} (h:b.vis[j]? = some v):keyC v=keyI (kf b j):=by
 rw[kf,zfj h];rfl
theorem zafg {l:List Vis}:∀ {j:Nat} {v:Vis},l[j]? = some v->((l.flatMap keyC).drop (j*2)).take 2=keyC v:=by
 induction l with
 |nil=>intro j v h;simp at h
 |cons x l ih =>
  intro j v h
  cases j with
  |zero=>cases h;rfl
  |succ j =>
   rw[Aw]at h
   have:=ih h
   rw[<- this,AI,show(j+1)*2=(keyC x).length+j*2 by show _=2+j*2;omega,BS,Br (Nat.le_add_right _ _),AV,Bk]
theorem zna {t:Tree} {k0 kl il:Nat} {bs:List Bool} {H:J2} (h:SideOK t k0 kl il bs H) {j:Nat} (hj:j<t.size) :
 ∃kv ver,loadVal ⟨[],H⟩ none (J5 k0 0 6)=some kv/\up kv = .v kv/\idxS 2 kv (J4 j)=some (J5 kl ver (j*2))/\loadVal ⟨[],H⟩ (some 2) (J5 kl ver (j*2))=some (.agg (keyI (kf t j))):=by
 obtain⟨kv,iv,h1,h2,h3⟩:=h
 have l6:loadVal ⟨[],H⟩ none (J5 k0 0 6)=some kv:=zac h1 rfl
 obtain⟨v,hv⟩:∃v,t.vis[j]? = some v:=⟨_,Ae (by rw[zaw];exact hj)⟩
 obtain⟨ver,e1,e2⟩:=h2.load (bx:=[]) hj
 rw[zafg hv,zyh hv]at e2
 obtain⟨_,_,_,rfl,_⟩:=h2
 exact⟨_,ver,l6,rfl,e1,e2⟩
theorem znb {t:Tree} {k0 kl il:Nat} {bs:List Bool} {H:J2} (h:SideOK t k0 kl il bs H):loadVal ⟨[],H⟩ none (J5 k0 0 5)=some (.p (ival t)):=by
 obtain⟨kv,iv,h1,h2,h3⟩:=h
 exact zac h1 rfl
theorem zyi (a b:Tree) (p:AP) (hfz:p.fz=[]) (hb:b.size<1000000) (v2 v7 v9 v10:SV) (bx bz:List Bool) (ps:J1) (H0:J2) (hA:AS a b p bx bz ps H0) (mp:Nat) (hmp:H0[mp]? = some (.map [] 0)) (hm0:mp∉p.all)
 (hlb:∀lv,H0[p.lb]? = some (.cells [lv] 1 0 false)->lv = .p .nilslice) (Q:J0)
 (hQ:∀H E,AS a b { p with fz:=mp::E.map (·.blk) } bx bz ps H->PM (kf b) b.size mp E H->(∀ x∈mp::E.map (·.blk),x<H.length)->(∀ x,x<H0.length->x≠mp->H[x]? = H0[x]?)->H0.length<=H.length->Q .normal [(2,v2),(7,v7),(8, .v (J5 p.yb 0 0)),(9,v9),(10,v10),(11, .v (.map mp))] ⟨[],H⟩) :
 wpLoop (CW tr.look) 167 m_Q24_0 l_Q24_0 (blkK 0 b_Q24_0 Q) [(2,v2),(7,v7),(8, .v (J5 p.yb 0 0)),(9,v9),(10,v10),(11, .v (.map mp)),(12, .int .i64 1)] ⟨[],H0⟩:=by
 have hsz:=zad b
 have hmlt:=(Aa.1 hmp).1
 have hall0:=hA.lt (by rw[hfz];simp)
 refine zae (α:=Nat×List PEnt×J2) (fun s=>[(2,v2),(7,v7),(8, .v (J5 p.yb 0 0)),(9,v9),(10,v10),(11, .v (.map mp)),(12, .int .i64 s.1)]) (fun s=>⟨[],s.2.2⟩)
  (fun s=>0<s.1/\s.1<=b.size/\PM (kf b) s.1 mp s.2.1 s.2.2/\H0.length<=s.2.2.length/\(∀ x,x<H0.length->x≠mp->s.2.2[x]? = H0[x]?)/\(∀ x∈s.2.1.map (·.blk),H0.length<=x)/\(∀ x∈mp::s.2.1.map (·.blk),x<s.2.2.length)) (fun s=>b.size-s.1) ?_ (1,[],H0) ⟨by simp,hsz,⟨⟨[],hmp,rfl⟩,by simp,fun i h0 h1=>by omega,by simp,by simp⟩,Ai _,fun _ _ _=>rfl,by simp,by simp;exact hmlt⟩
 rintro⟨m,E,H⟩ ⟨h0,hm,hPM,hle,hkeep,hnew,hlt⟩ L hL
 dsimp only at h0 hm hPM hle hkeep hnew hlt hL ⊢
 dsimp only[l_Q24_0]
 have hne:∀x∈p.all,x≠mp:=fun x hx e=>hm0 (e ▸ hx)
 have hyb:p.yb∈p.all:=by simp[AP.all]
 have hy:SideOK b p.y0 p.yk p.yi bz H:=by
  have m1:p.y0∈p.all/\p.yk∈p.all/\p.yi∈p.all:=by simp[AP.all]
  exact hA.sy.keep (hkeep _ (hall0 _ m1.1) (hne _ m1.1)) (hkeep _ (hall0 _ m1.2.1) (hne _ m1.2.1)) (hkeep _ (hall0 _ m1.2.2) (hne _ m1.2.2))
 have ly:loadVal ⟨[],H⟩ none (J5 p.yb 0 0)=some (J5 p.y0 0 0):=zac ((hkeep _ (hall0 _ hyb) (hne _ hyb)).trans hA.yb) rfl
 have l5:=znb hy
 by_cases hml:m<b.size
 ·have hlt':(m:Int)<(b.size:Int):=by omega
  obtain⟨kv,ver,g1,g2,g3,g4⟩:=zna hy hml
  obtain⟨v,s,H1,v2',H2,H3,E',r1,r2,r3,r4,r5,r6,r7,r8,r9,r10,r11,r12⟩:=hPM.stepF h0 (by omega) hlt
  obtain⟨w1,w2,w3,rfl⟩:=r5
  have hcell:[IVal.p (.int .i64 (m:Int))]=idC [m]:=rfl
  rcases r6 with rfl|⟨u1,u2,u3,rfl⟩
  ·simp(disch:=omega) [zaa,ly,l5,g1,g2,g3,g4,hcell,r1,r3,r7]
   refine hL (m+1,E',H3) ⟨by dsimp only;omega,by dsimp only;omega,r8,by dsimp only;omega,fun x hx hxm=>?_,fun x hx=>?_,r12⟩ (by dsimp only;omega)
   ·dsimp only
    rw[r10 x (by omega) (by rw[Aj,not_or];exact⟨hxm,fun e=>by have:=hnew x e;omega⟩)]
    exact hkeep x hx hxm
   ·rcases r11 x hx with h|h
    ·exact hnew x h
    ·omega
  ·simp(disch:=omega) [zaa,ly,l5,g1,g2,g3,g4,hcell,r1,r3,r7]
   refine hL (m+1,E',H3) ⟨by dsimp only;omega,by dsimp only;omega,r8,by dsimp only;omega,fun x hx hxm=>?_,fun x hx=>?_,r12⟩ (by dsimp only;omega)
   ·dsimp only
    rw[r10 x (by omega) (by rw[Aj,not_or];exact⟨hxm,fun e=>by have:=hnew x e;omega⟩)]
    exact hkeep x hx hxm
   ·rcases r11 x hx with h|h
    ·exact hnew x h
    ·omega
 ·obtain rfl:m=b.size:=by omega
  simp(disch:=omega) [ly,l5]
  refine hQ H E ?_ hPM hlt hkeep hle
  have hk:∀x∈p.all,H[x]? = H0[x]? := fun x hx=>hkeep x (hall0 x hx) (hne x hx)
  have mem:p.xb∈p.all/\p.x0∈p.all/\p.xk∈p.all/\p.xi∈p.all/\p.lb∈p.all:=by simp[AP.all]
  obtain⟨m1,m2,m3,m4,m5⟩:=mem
  have hndn:(mp::E.map (·.blk)).Nodup:=hPM.nd
  refine⟨?_,(hk _ m1).trans hA.xb,(hk _ hyb).trans hA.yb,hA.lx,hA.lz,hA.sx.keep (hk _ m2) (hk _ m3) (hk _ m4),hy,?_⟩
  ·have hnd:=hA.nd
   unfold AP.all at hnd hall0 hm0 hne ⊢
   rw[hfz,AJ]at hnd hm0 hall0
   refine Be.2 ⟨hnd,hndn,fun x hx y hy e=>?_⟩
   subst e
   rcases Aj.1 hy with rfl|hy
   ·exact hm0 hx
   ·have:=hall0 x hx
    have:=hnew x hy
    omega
  ·obtain⟨lv,e1,e2⟩:=hA.l
   have:=hlb lv e1
   subst this
   refine⟨_,(hk _ m5).trans e1, .inl ⟨rfl,?_⟩⟩
   rcases e2 with⟨_,h⟩|⟨ll,_,h,_⟩
   ·exact h
   ·obtain⟨_,_,_,h,_⟩:=h;cases h
theorem zfu:∀(n:Nat) (l:List Nat),l.Nodup->(∀ x∈l,x<n)->l.length<=n
 |0,l,_,h=>by
  cases l with
  |nil=>simp
  |cons x l=>have:=h x (by simp);omega
 |n+1,l,hn,h=>by
  by_cases hm:n∈l
  ·have h1:=List.length_erase_of_mem hm
   have h2:=zfu n (l.erase n) (hn.erase n) (fun x hx=>by
    have:=h x (List.mem_of_mem_erase hx)
    have:x≠n:=fun e=>by subst e;exact(hn.mem_erase_iff.1 hx).1 rfl
    omega)
   have:=List.length_pos_of_mem hm
   omega
  ·have:=zfu n l hn (fun x hx=>by
    have:=h x hx
    have:x≠n:=fun e=>hm (e ▸ hx)
    omega)
   omega
theorem AInv.len {a b:Tree} {h:Nat} {s:ASt} {bl:J1} (H:AInv a b h s bl):s.ps.length<=a.size:=by
 have:=zfu a.size _ H.nx (fun x hx=>by
  obtain⟨p,hp,rfl⟩:=Au.1 hx
  exact(H.pairs.ok p hp).1)
 simpa using this
theorem zvv {t:Tree} {k0 kl il:Nat} {bs:List Bool} {H:J2} (h:SideOK t k0 kl il bs H) (hl:bs.length=t.size) {j:Nat} (hj:j<t.size) :
 ∃iv ver,loadVal ⟨[],H⟩ none (J5 k0 0 7)=some iv/\up iv = .v iv/\idxS 1 iv (J4 j)=some (J5 il ver j)/\loadVal ⟨[],H⟩ none (J5 il ver j)=some (.p (.bool (bs.getD j false))):=by
 obtain⟨kv,iv,h1,h2,h3⟩:=h
 have l7:loadVal ⟨[],H⟩ none (J5 k0 0 7)=some iv:=zac h1 rfl
 obtain⟨ver,cs,op,rfl,h4⟩:=h3
 have h3':HS H il 1 t.size (.slice il ver 0 t.size) (bs.map fun b=>.p (.bool b)):=⟨ver,cs,op,rfl,h4⟩
 have hx:(bs.map fun b=>IVal.p (.bool b))[j]? = some (.p (.bool (bs.getD j false))):=by
  rw[Ap,Am,Ae (by omega)];rfl
 have:=zaq (e:=1) (k:=il) (v:=ver) (o:=0) (n:=t.size) (j:=j) hj
 exact⟨_,ver,l7,rfl,by simpa using this,h3'.field hx⟩
structure AM (a b:Tree) (p:AP) (mp:Nat) (E:List PEnt) (s:ASt) (H:J2):Prop where
 st:AS a b p s.bx s.bz s.ps H
 pm:PM (kf b) b.size mp E H
 fz:p.fz=mp::E.map (·.blk)
 lt:∀x∈p.fz,x<H.length
theorem zajr (a b:Tree) (bz:List Bool) (i:Nat) (hi:i<a.size):findJ a b bz i=(idsOf (kf b) b.size (kf a i)).find? fun j=>!(bz.getD j false)&&decide (SameT (subT a i) (subT b j)):=by
 unfold findJ idsOf
 rw[List.find?_filter]
 have key:∀l:List Nat,(∀ j∈l,j<b.size)->l.find? (okJ a b bz i)=l.find? fun j=>decide ((decide (0<j)&&decide (kf b j=kf a i))=true/\(!(bz.getD j false)&&decide (SameT (subT a i) (subT b j)))=true):=by
  intro l
  induction l with
  |nil=>intro _;rfl
  |cons x l ih =>
   intro hl
   have hx:=hl x (by simp)
   have e:okJ a b bz i x=decide ((decide (0<x)&&decide (kf b x=kf a i))=true/\(!(bz.getD x false)&&decide (SameT (subT a i) (subT b x)))=true):=by
    unfold okJ
    by_cases h1:SameT (subT a i) (subT b x)
    ·obtain⟨v,hv⟩:∃v,a.vis[i]? = some v:=⟨_,Ae (by rw[zaw];exact hi)⟩
     obtain⟨w,hw⟩:∃w,b.vis[x]? = some w:=⟨_,Ae (by rw[zaw];exact hx)⟩
     have hk:=zajq (v:=v) (w:=w) (by rw[<- zfj hv,<-zfj hw];exact h1)
     rw[zyh hv,zyh hw]at hk
     have hk':kf b x=kf a i:=by
      simp only[keyI,Cd,IVal.p.injEq,PVal.int.injEq,and_true,true_and]at hk
      exact Prod.ext hk.1.symm hk.2.symm
     simp only[h1,hk',decide_true,Bool.and_true]
     by_cases h0:0<x<;>cases bz.getD x false<;>simp[h0]
    ·simp only[h1,decide_false,BK]
     simp
   rw[Ce,Ce,e,ih fun j hj=>hl j (by simp[hj])]
 exact key _ fun j hj=>Ck.1 hj
def pfn (p:AP):IVal := .func F_Q47 [J5 p.xb 0 0, J5 p.lb 0 0, J5 p.yb 0 0]
theorem zafh (a b:Tree) (fa:Fine a) (fb:Fine b) (p:AP) (mp:Nat) (E:List PEnt) (least:Int) (s:ASt) (h i:Nat) (h0:0<i) (hi:i<a.size) (hbx:s.bx.getD i false=false) (hh:(subT a i).height=h) (hps:∀j,findJ a b s.bz i=some j->s.ps.length+(subT a i).size<1000000) (H:J2) (hM:AM a b p mp E s H)
 (lv:IVal) (hlv:lv = .p .nilslice/\idsOf (kf b) b.size (kf a i)=[]\/∃k∈E.map (·.blk),HS H k 1 (idsOf (kf b) b.size (kf a i)).length lv (idC (idsOf (kf b) b.size (kf a i)))) (Q:J0)
 (hQ:∀H',AM a b p mp E (stepI a b h i s) H'->Q .normal [(2, .int .i64 least),(7, .v (J5 p.xb 0 0)),(8, .v (J5 p.yb 0 0)),(9, .v (J5 p.lb 0 0)),(10, .v (pfn p)),(11, .v (.map mp)),(13, .int .i64 h),(14, .int .i64 i)] ⟨[],H'⟩) :
 wpLoop (CW tr.look) 167 m_Q24_1 l_Q24_1 (blkK 6 b_Q24_6 Q) [(2, .int .i64 least),(7, .v (J5 p.xb 0 0)),(8, .v (J5 p.yb 0 0)),(9, .v (J5 p.lb 0 0)),(10, .v (pfn p)),(11, .v (.map mp)),(13, .int .i64 h),(14, .int .i64 i),(15, .box 15 0),(121, .v lv),(122, .int .i64 (idsOf (kf b) b.size (kf a i)).length),(123, .int .i64 0)] ⟨[(15,some ⟨[.int .i64 (subT a i).kind, .str (subT a i).name, .str (subT a i).text, .v (.p (aval (subT a i).attrs)), .v (.p (kval (subT a i).kids))],5⟩)],H⟩:=by
 have hf:=zajr a b s.bz i hi
 have hstep:stepI a b h i s=match findJ a b s.bz i with
  |none=>s
  |some j=>⟨markN s.bx i (subT a i).size,markN s.bz j (subT a i).size,s.ps++pairsN i j (subT a i).size⟩:=by
  unfold stepI
  refine if_neg ?_
  rintro(e|e|e)
  ·omega
  ·rw[hbx]at e;cases e
  ·exact e hh
 have hid:∀j∈idsOf (kf b) b.size (kf a i),0<j/\j<b.size/\kf b j=kf a i:=by
  intro j hj
  unfold idsOf at hj
  rw[BL]at hj
  obtain⟨h1,h2⟩:=hj
  simp only[Ak,decide_eq_true_eq]at h2
  exact⟨h2.1,Ck.1 h1,h2.2⟩
 have hidl:(idsOf (kf b) b.size (kf a i)).length<=b.size:=by
  unfold idsOf
  exact Bp (BD _ _) (by simp)
 have hb6:=fb.1
 have hke:∀k:Int×Int,eqCls [Cls.int,Cls.int] (keyI k) (keyI k)=some true:=fun k=>by
  have:=zyg k k
  simpa[eqVals]using this
 generalize idsOf (kf b) b.size (kf a i)=ids at *
 refine zae (α:=Nat) (fun n=>[(2, .int .i64 least),(7, .v (J5 p.xb 0 0)),(8, .v (J5 p.yb 0 0)),(9, .v (J5 p.lb 0 0)),(10, .v (pfn p)),(11, .v (.map mp)),(13, .int .i64 h),(14, .int .i64 i),(15, .box 15 0),(121, .v lv),(122, .int .i64 ids.length),(123, .int .i64 n)]) (fun _=>⟨[(15,some ⟨[.int .i64 (subT a i).kind, .str (subT a i).name, .str (subT a i).text, .v (.p (aval (subT a i).attrs)), .v (.p (kval (subT a i).kids))],5⟩)],H⟩)
  (fun n=>n<=ids.length/\findJ a b s.bz i=(ids.drop n).find? fun j=>!(s.bz.getD j false)&&decide (SameT (subT a i) (subT b j))) (fun n=>ids.length-n) ?_ 0 ⟨AY _,by rw[hf];rfl⟩
 rintro n ⟨hn,hfn⟩ L hL
 try dsimp only at hn hfn hL ⊢
 dsimp only[l_Q24_1]
 by_cases hnl:n<ids.length
 ·obtain⟨k,hk,hlist⟩:∃k∈E.map (·.blk),HS H k 1 ids.length lv (idC ids):=by
   rcases hlv with⟨_,e⟩|e
   ·rw[e]at hnl;simp at hnl
   ·exact e
  have hlt:(n:Int)<(ids.length:Int):=by omega
  obtain⟨j1,j2,j3⟩:=hid ids[n] (BA hnl)
  have hlx:loadVal ⟨[],H⟩ none (J5 k 0 0)=loadVal ⟨[],H⟩ none (J5 k 0 0):=rfl
  obtain⟨ver,cs,op,rfl,hl2⟩:=hlist
  have hlist':HS H k 1 ids.length (.slice k ver 0 ids.length) (idC ids):=⟨ver,cs,op,rfl,hl2⟩
  have li:idxS 1 (.slice k ver 0 ids.length) (J4 n)=some (J5 k ver n):=by
   have:=zaq (e:=1) (k:=k) (v:=ver) (o:=0) (n:=ids.length) (j:=n) hnl
   simpa using this
  have ll:loadVal ⟨[],H⟩ none (J5 k ver n)=some (J4 (ids[n]:Nat)):=by
   refine hlist'.field ?_
   rw[idC,Ap,Ae hnl];rfl
  have lx:=zac (bx:=[]) (off:=0) hM.st.xb rfl
  have ly:=zac (bx:=[]) (off:=0) hM.st.yb rfl
  obtain⟨iv,vr,m1,m2,m3,m4⟩:=zvv hM.st.sy hM.st.lz j2
  obtain⟨kv,vk,k1,k2,k3,k4⟩:=zna hM.st.sy j2
  obtain⟨kw,vw,w1,w2,w3,w4⟩:=zna hM.st.sx hi
  have hsub:=zpb b fb.1 hM.st.sy ids[n] j2
  have hdrop:ids.drop n=ids[n]::ids.drop (n+1):=AG hnl
  rw[j3]at k4
  have hfa:Fine (subT a i):=fa.sub hi
  have hsame:=zsw _ (subT a i) (subT b ids[n]) (An _) hfa
  generalize hjj:ids[n]=j at *
  rw[hdrop,Ce]at hfn
  by_cases hb:s.bz.getD j false=true
  ·rw[hb]at m4 hfn
   simp(disch:=omega) [li,ll,ly,m1,m2,m3,m4,zaa]
   refine hL (n+1) ⟨by omega,by simpa using hfn⟩ (by omega)
  ·have hb':s.bz.getD j false=false:=by simpa using hb
   rw[hb']at m4 hfn
   by_cases hs:SameT (subT a i) (subT b j)
   ·rw[decide_eq_true hs]at hsame hfn
    obtain⟨v,hv⟩:∃v,a.vis[i]? = some v:=⟨_,Ae (by rw[zaw];exact hi)⟩
    have hvt:=zfj hv
    have e2:=zcn j2
    have e3:=hs.size
    obtain⟨H',p1,p2,p3,p4⟩:=zafe a b p i j v hv (by rw[<- hvt];omega) ⟨fa.1,fb.1⟩ s.bx s.bz s.ps (by rw[<- hvt];exact hps j (by rw[hfn];rfl)) H hM.lt hM.st
    simp(disch:=omega) [li,ll,lx,ly,m1,m2,m3,m4,k1,k2,k3,k4,w1,w2,w3,w4,hsub,zaj,hsame,hke,pfn,p1]
    have hfin:=hQ H' ?_
    ·simpa[pfn]using hfin
    ·rw[hstep,hfn]
     simp only[Bool.not_false,A4]
     rw[hvt]
     exact⟨p2,hM.pm.keep fun x hx=>p4 x (by rw[hM.fz];exact hx),hM.fz,fun x hx=>by have:=hM.lt x hx;omega⟩
   ·rw[decide_eq_false hs]at hsame hfn
    simp(disch:=omega) [li,ll,lx,ly,m1,m2,m3,m4,k1,k2,k3,k4,w1,w2,w3,w4,hsub,zaj,hsame,hke,zaa]
    refine hL (n+1) ⟨by omega,by simpa using hfn⟩ (by omega)
 ·obtain rfl:n=ids.length:=by omega
  simp(disch:=omega) []
  have hnone:findJ a b s.bz i=none:=by rw[hfn,Br (Ai _)];rfl
  refine hQ H ?_
  rw[hstep,hnone]
  exact hM
theorem zaby (a b:Tree) (fa:Fine a) (fb:Fine b) (p:AP) (mp:Nat) (E:List PEnt) (least:Int) (s:ASt) (bl:J1) (h:Nat) (hI:AInv a b h s bl) (H:J2) (hM:AM a b p mp E s H) (Q:J0)
 (hQ:∀H',AM a b p mp E (runI a b h a.size s) H'->Q .normal [(2, .int .i64 least),(7, .v (J5 p.xb 0 0)),(8, .v (J5 p.yb 0 0)),(9, .v (J5 p.lb 0 0)),(10, .v (pfn p)),(11, .v (.map mp)),(13, .int .i64 h)] ⟨[],H'⟩) :
 wpLoop (CW tr.look) 167 m_Q24_2 l_Q24_2 (blkK 4 b_Q24_4 Q) [(2, .int .i64 least),(7, .v (J5 p.xb 0 0)),(8, .v (J5 p.yb 0 0)),(9, .v (J5 p.lb 0 0)),(10, .v (pfn p)),(11, .v (.map mp)),(13, .int .i64 h),(14, .int .i64 1)] ⟨[],H⟩:=by
 have one:=zad a
 have ha6:=fa.1
 refine zae (α:=Nat×J2) (fun x=>[(2, .int .i64 least),(7, .v (J5 p.xb 0 0)),(8, .v (J5 p.yb 0 0)),(9, .v (J5 p.lb 0 0)),(10, .v (pfn p)),(11, .v (.map mp)),(13, .int .i64 h),(14, .int .i64 x.1)]) (fun x=>⟨[],x.2⟩)
  (fun x=>0<x.1/\x.1<=a.size/\AM a b p mp E (runI a b h x.1 s) x.2) (fun x=>a.size-x.1) ?_ (1,H) ⟨by simp,one,by
   have:runI a b h 1 s=s:=by simp[runI,stepI]
   dsimp only
   rw[this];exact hM⟩
 rintro⟨i,K⟩ ⟨h0,hi,hA⟩ L hL
 dsimp only at h0 hi hA hL ⊢
 dsimp only[l_Q24_2]
 have lx:=zac (bx:=[]) (off:=0) hA.st.xb rfl
 have ly:=zac (bx:=[]) (off:=0) hA.st.yb rfl
 have l5:=znb hA.st.sx
 by_cases hil:i<a.size
 ·have hlt:(i:Int)<(a.size:Int):=by omega
  obtain⟨bl2,hI2⟩:=zmy hI (i:=i) hi
  obtain⟨bl3,hI3⟩:=zvt hI2 hil
  obtain⟨iv,vr,m1,m2,m3,m4⟩:=zvv hA.st.sx hA.st.lx hil
  obtain⟨v,hv⟩:∃v,a.vis[i]? = some v:=⟨_,Ae (by rw[zaw];exact hil)⟩
  have hit:a.items[i]? = some (fullOf v):=by rw[Tree.items,zdf,Ap];rw[show visT a 0 (-1) 0 0=a.vis from rfl,hv];rfl
  have ix:=zbk hit
  have hvt:=zfj hv
  by_cases hb:(runI a b h i s).bx.getD i false=true
  ·rw[hb]at m4
   simp(disch:=omega) [lx,l5,m1,m2,m3,m4,zaa]
   refine hL (i+1,K) ⟨by dsimp only;omega,by dsimp only;omega,?_⟩ (by dsimp only;omega)
   dsimp only
   rw[runI,stepI,if_pos (.inr (.inl hb))]
   exact hA
  ·have hb':(runI a b h i s).bx.getD i false=false:=by simpa using hb
   rw[hb']at m4
   by_cases hh:(subT a i).height=h
   ·have hh':v.t.height=h:=by rw[<- hvt];exact hh
    obtain⟨kv,vk,k1,k2,k3,k4⟩:=zna hA.st.sx hil
    have hsub:=zpb a fa.1 hA.st.sx i hil
    obtain⟨lv,q1,q2⟩:=hA.pm.lookF (kf a i)
    have hup:up lv = .v lv:=by
     rcases q2 with⟨rfl,_⟩|⟨k,_,_,_,_,rfl,_⟩<;>rfl
    have hln:sliceLen lv=some (idsOf (kf b) b.size (kf a i)).length:=by
     rcases q2 with⟨rfl,e⟩|⟨k,_,hs⟩
     ·rw[e];rfl
     ·exact hs.len
    simp(disch:=omega) [lx,l5,m1,m2,m3,m4,ix,fullOf,hh',hsub,k1,k2,k3,k4,q1,hup,hln]
    refine zafh a b fa fb p mp E least _ h i h0 hil hb' hh (fun j hj=>?_) K hA lv q2 _ fun H' hH'=>?_
    ·have:=hI3.len
     rw[stepI,if_neg (by rintro(e|e|e);omega;exact hb e;exact e hh),hj]at this
     dsimp only at this
     rw[Ag,zcm]at this
     omega
    ·simp(disch:=omega) [zaa]
     exact hL (i+1,H') ⟨by dsimp only;omega,by dsimp only;omega,hH'⟩ (by dsimp only;omega)
   ·have hh':¬(v.t.height:Int)=(h:Int):=by rw[<- hvt];omega
    simp(disch:=omega) [lx,l5,m1,m2,m3,m4,ix,fullOf,zaa]
    refine hL (i+1,K) ⟨by dsimp only;omega,by dsimp only;omega,?_⟩ (by dsimp only;omega)
    dsimp only
    rw[runI,stepI,if_pos (.inr (.inr hh))]
    exact hA
 ·obtain rfl:i=a.size:=by omega
  simp(disch:=omega) [lx,l5]
  exact hQ K hA
theorem zafi (x y:Int):evalExt x true [J4 y]=some (max x y):=by
 show some (if y>x then y else x)=_
 congr 1
 split<;>omega
theorem zapo (x y:Int):evalExt x false [J4 y]=some (min x y):=by
 show some (if y<x then y else x)=_
 congr 1
 split<;>omega
theorem zyj (a b:Tree) (fa:Fine a) (fb:Fine b) (p:AP) (mp:Nat) (E:List PEnt) (least:Int) (Q:J0):∀(n:Nat) (s:ASt) (bl:J1) (h:Nat) (_:AInv a b h s bl) (H:J2) (_:AM a b p mp E s H) (_:h<1000000) (_:(n:Int)=max 0 ((h:Int)+1-max 1 least))
 (_:∀H',AM a b p mp E (runH a b n h s) H'->Q .normal [(9, .v (J5 p.lb 0 0))] ⟨[],H'⟩),
 wpLoop (CW tr.look) 167 m_Q24_3 l_Q24_3 (blkK 2 b_Q24_2 Q) [(2, .int .i64 least),(7, .v (J5 p.xb 0 0)),(8, .v (J5 p.yb 0 0)),(9, .v (J5 p.lb 0 0)),(10, .v (pfn p)),(11, .v (.map mp)),(13, .int .i64 h)] ⟨[],H⟩:=by
 intro n
 induction n with
 |zero =>
  intro s bl h hI H hM h6 hn hQ
  refine zav ?_
  dsimp only[l_Q24_3]
  have hlt:¬(max 1 least:Int)<=(h:Int):=by omega
  simp(disch:=omega) [zafi]
  exact hQ H hM
 |succ n ih =>
  intro s bl h hI H hM h6 hn hQ
  refine zav ?_
  dsimp only[l_Q24_3]
  have hlt:(max 1 least:Int)<=(h:Int):=by omega
  simp(disch:=omega) [zafi]
  refine zaby a b fa fb p mp E least s bl h hI H hM _ fun H' hH'=>?_
  obtain⟨bl',hI'⟩:=zmy hI (Ai a.size)
  have hc:(h:Int)-1=((h-1:Nat):Int):=by omega
  simp(disch:=omega) [zaa,hc]
  refine ih _ bl' (h-1) (hI'.mono (Nat.sub_le h 1)) H' hH' (by omega) (by omega) fun H2 hH2=>hQ H2 ?_
  exact hH2
def PV (v:PVal) (L:J1):Prop:=(v = .nilslice/\L=[])\/v = .slice 2 L.length (prc L)
theorem zapp (L:J1):L.flatMap pc=pcells (prc L):=by
 simp[pcells,prc,List.map_flatMap]
 rfl
theorem zafj:∀L:J1,(prc L).length=L.length*2
 | []=>rfl
 |p::L=>by
  have:=zafj L
  unfold prc at this ⊢
  rw[AI,Ag,this]
  simp
  omega
theorem znc (L:J1):(pcells (prc L)).length=L.length*2:=by rw[pcells,Bt,zafj]
theorem zavv {p:AP} {ps:J1} {H:J2} (h:LOK p ps H) (hn:(ps.map (·.1)).Nodup) (hb:ps.length<1000000):∃lv H',H[p.lb]? = some (.cells [lv] 1 0 false)/\up lv = .v lv/\lv.passOK=true /\
 CW tr.look F_Q31 [lv, .p (.func F_Q50)] H=some (.tup [],H')/\H'[p.lb]? = some (.cells [lv] 1 0 false)/\(lv = .p .nilslice/\sortP ps=[]\/∃ll,HS H' ll 2 (sortP ps).length lv (pcells (prc (sortP ps)))):=by
 obtain⟨lv,e1,e2⟩:=h
 have hlb:p.lb∈p.all:=by simp[AP.all]
 have hset:∀ {v:IVal} {H:J2} {r:IVal×J2},sortSpec pairKit F_Q50 [v, .p (.func F_Q50)] H=some r->seatBase.b F_Q31 [v, .p (.func F_Q50)] H=some r:=fun h=>zkm (by simp) h
 have hlen:(sortP ps).length=ps.length:=(zas ps).length_eq
 rcases e2 with⟨rfl,rfl⟩|⟨ll,hll,⟨ver,cs,op,rfl,hk,hl,hx⟩,h0⟩
 ·refine⟨_,H,e1,rfl,rfl,zob none_Q31 ?_,e1, .inl ⟨rfl,by simp[sortP]⟩⟩
  exact hset (zmh _ _ _)
 ·have hsz:(ps.map toI).toArray.size=ps.length:=by simp
  have hs:=zmi pairKit F_Q50 (H:=H) (i:=ll) (ver:=ver) (off:=0) (ps.map toI).toArray hk (by omega) (by omega) (by rw[hsz];show 0+ps.length*2<=_;omega) (by
   rw[hsz,zsn,<-zapp,BF];exact hx)
  rw[hsz,zmj hn,zsn]at hs
  refine⟨_,_,e1,rfl,rfl,zob none_Q31 (hset hs),?_, .inr ⟨ll,ver,_,op,by rw[hlen],zan (Aa.1 hk).1,?_,?_⟩⟩
  ·rw[Ac (fun e:ll=p.lb=>hll (by rw[e];exact hlb))];exact e1
  ·have:(pcells (prc (sortP ps))).length=ps.length*2:=by rw[znc,hlen]
   simp only[splice,Ag,AQ,Bc,hlen];omega
  ·have:(pcells (prc (sortP ps))).length=(sortP ps).length*2:=by rw[znc]
   simp only[splice,Ch,AV]
   rw[Bm (by omega),AA (by omega)]
theorem zyk (a b:Tree) (ha:Fine a) (hb:Fine b) (sa:StrT a) (sb:StrT b) (least:Int) (ca:checkB a=true) (cb:checkB b=true) (hs:¬SameT a b):∃r,CW tr.look F_Q24 [tagg a,tagg b, J4 least] []=some (r,[])/\∃pv,r = .p pv/\PV pv (sortP (alikeN a b least)):=by
 have h1:=zdn a ha.1
 have h2:=zdn b hb.1
 rw[ca]at h1
 rw[cb]at h2
 obtain⟨B0,hB0⟩:∃B0,B0=IBlk.cells [IVal.p .nilptr] 1 0 false:=⟨_,rfl⟩
 obtain⟨H1,kl,il,o1,o2,o3,o4,o5,o6⟩:=ztb a ha sa [B0,B0]
 obtain⟨H2,kl2,il2,q1,q2,q3,q4,q5,q6⟩:=ztb b hb sb H1
 have hsm:=zsw _ a b (An _) ha
 rw[decide_eq_false hs]at hsm
 have k0:H2[0]? = some B0:=by rw[q2.2 0 (by have:=o2.1;simp at this;omega) (by simp),o2.2 0 (by simp) (by simp)];rfl
 have k1:H2[1]? = some B0:=by rw[q2.2 1 (by have:=o2.1;simp at this;omega) (by simp),o2.2 1 (by simp) (by simp)];rfl
 have k0l:=(Aa.1 k0).1
 have k1l:=(Aa.1 k1).1
 have j0:H1[0]? = some B0:=by rw[o2.2 0 (by simp) (by simp)];rfl
 have j1:H1[1]? = some B0:=by rw[o2.2 1 (by simp) (by simp)];rfl
 rw[hB0]at k0 k1 o1 j0 j1
 have w1:=zam (bx:=[]) (off:=0) (new:=[J5 2 0 0]) k0 (by simp)
 have k1':(H2.set 0 (.cells [J5 2 0 0] 1 0 false))[1]? = some (.cells [.p .nilptr] 1 0 false):=by rw[Ac (by omega)];exact k1
 have w2:=zam (bx:=[]) (off:=0) (new:=[J5 H1.length 0 0]) k1' (by simp)
 have sp:∀x:IVal,splice [IVal.p .nilptr] 0 [x]=[x]:=fun _=>rfl
 rw[sp]at w1 w2
 refine zfr look_Q24 rfl (zby (by simp)) rfl ?_
 dsimp only[i_Q24,c_Q24]
 simp only[AC,Db]at o1
 have o3':2<kl:=by simpa using o3
 have o4':2<il:=by simpa using o4
 have l1:2<H1.length:=by have:=o6;obtain⟨kv,iv,e1,_⟩:=this;simpa using(Aa.1 e1).1
 have l1k:kl<H1.length:=by obtain⟨kv,iv,e1,e2,e3⟩:=o6;exact e2.lt
 have l1i:il<H1.length:=by obtain⟨kv,iv,e1,e2,e3⟩:=o6;exact e3.lt
 have l2:H1.length<H2.length/\kl2<H2.length/\il2<H2.length:=by obtain⟨kv,iv,e1,e2,e3⟩:=q6;exact⟨(Aa.1 e1).1,e2.lt,e3.lt⟩
 obtain⟨K,hK⟩:∃K,(H2.set 0 (IBlk.cells [IVal.ptr (Key.heap 2) 0 0] 1 0 false)).set 1 (IBlk.cells [IVal.ptr (Key.heap H1.length) 0 0] 1 0 false)++[IBlk.cells [IVal.p PVal.nilslice] 1 0 false]=K:=⟨_,rfl⟩
 have hKx:∀x,1<x->x<H2.length->K[x]? = H2[x]? := fun x h1 h2=>by
  rw[<- hK,Ab (by simp;omega),Ac (by omega),Ac (by omega)]
 obtain⟨p0,hp0⟩:∃p0:AP,p0=⟨0,1,H2.length,2,H1.length,kl,il,kl2,il2,[]⟩:=⟨_,rfl⟩
 have hAS:AS a b p0 (List.replicate a.size false) (List.replicate b.size false) [] K:=by
  subst hp0
  refine⟨?_,?_,?_,by simp,by simp,?_,?_,?_⟩
  ·simp[AP.all];omega
  ·rw[<- hK,Ab (by simp;omega),Ac (show(1:Nat)≠0 by omega)];exact zan k0l
  ·rw[<- hK,Ab (by simp;omega)];exact zan (by simpa using k1l)
  ·have:SideOK a 2 kl il (List.replicate a.size false) H1:=o6
   exact this.keep (by rw[hKx 2 (by omega) (by omega),q2.2 2 l1 (by simp)]) (by rw[hKx kl (by omega) (by omega),q2.2 kl l1k (by simp)]) (by rw[hKx il (by omega) (by omega),q2.2 il l1i (by simp)])
  ·exact q6.keep (hKx _ (by omega) (by omega)) (hKx _ (by omega) (by omega)) (hKx _ (by omega) (by omega))
  ·refine⟨.p .nilslice,?_, .inl ⟨rfl,rfl⟩⟩
   rw[<- hK,Ad (by simp)];simp;rfl
 have hb0:∀x∈p0.fz,x<K.length:=by rw[hp0];simp
 have hall:=hAS.lt hb0
 have hfz0:p0.fz=[]:=by rw[hp0]
 have exb:p0.xb=0:=by rw[hp0]
 have eyb:p0.yb=1:=by rw[hp0]
 have elb:p0.lb=H2.length:=by rw[hp0]
 have hKlb:∀lv,K[p0.lb]? = some (.cells [lv] 1 0 false)->lv = .p .nilslice:=by
  intro lv h
  rw[elb,<-hK,Ad (by simp)]at h
  rw[show H2.length-((H2.set 0 (IBlk.cells [IVal.ptr (Key.heap 2) 0 0] 1 0 false)).set 1 (IBlk.cells [IVal.ptr (Key.heap H1.length) 0 0] 1 0 false)).length=0 by simp,AL]at h
  cases h
  rfl
 have hAS1:AS a b p0 (List.replicate a.size false) (List.replicate b.size false) [] (K++[.map [] 0]):=by
  have hk:∀x∈p0.all,(K++[IBlk.map [] 0])[x]? = K[x]? := fun x hx=>Ab (hall x hx)
  have mem:p0.xb∈p0.all/\p0.yb∈p0.all/\p0.lb∈p0.all/\p0.x0∈p0.all/\p0.y0∈p0.all/\p0.xk∈p0.all/\p0.xi∈p0.all/\p0.yk∈p0.all/\p0.yi∈p0.all:=by simp[AP.all]
  obtain⟨m1,m2,m3,m4,m5,m6,m7,m8,m9⟩:=mem
  exact⟨hAS.nd,(hk _ m1).trans hAS.xb,(hk _ m2).trans hAS.yb,hAS.lx,hAS.lz,hAS.sx.keep (hk _ m4) (hk _ m6) (hk _ m7),hAS.sy.keep (hk _ m5) (hk _ m8) (hk _ m9),
   hAS.l.keep (hk _ m3) fun x _ hx=>Ab hx⟩
 simp(disch:=omega) [zaj,h1,h2,o1,q1,w1,w2,hsm,j0,j1,k0,k1,hK]
 subst hp0
 refine zyi a b _ hfz0 hb.1 _ _ _ _ _ _ _ _ hAS1 K.length (by rw[Ad (Ai _),Bb];rfl) (fun h=>by have:=hall _ h;omega) (fun lv h=>hKlb lv (by rw[Ab (hall _ (by simp[AP.all]))]at h;exact h)) _ fun H E hA hPM hlt hkp hle=>?_
 have lx:=zac (bx:=[]) (off:=0) hA.xb rfl
 have ly:=zac (bx:=[]) (off:=0) hA.yb rfl
 have l5x:=znb hA.sx
 have l5y:=znb hA.sy
 have one:=zad a
 have oneb:=zad b
 have hv0:∀t:Tree,t.items[0]? = some (fullOf ⟨t, -1,0,0⟩):=fun t=>by
  rw[Tree.items,zdf,Ap,show visT t 0 (-1) 0 0=t.vis from rfl,show t.vis=visT t 0 (-1) 0 0 from rfl,zbl];rfl
 have ixa:idxS 10 (.p (ival a)) (J4 0)=_:=zbk (hv0 a)
 have ixb:idxS 10 (.p (ival b)) (J4 0)=_:=zbk (hv0 b)
 simp(disch:=omega) [lx,ly,l5x,l5y,ixa,ixb,fullOf,zapo]
 have hca:=zqf a
 have ha6:=ha.1
 have hc:min (a.height:Int) (b.height:Int)=((min a.height b.height:Nat):Int):=by omega
 rw[hc]
 refine zyj a b ha hb { xb:=0,yb:=1,lb:=H2.length,x0:=2,y0:=H1.length,xk:=kl,xi:=il,yk:=kl2,yi:=il2,fz:=K.length::E.map (·.blk) } K.length E least _ (((min a.height b.height:Nat):Int)+1-max 1 least).toNat (ASt.start a b) [] (min a.height b.height) (zoy a b _) H ⟨hA,hPM,rfl,hlt⟩ (by omega) (by omega) fun H' hM'=>?_
 obtain⟨h',bl',hI⟩:=zsx (n:=(((min a.height b.height:Nat):Int)+1-max 1 least).toNat) (zoy a b (min a.height b.height))
 have heq:alikeN a b least=(runH a b (((min a.height b.height:Nat):Int)+1-max 1 least).toNat (min a.height b.height) (ASt.start a b)).ps:=by
  rw[alikeN,if_neg hs]
 obtain⟨lv,H5,s1,s2,s3,s4,s5,s6⟩:=zavv hM'.st.l hI.nx (by have:=hI.len;omega)
 rw[<- heq]at s6
 dsimp only at s1 s4 s5 s6
 have z1:=zac (bx:=[]) (off:=0) s1 rfl
 have z2:=zac (bx:=[]) (off:=0) s5 rfl
 have hden:(up lv).den=lv:=by rw[s2];rfl
 simp(disch:=omega) [z1,z2,s2,s3,s4]
 rcases s6 with⟨rfl,s6⟩|⟨ll,s6⟩
 ·exact⟨.p .nilslice,rfl, .nilslice,rfl, .inl ⟨rfl,s6⟩⟩
 ·have hz:=zeu s6
  obtain⟨ver,cs,op,rfl,_⟩:=s6
  rw[zes]
  refine⟨_,by simp only[freezeOne,hz],_,rfl, .inr rfl⟩
theorem zajs {l:J1} (h:l.Pairwise fun p q=>p.1<=q.1):sortP l=l:=List.mergeSort_of_pairwise (h.imp fun h=>by simpa using h)
theorem zky (i j:Nat) (k:Nat):(pairsN i j k).Pairwise fun p q=>p.1<=q.1:=by
 have h:((pairsN i j k).map (·.1)).Pairwise (· < ·):=by rw[zft];exact List.pairwise_lt_range'
 rw[Cg]at h
 exact h.imp fun h=>by omega
theorem zajt (a b:Tree) (ha:Fine a) (hb:Fine b) (sa:StrT a) (sb:StrT b) (least:Int) (ca:checkB a=true) (cb:checkB b=true):∃pv,PV pv (sortP (alikeN a b least))/\∀H,CW tr.look F_Q24 [tagg a,tagg b, J4 least] H=some (.p pv,H):=by
 by_cases hs:SameT a b
 ·refine⟨_, .inr ?_,zabx a b ha hb sa sb least ca cb hs⟩
  rw[alikeN,if_pos hs,zajs (zky _ _ _),zcm]
  rfl
 ·obtain⟨r,h1,pv,rfl,h2⟩:=zyk a b ha hb sa sb least ca cb hs
  exact⟨pv,h2,fun H=>zsy look_Q24 rfl (by simp) h1⟩
theorem zpd:∀L:J1,prcells L=prc L
 | []=>rfl
 |p::L=>by
  have:=zpd L
  simp only[prcells,prc,AI]at this ⊢
theorem zafk {g:FuncId} (hg:g∈[F_Q50,F_Q67,F_Q32]) (v:IVal) (o:Option Nat) (L:J1) (hn:(L.map (·.1)).Nodup) (hs:L.length<1000000) (H:J2) (h:VS H o 2 L.length v (pcells (prc L))) :
 ∃H',CW tr.look F_Q31 [v, .p (.func g)] H=some (.tup [],H')/\VS H' o 2 L.length v (pcells (prc (sortP L))):=by
 have hlen:(sortP L).length=L.length:=(zas L).length_eq
 cases o with
 |none =>
  obtain⟨rfl,h1,h2⟩:=h
  have hL:L=[]:=Av.1 h1
  subst hL
  exact⟨H,zob none_Q31 (zkm hg (zmh _ _ _)),rfl,rfl,by simp[sortP,prc,pcells]⟩
 |some k =>
  obtain⟨ver,cs,op,rfl,hk,hl,hx⟩:=h
  have hsz:(L.map toI).toArray.size=L.length:=by simp
  by_cases h0:L.length=0
  ·obtain rfl:L=[]:=Av.1 h0
   exact⟨H,zob none_Q31 (zkm hg (zqd _ _ _ _ _ _)),ver,cs,op,rfl,hk,by omega,by simpa[sortP]using hx⟩
  ·have hs:=zmi pairKit g (H:=H) (i:=k) (ver:=ver) (off:=0) (L.map toI).toArray hk (by omega) (by omega) (by rw[hsz];show 0+L.length*2<=_;omega) (by
    rw[hsz,zsn,BF];exact hx)
   rw[hsz,zmj hn,zsn]at hs
   refine⟨_,zob none_Q31 (zkm hg hs),ver,_,op,rfl,zan (Aa.1 hk).1,?_,?_⟩
   ·have:(pcells (prc (sortP L))).length=L.length*2:=by rw[znc,hlen]
    simp only[splice,Ag,AQ,Bc];omega
   ·have:(pcells (prc (sortP L))).length=L.length*2:=by rw[znc,hlen]
    simp only[splice,Ch,AV]
    rw[Bm (by omega),AA (by omega)]
def mapping (s t:Tree):J1:=sortP (pr (postT s 0) (postT t 0) 0 0 [s] [t])
theorem zpe (s t:Tree):(mapping s t).length<=s.size:=by
 have:=zaep (postT s 0) (postT t 0) 0 0 [s] [t]
 rw[zou]at this
 rw[mapping,(zas _).length_eq]
 exact this
end Go.Ideal
