/-
  IDEAL SEMANTICS, 71b: THE OPERATIONS ON VALUES, each handing its value straight to what comes behind it.
-/
import Derived.Test.YtbhblbkehmlcfaaGreatW6
import Derived.Test.YtbhblbkehmlcfaaGreatW3
namespace Go.Ideal
open Go
set_option linter.unusedSectionVars false
variable [Kept]
section
variable {R:Type}
noncomputable def qonP (v:IVal) (f:PVal→R) (e:R):R:=IVal.rec (motive_1:=fun _=>R) (motive_2:=fun _=>PUnit) f (fun _ _ _=>e) (fun _ _ _ _=>e) (fun _=>e) (fun _ _ _=>e) (fun _ _=>e) (fun _ _=>e) e (fun _=>e) (fun _ _ _ _=>e) ⟨⟩ (fun _ _ _ _=>⟨⟩) v
noncomputable def qonPI (p:PVal) (f:IntKind→Int→R) (e:R):R:=PVal.rec (motive_1:=fun _=>R) (motive_2:=fun _=>PUnit) (fun _=>e) f (fun _=>e) (fun _ _ _ _=>e) (fun _ _=>e) (fun _=>e) e e e e e ⟨⟩ (fun _ _ _ _=>⟨⟩) p
noncomputable def qonPB (p:PVal) (f:Bool→R) (e:R):R:=PVal.rec (motive_1:=fun _=>R) (motive_2:=fun _=>PUnit) f (fun _ _=>e) (fun _=>e) (fun _ _ _ _=>e) (fun _ _=>e) (fun _=>e) e e e e e ⟨⟩ (fun _ _ _ _=>⟨⟩) p
noncomputable def qonI (v:IVal) (f:IntKind→Int→R) (e:R):R:=qonP v (fun p=>qonPI p f e) e
noncomputable def qonB (v:IVal) (f:Bool→R) (e:R):R:=qonP v (fun p=>qonPB p f e) e
noncomputable def qis64 (k:IntKind) (a e:R):R:=IntKind.rec (motive:=fun _=>R) e e e a e e e e k
noncomputable def qonN (i:Int) (f:Nat→R) (e:R):R:=Int.rec (motive:=fun _=>R) f (fun _=>e) i
noncomputable def qon64 (v:IVal) (f:Nat→R) (e:R):R:=qonI v (fun k i=>qis64 k (qonN i f e) e) e
noncomputable def qonPtr (v:IVal) (f:Key→Nat→Nat→R) (e:R):R:=IVal.rec (motive_1:=fun _=>R) (motive_2:=fun _=>PUnit) (fun _=>e) f (fun _ _ _ _=>e) (fun _=>e) (fun _ _ _=>e) (fun _ _=>e) (fun _ _=>e) e (fun _=>e) (fun _ _ _ _=>e) ⟨⟩ (fun _ _ _ _=>⟨⟩) v
noncomputable def qonSl (v:IVal) (f:Nat→Nat→Nat→Nat→R) (e:R):R:=IVal.rec (motive_1:=fun _=>R) (motive_2:=fun _=>PUnit) (fun _=>e) (fun _ _ _=>e) f (fun _=>e) (fun _ _ _=>e) (fun _ _=>e) (fun _ _=>e) e (fun _=>e) (fun _ _ _ _=>e) ⟨⟩ (fun _ _ _ _=>⟨⟩) v
noncomputable def qonAgg (v:IVal) (f:List IVal→R) (e:R):R:=IVal.rec (motive_1:=fun _=>R) (motive_2:=fun _=>PUnit) (fun _=>e) (fun _ _ _=>e) (fun _ _ _ _=>e) (fun _=>e) (fun _ _ _=>e) (fun cs _=>f cs) (fun _ _=>e) e (fun _=>e) (fun _ _ _ _=>e) ⟨⟩ (fun _ _ _ _=>⟨⟩) v
noncomputable def qonTup (v:IVal) (f:List IVal→R) (e:R):R:=IVal.rec (motive_1:=fun _=>R) (motive_2:=fun _=>PUnit) (fun _=>e) (fun _ _ _=>e) (fun _ _ _ _=>e) (fun _=>e) (fun _ _ _=>e) (fun _ _=>e) (fun cs _=>f cs) e (fun _=>e) (fun _ _ _ _=>e) ⟨⟩ (fun _ _ _ _=>⟨⟩) v
noncomputable def qkget {α:Type} (i:Nat) (l:List α) (f:α→R) (e:R):R:=List.rec (motive:=fun _=>Nat→R) (fun _=>e) (fun x _ ih k=>Nat.rec (motive:=fun _=>R) (f x) (fun k' _=>ih k') k) l i
theorem zadf {α:Type} (f:α→R) (e:R):∀(l:List α) (i:Nat),qkget i l f e=Option.rec (motive:=fun _=>R) e f (lget l i)
 | [],_=>rfl
 |_::_,0=>rfl
 |_::t,i+1=>zadf f e t i
end
theorem zare {F:FOr} {m:FM} {k:SK} {x:XF} {v:IVal} {M:Mem} (h:x noC ⟨[],[]⟩=some (v,M)):yv x F m k=k v m:=by unfold yv;rw[h]
noncomputable def lim64:Nat:=9223372036854775808
noncomputable def y_nil (v:IVal):SF:=fun F m k=>qonPtr v (fun _ _ _=>k v m) (yv (x_nil v) F m k)
theorem zavc (v:IVal):y_nil v=yv (x_nil v):=by
 funext F m k
 cases v<;>rfl
noncomputable def zaa (off:Nat) (v:IVal):SF:=fun F m k=>qonPtr v (fun key a o=>nforce (Nat.add o off) fun o=>k (.ptr key a o) m) (yv (znx off v) F m k)
theorem zza (off:Nat) (v:IVal):zaa off v=yv (znx off v):=by
 funext F m k
 cases v<;>rfl
noncomputable def yidx (n:Nat) (v:IVal) (k:Nat→YR):YR:=qonI v (fun _ i=>qonN i (fun a=>Bool.rec none (k a) (Nat.ble (Nat.succ a) n)) none) none
theorem zarf {F:FOr} {m:FM} {k:SK} (n:Nat) (i:IVal) (g:Nat→IVal) {x:XF} (h:x noC ⟨[],[]⟩=xidx n i fun j=>some (g j,⟨[],[]⟩)):yidx n i (fun j=>k (g j) m)=yv x F m k:=by
 unfold yv
 rw[h]
 cases i with
 |p u =>
  cases u with
  |int kd z =>
   cases z with
   |ofNat a =>
    show(Bool.rec none (k (g a) m) (Nat.ble (Nat.succ a) n):YR)=Option.rec none (fun p=>Prod.rec (fun v _=>k v m) p) (Bool.rec none (some (g a,⟨[],[]⟩)) (Nat.ble (Nat.succ a) n):XR)
    cases Nat.ble (Nat.succ a) n<;>rfl
   |negSucc a=>rfl
  |_=>rfl
 |_=>rfl
noncomputable def zac (e:Nat) (x i:IVal):SF:=fun F m k=>qonSl x (fun key v o n=>yidx n i fun j=>nforce (o+j*e) fun o=>k (.ptr (.heap key) v o) m) (yv (zrg e x i) F m k)
theorem zadg (e:Nat) (x i:IVal):zac e x i=yv (zrg e x i):=by
 funext F m k
 cases x with
 |slice key v o n=>exact zarf n i (fun j=>.ptr (.heap key) v (o+j*e)) rfl
 |_=>rfl
noncomputable def zaj (len e:Nat) (x i:IVal):SF:=fun F m k=>qonPtr x (fun key v o=>yidx len i fun j=>nforce (o+j*e) fun o=>k (.ptr key v o) m) (yv (zacy len e x i) F m k)
theorem zajy (len e:Nat) (x i:IVal):zaj len e x i=yv (zacy len e x i):=by
 funext F m k
 cases x with
 |ptr key v o=>exact zarf len i (fun j=>.ptr key v (o+j*e)) rfl
 |_=>rfl
noncomputable def y_len (x:IVal):SF:=fun F m k=>qonSl x (fun _ _ _ n=>nforce n fun n=>k (.p (.int .i64 (.ofNat n))) m) (yv (x_len x) F m k)
theorem zavd (x:IVal):y_len x=yv (x_len x):=by
 funext F m k
 cases x<;>rfl
noncomputable def zaf (x:IVal) (i:Nat):SF:=fun _ m k=>qonTup x (fun cs=>qkget i cs (fun v=>k v m) none) none
theorem zagv (x:IVal) (i:Nat):zaf x i=yv (zagq x i):=by
 funext F m k
 cases x with
 |tup cs =>
  show qkget i cs (fun v=>k v m) none=Option.rec none (fun p=>Prod.rec (fun v _=>k v m) p) (Option.rec none (fun v=>some (v,⟨[],[]⟩)) (lget cs i):XR)
  rw[zadf]
  cases lget cs i<;>rfl
 |_=>rfl
noncomputable def zarg (n:Option Nat) (o:Nat) (x:IVal):SF:=fun F m k=>Option.rec (motive:=fun _=>YR) (qonAgg x (fun cs=>qkget o cs (fun v=>k v m) none) none) (fun _=>yv (zajr n o x) F m k) n
theorem zant (n:Option Nat) (o:Nat) (x:IVal):zarg n o x=yv (zajr n o x):=by
 funext F m k
 cases n with
 |some n=>rfl
 |none =>
  cases x with
  |agg cs =>
   show qkget o cs (fun v=>k v m) none=Option.rec none (fun p=>Prod.rec (fun v _=>k v m) p) (Option.rec none (fun v=>some (v,⟨[],[]⟩)) (lget cs o):XR)
   rw[zadf]
   cases lget cs o<;>rfl
  |_=>rfl
noncomputable def zak (z:List PVal) (p:List (Nat×Nat×IVal)):SF:=fun _ m k=>bfill p (gpc z) fun cs=>k (.agg cs) m
theorem zanu {F:FOr} {C:Oracle} {z:List PVal} {p:List (Nat×Nat×Opd)}:SOK F C (zak z (cvp p)) (.build z p):=fun {m M k r} hm e=>by
 unfold zak at e
 obtain⟨cs,hf,e⟩:=zri e
 rw[zgp]at hf
 simp only[evalOp,hf]
 exact⟨_,M,m,rfl,e,hm⟩
noncomputable def y_not (x:IVal):SF:=fun _ m k=>qonB x (fun b=>Bool.rec (k (.p (.bool true)) m) (k (.p (.bool false)) m) b) none
theorem zave (x:IVal):y_not x=yv (x_not x):=by
 funext F m k
 cases x with
 |p u =>
  cases u with
  |bool b=>cases b<;>rfl
  |_=>rfl
 |_=>rfl
noncomputable def zai (c a b:IVal):SF:=fun _ m k=>qonB c (fun t=>Bool.rec (k b m) (k a m) t) none
theorem zarh (c a b:IVal):zai c a b=yv (zaxg c a b):=by
 funext F m k
 cases c with
 |p u =>
  cases u with
  |bool t=>cases t<;>rfl
  |_=>rfl
 |_=>rfl
noncomputable def qtwo64 (a b:IVal) (f:Nat→Nat→YR) (e:YR):YR:=qon64 a (fun x=>qon64 b (fun y=>f x y) e) e
theorem zwv {a b:IVal} {f:Nat→Nat→YR} {e:YR} (h:∀x y,a = .p (.int .i64 (.ofNat x))→b = .p (.int .i64 (.ofNat y))→f x y=e):qtwo64 a b f e=e:=by
 have one:∀ {v:IVal} {g:Nat→YR},(∀ x,v = .p (.int .i64 (.ofNat x))→g x=e)→qon64 v g e=e:=by
  intro v g hg
  cases v with
  |p u =>
   cases u with
   |int kd z =>
    cases kd with
    |i64 =>
     cases z with
     |ofNat x=>exact hg x rfl
     |negSucc x=>rfl
    |_=>rfl
   |_=>rfl
  |_=>rfl
 exact one fun x hx=>one fun y hy=>h x y hx hy
noncomputable def y_add (a b:IVal):SF:=fun F m k=>qtwo64 a b (fun x y=>nforce (Nat.add x y) fun n=>Bool.rec (yv (x_add a b) F m k) (k (.p (.int .i64 (.ofNat n))) m) (Nat.ble (Nat.succ n) lim64)) (yv (x_add a b) F m k)
theorem zavf (a b:IVal):y_add a b=yv (x_add a b):=by
 funext F m k
 refine zwv fun x y hx hy=>?_
 subst hx hy
 show(Bool.rec _ (k (.p (.int .i64 (.ofNat (Nat.add x y)))) m) (Nat.ble (Nat.succ (Nat.add x y)) lim64):YR)=_
 cases h:Nat.ble (Nat.succ (Nat.add x y)) lim64 with
 |false=>rfl
 |true =>
  refine(zare (M:=⟨[],[]⟩) ?_).symm
  show(Bool.rec _ (some (.p (.int .i64 (.ofNat (Nat.add x y))),⟨[],[]⟩)) (Nat.ble (Nat.succ (Nat.add x y)) (lim .i64)):XR)=_
  rw[show Nat.ble (Nat.succ (Nat.add x y)) (lim .i64)=true from h]
noncomputable def y_sub (a b:IVal):SF:=fun F m k=>qtwo64 a b (fun x y=>Bool.rec (yv (x_sub a b) F m k) (nforce (Nat.sub x y) fun n=>Bool.rec (yv (x_sub a b) F m k) (k (.p (.int .i64 (.ofNat n))) m) (Nat.ble (Nat.succ n) lim64)) (Nat.ble y x)) (yv (x_sub a b) F m k)
theorem zavg (a b:IVal):y_sub a b=yv (x_sub a b):=by
 funext F m k
 refine zwv fun x y hx hy=>?_
 subst hx hy
 cases h0:Nat.ble y x with
 |false=>rfl
 |true =>
  show(Bool.rec _ (k (.p (.int .i64 (.ofNat (Nat.sub x y)))) m) (Nat.ble (Nat.succ (Nat.sub x y)) lim64):YR)=_
  cases h:Nat.ble (Nat.succ (Nat.sub x y)) lim64 with
  |false=>rfl
  |true =>
   refine(zare (M:=⟨[],[]⟩) ?_).symm
   show(Bool.rec _ (Bool.rec _ (some (.p (.int .i64 (.ofNat (Nat.sub x y))),⟨[],[]⟩)) (Nat.ble (Nat.succ (Nat.sub x y)) (lim .i64)):XR) (Nat.ble y x):XR)=_
   rw[h0,show Nat.ble (Nat.succ (Nat.sub x y)) (lim .i64)=true from h]
noncomputable def kbool (b:Bool) (m:FM) (k:SK):YR:=Bool.rec (k (.p (.bool false)) m) (k (.p (.bool true)) m) b
theorem zavh {b:Bool} {F:FOr} {m:FM} {k:SK} {x:XF} (h:x noC ⟨[],[]⟩=xbool ⟨[],[]⟩ b):kbool b m k=yv x F m k:=by
 unfold yv
 rw[h]
 cases b<;>rfl
noncomputable def ycmp (g:Nat→Nat→Bool) (x:IVal→IVal→XF) (a b:IVal):SF:=fun F m k=>qtwo64 a b (fun p q=>kbool (g p q) m k) (yv (x a b) F m k)
theorem zrl {g:Nat→Nat→Bool} {x:IVal→IVal→XF} (h:∀p q,x (.p (.int .i64 (.ofNat p))) (.p (.int .i64 (.ofNat q))) noC ⟨[],[]⟩=xbool ⟨[],[]⟩ (g p q)) (a b:IVal):ycmp g x a b=yv (x a b):=by
 funext F m k
 refine zwv fun p q hp hq=>?_
 subst hp hq
 exact zavh (h p q)
noncomputable def y_lss:=ycmp (fun a b=>Nat.ble (Nat.succ a) b) x_lss
noncomputable def y_leq:=ycmp (fun a b=>Nat.ble a b) x_leq
noncomputable def y_gtr:=ycmp (fun a b=>Nat.ble (Nat.succ b) a) x_gtr
noncomputable def y_geq:=ycmp (fun a b=>Nat.ble b a) x_geq
noncomputable def y_eql:=ycmp (fun a b=>Nat.beq a b) x_eql
noncomputable def y_neq:=ycmp (fun a b=>gnot (Nat.beq a b)) x_neq
noncomputable def ybin (op:BinOp):IVal→IVal→SF :=
 BinOp.rec (motive:=fun _=>IVal→IVal→SF) y_add y_sub (fun a b=>yv (x_mul a b)) (fun a b=>yv (xgen .quo a b)) (fun a b=>yv (xgen .rem a b)) (fun a b=>yv (x_and a b)) (fun a b=>yv (x_or a b)) (fun a b=>yv (x_xor a b)) (fun a b=>yv (xgen .shl a b)) (fun a b=>yv (xgen .shr a b)) (fun a b=>yv (xgen .andNot a b)) y_eql y_neq y_lss y_leq y_gtr y_geq op
theorem zbbh (op:BinOp) (a b:IVal):ybin op a b=yv (xbin op a b):=by
 cases op with
 |add=>exact zavf a b
 |sub=>exact zavg a b
 |eql=>exact zrl (fun _ _=>rfl) a b
 |neq=>exact zrl (fun _ _=>rfl) a b
 |lss=>exact zrl (fun _ _=>rfl) a b
 |leq=>exact zrl (fun _ _=>rfl) a b
 |gtr=>exact zrl (fun _ _=>rfl) a b
 |geq=>exact zrl (fun _ _=>rfl) a b
 |_=>rfl
end Go.Ideal

/-
  IDEAL SEMANTICS, 72: THE OTHER OPERATIONS OVER THE MEMORY AS A TREE.
-/
namespace Go.Ideal
open Go
set_option linter.unusedSectionVars false
variable [Kept]
section
variable {F:FOr} {C:Oracle}
noncomputable def zgs (z:IVal) (c:KTy) (x key:IVal):SF:=fun _ m k=>Bool.rec none (match x with
 | .map i=>fmap m i fun es clock=>match gfindEnt c key es 0 with
   |some (some (j,v))=>lall (gmodify es j fun e=>(key,e.2.1,e.2.2)) fun es'=>fputK m (.heap i) (.map es' clock) fun m=>nforce (bornAt es j) fun b=>k (.tup [v, .p (.int .i64 (.ofNat b))]) m
   |some none=>lall (lapp es [(key,z,clock)]) fun es=>nforce (clock+1) fun ck=>fputK m (.heap i) (.map es ck) fun m=>k (.tup [z, .p (.int .i64 (.ofNat clock))]) m
   |none=>none
 |_=>none) (gisKey c key)
theorem zajz {z:IVal} {c:KTy} {x key:Opd}:SOK F C (zgs z c (cv x) (cv key)) (.mapEnt z c x key):=fun {m M k r} hm e=>by
 unfold zgs at e
 rw[cv_eq,cv_eq,zei]at e
 simp only[evalOp]
 cases hk:isKey c (noRho key)with
 |false=>rw[hk]at e;cases e
 |true =>
  rw[hk]at e
  dsimp only at e ⊢
  split at e
  ·rename_i i hx
   rw[hx]
   obtain⟨es,ck,h1,h2⟩:=zfy hm e
   simp only[h1]
   rw[zbs]at h2
   cases hf:findEnt c (noRho key) es 0 with
   |none=>rw[hf]at h2;cases h2
   |some q =>
    rw[hf]at h2
    cases q with
    |none =>
     dsimp only at h2
     rw[zan,zbb,zdi]at h2
     obtain⟨m',j1,j2⟩:=zbe hm h1 (x := .map (es++[(noRho key,z,ck)]) (ck+1)) fun m=>k (.tup [z, .p (.int .i64 (.ofNat ck))]) m
     exact⟨_,_,m',rfl,j1.symm.trans h2,j2⟩
    |some p =>
     obtain⟨j,u⟩:=p
     dsimp only at h2
     rw[zan,zdy]at h2
     obtain⟨m',j1,j2⟩:=zbe hm h1 (x := .map (es.modify j fun e=>(noRho key,e.2.1,e.2.2)) ck) fun m=>nforce (bornAt es j) fun b=>k (.tup [u, .p (.int .i64 (.ofNat b))]) m
     exact⟨_,_,m',rfl,by rw[j1,zbb]at h2;exact h2,j2⟩
  ·cases e
noncomputable def zkp (x s v:IVal):SF:=fun _ m k=>Bool.rec none (match x,s with
 | .map i, .p (.int .i64 b)=>fmap m i fun es clock=>match gfindBorn b es 0 with
   |some j=>lall (gmodify es j fun e=>(e.1,v,e.2.2)) fun es=>fputK m (.heap i) (.map es clock) fun m=>k (.tup []) m
   |none=>none
 |_,_=>none) (passB v)
theorem zanv {x s v:Opd}:SOK F C (zkp (cv x) (cv s) (cv v)) (.entSt x s v):=fun {m M k r} hm e=>by
 unfold zkp at e
 rw[cv_eq,cv_eq,cv_eq,zun]at e
 simp only[evalOp]
 cases hp:(noRho v).passOK with
 |false=>rw[hp]at e;cases e
 |true =>
  rw[hp]at e
  dsimp only at e
  split at e
  ·rename_i i b hx hs
   simp only[hx,hs]
   obtain⟨es,ck,h1,h2⟩:=zfy hm e
   simp only[h1]
   rw[zkm]at h2
   cases hf:findBorn b es 0 with
   |none=>rw[hf]at h2;cases h2
   |some j =>
    rw[hf]at h2
    dsimp only at h2
    rw[zan,zdy]at h2
    obtain⟨m',j1,j2⟩:=zbe hm h1 (x := .map (es.modify j fun e=>(e.1,noRho v,e.2.2)) ck) fun m=>k (.tup []) m
    exact⟨_,_,m',rfl,j1.symm.trans h2,j2⟩
  ·cases e
noncomputable def y_del (c:KTy) (x key:IVal):SF:=fun _ m k=>Bool.rec none (match x with
 | .p .nilmap=>k (.tup []) m
 | .map i=>fmap m i fun es clock=>match gfindEnt c key es 0 with
   |some (some (j,_))=>lall (es.eraseIdx j) fun es=>fputK m (.heap i) (.map es clock) fun m=>k (.tup []) m
   |some none=>fputK m (.heap i) (.map es clock) fun m=>k (.tup []) m
   |none=>none
 |_=>none) (gisKey c key)
theorem zavi {c:KTy} {x key:Opd}:SOK F C (y_del c (cv x) (cv key)) (.del c x key):=fun {m M k r} hm e=>by
 unfold y_del at e
 rw[cv_eq,cv_eq,zei]at e
 simp only[evalOp]
 cases hk:isKey c (noRho key)with
 |false=>rw[hk]at e;cases e
 |true =>
  rw[hk]at e
  dsimp only at e ⊢
  split at e
  ·rename_i hx;rw[hx];exact⟨_,M,m,rfl,e,hm⟩
  ·rename_i i hx
   rw[hx]
   obtain⟨es,ck,h1,h2⟩:=zfy hm e
   simp only[h1]
   rw[zbs]at h2
   cases hf:findEnt c (noRho key) es 0 with
   |none=>rw[hf]at h2;cases h2
   |some q =>
    rw[hf]at h2
    cases q with
    |none =>
     obtain⟨m',j1,j2⟩:=zbe hm h1 (x := .map es ck) fun m=>k (.tup []) m
     exact⟨_,_,m',rfl,j1.symm.trans h2,j2⟩
    |some p =>
     obtain⟨j,u⟩:=p
     dsimp only at h2
     rw[zan]at h2
     obtain⟨m',j1,j2⟩:=zbe hm h1 (x := .map (es.eraseIdx j) ck) fun m=>k (.tup []) m
     exact⟨_,_,m',rfl,j1.symm.trans h2,j2⟩
  ·cases e
noncomputable def zrm (x:IVal):SF:=fun _ m k=>match x with
 | .map i=>fmap m i fun es ck=>match es with
   | []=>k (.tup [.p (.bool false), .undef, .undef]) m
   |(a,v,s)::r=>match r with
    | []=>Bool.rec none (k (.tup [.p (.bool true),a,v]) m) (Nat.beq s 0&&Nat.beq ck 1)
    |_=>none
 |_=>none
theorem zanw {x:Opd}:SOK F C (zrm (cv x)) (.first x):=fun {m M k r} hm e=>by
 unfold zrm at e
 rw[cv_eq]at e
 simp only[evalOp]
 split at e
 ·rename_i i hx
  rw[hx]
  obtain⟨es,ck,h1,h2⟩:=zfy hm e
  simp only[h1]
  match es,h2 with
  | [],h2=>exact⟨_,M,m,rfl,h2,hm⟩
  | [(a,v,s)],h2 =>
    dsimp only at h2 ⊢
    cases hb:(Nat.beq s 0&&Nat.beq ck 1)with
    |false=>rw[hb]at h2;cases h2
    |true=>rw[hb]at h2;exact⟨_,M,m,rfl,h2,hm⟩
 ·cases e
noncomputable def zrn (x:IVal):SF:=fun _ m k=>match x with
 | .map i=>fmap m i fun es ck=>match es with
   | []=>none
   |(_,_,s)::r=>match r with
    | []=>Bool.rec none (k (.tup []) m) (Nat.beq s 0&&Nat.beq ck 1)
    |_=>none
 |_=>none
theorem zanx {x:Opd}:SOK F C (zrn (cv x)) (.still x):=fun {m M k r} hm e=>by
 unfold zrn at e
 rw[cv_eq]at e
 simp only[evalOp]
 split at e
 ·rename_i i hx
  rw[hx]
  obtain⟨es,ck,h1,h2⟩:=zfy hm e
  simp only[h1]
  match es,h2 with
  | [(a,v,s)],h2 =>
    dsimp only at h2 ⊢
    cases hb:(Nat.beq s 0&&Nat.beq ck 1)with
    |false=>rw[hb]at h2;cases h2
    |true=>rw[hb]at h2;exact⟨_,M,m,rfl,h2,hm⟩
 ·cases e
noncomputable def zagw (es:Nat) (x y:IVal):SF:=fun _ m k=>match x,gsrcLen y with
 | .slice i ver off n,some ny=>ysrc m es (takeVal es (min ny n) y) fun ys _=>Bool.rec (ywrite m (.ptr (.heap i) ver off) ys fun m=>nforce (min ny n) fun q=>k (.p (.int .i64 (.ofNat q))) m) (k (.p (.int .i64 (.ofNat 0))) m) (Nat.beq (min ny n) 0)
 |_,_=>none
theorem zari {es:Nat} {x y:Opd}:SOK F C (zagw es (cv x) (cv y)) (.copy es x y):=fun {m M k r} hm e=>by
 unfold zagw at e
 rw[cv_eq,cv_eq,zlx]at e
 simp only[evalOp,evalCopy]
 split at e
 ·rename_i i ver off n ny hx hy
  simp only[hx,hy]
  obtain⟨ys,q,g1,_,g2⟩:=zagu hm e
  simp only[g1]
  cases hb:Nat.beq (min ny n) 0 with
  |true=>rw[hb]at g2;exact⟨_,M,m,rfl,g2,hm⟩
  |false =>
   rw[hb]at g2
   obtain⟨M',m',h1,h2,h3⟩:=zny hm (show ywrite m _ ys _=some r from g2)
   rw[zbb]at h2
   exact⟨_,M',m',by simp only[h1];rfl,h2,h3⟩
 ·cases e
noncomputable def zadh (z:List PVal) (x:IVal):SF:=fun _ m k=>match x with
 | .p .nilslice=>k (.tup []) m
 | .slice i ver off n=>Bool.rec (lall (grepl n z) fun ys=>ywrite m (.ptr (.heap i) ver off) ys fun m=>k (.tup []) m) (k (.tup []) m) (Nat.beq n 0)
 |_=>none
theorem zany {z:List PVal} {x:Opd}:SOK F C (zadh z (cv x)) (.clear z x):=fun {m M k r} hm e=>by
 unfold zadh at e
 rw[cv_eq]at e
 simp only[evalOp]
 split at e
 ·rename_i hx;rw[hx];exact⟨_,M,m,rfl,e,hm⟩
 ·rename_i i ver off n hx
  rw[hx]
  dsimp only
  cases hb:Nat.beq n 0 with
  |true=>rw[hb]at e;exact⟨_,M,m,rfl,e,hm⟩
  |false =>
   rw[hb]at e
   dsimp only at e ⊢
   rw[zan,zgr]at e
   obtain⟨M',m',h1,h2,h3⟩:=zny hm e
   exact⟨_,M',m',by simp only[h1],h2,h3⟩
 ·cases e
noncomputable def zami (es:Nat) (x h mx:IVal):SF:=fun _ m k=>match x with
 | .p .nilslice=>match gbnd 0 mx,gbnd 0 h with
   |some _,some _=>k (.p .nilslice) m
   |_,_=>none
 | .slice i v o n=>match gbnd n mx with
   |some a=>match gbnd a h with
    |some b=>fcells m (.heap i) fun _ e w _=>Bool.rec none (k (.clip i v o b) m) (Nat.beq b a&&(Nat.beq e es&&Nat.beq v w))
    |none=>none
   |none=>none
 |_=>none
theorem zarj {es:Nat} {x h mx:Opd}:SOK F C (zami es (cv x) (cv h) (cv mx)) (.clip es x h mx):=fun {m M k r} hm e=>by
 unfold zami at e
 rw[cv_eq,cv_eq,cv_eq]at e
 simp only[evalOp]
 split at e
 ·rename_i hx
  rw[hx]
  rw[zha,zha]at e
  dsimp only
  split at e
  ·rename_i h1 h2
   simp only[h1,h2]
   exact⟨_,M,m,rfl,e,hm⟩
  ·cases e
 ·rename_i i v o n hx
  rw[hx]
  rw[zha]at e
  dsimp only
  split at e
  ·rename_i a h1
   rw[zha]at e
   simp only[h1]
   split at e
   ·rename_i b h2
    simp only[h2]
    obtain⟨cs,e',w,op,g1,g2⟩:=zbt hm e
    simp only[g1]
    cases hb:(Nat.beq b a&&(Nat.beq e' es&&Nat.beq v w))with
    |false=>rw[hb]at g2;cases g2
    |true=>rw[hb]at g2;exact⟨_,M,m,rfl,g2,hm⟩
   ·cases e
  ·cases e
 ·cases e
noncomputable def zad (f:IVal) (l:List IVal):SF:=fun F m k=>Bool.rec none (fopen m fun b t n mm=>FW.rec (motive:=fun _=>YR) (fun g=>F g l ⟨t,n,mm⟩ fun v h=>k v ⟨b,h⟩) (fun g cap=>lall (lapp l cap) fun l=>F g l ⟨t,n,mm⟩ fun v h=>k v ⟨b,h⟩) none (toFW f)) (passesB l)
theorem zark {f:Opd} {l:List Opd} (hF:FLe F C):SOK F C (zad (cv f) (cvs l)) (.call f l):=fun {m M k r} hm e=>by
 obtain⟨b,t,n,mm⟩:=m
 unfold zad at e
 rw[zlz,cv_eq,zaqx]at e
 simp only[evalOp]
 cases hp:passesOK (l.map noRho)with
 |false=>rw[hp]at e;cases e
 |true =>
  rw[hp]at e
  have key:∀g az,(F g az ⟨t,n,mm⟩ fun v h=>k v ⟨b,h⟩)=some r→∃v H m',C g az M.heap=some (v,H)∧k v m'=some r∧RM m' { M with heap:=H }:=by
   intro g az e
   obtain⟨v,h,H,h1,h2,h3⟩:=hF _ _ _ _ _ _ hm.h e
   exact⟨v,H,_,h1,h3,hm.bx,h2⟩
  have e:(FW.rec (motive:=fun _=>YR) (fun g=>F g (l.map noRho) ⟨t,n,mm⟩ fun v h=>k v ⟨b,h⟩) (fun g cap=>lall (lapp (l.map noRho) cap) fun l=>F g l ⟨t,n,mm⟩ fun v h=>k v ⟨b,h⟩) none (toFW (noRho f)):YR)=some r:=e
  dsimp only
  cases hv:noRho f with
  |p u =>
   rw[hv]at e
   cases u with
   |func g =>
    obtain⟨v,H,m',g1,g2,g3⟩:=key g _ e
    exact⟨v,_,m',by simp only[g1],g2,g3⟩
   |_=>cases e
  |func g cap =>
   rw[hv]at e
   have e:lall (lapp (l.map noRho) cap) (fun l=>F g l ⟨t,n,mm⟩ fun v h=>k v ⟨b,h⟩)=some r:=e
   rw[zan,zdi]at e
   obtain⟨v,H,m',g1,g2,g3⟩:=key g _ e
   exact⟨v,_,m',by simp only[g1],g2,g3⟩
  |_=>rw[hv]at e;cases e
noncomputable def yop (o:IOp):SF :=
 IOp.rec (motive:=fun _=>SF) (fun x=>yv (x_mov (cv x))) (fun c a b=>zai (cv c) (cv a) (cv b)) zah (fun s n x=>y_box s n (cv x)) (fun z p=>zak z (cvp p)) (fun e n z p=>zag e n z (cvp p)) (fun n a=>zab n (cv a)) (fun n a x=>zae n (cv a) (cv x))
  (fun x=>y_nil (cv x)) (fun o x=>zaa o (cv x)) (fun e x i=>zac e (cv x) (cv i)) (fun l e x i=>zaj l e (cv x) (cv i)) (fun n o x=>zarg n o (cv x)) (fun l e n x i=>yv (zacz l e n (cv x) (cv i))) (fun x i=>yv (zuo (cv x) (cv i))) (fun x a b=>yv (zma (cv x) (cvo a) (cvo b))) (fun e x a b=>zfz e (cv x) (cvo a) (cvo b))
  (fun o x y=>ybin o (cv x) (cv y)) (fun n c x y=>yv (x_eqv n c x y)) (fun n x y=>yv (zhc n x y)) (fun n x y=>yv (zarb n x y)) (fun x=>y_not (cv x)) (fun x=>yv (x_neg x)) (fun d x=>yv (zfx d (cv x))) (fun x i=>zaf (cv x) i)
  (fun f c=>yv (zcu f c)) (fun x=>y_len (cv x)) (fun x=>yv (zdk (cv x))) (fun e x y=>zam e (cv x) (cv y)) (fun l=>yv (zabe l)) (fun l=>yv (zamf l)) zbw
  (fun ok z c x k=>zaq ok z c (cv x) (cv k)) (fun c x k v=>zbl c (cv x) (cv k) (cv v)) (fun e z n c=>zco e z (cv n) (cv c)) (fun f l=>zad (cv f) (cvs l)) zup
  (fun z c x k=>zgs z c (cv x) (cv k)) (fun x s v=>zkp (cv x) (cv s) (cv v)) (fun l e x a b=>zmb l e (cv x) (cvo a) (cvo b)) (fun e x y=>zagw e (cv x) (cv y)) (fun e x h m=>zami e (cv x) (cv h) (cv m)) (fun z x=>zadh z (cv x)) (fun c x k=>y_del c (cv x) (cv k)) (fun x=>zrm (cv x)) (fun n=>yv (zpl n)) (fun x=>zrn (cv x)) o
theorem zarl (hF:FLe F C):∀o:IOp,SOK F C (yop o) o:=fun o=>by
 have hx:∀o C M,xop o C M=evalOp C noRho M o:=zaxh
 cases o with
 |alloc s z=>exact fun {_ _ _ _} hm q=>zanq (F:=F) (C:=C) hm q
 |box s n x=>exact fun {_ _ _ _} hm q=>zavb (F:=F) (C:=C) hm q
 |buildSlice e n z p=>exact fun {_ _ _ _} hm q=>zwu (F:=F) (C:=C) hm q
 |load n a=>exact fun {_ _ _ _} hm q=>zard (F:=F) (C:=C) hm q
 |store n a x=>exact fun {_ _ _ _} hm q=>zanr (F:=F) (C:=C) hm q
 |sliceSl e x a b=>exact fun {_ _ _ _} hm q=>zagt (F:=F) (C:=C) hm q
 |append e x y=>exact fun {_ _ _ _} hm q=>zajv (F:=F) (C:=C) hm q
 |mkMap=>exact fun {_ _ _ _} hm q=>zans (F:=F) (C:=C) hm q
 |lookup ok z c x k=>exact fun {_ _ _ _} hm q=>zajw (F:=F) (C:=C) hm q
 |mapUpd c x k v=>exact fun {_ _ _ _} hm q=>zajx (F:=F) (C:=C) hm q
 |mkSlice e z n c=>exact fun {_ _ _ _} hm q=>zags (F:=F) (C:=C) hm q
 |call f l=>exact fun {_ _ _ _} hm q=>zark hF hm q
 |allocA z e=>exact fun {_ _ _ _} hm q=>zajt (F:=F) (C:=C) hm q
 |mapEnt z c x k=>exact fun {_ _ _ _} hm q=>zajz (F:=F) (C:=C) hm q
 |entSt x s v=>exact fun {_ _ _ _} hm q=>zanv (F:=F) (C:=C) hm q
 |sliceArr l e x a b=>exact fun {_ _ _ _} hm q=>zade (F:=F) (C:=C) hm q
 |copy e x y=>exact fun {_ _ _ _} hm q=>zari (F:=F) (C:=C) hm q
 |clip e x h m=>exact fun {_ _ _ _} hm q=>zarj (F:=F) (C:=C) hm q
 |clear z x=>exact fun {_ _ _ _} hm q=>zany (F:=F) (C:=C) hm q
 |del c x k=>exact fun {_ _ _ _} hm q=>zavi (F:=F) (C:=C) hm q
 |first x=>exact fun {_ _ _ _} hm q=>zanw (F:=F) (C:=C) hm q
 |still x=>exact fun {_ _ _ _} hm q=>zanx (F:=F) (C:=C) hm q
 |mov x=>exact fun {_ _ _ _} hm q=>(yv_ok (F:=F) (C:=C) (hx _) fun M=>rfl) hm q
 |pick c a b=>rw[show yop (.pick c a b)=_ from zarh _ _ _];exact fun {_ _ _ _} hm q=>(yv_ok (F:=F) (C:=C) (hx (.pick c a b)) fun M=>by simp only[evalOp];split<;>rfl) hm q
 |build z p=>exact fun {_ _ _ _} hm q=>zanu (F:=F) (C:=C) hm q
 |nilCheck x=>rw[show yop (.nilCheck x)=_ from zavc _];exact fun {_ _ _ _} hm q=>(yv_ok (F:=F) (C:=C) (hx (.nilCheck x)) fun M=>by simp only[evalOp];split<;>rfl) hm q
 |fieldAddr o x=>rw[show yop (.fieldAddr o x)=_ from zza _ _];exact fun {_ _ _ _} hm q=>(yv_ok (F:=F) (C:=C) (hx (.fieldAddr o x)) fun M=>by simp only[evalOp];split<;>first|rfl|(split<;>rfl)) hm q
 |idxSlice e x i=>rw[show yop (.idxSlice e x i)=_ from zadg _ _ _];exact fun {_ _ _ _} hm q=>(yv_ok (F:=F) (C:=C) (hx (.idxSlice e x i)) fun M=>by simp only[evalOp];split<;>first|rfl|(split<;>rfl)) hm q
 |idxArr l e x i=>rw[show yop (.idxArr l e x i)=_ from zajy _ _ _ _];exact fun {_ _ _ _} hm q=>(yv_ok (F:=F) (C:=C) (hx (.idxArr l e x i)) fun M=>by simp only[evalOp];split<;>first|rfl|(split<;>first|rfl|(split<;>rfl))) hm q
 |field n o x=>rw[show yop (.field n o x)=_ from zant _ _ _];exact fun {_ _ _ _} hm q=>(yv_ok (F:=F) (C:=C) (hx (.field n o x)) fun M=>by simp only[evalOp];split<;>first|rfl|(split<;>first|rfl|(split<;>rfl))) hm q
 |idxVal l e n x i=>exact fun {_ _ _ _} hm q=>(yv_ok (F:=F) (C:=C) (hx (.idxVal l e n x i)) fun M=>by simp only[evalOp];split<;>first|rfl|(split<;>first|rfl|(split<;>rfl))) hm q
 |idxStr x i=>exact fun {_ _ _ _} hm q=>(yv_ok (F:=F) (C:=C) (hx (.idxStr x i)) fun M=>by simp only[evalOp];split<;>first|rfl|(split<;>first|rfl|(split<;>rfl))) hm q
 |sliceStr x a b=>exact fun {_ _ _ _} hm q=>(yv_ok (F:=F) (C:=C) (hx (.sliceStr x a b)) fun M=>by simp only[evalOp];split<;>first|rfl|(split<;>first|rfl|(split<;>rfl))) hm q
 |bin o x y=>rw[show yop (.bin o x y)=_ from zbbh _ _ _];exact fun {_ _ _ _} hm q=>(yv_ok (F:=F) (C:=C) (hx (.bin o x y)) fun M=>by simp only[evalOp];split<;>rfl) hm q
 |eqv n c x y=>exact fun {_ _ _ _} hm q=>(yv_ok (F:=F) (C:=C) (hx (.eqv n c x y)) fun M=>by simp only[evalOp];cases eqVals c (noRho x) (noRho y)<;>rfl) hm q
 |eqPtr n x y=>exact fun {_ _ _ _} hm q=>(yv_ok (F:=F) (C:=C) (hx (.eqPtr n x y)) fun M=>by simp only[evalOp];cases evalNilPtr (noRho x) (noRho y)<;>rfl) hm q
 |eqSl n x y=>exact fun {_ _ _ _} hm q=>(yv_ok (F:=F) (C:=C) (hx (.eqSl n x y)) fun M=>by simp only[evalOp];cases evalNilSl (noRho x) (noRho y)<;>rfl) hm q
 |not x=>rw[show yop (.not x)=_ from zave _];exact fun {_ _ _ _} hm q=>(yv_ok (F:=F) (C:=C) (hx (.not x)) fun M=>by simp only[evalOp];split<;>rfl) hm q
 |neg x=>exact fun {_ _ _ _} hm q=>(yv_ok (F:=F) (C:=C) (hx (.neg x)) fun M=>by simp only[evalOp];split<;>rfl) hm q
 |conv d x=>exact fun {_ _ _ _} hm q=>(yv_ok (F:=F) (C:=C) (hx (.conv d x)) fun M=>by simp only[evalOp];split<;>rfl) hm q
 |extract x i=>rw[show yop (.extract x i)=_ from zagv _ _];exact fun {_ _ _ _} hm q=>(yv_ok (F:=F) (C:=C) (hx (.extract x i)) fun M=>by simp only[evalOp];split<;>first|rfl|(split<;>rfl)) hm q
 |mkFunc f c=>exact fun {_ _ _ _} hm q=>(yv_ok (F:=F) (C:=C) (hx (.mkFunc f c)) fun M=>by simp only[evalOp];split<;>rfl) hm q
 |len x=>rw[show yop (.len x)=_ from zavd _];exact fun {_ _ _ _} hm q=>(yv_ok (F:=F) (C:=C) (hx (.len x)) fun M=>by simp only[evalOp];split<;>rfl) hm q
 |lenStr x=>exact fun {_ _ _ _} hm q=>(yv_ok (F:=F) (C:=C) (hx (.lenStr x)) fun M=>by simp only[evalOp];split<;>rfl) hm q
 |maxi l=>exact fun {_ _ _ _} hm q=>(yv_ok (F:=F) (C:=C) (hx (.maxi l)) fun M=>by simp only[evalOp];split<;>first|rfl|(split<;>rfl)) hm q
 |mini l=>exact fun {_ _ _ _} hm q=>(yv_ok (F:=F) (C:=C) (hx (.mini l)) fun M=>by simp only[evalOp];split<;>first|rfl|(split<;>rfl)) hm q
 |second n=>exact fun {_ _ _ _} hm q=>(yv_ok (F:=F) (C:=C) (hx (.second n)) fun M=>by simp only[evalOp];split<;>rfl) hm q
end
end Go.Ideal

/-
  IDEAL SEMANTICS, 54: CODE WHOSE SLOTS ARE LEAN's OWN VARIABLES: for the kernel. 'hcode' makes it out of the ideal code; whatever it comes to, the ideal code comes to.
-/
namespace Go.Ideal
open Go
set_option linter.unusedSectionVars false
inductive HC (α:Type) where
 |op (o:α) (k:IVal→HC α)
 |opg (g:IVal) (w:Bool) (o:α) (k:IVal→HC α)
 |chk (o:IOp) (v:IVal) (k:HC α)
 |chkg (g:IVal) (w:Bool) (o:IOp) (v:IVal) (k:HC α)
 |cond (v:IVal) (a b:HC α)
 |block (id:Nat) (b:HC α) (k:List IVal→HC α)
 |loop (vs:List IVal) (b:List IVal→HC α)
 |fin (x:IExit) (vs:List IVal)
 |fresh (l:List Nat) (vs:List IVal) (k:HC α)
 |both (a b:HC α) (k:List IVal→HC α)
 |stuck
abbrev HR:=Option (IExit×List IVal×Mem)
noncomputable def hfree (s:Nat) (vs:List IVal):Bool:=List.rec (motive:=fun _=>Bool) true (fun v _ ih=>match v with | .ptr (.box t) _ _=>Bool.rec ih false (Nat.beq s t)|_=>ih) vs
noncomputable def hfresh (vs:List IVal) (l:List Nat) (M:Mem) (k:Mem→HR):HR :=
 List.rec (motive:=fun _=>Mem→HR) k (fun s _ ih M=>Option.rec (motive:=fun _=>HR) (ih M) (fun _=>Bool.rec none (ih ⟨dropBox M.boxes s,M.heap⟩) (hfree s vs)) (gfindBox M.boxes s)) l M
noncomputable def hloop (b:List IVal→Mem→HR) (n:Nat):List IVal→Mem→HR :=
 Nat.rec (motive:=fun _=>List IVal→Mem→HR) (fun _ _=>none) (fun _ ih vs M=>Option.rec (motive:=fun _=>HR) none (fun r=>match r with|(x,vs,M)=>IExit.rec (motive:=fun _=>HR) (ih vs M) (fun i=>some (.exit i,vs,M)) (some (.ret,vs,M)) x) (b vs M)) n
noncomputable def hput (k:IVal→Mem→HR) (r:Option (IVal×Mem)):HR :=
 Option.rec (motive:=fun _=>HR) none (fun p=>Prod.rec (fun v M=>k v M) p) r
noncomputable def hchk (C:Oracle) (M:Mem) (o:IOp) (v:IVal):Bool :=
 Bool.rec (motive:=fun _=>Bool) (Option.rec (motive:=fun _=>Bool) false (fun p=>IVal.beq p.1 v) (evalOpG o C noRho M))
  (match contentOf noRho o,keyOf v with
   |some b,some k=>match gget M k with
    |some c=>IBlk.beq b c
    |none=>false
   |_,_=>false) (isAlloc o)
noncomputable def hrun (C:Oracle) (L:Nat) (c:HC XF):Mem→HR :=
 HC.rec (motive:=fun _=>Mem→HR)
  (fun f _ ih M=>hput ih (f C M))
  (fun g w f _ ih M=>Option.rec (motive:=fun _=>HR) none (fun t=>Bool.rec (ih skipped M) (hput ih (f C M)) t) (saysBool w g))
  (fun f v _ ih M=>Bool.rec none (ih M) (hchk C M f v))
  (fun g w f v _ ih M=>Option.rec (motive:=fun _=>HR) none (fun t=>Bool.rec (ih M) (Bool.rec none (ih M) (hchk C M f v)) t) (saysBool w g))
  (fun v _ _ a b M=>Option.rec (motive:=fun _=>HR) none (fun t=>Bool.rec (b M) (a M) t) (fbool v))
  (fun id _ _ b k M=>Option.rec (motive:=fun _=>HR) none (fun r=>match r with|(x,vs,M)=>IExit.rec (motive:=fun _=>HR) (k vs M) (fun i=>Bool.rec (some (.exit i,vs,M)) (k vs M) (Nat.beq i id)) (some (.ret,vs,M)) x) (b M))
  (fun vs _ b M=>hloop b L vs M)
  (fun x vs M=>some (x,vs,M))
  (fun l vs _ ih M=>hfresh vs l M ih)
  (fun _ _ _ a b k M=>match a M,b M with|some (.normal,vs,M1),some (.normal,ws,M2)=>Bool.rec none (k vs M1) (IVal.beqs vs ws&&(boxesBeq M1.boxes M2.boxes&&heapBeq M1.heap M2.heap))|_,_=>none)
  (fun _=>none) c
abbrev SE:=List (Nat×IVal)
def sfind:SE→Nat→Option IVal
 | [],_=>none
 |(s,v)::r,t=>match Nat.beq s t with|true=>some v|false=>sfind r t
def sopd (E:SE):Opd→Option Opd
 | .tmp t=>match sfind E t with|some v=>some (.const v)|none=>none
 |o=>some o
def sopds (E:SE):List Opd→Option (List Opd)
 | []=>some []
 |x::r=>match sopd E x,sopds E r with
  |some y,some l=>some (y::l)
  |_,_=>none
def sopt (E:SE):Option Opd→Option (Option Opd)
 |none=>some none
 |some x=>match sopd E x with|some y=>some (some y)|none=>none
def sparts (E:SE):List (Nat×Nat×Opd)→Option (List (Nat×Nat×Opd))
 | []=>some []
 |(a,b,x)::r=>match sopd E x,sparts E r with
  |some y,some l=>some ((a,b,y)::l)
  |_,_=>none
def sop (E:SE):IOp→Option IOp
 | .mov x=>(sopd E x).map .mov
 | .pick c a b=>match sopd E c,sopd E a,sopd E b with|some c,some a,some b=>some (.pick c a b)|_,_,_=>none
 | .alloc s z=>some (.alloc s z)
 | .box s n x=>(sopd E x).map (.box s n)
 | .build z p=>(sparts E p).map (.build z)
 | .buildSlice e n z p=>(sparts E p).map (.buildSlice e n z)
 | .load n a=>(sopd E a).map (.load n)
 | .store n a x=>match sopd E a,sopd E x with|some a,some x=>some (.store n a x)|_,_=>none
 | .nilCheck x=>(sopd E x).map .nilCheck
 | .fieldAddr o x=>(sopd E x).map (.fieldAddr o)
 | .idxSlice e x i=>match sopd E x,sopd E i with|some x,some i=>some (.idxSlice e x i)|_,_=>none
 | .idxArr l e x i=>match sopd E x,sopd E i with|some x,some i=>some (.idxArr l e x i)|_,_=>none
 | .field n o x=>(sopd E x).map (.field n o)
 | .idxVal l e n x i=>match sopd E x,sopd E i with|some x,some i=>some (.idxVal l e n x i)|_,_=>none
 | .idxStr x i=>match sopd E x,sopd E i with|some x,some i=>some (.idxStr x i)|_,_=>none
 | .sliceStr x a b=>match sopd E x,sopt E a,sopt E b with|some x,some a,some b=>some (.sliceStr x a b)|_,_,_=>none
 | .sliceSl e x a b=>match sopd E x,sopt E a,sopt E b with|some x,some a,some b=>some (.sliceSl e x a b)|_,_,_=>none
 | .bin o x y=>match sopd E x,sopd E y with|some x,some y=>some (.bin o x y)|_,_=>none
 | .eqv n c x y=>match sopd E x,sopd E y with|some x,some y=>some (.eqv n c x y)|_,_=>none
 | .eqPtr n x y=>match sopd E x,sopd E y with|some x,some y=>some (.eqPtr n x y)|_,_=>none
 | .eqSl n x y=>match sopd E x,sopd E y with|some x,some y=>some (.eqSl n x y)|_,_=>none
 | .not x=>(sopd E x).map .not
 | .neg x=>(sopd E x).map .neg
 | .conv d x=>(sopd E x).map (.conv d)
 | .extract x i=>(sopd E x).map (.extract · i)
 | .mkFunc f cap=>(sopds E cap).map (.mkFunc f)
 | .len x=>(sopd E x).map .len
 | .lenStr x=>(sopd E x).map .lenStr
 | .append e x y=>match sopd E x,sopd E y with|some x,some y=>some (.append e x y)|_,_=>none
 | .maxi xs=>(sopds E xs).map .maxi
 | .mini xs=>(sopds E xs).map .mini
 | .mkMap=>some .mkMap
 | .lookup ok z c x k=>match sopd E x,sopd E k with|some x,some k=>some (.lookup ok z c x k)|_,_=>none
 | .mapUpd c x k v=>match sopd E x,sopd E k,sopd E v with|some x,some k,some v=>some (.mapUpd c x k v)|_,_,_=>none
 | .mkSlice e z n c=>match sopd E n,sopd E c with|some n,some c=>some (.mkSlice e z n c)|_,_=>none
 | .call f az=>match sopd E f,sopds E az with|some f,some l=>some (.call f l)|_,_=>none
 | .allocA z e=>some (.allocA z e)
 | .mapEnt z c x k=>match sopd E x,sopd E k with|some x,some k=>some (.mapEnt z c x k)|_,_=>none
 | .entSt x s v=>match sopd E x,sopd E s,sopd E v with|some x,some s,some v=>some (.entSt x s v)|_,_,_=>none
 | .sliceArr l e x a b=>match sopd E x,sopt E a,sopt E b with|some x,some a,some b=>some (.sliceArr l e x a b)|_,_,_=>none
 | .copy e x y=>match sopd E x,sopd E y with|some x,some y=>some (.copy e x y)|_,_=>none
 | .clip e x h m=>match sopd E x,sopd E h,sopd E m with|some x,some h,some m=>some (.clip e x h m)|_,_,_=>none
 | .clear z x=>(sopd E x).map (.clear z)
 | .del c x k=>match sopd E x,sopd E k with|some x,some k=>some (.del c x k)|_,_=>none
 | .first x=>(sopd E x).map .first
 | .second n=>(sopd E n).map .second
 | .still x=>(sopd E x).map .still
def RelSS (E:SE) (ρ:Opd→IVal):Prop:=∀t v,sfind E t=some v→ρ (.tmp t)=v
structure Rho (ρ:Opd→IVal):Prop where
 const:∀v,ρ (.const v)=v
 func:∀f,ρ (.func f) = .p (.func f)
theorem zro (T R:List IVal) (sub:List (Nat×Nat)):Rho (evalOpd T R sub):=⟨fun _=>rfl,fun _=>rfl⟩
section
variable {E:SE} {ρ:Opd→IVal}
theorem zck (hρ:Rho ρ) (h:RelSS E ρ) {x y:Opd} (e:sopd E x=some y):ρ x=noRho y:=by
 cases x with
 |tmp t =>
  simp only[sopd]at e
  split at e
  ·rename_i v hv
   injection e with e
   subst e
   exact h t v hv
  ·cases e
 |const v=>injection e with e;subst e;exact hρ.const v
 |func f=>injection e with e;subst e;exact hρ.func f
theorem zadi (hρ:Rho ρ) (h:RelSS E ρ):∀ {l m:List Opd},sopds E l=some m→l.map ρ=m.map noRho
 | [],m,e=>by injection e with e;subst e;rfl
 |x::r,m,e=>by
  simp only[sopds]at e
  split at e
  ·rename_i y l h1 h2
   injection e with e
   subst e
   simp only[List.map_cons]
   rw[zck hρ h h1,zadi hρ h h2]
  ·cases e
theorem zbbi (hρ:Rho ρ) (h:RelSS E ρ) {a b:Option Opd} (e:sopt E a=some b) (n:Nat):boundLo ρ n a=boundLo noRho n b:=by
 cases a with
 |none=>injection e with e;subst e;rfl
 |some x =>
  simp only[sopt]at e
  split at e
  ·rename_i y hy
   injection e with e
   subst e
   simp only[boundLo,zck hρ h hy]
  ·cases e
theorem zbbj (hρ:Rho ρ) (h:RelSS E ρ) {a b:Option Opd} (e:sopt E a=some b) (n:Nat):boundHi ρ n a=boundHi noRho n b:=by
 cases a with
 |none=>injection e with e;subst e;rfl
 |some x =>
  simp only[sopt]at e
  split at e
  ·rename_i y hy
   injection e with e
   subst e
   simp only[boundHi,zck hρ h hy]
  ·cases e
theorem zww (hρ:Rho ρ) (h:RelSS E ρ):∀ {l m:List (Nat×Nat×Opd)} (c:List IVal),sparts E l=some m→fillParts ρ c l=fillParts noRho c m
 | [],m,c,e=>by injection e with e;subst e;rfl
 |(a,b,x)::r,m,c,e=>by
  simp only[sparts]at e
  split at e
  ·rename_i y l h1 h2
   injection e with e
   subst e
   rw[fillParts,fillParts,zck hρ h h1]
   cases(noRho y).cellsOf with
   |none=>rfl
   |some new=>simp only[zww hρ h _ h2]
  ·cases e
theorem zaxj (hρ:Rho ρ) (h:RelSS E ρ) {o o':IOp} (e:sop E o=some o') (C:Oracle) (M:Mem):evalOp C ρ M o=evalOp C noRho M o':=by
 have hn:Rho noRho:=zro [] [] []
 cases o<;>simp only[sop,Option.map_eq_some_iff]at e
 all_goals first
  |(injection e with e;subst e;rfl)
  |(obtain⟨y,h1,rfl⟩:=e;simp only[evalOp,zck hρ h h1];done)
  |(obtain⟨y,h1,rfl⟩:=e;simp only[evalOp,zww hρ h _ h1];done)
  |(obtain⟨y,h1,rfl⟩:=e;simp only[evalOp,zadi hρ h h1];done)
  |(split at e<;>first|(cases e;done)|(injection e with e;subst e;rename_i h1 h2;simp only[evalOp,zck hρ h h1,zck hρ h h2];done)|(injection e with e;subst e;rename_i h1 h2;simp only[evalOp,zck hρ h h1,zadi hρ h h2];done)|(injection e with e;subst e;rename_i h1 h2 h3;simp only[evalOp,zck hρ h h1,zck hρ h h2,zck hρ h h3];done)|(injection e with e;subst e;rename_i h1 h2 h3;simp only[evalOp,zck hρ h h1,zbbi hρ h h2,zbbj hρ h h3];done))
theorem zaka (hρ:Rho ρ) (h:RelSS E ρ) {o o':IOp} (e:sop E o=some o'):isAlloc o'=isAlloc o∧contentOf ρ o=contentOf noRho o':=by
 cases o<;>simp only[sop,Option.map_eq_some_iff]at e
 all_goals first
  |(injection e with e;subst e;exact⟨rfl,rfl⟩)
  |(obtain⟨y,h1,rfl⟩:=e;exact⟨rfl,rfl⟩)
  |(obtain⟨y,h1,rfl⟩:=e;refine⟨rfl,?_⟩;simp only[contentOf,zck hρ h h1];done)
  |(obtain⟨y,h1,rfl⟩:=e;refine⟨rfl,?_⟩;simp only[contentOf,zww hρ h _ h1];done)
  |(split at e<;>first|(cases e;done)|(injection e with e;subst e;exact⟨rfl,rfl⟩)|(injection e with e;subst e;rename_i h1 h2;refine⟨rfl,?_⟩;simp only[contentOf,zck hρ h h2];done))
end
end Go.Ideal

/-
  IDEAL SEMANTICS, 55: THE IDEAL CODE AS CODE OVER LEAN's OWN VARIABLES, and that it comes to the same.
-/
namespace Go.Ideal
open Go
set_option linter.unusedSectionVars false
inductive An where
 |lf
 |sq (a b:An)
 |cd (l:List Nat) (a b:An)
 |cj (a b:An)
 |bk (l:List Nat) (a:An)
 |lp (l:List Nat) (a:An)
section
variable {α:Type} (mk:IOp→α)
def vecS (E:SE):List Nat→Option (List IVal)
 | []=>some []
 |t::l=>match sfind E t,vecS E l with
  |some v,some vs=>some (v::vs)
  |_,_=>none
def hfin (x:IExit) (l:List Nat) (E:SE):HC α:=match vecS E l with|some vs=>.fin x vs|none=>.stuck
def zipSS:List Nat→List IVal→SE
 |t::l,v::vs=>(t,v)::zipSS l vs
 |_,_=>[]
def allIn (m:List Bool):List Nat→Bool
 | []=>true
 |t::l=>match m[t]? with|some true=>allIn m l|_=>false
def mkOK (m:List Bool) (l:List Nat):Bool:=match m with|[]=>true|m=>allIn m l
def sdel (d:Nat):SE→SE
 | []=>[]
 |(s,v)::r=>match Nat.beq s d with|true=>sdel d r|false=>(s,v)::sdel d r
def sput (E:SE) (d:Option Nat) (v:IVal):SE:=match d with|some d=>(d,v)::sdel d E|none=>E
def svals:SE→List IVal
 | []=>[]
 |(_,v)::r=>v::svals r
def dstOK (nt:Nat) (d:Option Nat):Bool:=match d with|some d=>Nat.blt d nt|none=>true
def xv (g:IVal→List IVal→HC α) (vs:List IVal):HC α:=List.casesOn (motive:=fun _=>HC α) vs .stuck fun v r=>g v r
def x0 (c:HC α) (_:List IVal):HC α:=c
def lamV:Nat→(List IVal→HC α)→List IVal→HC α
 |0,f=>x0 (f [])
 |n+1,f=>xv fun v=>lamV n fun l=>f (v::l)
def hop (E:SE) (o:IOp) (g:Option (Nat×Bool)) (k:IVal→HC α):HC α :=
 match sop E o with
 |none=>.stuck
 |some o=>match g with
  |none=>match o with
   | .mov (.const v)=>k v
   |o=>.op (mk o) k
  |some (x,w)=>match sfind E x with
   |some v=>.opg v w (mk o) k
   |none=>.stuck
def hreg (nt:Nat) (kont:SE→HC α):List IOper→SE→HC α
 | [],E=>kont E
 |o::r,E=>match dstOK nt o.dst with
  |true=>hop mk E o.op o.guard fun v=>hreg nt kont r (sput E o.dst v)
  |false=>.stuck
def hfreshS (l:List Nat) (E:SE) (c:HC α):HC α:=match l with|[]=>c|l=>.fresh l (svals E) c
def subS (E R:SE):List (Nat×Nat)→Option SE
 | []=>some E
 |(s,j)::r=>match sfind R j,subS E R r with
  |some v,some E'=>some ((s,v)::E')
  |_,_=>none
def hat (ops:List IOper) (E R:SE) (i:Nat) (k:SE→HC α):HC α :=
 match ops[i]? with
 |none=>.stuck
 |some o=>match subS E R o.sub with
  |some E'=>hop mk E' o.op o.guard fun v=>k ((i,v)::R)
  |none=>.stuck
def hqs (ops:List IOper) (E:SE) (k:SE→HC α):List Nat→SE→HC α
 | [],R=>k R
 |i::r,R=>hat mk ops E R i fun R=>hqs ops E k r R
def hrc (ops:List IOper) (E R:SE) (k:HC α):List Nat→HC α
 | []=>k
 |i::r=>match ops[i]? with
  |none=>.stuck
  |some o=>match subS E R o.sub,sfind R i with
   |some E',some x=>match sop E' o.op with
    |some op=>match o.guard with
     |none=>.chk op x (hrc ops E R k r)
     |some (t,w)=>match sfind E' t with
      |some g=>.chkg g w op x (hrc ops E R k r)
      |none=>.stuck
    |none=>.stuck
   |_,_=>.stuck
def hplan (ops:List IOper) (E:SE) (k:SE→HC α):List Stage→SE→HC α
 | [],R=>k R
 |g::r,R=>hqs mk ops E (fun R=>hrc ops E R (match g.e with
  |none=>hplan ops E k r R
  |some i=>hat mk ops E R i fun R=>hplan ops E k r R) g.rc) g.qs R
def upto:Nat→Nat→List Nat
 |0,_=>[]
 |n+1,i=>i::upto n (i+1)
def hplans (ops:List IOper) (E:SE):List (List Stage)→HC α
 | []=>.stuck
 | [g]=>hplan mk ops E (hfin .normal (upto ops.length 0)) g []
 |g::r=>.both (hplan mk ops E (hfin .normal (upto ops.length 0)) g []) (hplans ops E r) fun vs=>.fin .normal vs
def putAllS (E:SE):List IOper→List IVal→SE
 |o::r,v::vs=>putAllS (sput E o.dst v) r vs
 |_,_=>E
def hdraw (nt:Nat) (ops:List IOper) (plans:List (List Stage)) (kont:SE→HC α) (E:SE):HC α :=
 match dstsFit nt ops with
 |false=>.stuck
 |true=>match plans with
  | [g]=>hplan mk ops E (fun R=>match vecS R (upto ops.length 0)with|some vs=>kont (putAllS E ops vs)|none=>.stuck) g []
  |pl=>.block 0 (hplans mk ops E pl) (lamV ops.length fun vs=>kont (putAllS E ops vs))
def afind:List (Nat×List Nat)→Nat→Option (List Nat)
 | [],_=>none
 |(s,v)::r,t=>match Nat.beq s t with|true=>some v|false=>afind r t
def hcode (nt:Nat) (res:List Nat):List (Nat×List Nat)→ICode→An→(SE→HC α)→SE→HC α
 |_, .skip,_,k,E=>k E
 |Δ, .seq a b, .sq x y,k,E=>hcode nt res Δ a x (fun E=>hcode nt res Δ b y k E) E
 |Δ, .cond c a b, .cj x y,k,E=>match sopd E c with
  |some (.const v)=>.cond v (hcode nt res Δ a x k E) (hcode nt res Δ b y k E)
  |_=>.stuck
 |Δ, .cond c a b, .cd l x y,k,E=>match sopd E c with
  |some (.const v)=>.block 0 (.cond v (hcode nt res Δ a x (hfin .normal l) E) (hcode nt res Δ b y (hfin .normal l) E)) (lamV l.length fun vs=>k (zipSS l vs))
  |_=>.stuck
 |Δ, .block id m c, .bk l x,k,E=>match mkOK m l with
  |true=>.block (id+1) (hcode nt res ((id,l)::Δ) c x (hfin .normal l) E) (lamV l.length fun vs=>k (zipSS l vs))
  |false=>.stuck
 |Δ, .loop m c, .lp l x,_,E=>match mkOK m l,vecS E l with
  |true,some vs=>.loop vs (lamV l.length fun vs=>hcode nt res Δ c x (hfin .normal l) (zipSS l vs))
  |_,_=>.stuck
 |Δ, .exit id,_,_,E=>match afind Δ id with
  |some l=>hfin (.exit (id+1)) l E
  |none=>.stuck
 |_, .ret,_,_,E=>hfin .ret res E
 |_, .reg fr ops,_,k,E=>hfreshS fr E (hreg mk nt k ops E)
 |_, .draw fr ops pl,_,k,E=>hfreshS fr E (hdraw mk nt ops pl k E)
 |_,_,_,_,_=>.stuck
end
structure RelTS (nt:Nat) (E:SE) (T:List IVal):Prop where
 len:T.length=nt
 at':∀t v,sfind E t=some v→T[t]? = some v
def RelVS (l:List Nat) (vs:List IVal) (T:List IVal):Prop:=∀t v,sfind (zipSS l vs) t=some v→T[t]? = some v
theorem RelTS.s {nt:Nat} {E:SE} {T:List IVal} (h:RelTS nt E T):RelSS E (evalOpd T [] []):=fun t v e=>by
 show T.getD t .undef=v
 rw[List.getD_eq_getElem?_getD,h.at' t v e];rfl
theorem zagx {d t:Nat}:∀(E:SE),sfind (sdel d E) t=if d=t then none else sfind E t
 | []=>by simp[sdel,sfind]
 |(s,v)::r=>by
  have ih:=zagx (d:=d) (t:=t) r
  simp only[sdel]
  cases h:Nat.beq s d with
  |true =>
   have:=Nat.eq_of_beq_eq_true h
   subst this
   simp only[ih,sfind]
   by_cases e:s=t
   ·simp[e]
   ·rw[if_neg e,if_neg e]
    cases h2:Nat.beq s t with
    |true=>exact absurd (Nat.eq_of_beq_eq_true h2) e
    |false=>rfl
  |false =>
   have hne:s≠d:=fun e=>by rw[e,Nat.beq_refl]at h;cases h
   simp only[sfind,ih]
   by_cases e:d=t
   ·subst e
    have:Nat.beq s d=false:=h
    first|(simp only[this,if_true];done)|(simp only[this];simp;done)|(rw[this];simp;done)|simp[this]
   ·rw[if_neg e,if_neg e]
theorem RelTS.put {nt:Nat} {E:SE} {T:List IVal} (h:RelTS nt E T) {d:Option Nat} (hd:dstOK nt d=true) (v:IVal):RelTS nt (sput E d v) (putDst T d v):=by
 cases d with
 |none=>exact h
 |some d =>
  have hd:d<nt:=by simpa[dstOK,Nat.blt_eq]using hd
  refine⟨by simp[putDst,h.len],fun t u e=>?_⟩
  simp only[sput,sfind]at e
  show(T.set d v)[t]? = some u
  cases hb:Nat.beq d t with
  |true =>
   rw[hb]at e
   have:=Nat.eq_of_beq_eq_true hb
   subst this
   injection e with e
   subst e
   rw[List.getElem?_set_self (by rw[h.len];exact hd)]
  |false =>
   rw[hb]at e
   have hne:d≠t:=fun e=>by rw[e,Nat.beq_refl]at hb;cases hb
   simp only[zagx,if_neg hne]at e
   rw[List.getElem?_set_ne hne]
   exact h.at' t u e
theorem zamj {E:SE}:∀ {l:List Nat} {vs:List IVal},vecS E l=some vs→∀t v,sfind (zipSS l vs) t=some v→sfind E t=some v
 | [],vs,e,t,v,h=>by injection e with e;subst e;simp[zipSS,sfind]at h
 |s::l,vs,e,t,v,h=>by
  simp only[vecS]at e
  split at e
  ·rename_i u us h1 h2
   injection e with e
   subst e
   simp only[zipSS,sfind]at h
   cases hb:Nat.beq s t with
   |true =>
    rw[hb]at h
    have:=Nat.eq_of_beq_eq_true hb
    subst this
    injection h with h
    subst h
    exact h1
   |false=>rw[hb]at h;exact zamj h2 t v h
  ·cases e
theorem RelTS.vec {nt:Nat} {E:SE} {T:List IVal} (h:RelTS nt E T) {l:List Nat} {vs:List IVal} (e:vecS E l=some vs):RelVS l vs T:=fun t v ht=>h.at' t v (zamj e t v ht)
theorem zpo:∀ {l:List Nat} {vs:List IVal} {t:Nat} {v:IVal},sfind (zipSS l vs) t=some v→t∈l
 | [],vs,t,v,h=>by simp[zipSS,sfind]at h
 |s::l,[],t,v,h=>by simp[zipSS,sfind]at h
 |s::l,u::us,t,v,h=>by
  simp only[zipSS,sfind]at h
  cases hb:Nat.beq s t with
  |true=>exact List.mem_cons.2 (.inl (Nat.eq_of_beq_eq_true hb).symm)
  |false=>rw[hb]at h;exact List.mem_cons_of_mem _ (zpo h)
theorem zabf {m:List Bool}:∀ {l:List Nat},allIn m l=true→∀t∈l,m[t]? = some true
 | [],_,t,h=>by cases h
 |s::l,h,t,ht=>by
  simp only[allIn]at h
  split at h
  ·rename_i e
   rcases List.mem_cons.1 ht with rfl|ht
   ·exact e
   ·exact zabf h t ht
  ·cases h
theorem zwx:∀(m:List Bool) (T:List IVal) (t:Nat),m[t]? = some true→(maskT m T)[t]? = T[t]?
 | [],T,t,h=>by simp at h
 |b::m,[],t,h=>by cases b<;>simp[maskT]
 |true::m,v::T,0,h=>by simp[maskT]
 |false::m,v::T,0,h=>by simp at h
 |true::m,v::T,t+1,h=>by simpa[maskT]using zwx m T t (by simpa using h)
 |false::m,v::T,t+1,h=>by simpa[maskT]using zwx m T t (by simpa using h)
theorem zpp (m:List Bool) (T:List IVal):(maskT m T).length=T.length:=by
 induction m generalizing T with
 |nil=>simp[maskT]
 |cons b m ih =>
  cases T with
  |nil=>cases b<;>simp[maskT]
  |cons v T=>cases b<;>simp[maskT,ih]
theorem RelVS.mask {l:List Nat} {vs T:List IVal} {m:List Bool} (h:RelVS l vs T) (hm:mkOK m l=true):RelVS l vs (maskT m T):=by
 intro t v e
 have:=h t v e
 cases m with
 |nil=>simpa[maskT]using this
 |cons b m =>
  have hm:allIn (b::m) l=true:=hm
  rw[zwx _ _ _ (zabf hm t (zpo e))]
  exact this
end Go.Ideal

/-
  IDEAL SEMANTICS, 73: THE CODE OVER LEAN's OWN VARIABLES, OVER THE MEMORY AS A TREE: what it comes to, the ideal code comes to.
-/
namespace Go.Ideal
open Go
set_option linter.unusedSectionVars false
variable [Kept]
noncomputable def ygd (g:IVal) (w:Bool) (f:SF) (F:FOr) (m:FM) (k:SK):YR:=IVal.rec (motive_1:=fun _=>YR) (motive_2:=fun _=>PUnit) (fun p=>qonPB p (fun b=>Bool.rec (Bool.rec (f F m k) (k skipped m) b) (Bool.rec (k skipped m) (f F m k) b) w) none) (fun _ _ _=>none) (fun _ _ _ _=>none) (fun _=>none) (fun _ _ _=>none) (fun _ _=>none) (fun vs _=>List.rec (motive:=fun _=>YR) (k skipped m) (fun _ _ _=>none) vs) none (fun _=>none) (fun _ _ _ _=>none) ⟨⟩ (fun _ _ _ _=>⟨⟩) g
theorem zbhe (g:IVal) (w:Bool) (f:SF) (F:FOr) (m:FM) (k:SK):ygd g w f F m k=Option.rec (motive:=fun _=>YR) none (fun t=>Bool.rec (k skipped m) (f F m k) t) (saysBool w g):=by
 cases g with
 |p u =>
  cases u with
  |bool b=>cases b<;>cases w<;>rfl
  |_=>rfl
 |tup vs=>cases vs<;>rfl
 |_=>rfl
noncomputable def ychk (F:FOr) (m:FM) (o:IOp) (v:IVal):Bool :=
 Bool.rec (motive:=fun _=>Bool) (match yop o F m (fun u m=>some (.normal,[u],m))with|some (_,[u],_)=>IVal.beq u v|_=>false)
  (match contentOf noRho o,keyOf v with
   |some b,some k=>match ftget m k with
    |some c=>IBlk.beq b c
    |none=>false
   |_,_=>false) (isAlloc o)
noncomputable def yck (F:FOr) (m:FM) (o:IOp) (v:IVal) (k:YR):YR:=Bool.rec (motive:=fun _=>YR) none k (ychk F m o v)
noncomputable def yckg (g:IVal) (w:Bool) (F:FOr) (m:FM) (o:IOp) (v:IVal) (k:YR):YR:=Option.rec (motive:=fun _=>YR) none (fun t=>Bool.rec k (yck F m o v k) t) (saysBool w g)
noncomputable def ycond (v:IVal) (a b:YR):YR:=qonB v (fun t=>Bool.rec b a t) none
theorem zamk (v:IVal) (a b:YR):ycond v a b=Option.rec (motive:=fun _=>YR) none (fun t=>Bool.rec b a t) (fbool v):=by
 cases v with
 |p u=>cases u<;>rfl
 |_=>rfl
noncomputable def yblock (id:Nat) (r:YR) (k:List IVal→FM→YR):YR :=
 Option.rec (motive:=fun _=>YR) none (fun r=>match r with|(x,vs,m)=>IExit.rec (motive:=fun _=>YR) (k vs m) (fun i=>Bool.rec (some (.exit i,vs,m)) (k vs m) (Nat.beq i id)) (some (.ret,vs,m)) x) r
noncomputable def yfresh (vs:List IVal) (l:List Nat) (m:FM) (k:FM→YR):YR :=
 List.rec (motive:=fun _=>FM→YR) k (fun s _ ih m=>fopen m fun b t n mm=>Option.rec (motive:=fun _=>YR) (ih m) (fun _=>Bool.rec none (lall (dropBox b s) fun b=>ih ⟨b,⟨t,n,mm⟩⟩) (hfree s vs)) (gfindBox b s)) l m
noncomputable def hteq (t u:HT) (n:Nat):Bool:=Nat.rec (motive:=fun _=>Bool) true (fun i ih=>Bool.rec false ih (match hget (hp i) t,hget (hp i) u with|some a,some b=>IBlk.beq a b|_,_=>false)) n
noncomputable def fmeq (a b:FM):Bool:=fopen a fun bx t n _=>fopen b fun by' u n' _=>boxesBeq bx by'&&(Nat.beq n n'&&hteq t u n)
noncomputable def yboth (a b:YR) (k:List IVal→FM→YR):YR :=
 match a,b with|some (.normal,vs,m1),some (.normal,ws,m2)=>Bool.rec none (k vs m1) (IVal.beqs vs ws&&fmeq m1 m2)|_,_=>none
abbrev SC:=FM→YR
section
variable (F:FOr) (L:Nat)
def sstuck:SC:=fun _=>none
def sfin (x:IExit) (l:List Nat) (E:SE):SC:=fun m=>match vecS E l with|some vs=>some (x,vs,m)|none=>none
noncomputable def sxv (g:IVal→List IVal→SC) (vs:List IVal):SC:=List.rec (motive:=fun _=>SC) sstuck (fun v r _=>g v r) vs
def sx0 (c:SC) (_:List IVal):SC:=c
noncomputable def slamV:Nat→(List IVal→SC)→List IVal→SC
 |0,f=>sx0 (f [])
 |n+1,f=>sxv fun v=>slamV n fun l=>f (v::l)
noncomputable def shop (E:SE) (o:IOp) (g:Option (Nat×Bool)) (k:IVal→SC):SC:=fun m =>
 match sop E o with
 |none=>none
 |some o=>match g with
  |none=>match o with
   | .mov (.const v)=>k v m
   |o=>yop o F m k
  |some (x,w)=>match sfind E x with
   |some v=>ygd v w (yop o) F m k
   |none=>none
noncomputable def sreg (nt:Nat) (kont:SE→SC):List IOper→SE→SC
 | [],E=>kont E
 |o::r,E=>fun m=>match dstOK nt o.dst with
  |true=>shop F E o.op o.guard (fun v=>sreg nt kont r (sput E o.dst v)) m
  |false=>none
noncomputable def sfreshS (l:List Nat) (E:SE) (c:SC):SC:=fun m=>match l with|[]=>c m|l=>yfresh (svals E) l m c
noncomputable def sat (ops:List IOper) (E R:SE) (i:Nat) (k:SE→SC):SC:=fun m =>
 match ops[i]? with
 |none=>none
 |some o=>match subS E R o.sub with
  |some E'=>shop F E' o.op o.guard (fun v=>k ((i,v)::R)) m
  |none=>none
noncomputable def sqs (ops:List IOper) (E:SE) (k:SE→SC):List Nat→SE→SC
 | [],R=>k R
 |i::r,R=>sat F ops E R i fun R=>sqs ops E k r R
noncomputable def src (ops:List IOper) (E R:SE) (k:SC):List Nat→SC
 | []=>k
 |i::r=>fun m=>match ops[i]? with
  |none=>none
  |some o=>match subS E R o.sub,sfind R i with
   |some E',some x=>match sop E' o.op with
    |some op=>match o.guard with
     |none=>yck F m op x (src ops E R k r m)
     |some (t,w)=>match sfind E' t with
      |some g=>yckg g w F m op x (src ops E R k r m)
      |none=>none
    |none=>none
   |_,_=>none
noncomputable def splan (ops:List IOper) (E:SE) (k:SE→SC):List Stage→SE→SC
 | [],R=>k R
 |g::r,R=>sqs F ops E (fun R=>src F ops E R (match g.e with
  |none=>splan ops E k r R
  |some i=>sat F ops E R i fun R=>splan ops E k r R) g.rc) g.qs R
noncomputable def splans (ops:List IOper) (E:SE):List (List Stage)→SC
 | []=>sstuck
 | [g]=>splan F ops E (sfin .normal (upto ops.length 0)) g []
 |g::r=>fun m=>yboth (splan F ops E (sfin .normal (upto ops.length 0)) g [] m) (splans ops E r m) fun vs m=>some (.normal,vs,m)
noncomputable def sdraw (nt:Nat) (ops:List IOper) (plans:List (List Stage)) (kont:SE→SC) (E:SE):SC:=fun m =>
 match dstsFit nt ops with
 |false=>none
 |true=>match plans with
  | [g]=>splan F ops E (fun R m=>match vecS R (upto ops.length 0)with|some vs=>kont (putAllS E ops vs) m|none=>none) g [] m
  |pl=>yblock 0 (splans F ops E pl m) (slamV ops.length fun vs=>kont (putAllS E ops vs))
noncomputable def tblk (κ:List IVal→SC) (b:(List IVal→SC)→YR):YR:=b κ
noncomputable def tloop (b:(List IVal→SC)→List IVal→SC) (n:Nat):List IVal→SC:=Nat.rec (motive:=fun _=>List IVal→SC) (fun _=>sstuck) (fun _ ih=>b ih) n
noncomputable def tfin (κ:List IVal→SC) (l:List Nat) (E:SE):SC:=fun m=>match vecS E l with|some vs=>κ vs m|none=>none
abbrev TD:=List (Nat×List Nat×(List IVal→SC))
noncomputable def tfind:TD→Nat→Option (List Nat×(List IVal→SC))
 | [],_=>none
 |(s,v)::r,t=>match Nat.beq s t with
  |true=>some v
  |false=>tfind r t
noncomputable def tcode (nt:Nat) (res:List Nat) (kr:List IVal→SC):TD→ICode→An→(SE→SC)→SE→SC
 |_, .skip,_,k,E=>k E
 |Δ, .seq a b, .sq x y,k,E=>tcode nt res kr Δ a x (fun E=>tcode nt res kr Δ b y k E) E
 |Δ, .cond c a b, .cj x y,k,E=>fun m=>match sopd E c with
  |some (.const v)=>ycond v (tcode nt res kr Δ a x k E m) (tcode nt res kr Δ b y k E m)
  |_=>none
 |Δ, .cond c a b, .cd l x y,k,E=>fun m=>match sopd E c with
  |some (.const v)=>tblk (slamV l.length fun vs=>k (zipSS l vs)) fun j=>ycond v (tcode nt res kr Δ a x (tfin j l) E m) (tcode nt res kr Δ b y (tfin j l) E m)
  |_=>none
 |Δ, .block id mk c, .bk l x,k,E=>fun m=>match mkOK mk l with
  |true=>tblk (slamV l.length fun vs=>k (zipSS l vs)) fun j=>tcode nt res kr ((id,l,j)::Δ) c x (tfin j l) E m
  |false=>none
 |Δ, .loop mk c, .lp l x,_,E=>fun m=>match mkOK mk l,vecS E l with
  |true,some vs=>tloop (fun j=>slamV l.length fun vs=>tcode nt res kr Δ c x (tfin j l) (zipSS l vs)) L vs m
  |_,_=>none
 |Δ, .exit id,_,_,E=>fun m=>match tfind Δ id with
  |some (l,j)=>tfin j l E m
  |none=>none
 |_, .ret,_,_,E=>tfin kr res E
 |_, .reg fr ops,_,k,E=>sfreshS fr E (sreg F nt k ops E)
 |_, .draw fr ops pl,_,k,E=>sfreshS fr E (sdraw F nt ops pl k E)
 |_,_,_,_,_=>sstuck
end
section
variable {F:FOr} {C:Oracle} {L nt:Nat}
abbrev XS:=IExit×List IVal×FM
theorem zaml (hF:FLe F C) {E:SE} {T R:List IVal} {sub:List (Nat×Nat)} (hE:RelSS E (evalOpd T R sub)) {o:IOp} {g:Option (Nat×Bool)} {k:IVal→SC} {m:FM} {M:Mem} {x:XS} (hm:RM m M) (h:(shop F E o g k) m=some x) :
 (wantedI T R sub g=some true∧∃v M' m',evalOp C (evalOpd T R sub) M o=some (v,M')∧RM m' M'∧(k v) m'=some x)∨(wantedI T R sub g=some false∧(k skipped) m=some x):=by
 unfold shop at h
 split at h
 ·cases h
 ·rename_i o' ho
  have heq:=zaxj (zro T R sub) hE ho C M
  split at h
  ·split at h
   ·rename_i v
    exact .inl ⟨rfl,v,M,m,by rw[heq];rfl,hm,h⟩
   ·obtain⟨v,M',m',h1,h2,h3⟩:=zarl hF o' hm (show yop o' F m (fun v m=>(k v) m)=some x from h)
    rw[← heq]at h1
    exact .inl ⟨rfl,v,M',m',h1,h3,h2⟩
  ·rename_i s w
   split at h
   ·rename_i v hv
    have hl:look T R sub s=v:=hE s v hv
    have hw:wantedI T R sub (some (s,w))=saysBool w v:=by
     simp only[wantedI,hl]
     rfl
    have h:(Option.rec (motive:=fun _=>YR) none (fun t=>Bool.rec ((k skipped) m) (yop o' F m fun v m=>(k v) m) t) (saysBool w v):YR)=some x:=by rw[← zbhe];exact h
    rw[hw]
    cases hs:saysBool w v with
    |none=>rw[hs]at h;cases h
    |some b =>
     rw[hs]at h
     cases b with
     |false=>exact .inr ⟨rfl,h⟩
     |true =>
      obtain⟨v,M',m',h1,h2,h3⟩:=zarl hF o' hm (show yop o' F m (fun v m=>(k v) m)=some x from h)
      rw[← heq]at h1
      exact .inl ⟨rfl,v,M',m',h1,h3,h2⟩
   ·cases h
theorem zwy (hF:FLe F C) {kont:SE→SC} {x:XS}:∀ {ops:List IOper} {E:SE} {T:List IVal} {m:FM} {M:Mem},RM m M→(sreg F nt kont ops E) m=some x→RelTS nt E T→∃T' M' m' E',evalReg C ⟨T,M⟩ ops=some ⟨T',M'⟩∧RelTS nt E' T'∧RM m' M'∧(kont E') m'=some x
 | [],E,T,m,M,hm,h,hE=>⟨T,M,m,E,rfl,hE,hm,h⟩
 |o::r,E,T,m,M,hm,h,hE=>by
  simp only[sreg]at h
  split at h
  ·rename_i hd
   rcases zaml hF hE.s hm h with⟨h1,v,M',m',h2,h3,h4⟩|⟨h1,h2⟩
   ·obtain⟨T',M2,m2,E',g1,g2,g3,g4⟩:=zwy hF h3 h4 (hE.put hd v)
    refine⟨T',M2,m2,E',?_,g2,g3,g4⟩
    rw[evalReg]
    simp only[h1,h2]
    exact g1
   ·obtain⟨T',M2,m2,E',g1,g2,g3,g4⟩:=zwy hF hm h2 (hE.put hd skipped)
    refine⟨T',M2,m2,E',?_,g2,g3,g4⟩
    rw[evalReg]
    simp only[h1]
    exact g1
  ·cases h
theorem zwz {s:Nat}:∀ {vs:List IVal},hfree s vs=true→∀v∈vs,killV s v=v
 | [],_,v,h=>by cases h
 |u::vs,h,v,hv=>by
  have key:hfree s vs=true∧killV s u=u:=by
   cases u with
   |ptr key ver off =>
    cases key with
    |box t =>
     have h:(Bool.rec (hfree s vs) false (Nat.beq s t):Bool)=true:=h
     cases hb:Nat.beq s t with
     |true=>rw[hb]at h;cases h
     |false=>rw[hb]at h;exact⟨h,by simp only[killV,hb]⟩
    |heap i=>exact⟨h,rfl⟩
   |_=>exact⟨h,rfl⟩
  rcases List.mem_cons.1 hv with rfl|hv
  ·exact key.2
  ·exact zwz key.1 v hv
theorem zxa:∀ {E:SE} {t:Nat} {v:IVal},sfind E t=some v→v∈svals E
 | [],t,v,h=>by cases h
 |(s,u)::r,t,v,h=>by
  simp only[sfind]at h
  cases hb:Nat.beq s t with
  |true=>rw[hb]at h;injection h with h;subst h;exact List.mem_cons_self
  |false=>rw[hb]at h;exact List.mem_cons_of_mem _ (zxa h)
theorem RelTS.killS {E:SE} {T:List IVal} (h:RelTS nt E T) {s:Nat} (hf:hfree s (svals E)=true):RelTS nt E (kill s T):=by
 refine⟨by simp[Ideal.kill,h.len],fun t v e=>?_⟩
 rw[Ideal.kill,List.getElem?_map,h.at' t v e]
 show some (killV s v)=some v
 rw[zwz hf v (zxa e)]
theorem zrp {E:SE} {c:FM→YR} {x:XS}:∀ {l:List Nat} {T:List IVal} {m:FM} {M:Mem},RM m M→yfresh (svals E) l m c=some x→RelTS nt E T→∃T' M' m',freshen ⟨T,M⟩ l=⟨T',M'⟩∧RelTS nt E T'∧RM m' M'∧c m'=some x
 | [],T,m,M,hm,h,hE=>⟨T,M,m,rfl,hE,hm,h⟩
 |s::l,T,⟨b,t,n,mm⟩,M,hm,h,hE=>by
  have hb0:b=M.boxes:=hm.bx
  have h:(Option.rec (motive:=fun _=>YR) (yfresh (svals E) l ⟨b,⟨t,n,mm⟩⟩ c) (fun _=>Bool.rec none (lall (dropBox b s) fun b=>yfresh (svals E) l ⟨b,⟨t,n,mm⟩⟩ c) (hfree s (svals E))) (gfindBox b s):YR)=some x:=h
  rw[zcb]at h
  rw[freshen]
  cases hb:findBox M.boxes s with
  |none=>rw[hb0,hb]at h;exact zrp (by rw[← hb0];exact hm) h hE
  |some q =>
   rw[hb0,hb]at h
   cases hf:hfree s (svals E)with
   |false=>rw[hf]at h;cases h
   |true =>
    rw[hf]at h
    dsimp only at h
    rw[zan]at h
    exact zrp (m:=⟨dropBox M.boxes s,⟨t,n,mm⟩⟩) ⟨rfl,hm.h⟩ h (hE.killS hf)
theorem ztc {E:SE} {c:SC} {x:XS} {l:List Nat} {T:List IVal} {m:FM} {M:Mem} (hm:RM m M) (h:(sfreshS l E c) m=some x) (hE:RelTS nt E T):∃T' M' m',freshen ⟨T,M⟩ l=⟨T',M'⟩∧RelTS nt E T'∧RM m' M'∧c m'=some x:=by
 unfold sfreshS at h
 split at h
 ·exact⟨T,M,m,rfl,hE,hm,h⟩
 ·exact zrp (c:=c) hm h hE
structure RelRS (n:Nat) (R:SE) (RL:List IVal):Prop where
 len:RL.length=n
 at':∀j v,sfind R j=some v→RL[j]? = some v
theorem zadj {E R:SE} {T RL:List IVal} {n:Nat} (hE:RelTS nt E T) (hR:RelRS n R RL):∀ {sub:List (Nat×Nat)} {E':SE},subS E R sub=some E'→RelSS E' (evalOpd T RL sub)
 | [],E',h=>by injection h with h;subst h;exact fun t v e=>by show T.getD t .undef=v;rw[List.getD_eq_getElem?_getD,hE.at' t v e];rfl
 |(s,j)::r,E',h=>by
  simp only[subS]at h
  split at h
  ·rename_i v E2 h1 h2
   injection h with h
   subst h
   have ih:=zadj hE hR h2
   intro t u e
   show look T RL ((s,j)::r) t=u
   simp only[sfind]at e
   simp only[look,findSub]
   cases hb:Nat.beq s t with
   |true =>
    rw[hb]at e
    injection e with e
    subst e
    show RL.getD j .undef=v
    rw[List.getD_eq_getElem?_getD,hR.at' j v h1];rfl
   |false =>
    rw[hb]at e
    exact ih t u e
  ·cases h
variable {ops:List IOper}
theorem RelRS.put {n:Nat} {R:SE} {RL:List IVal} (h:RelRS n R RL) {i:Nat} (hi:i<n) (v:IVal):RelRS n ((i,v)::R) (RL.set i v):=by
 refine⟨by simp[h.len],fun j u e=>?_⟩
 simp only[sfind]at e
 cases hb:Nat.beq i j with
 |true =>
  rw[hb]at e
  have:=Nat.eq_of_beq_eq_true hb
  subst this
  injection e with e
  subst e
  rw[List.getElem?_set_self (by rw[h.len];exact hi)]
 |false =>
  rw[hb]at e
  have hne:i≠j:=fun e=>by rw[e,Nat.beq_refl]at hb;cases hb
  rw[List.getElem?_set_ne hne]
  exact h.at' j u e
theorem zarm (hF:FLe F C) {E R:SE} {T RL:List IVal} (hE:RelTS nt E T) (hR:RelRS ops.length R RL) {i:Nat} {k:SE→SC} {m:FM} {M:Mem} {x:XS} (hm:RM m M) (h:(sat F ops E R i k) m=some x) :
 ∃R' RL' M' m',evalAt C ops T RL M i=some (RL',M')∧RelRS ops.length R' RL'∧RM m' M'∧(k R') m'=some x:=by
 unfold sat at h
 split at h
 ·cases h
 ·rename_i o ho
  have hi:i<ops.length:=(List.getElem?_eq_some_iff.1 ho).1
  split at h
  ·rename_i E' hs
   unfold evalAt
   rw[ho]
   rcases zaml hF (zadj hE hR hs) hm h with⟨h1,v,M',m',h2,h3,h4⟩|⟨h1,h2⟩
   ·exact⟨_,_,M',m',by simp only[h1,h2],hR.put hi v,h3,h4⟩
   ·exact⟨_,_,M,m,by simp only[h1],hR.put hi skipped,hm,h2⟩
  ·cases h
theorem zarn (hF:FLe F C) {E:SE} {T:List IVal} (hE:RelTS nt E T) {k:SE→SC} {x:XS}:∀ {l:List Nat} {R:SE} {RL:List IVal} {m:FM} {M:Mem},RelRS ops.length R RL→RM m M→(sqs F ops E k l R) m=some x →
 ∃R' RL' M' m',evalQs C ops T RL M l=some (RL',M')∧RelRS ops.length R' RL'∧RM m' M'∧(k R') m'=some x
 | [],R,RL,m,M,hR,hm,h=>⟨R,RL,M,m,rfl,hR,hm,h⟩
 |i::l,R,RL,m,M,hR,hm,h=>by
  obtain⟨R2,RL2,M2,m2,g1,g2,g3,g4⟩:=zarm hF hE hR hm h
  obtain⟨R3,RL3,M3,m3,k1,k2,k3,k4⟩:=zarn hF hE g2 g3 g4
  exact⟨R3,RL3,M3,m3,by rw[evalQs,g1];exact k1,k2,k3,k4⟩
theorem zbbk (hF:FLe F C) {m:FM} {M:Mem} (hm:RM m M) {o:IOp} {v:IVal} (h:ychk F m o v=true):(match isAlloc o with
 |true=>match contentOf noRho o,keyOf v with
  |some b,some k=>match M.get k with
   |some c=>IBlk.beq b c
   |none=>false
  |_,_=>false
 |false=>match evalOp C noRho M o with
  |some (u,_)=>IVal.beq u v
  |none=>false)=true:=by
 unfold ychk at h
 cases ha:isAlloc o with
 |true =>
  rw[ha]at h
  dsimp only at h ⊢
  split at h
  ·rename_i b k h1 h2
   rw[zadb hm]at h
   first|exact h|(rw[h1,h2];exact h)
  ·cases h
 |false =>
  rw[ha]at h
  dsimp only at h ⊢
  split at h
  ·rename_i w u q hq
   obtain⟨u',M',m',g1,g2,_⟩:=zarl hF o hm hq
   injection g2 with g2
   injection g2 with _ g2
   injection g2 with g2 _
   injection g2 with g2 _
   subst g2
   rw[g1]
   exact h
  ·cases h
theorem zadk (hF:FLe F C) {E R:SE} {T RL:List IVal} (hE:RelTS nt E T) (hR:RelRS ops.length R RL) {k:SC} {m:FM} {M:Mem} {x:XS} (hm:RM m M):∀ {l:List Nat},(src F ops E R k l) m=some x→rechecks C ops T RL M l=true∧k m=some x
 | [],h=>⟨rfl,h⟩
 |i::l,h=>by
  simp only[src]at h
  split at h
  ·cases h
  ·rename_i o ho
   split at h
   ·rename_i E' v hs hv
    have hgi:RL.getD i .undef=v:=by rw[List.getD_eq_getElem?_getD,hR.at' i v hv];rfl
    have hS:=zadj hE hR hs
    split at h
    ·rename_i op hop
     obtain⟨ha,hc⟩:=zaka (zro T RL o.sub) hS hop
     have he:=zaxj (zro T RL o.sub) hS hop C M
     have key:ychk F m op v=true→wantedI T RL o.sub o.guard=some true→recheck C ops T RL M i=true:=by
      intro hk hw
      have hk:=zbbk hF hm hk
      rw[ha,←hc,←he]at hk
      unfold recheck
      simp only[ho,hw,hgi]
      exact hk
     split at h
     ·rename_i hg
      have h:(Bool.rec none ((src F ops E R k l) m) (ychk F m op v):YR)=some x:=h
      cases hb:ychk F m op v with
      |false=>rw[hb]at h;cases h
      |true =>
       rw[hb]at h
       obtain⟨g1,g2⟩:=zadk hF hE hR hm h
       refine⟨?_,g2⟩
       rw[rechecks,key hb (by rw[hg];rfl)]
       exact g1
     ·rename_i t w hg
      split at h
      ·rename_i g hgv
       have hl:look T RL o.sub t=g:=hS t g hgv
       have hw:wantedI T RL o.sub o.guard=saysBool w g:=by rw[hg];simp only[wantedI,hl];rfl
       have h:(Option.rec (motive:=fun _=>YR) none (fun t=>Bool.rec ((src F ops E R k l) m) (Bool.rec none ((src F ops E R k l) m) (ychk F m op v)) t) (saysBool w g):YR)=some x:=h
       cases hs2:saysBool w g with
       |none=>rw[hs2]at h;cases h
       |some b =>
        rw[hs2]at h
        cases b with
        |false =>
         obtain⟨g1,g2⟩:=zadk hF hE hR hm h
         refine⟨?_,g2⟩
         have:recheck C ops T RL M i=true:=by
          unfold recheck
          simp only[ho,hw,hs2]
         rw[rechecks,this]
         exact g1
        |true =>
         have h:(Bool.rec none ((src F ops E R k l) m) (ychk F m op v):YR)=some x:=h
         cases hb:ychk F m op v with
         |false=>rw[hb]at h;cases h
         |true =>
          rw[hb]at h
          obtain⟨g1,g2⟩:=zadk hF hE hR hm h
          refine⟨?_,g2⟩
          rw[rechecks,key hb (by rw[hw,hs2])]
          exact g1
      ·cases h
    ·cases h
   ·cases h
theorem zpq (hF:FLe F C) {E:SE} {T:List IVal} (hE:RelTS nt E T) {k:SE→SC} {x:XS}:∀ {l:List Stage} {R:SE} {RL:List IVal} {m:FM} {M:Mem},RelRS ops.length R RL→RM m M→(splan F ops E k l R) m=some x →
 ∃R' RL' M' m',evalPlan C ops T RL M l=some (RL',M')∧RelRS ops.length R' RL'∧RM m' M'∧(k R') m'=some x
 | [],R,RL,m,M,hR,hm,h=>⟨R,RL,M,m,rfl,hR,hm,h⟩
 |g::l,R,RL,m,M,hR,hm,h=>by
  simp only[splan]at h
  obtain⟨R2,RL2,M2,m2,g1,g2,g3,g4⟩:=zarn hF hE hR hm h
  obtain⟨k1,k2⟩:=zadk hF hE g2 g3 g4
  rw[evalPlan,g1]
  simp only[k1]
  cases hg:g.e with
  |none =>
   rw[hg]at k2
   exact zpq hF hE g2 g3 k2
  |some i =>
   rw[hg]at k2
   obtain⟨R3,RL3,M3,m3,a1,a2,a3,a4⟩:=zarm hF hE g2 g3 k2
   simp only[a1]
   exact zpq hF hE a2 a3 a4
theorem zakb:∀(l:List IOper),RelRS l.length [] (noRes l):=fun l=>⟨by induction l with|nil=>rfl|cons o r ih=>simp[noRes,ih],fun j v e=>by cases e⟩
theorem zamm:∀(n i:Nat) {R:SE} {vs:List IVal},vecS R (upto n i)=some vs→vs.length=n∧∀j v,vs[j]? = some v→sfind R (i+j)=some v
 |0,i,R,vs,h=>by injection h with h;subst h;exact⟨rfl,fun j v e=>by simp at e⟩
 |n+1,i,R,vs,h=>by
  simp only[upto,vecS]at h
  split at h
  ·rename_i u us h1 h2
   injection h with h
   subst h
   obtain⟨g1,g2⟩:=zamm n (i+1) h2
   refine⟨by simp[g1],fun j v e=>?_⟩
   cases j with
   |zero=>simp at e;subst e;exact h1
   |succ j=>rw[show i+(j+1)=i+1+j by omega];exact g2 j v (by simpa using e)
  ·cases h
theorem zaxk {n:Nat} {R:SE} {RL vs:List IVal} (hR:RelRS n R RL) (h:vecS R (upto n 0)=some vs):vs=RL:=by
 obtain⟨h1,h2⟩:=zamm n 0 h
 apply List.ext_getElem?
 intro j
 cases e:vs[j]? with
 |some v=>have:=h2 j v e;rw[Nat.zero_add]at this;rw[hR.at' j v this]
 |none =>
  rw[List.getElem?_eq_none_iff]at e
  rw[List.getElem?_eq_none (by rw[hR.len];omega)]
theorem zabg (hF:FLe F C) {E:SE} {T:List IVal} (hE:RelTS nt E T) {m:FM} {M:Mem} (hm:RM m M) {g:List Stage} {e:IExit} {vs:List IVal} {m':FM} (h:(splan F ops E (sfin .normal (upto ops.length 0)) g []) m=some (e,vs,m')):e = .normal∧∃M',RM m' M'∧evalPlan C ops T (noRes ops) M g=some (vs,M'):=by
 obtain⟨R',RL',M2,m2,h1,h2,hm2,h3⟩:=zpq hF hE (zakb ops) hm h
 unfold sfin at h3
 split at h3
 ·rename_i ws hw
  have h3:(some (IExit.normal,ws,m2):YR)=some (e,vs,m'):=h3
  injection h3 with h3
  injection h3 with a b
  injection b with b c
  subst a b c
  rw[zaxk h2 hw]
  exact⟨rfl,M2,hm2,h1⟩
 ·cases h3
theorem zaro {t u:HT}:∀ {n:Nat},hteq t u n=true→∀i,i<n→∃a b,hget (hp i) t=some a∧hget (hp i) u=some b∧IBlk.beq a b=true
 |0,_,i,hi=>by omega
 |n+1,h,i,hi=>by
  have h:(Bool.rec false (hteq t u n) (match hget (hp n) t,hget (hp n) u with|some a,some b=>IBlk.beq a b|_,_=>false):Bool)=true:=h
  cases hc:(match hget (hp n) t,hget (hp n) u with|some a,some b=>IBlk.beq a b|_,_=>false)with
  |false=>rw[hc]at h;cases h
  |true =>
   rw[hc]at h
   by_cases e:i=n
   ·subst e
    split at hc
    ·rename_i a b h1 h2;exact⟨a,b,h1,h2,hc⟩
    ·cases hc
   ·exact zaro h i (by omega)
theorem zabh:∀ {H K:List IBlk},H.length=K.length→(∀ (i:Nat) a b,H[i]? = some a→K[i]? = some b→IBlk.beq a b=true)→heapBeq H K=true
 | [],[],_,_=>rfl
 |a::H,b::K,hl,h=>by
  rw[heapBeq,h 0 a b rfl rfl,Bool.true_and]
  exact zabh (by simpa using hl) fun i x y hx hy=>h (i+1) x y (by simpa using hx) (by simpa using hy)
 | [],b::K,hl,_=>by simp at hl
 |a::H,[],hl,_=>by simp at hl
theorem zbbl {a b:FM} {M N:Mem} (ha:RM a M) (hb:RM b N) (h:fmeq a b=true):(boxesBeq M.boxes N.boxes&&heapBeq M.heap N.heap)=true:=by
 obtain⟨bx,t,n,_⟩:=a
 obtain⟨by',u,n',_⟩:=b
 have h:(boxesBeq bx by'&&(Nat.beq n n'&&hteq t u n))=true:=h
 rw[Bool.and_eq_true,Bool.and_eq_true]at h
 rw[Bool.and_eq_true]
 obtain⟨h1,h2,h3⟩:=h
 have e1:bx=M.boxes:=ha.bx
 have e2:by'=N.boxes:=hb.bx
 have l1:n=M.heap.length:=ha.h.n
 have l2:n'=N.heap.length:=hb.h.n
 have hl:=Nat.eq_of_beq_eq_true h2
 refine⟨by rw[← e1,←e2];exact h1,zabh (by omega) fun i x y hx hy=>?_⟩
 have hi:=(List.getElem?_eq_some_iff.1 hx).1
 have hle:=ha.h.le
 obtain⟨p,q,g1,g2,g3⟩:=zaro h3 i (by omega)
 have k1:=ha.h.at' i (by omega)
 have k2:=hb.h.at' i (by omega)
 rw[hx]at k1
 rw[hy]at k2
 have k1:hget (hp i) t=some x:=k1
 have k2:hget (hp i) u=some y:=k2
 rw[g1]at k1
 rw[g2]at k2
 injection k1 with k1
 injection k2 with k2
 rw[← k1,←k2];exact g3
theorem zabi (hF:FLe F C) {E:SE} {T:List IVal} (hE:RelTS nt E T) {m:FM} {M:Mem} (hm:RM m M):∀ {pl:List (List Stage)} {e:IExit} {vs:List IVal} {m':FM},(splans F ops E pl) m=some (e,vs,m')→e = .normal∧∃M',RM m' M'∧evalPlans C ops ⟨T,M⟩ pl=some (vs,M')
 | [],e,vs,m',h=>by cases h
 | [g],e,vs,m',h=>by
   rw[evalPlans]
   exact zabg hF hE hm h
 |g::g2::r,e,vs,m',h=>by
  have h:(match(splan F ops E (sfin .normal (upto ops.length 0)) g []) m,(splans F ops E (g2::r)) m with
   |some (.normal,vs,m1),some (.normal,ws,m2)=>(Bool.rec none (some (.normal,vs,m1)) (IVal.beqs vs ws&&fmeq m1 m2):YR)
   |_,_=>none)=some (e,vs,m'):=h
  split at h
  ·rename_i vs1 m1 ws m2 h1 h2
   cases hb:(IVal.beqs vs1 ws&&fmeq m1 m2)with
   |false=>rw[hb]at h;cases h
   |true =>
    rw[hb]at h
    have h:(some (IExit.normal,vs1,m1):YR)=some (e,vs,m'):=h
    injection h with h
    injection h with a b
    injection b with b c
    subst a b c
    obtain⟨_,M1,q1,p1⟩:=zabg hF hE hm h1
    obtain⟨_,M2,q2,p2⟩:=zabi hF hE hm h2
    rw[Bool.and_eq_true]at hb
    have hq:=zbbl q1 q2 hb.2
    refine⟨rfl,M1,q1,?_⟩
    rw[evalPlans]
    ·simp only[p1,p2,hb.1,hq,Bool.and_self]
    ·simp
  ·cases h
theorem zkq:∀ {l:List IOper} {E:SE} {T vs:List IVal},RelTS nt E T→dstsFit nt l=true→RelTS nt (putAllS E l vs) (putAll T l vs)
 | [],E,T,vs,hE,_=>by cases vs<;>exact hE
 |o::r,E,T,[],hE,_=>hE
 |o::r,E,T,v::vs,hE,hd=>by
  rw[putAllS,putAll]
  have hd2:dstOK nt o.dst=true∧dstsFit nt r=true:=by
   simp only[dstsFit]at hd
   split at hd
   ·rename_i d e
    split at hd
    ·rename_i hlt;exact⟨by simp only[dstOK,e];exact hlt,hd⟩
    ·cases hd
   ·rename_i e;exact⟨by simp only[dstOK,e],hd⟩
  exact zkq (hE.put hd2.1 v) hd2.2
theorem zpr {m:FM} {x:XS}:∀ {n:Nat} {f:List IVal→SC} {vs:List IVal},(slamV n f vs) m=some x→(f (vs.take n)) m=some x
 |0,f,vs,h=>by rw[List.take_zero];exact h
 |n+1,f,[],h=>by cases h
 |n+1,f,v::vs,h=>by
  have:=zpr (n:=n) (f:=fun l=>f (v::l)) (vs:=vs) h
  rw[List.take_succ_cons]
  exact this
theorem zagy:∀(l:List Nat) (vs:List IVal),zipSS l (vs.take l.length)=zipSS l vs
 | [],vs=>by simp[zipSS]
 |t::l,[]=>by simp[zipSS]
 |t::l,v::vs=>by simp only[List.length_cons,List.take_succ_cons,zipSS,zagy l vs]
theorem zuq {m:FM} {x:XS} {k:SE→SC} {l:List Nat} {vs:List IVal} (h:(slamV l.length (fun vs=>k (zipSS l vs)) vs) m=some x):(k (zipSS l vs)) m=some x:=by
 have:=zpr h
 rwa [zagy]at this
theorem zadl {T:List IVal} {M:Mem} {vs:List IVal} {M':Mem}:∀ {pl:List (List Stage)},evalPlans C ops ⟨T,M⟩ pl=some (vs,M')→vs.length=ops.length:=by
 have at1:∀ {RL M i RL' M'},evalAt C ops T RL M i=some (RL',M')→RL'.length=RL.length:=by
  intro RL M i RL' M' h
  unfold evalAt at h
  split at h
  ·cases h
  ·split at h
   ·cases h
   ·injection h with h;injection h with h _;rw[← h];simp
   ·split at h
    ·injection h with h;injection h with h _;rw[← h];simp
    ·cases h
 have qs1:∀ {l RL M RL' M'},evalQs C ops T RL M l=some (RL',M')→RL'.length=RL.length:=by
  intro l
  induction l with
  |nil=>intro RL M RL' M' h;injection h with h;injection h with h _;rw[← h]
  |cons i l ih =>
   intro RL M RL' M' h
   rw[evalQs]at h
   split at h
   ·rename_i e;rw[ih h,at1 e]
   ·cases h
 have pl1:∀ {g RL M RL' M'},evalPlan C ops T RL M g=some (RL',M')→RL'.length=RL.length:=by
  intro g
  induction g with
  |nil=>intro RL M RL' M' h;injection h with h;injection h with h _;rw[← h]
  |cons s g ih =>
   intro RL M RL' M' h
   rw[evalPlan]at h
   split at h
   ·cases h
   ·rename_i e
    split at h
    ·cases h
    ·split at h
     ·rw[ih h,qs1 e]
     ·split at h
      ·rename_i e2;rw[ih h,at1 e2,qs1 e]
      ·cases h
 have hno:(noRes ops).length=ops.length:=(zakb ops).len
 intro pl h
 match pl,h with
 | [g],h=>rw[evalPlans]at h;rw[pl1 h,hno]
 |g::g2::r,h =>
  rw[evalPlans]at h
  ·split at h
   ·rename_i e1 e2
    split at h
    ·injection h with h;injection h with h _;rw[← h,pl1 e1,hno]
    ·cases h
   ·cases h
  ·simp
end
end Go.Ideal

/-
  IDEAL SEMANTICS, 74: CODE, over the memory as a tree.
-/
namespace Go.Ideal
open Go
set_option linter.unusedSectionVars false
variable [Kept]
section
variable {F:FOr} {C:Oracle} {L nt:Nat} {ops:List IOper}
theorem zakc {id:Nat} {r:YR} {k:List IVal→FM→YR} {x:XS} (h:yblock id r k=some x) :
 ∃e vs m',r=some (e,vs,m')∧((e = .normal∧k vs m'=some x)∨(e = .exit id∧k vs m'=some x)∨(∃ i,i≠id∧e = .exit i∧x=(.exit i,vs,m'))∨(e = .ret∧x=(.ret,vs,m'))):=by
 cases hb:r with
 |none=>rw[hb]at h;cases h
 |some r =>
  obtain⟨e,vs,m'⟩:=r
  rw[hb]at h
  refine⟨e,vs,m',rfl,?_⟩
  cases e with
  |normal=>exact .inl ⟨rfl,h⟩
  |exit i =>
   have h:(Bool.rec (some (.exit i,vs,m')) (k vs m') (Nat.beq i id):YR)=some x:=h
   cases hi:Nat.beq i id with
   |true=>rw[hi]at h;exact .inr (.inl ⟨by rw[Nat.eq_of_beq_eq_true hi],h⟩)
   |false =>
    rw[hi]at h
    injection h with h
    exact .inr (.inr (.inl ⟨i,(fun e=>by rw[e,Nat.beq_refl]at hi;cases hi),rfl,h.symm⟩))
  |ret =>
   injection h with h
   exact .inr (.inr (.inr ⟨rfl,h.symm⟩))
theorem zarp (hF:FLe F C) {E:SE} {T:List IVal} (hE:RelTS nt E T) {plans:List (List Stage)} {kont:SE→SC} {m:FM} {M:Mem} {x:XS} (hm:RM m M) (h:(sdraw F nt ops plans kont E) m=some x) :
 ∃T' M' m' E',evalDraw C ops plans ⟨T,M⟩=some ⟨T',M'⟩∧RelTS nt E' T'∧RM m' M'∧(kont E') m'=some x:=by
 unfold sdraw at h
 unfold evalDraw
 simp only[hE.len]
 split at h
 ·cases h
 ·rename_i hd
  simp only[hd]
  split at h
  ·rename_i g
   obtain⟨R',RL',M2,m2,h1,h2,hm2,h3⟩:=zpq hF hE (zakb ops) hm h
   split at h3
   ·rename_i vs hv
    have:=zaxk h2 hv
    subst this
    refine⟨_,M2,m2,_,by rw[evalPlans];simp only[h1],zkq hE hd,hm2,h3⟩
   ·cases h3
  ·obtain⟨e,vs,m2,hp,h⟩:=zakc (show yblock 0 ((splans F ops E plans) m) (fun vs m=>(slamV ops.length (fun vs=>kont (putAllS E ops vs)) vs) m)=some x from h)
   obtain⟨rfl,M2,q,h2⟩:=zabi hF hE hm hp
   rcases h with⟨_,h⟩|⟨h,_⟩|⟨i,_,h,_⟩|⟨h,_⟩
   ·have h:=zpr h
    have hvl:vs.length=ops.length:=zadl h2
    rw[List.take_of_length_le (by omega)]at h
    exact⟨_,M2,m2,_,by simp only[h2],zkq hE hd,q,h⟩
   ·cases h
   ·cases h
   ·cases h
def RelPS:List Nat→List IVal→List IVal→Prop
 | [],vs,_=>vs=[]
 |t::l,vs,T=>∃v r,vs=v::r∧T[t]? = some v∧RelPS l r T
theorem RelTS.pos {E:SE} {T:List IVal} (h:RelTS nt E T):∀ {l:List Nat} {vs:List IVal},vecS E l=some vs→RelPS l vs T
 | [],vs,e=>by injection e with e;exact e.symm
 |t::l,vs,e=>by
  simp only[vecS]at e
  split at e
  ·rename_i v r h1 h2
   injection e with e
   exact⟨v,r,e.symm,h.at' t v h1,RelTS.pos h h2⟩
  ·cases e
def EndOK (nt:Nat) (res:List Nat) (kr:List IVal→SC) (Δ:TD) (k:SE→SC) (x:XS):IExit→List IVal→Mem→Prop
 | .normal,T,M=>∃E m,RM m M∧RelTS nt E T∧(k E) m=some x
 | .exit i,T,M=>∃l j vs m,tfind Δ i=some (l,j)∧j vs m=some x∧RM m M∧T.length=nt∧RelVS l vs T
 | .ret,T,M=>∃vs m,kr vs m=some x∧RM m M∧T.length=nt∧RelPS res vs T
theorem zio {E:SE} {T:List IVal} {m:FM} {j:List IVal→SC} {l:List Nat} {x:XS} (hE:RelTS nt E T) (h:(tfin j l E) m=some x):∃vs,j vs m=some x∧RelVS l vs T∧RelPS l vs T:=by
 unfold tfin at h
 split at h
 ·rename_i vs hv
  exact⟨vs,h,hE.vec hv,hE.pos hv⟩
 ·cases h
theorem RelVS.relT {l:List Nat} {vs T:List IVal} (h:RelVS l vs T) (hl:T.length=nt):RelTS nt (zipSS l vs) T:=⟨hl,h⟩
theorem zabj {v:IVal} {t:Bool} (h:fbool v=some t):v = .p (.bool t):=by
 unfold fbool at h
 split at h
 ·injection h with h;subst h;rfl
 ·cases h
theorem zcp (hF:FLe F C) (res:List Nat) (kr:List IVal→SC):∀(c:ICode) {Δ:TD} {an:An} {k:SE→SC} {E:SE} {T:List IVal} {m:FM} {M:Mem} {x:XS},RM m M→(tcode F L nt res kr Δ c an k E) m=some x→RelTS nt E T →
 ∃e T' M',evalCode C (loopN L) c ⟨T,M⟩=some (e,⟨T',M'⟩)∧EndOK nt res kr Δ k x e T' M'
 | .skip,Δ,an,k,E,T,m,M,x,hm,h,hE=>by
   cases an<;>exact⟨.normal,T,M,rfl,E,m,hm,hE,by simpa only[tcode]using h⟩
 | .seq a b,Δ,an,k,E,T,m,M,x,hm,h,hE=>by
   cases an with
   |sq y z =>
    simp only[tcode]at h
    obtain⟨e,T',M',h1,h2⟩:=zcp hF res kr a hm h hE
    rw[evalCode,h1]
    cases e with
    |normal =>
     obtain⟨E',m2,hm2,h3,h4⟩:=h2
     exact zcp hF res kr b hm2 h4 h3
    |exit i=>exact⟨_,_,_,rfl,h2⟩
    |ret=>exact⟨_,_,_,rfl,h2⟩
   |_=>simp only[tcode]at h;cases h
 | .cond c a b,Δ,an,k,E,T,m,M,x,hm,h,hE=>by
   cases an with
   |cj y z =>
    simp only[tcode]at h
    split at h
    ·rename_i v hv
     have hev:evalOpd T [] [] c=v:=zck (zro T [] []) hE.s hv
     rw[evalCode,hev]
     have h:(Option.rec (motive:=fun _=>YR) none (fun t=>Bool.rec ((tcode F L nt res kr Δ b z k E) m) ((tcode F L nt res kr Δ a y k E) m) t) (fbool v):YR)=some x:=by rw[← zamk];exact h
     cases hf:fbool v with
     |none=>rw[hf]at h;cases h
     |some t =>
      rw[hf]at h
      obtain rfl:=zabj hf
      cases t with
      |true=>exact zcp hF res kr a hm h hE
      |false=>exact zcp hF res kr b hm h hE
    ·cases h
   |cd l y z =>
    simp only[tcode]at h
    split at h
    ·rename_i v hv
     have hev:evalOpd T [] [] c=v:=zck (zro T [] []) hE.s hv
     rw[evalCode,hev]
     have h:(Option.rec (motive:=fun _=>YR) none (fun t=>Bool.rec ((tcode F L nt res kr Δ b z (tfin (slamV l.length fun vs=>k (zipSS l vs)) l) E) m) ((tcode F L nt res kr Δ a y (tfin (slamV l.length fun vs=>k (zipSS l vs)) l) E) m) t) (fbool v):YR)=some x:=by rw[← zamk];exact h
     have fin:∀e' T' M2,EndOK nt res kr Δ (tfin (slamV l.length fun vs=>k (zipSS l vs)) l) x e' T' M2→EndOK nt res kr Δ k x e' T' M2:=by
      intro e' T' M2 hq
      cases e' with
      |normal =>
       obtain⟨E',m2,hm2,g1,g2⟩:=hq
       obtain⟨ws,g3,g4,_⟩:=zio g1 g2
       exact⟨_,_,hm2,g4.relT g1.len,zuq g3⟩
      |exit i=>exact hq
      |ret=>exact hq
     cases hf:fbool v with
     |none=>rw[hf]at h;cases h
     |some t =>
      rw[hf]at h
      obtain rfl:=zabj hf
      cases t with
      |true =>
       obtain⟨e',T',M2,q1,q2⟩:=zcp hF res kr a hm h hE
       exact⟨e',T',M2,q1,fin _ _ _ q2⟩
      |false =>
       obtain⟨e',T',M2,q1,q2⟩:=zcp hF res kr b hm h hE
       exact⟨e',T',M2,q1,fin _ _ _ q2⟩
    ·cases h
   |_=>simp only[tcode]at h;cases h
 | .block id mk c,Δ,an,k,E,T,m,M,x,hm,h,hE=>by
   cases an with
   |bk l y =>
    simp only[tcode]at h
    split at h
    ·rename_i hmk
     have h:tcode F L nt res kr ((id,l,slamV l.length fun vs=>k (zipSS l vs))::Δ) c y (tfin (slamV l.length fun vs=>k (zipSS l vs)) l) E m=some x:=h
     obtain⟨e',T',M2,q1,q2⟩:=zcp hF res kr c hm h hE
     rw[evalCode,q1]
     cases e' with
     |normal =>
      obtain⟨E',m2,hm2,g1,g2⟩:=q2
      obtain⟨ws,g3,g4,_⟩:=zio g1 g2
      exact⟨_,_,_,rfl,_,_,hm2,g4.relT g1.len,zuq g3⟩
     |exit i =>
      obtain⟨l',j,ws,m2,g1,g2,hm2,g3,g4⟩:=q2
      dsimp only
      simp only[tfind]at g1
      cases hb:Nat.beq i id with
      |true =>
       have hb':Nat.beq id i=true:=by have:=Nat.eq_of_beq_eq_true hb;subst this;exact Nat.beq_refl _
       rw[hb']at g1
       injection g1 with g1
       injection g1 with a b
       subst a b
       have hid:=Nat.eq_of_beq_eq_true hb
       subst hid
       exact⟨_,_,_,rfl,_,_,hm2,(g4.mask hmk).relT (by rw[zpp];exact g3),zuq g2⟩
      |false =>
       have hb':Nat.beq id i=false:=by
        cases hq:Nat.beq id i with
        |true=>rw[Nat.eq_of_beq_eq_true hq,Nat.beq_refl]at hb;cases hb
        |false=>rfl
       rw[hb']at g1
       exact⟨_,_,_,rfl,l',j,ws,m2,g1,g2,hm2,g3,g4⟩
     |ret=>exact⟨_,_,_,rfl,q2⟩
    ·cases h
   |_=>simp only[tcode]at h;cases h
 | .loop mk c,Δ,an,k,E,T,m,M,x,hm,h,hE=>by
   cases an with
   |lp l y =>
    simp only[tcode]at h
    split at h
    ·rename_i vs0 hmk hv0
     have ih:=fun(k:SE→SC) vs m M x (hm:RM m M) (h:(tcode F L nt res kr Δ c y k (zipSS l vs)) m=some x) T (hT:RelTS nt (zipSS l vs) T)=>zcp hF res kr c hm h hT
     have key:∀(n:Nat) (vs:List IVal) (m:FM) (M:Mem) (T:List IVal),RM m M→tloop (fun j=>slamV l.length fun vs=>tcode F L nt res kr Δ c y (tfin j l) (zipSS l vs)) n vs m=some x→RelVS l vs T→T.length=nt →
      ∃e T' M',loopN n (fun S=>evalCode C (loopN L) c ⟨maskT mk S.T,S.M⟩) ⟨T,M⟩=some (e,⟨T',M'⟩)∧EndOK nt res kr Δ k x e T' M':=by
      intro n
      induction n with
      |zero=>intro vs m M T _ h;cases h
      |succ n ihn =>
       intro vs m M T hm h hV hl
       obtain⟨e',T',M3,q1,q2⟩:=ih (tfin (tloop (fun j=>slamV l.length fun vs=>tcode F L nt res kr Δ c y (tfin j l) (zipSS l vs)) n) l) vs m M x hm (zuq (k:=tcode F L nt res kr Δ c y (tfin (tloop (fun j=>slamV l.length fun vs=>tcode F L nt res kr Δ c y (tfin j l) (zipSS l vs)) n) l)) h) (maskT mk T) ((hV.mask hmk).relT (by rw[zpp];exact hl))
       rw[loopN,q1]
       cases e' with
       |normal =>
        obtain⟨E',m3,hm3,g1,g2⟩:=q2
        obtain⟨us,g3,g4,_⟩:=zio g1 g2
        exact ihn _ _ _ _ hm3 g3 g4 g1.len
       |exit i=>exact⟨_,_,_,rfl,q2⟩
       |ret=>exact⟨_,_,_,rfl,q2⟩
     rw[evalCode]
     exact key L vs0 m M T hm h (hE.vec hv0) hE.len
    ·cases h
   |_=>simp only[tcode]at h;cases h
 | .exit i,Δ,an,k,E,T,m,M,x,hm,h,hE=>by
   have h:(match tfind Δ i with|some (l,j)=>tfin j l E m|none=>none)=some x:=by cases an<;>(simp only[tcode]at h;exact h)
   split at h
   ·rename_i l j hl
    obtain⟨vs,h1,h2,_⟩:=zio hE h
    exact⟨.exit i,T,M,rfl,l,j,vs,m,hl,h1,hm,hE.len,h2⟩
   ·cases h
 | .ret,Δ,an,k,E,T,m,M,x,hm,h,hE=>by
   have h:(tfin kr res E) m=some x:=by cases an<;>(simp only[tcode]at h;exact h)
   obtain⟨vs,h1,_,h2⟩:=zio hE h
   exact⟨.ret,T,M,rfl,vs,m,h1,hm,hE.len,h2⟩
 | .reg fr ops,Δ,an,k,E,T,m,M,x,hm,h,hE=>by
   have h:(sfreshS fr E (sreg F nt k ops E)) m=some x:=by cases an<;>(simp only[tcode]at h;exact h)
   obtain⟨T1,M1,m1,h1,h2,hm1,h3⟩:=ztc hm h hE
   obtain⟨T2,M2,m2,E2,h4,h5,hm2,h6⟩:=zwy hF hm1 h3 h2
   rw[evalCode,h1,h4]
   exact⟨.normal,T2,M2,rfl,E2,m2,hm2,h5,h6⟩
 | .draw fr ops pl,Δ,an,k,E,T,m,M,x,hm,h,hE=>by
   have h:(sfreshS fr E (sdraw F nt ops pl k E)) m=some x:=by cases an<;>(simp only[tcode]at h;exact h)
   obtain⟨T1,M1,m1,h1,h2,hm1,h3⟩:=ztc hm h hE
   obtain⟨T2,M2,m2,E2,h4,h5,hm2,h6⟩:=zarp hF h2 hm1 h3
   rw[evalCode,h1,h4]
   exact⟨.normal,T2,M2,rfl,E2,m2,hm2,h5,h6⟩
end
end Go.Ideal
