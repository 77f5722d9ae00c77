import Derived.Test.YtahnffilbghbaaaGreatW5
import Derived.Test.YtahnffilbghbaaaGreatW2
namespace Go.Ideal
open Go
set_option maxHeartbeats 4000000
set_option maxRecDepth 20000
attribute [-simp] getElem?_pos
def catN (K:List Int) (C:List (List Int)) (i:Nat):List Int:=(List.range i).flatMap fun j=>C.getD j []++(if j<K.length then[K.getD j 0]else[])
theorem zjc (K:List Int) (C:List (List Int)) (i:Nat):catN K C (i+1)=catN K C i++(C.getD i []++(if i<K.length then[K.getD i 0]else[])):=by
 unfold catN
 rw[List.range_succ,List.flatMap_append];simp
theorem zov {K K2:List Int} {C C2:List (List Int)}:∀ {i:Nat},(∀ j,j<i→C.getD j []=C2.getD j []∧(if j<K.length then[K.getD j 0]else[])=(if j<K2.length then[K2.getD j 0]else[]))→catN K C i=catN K2 C2 i
 |0,_=>rfl
 |i+1,h=>by
  rw[zjc,zjc,zov fun j hj=>h j (by omega),(h i (by omega)).1,(h i (by omega)).2]
theorem zti {R:Int→Int→Bool} {K:List Int} {A B C:List (List Int)}:∀(i:Nat),(∀ j,j<i→jpick R (A.getD j []) (B.getD j [])=some (C.getD j []))→joinN R K A B i=some (catN K C i)
 |0,_=>rfl
 |i+1,h=>by
  simp only[joinN,zti i fun j hj=>h j (by omega),h i (by omega)]
  rw[zjc,List.append_assoc]
theorem ztj {α:Type} {L:List α} {x d:α} {j:Nat} (h:j<L.length):(L++[x]).getD j d=L.getD j d:=by
 simp only[List.getD]
 rw[List.getElem?_append_left h]
theorem ztk {α:Type} {L:List α} {x d:α}:(L++[x]).getD L.length d=x:=by
 simp only[List.getD]
 rw[List.getElem?_append_right (Nat.le_refl _),Nat.sub_self];rfl
theorem zach (A N:Int→Bool) {L:List Int} (h:∀x∈L,A x=true∨N x=true):∀i,i≤L.length→(gfold A N (L.take i)).1.length=((L.take i).filter A).length∧catN ((L.take i).filter A) (gfold A N (L.take i)).1 ((L.take i).filter A).length++(gfold A N (L.take i)).2=L.take i
 |0,_=>by simp[gfold,catN]
 |i+1,hi=>by
  have hil:i<L.length:=by omega
  obtain⟨h1,h2⟩:=zach A N h i (by omega)
  rw[zke A N hil]
  have et:L.take (i+1)=L.take i++[L[i]]:=by rw[List.take_add_one,List.getElem?_eq_getElem hil];rfl
  have ef:(L.take (i+1)).filter A=(L.take i).filter A++(if A L[i]then[L[i]]else[]):=by
   rw[et,List.filter_append]
   congr 1
   cases hp:A L[i]<;>simp[hp]
  rw[ef,et]
  generalize L.take i=T at h1 h2 ⊢
  unfold gstep
  by_cases hA:A L[i]=true
  ·rw[if_pos hA,if_pos hA]
   refine⟨by simp[h1],?_⟩
   simp only[List.length_append,List.length_singleton,List.append_nil]
   rw[zjc,show(T.filter A).length=(gfold A N T).1.length from h1.symm,ztk,if_pos (by simp[h1]),h1]
   rw[show(T.filter A++[L[i]]).getD (T.filter A).length 0=L[i]from ztk]
   rw[zov (K2:=T.filter A) (C2:=(gfold A N T).1) (fun j hj=>⟨ztj (by omega),by rw[if_pos (by simp;omega),if_pos hj,ztj hj]⟩),←List.append_assoc,h2]
  ·have hN:N L[i]=true:=by rcases h _ (List.getElem_mem hil)with e|e;exact absurd e hA;exact e
   rw[if_neg hA,if_neg hA,if_pos hN,List.append_nil]
   refine⟨h1,?_⟩
   show catN (T.filter A) (gfold A N T).1 (T.filter A).length++((gfold A N T).2++[L[i]])=_
   rw[← List.append_assoc,h2]
theorem zagw (A N:Int→Bool) {L:List Int} (h:∀x∈L,A x=true∨N x=true):catN (L.filter A) (gapsL A N L) (gapsL A N L).length=L:=by
 obtain⟨h1,h2⟩:=zach A N h L.length (Nat.le_refl _)
 rw[List.take_length]at h1 h2
 unfold gapsL
 rw[List.length_append,List.length_singleton,zjc,ztk,if_neg (by omega),List.append_nil,h1]
 rw[zov (K2:=L.filter A) (C2:=(gfold A N L).1) fun j hj=>⟨ztj (by omega),rfl⟩]
 exact h2
theorem zaci (A N:Int→Bool) {L:List Int} (h:∀x∈L,N x=false) (j:Nat):(gapsL A N L).getD j []=[]:=by
 have key:∀(M:List Int) (s:List (List Int)×List Int),(∀ x∈M,N x=false)→(∀ l∈s.1,l=[])→s.2=[]→(∀ l∈(M.foldl (gstep A N) s).1,l=[])∧(M.foldl (gstep A N) s).2=[]:=by
  intro M
  induction M with
  |nil=>intro s _ h1 h2;exact⟨h1,h2⟩
  |cons x M ih =>
   intro s hM h1 h2
   rw[List.foldl_cons]
   unfold gstep
   rw[hM x (by simp)]
   by_cases hA:A x=true
   ·rw[if_pos hA]
    refine ih _ (fun y hy=>hM y (List.mem_cons_of_mem _ hy)) (fun l hl=>?_) rfl
    rcases List.mem_append.1 hl with hl|hl
    ·exact h1 l hl
    ·rw[List.mem_singleton.1 hl,h2]
   ·rw[if_neg hA,if_neg (by simp)]
    exact ih _ (fun y hy=>hM y (List.mem_cons_of_mem _ hy)) h1 h2
 obtain⟨h1,h2⟩:=key L ([],[]) h (by simp) rfl
 unfold gapsL gfold
 by_cases hj:j<((L.foldl (gstep A N) ([],[])).1++[(L.foldl (gstep A N) ([],[])).2]).length
 ·rw[zkh hj]
  rcases List.mem_append.1 (List.getElem_mem hj)with hl|hl
  ·exact h1 _ hl
  ·rw[List.mem_singleton.1 hl,h2]
 ·simp[List.getD,List.getElem?_eq_none (Nat.le_of_not_lt hj)]
theorem filter_all {L:List Int} {P:Int→Bool} (h:∀x∈L,P x=true):L.filter P=L:=List.filter_eq_self.2 h
theorem any_none {L:List Int} {P:Int→Bool} (h:∀x∈L,P x=false):L.any P=false:=by
 rw[List.any_eq_false]
 intro x hx
 rw[h x hx];simp
theorem sideA (R:Int→Int→Bool) (X Y:List Int):listsL R X Y X=some Y:=by
 unfold listsL
 have hin:∀x∈X,(!decide (x∈X))=false:=fun x hx=>by simp[hx]
 by_cases h1:Y.filter (allP X Y X)=X.filter (allP X Y X)
 ·rw[if_pos h1]
  rw[zti (C:=gapsL (allP X Y X) (fun x=>!decide (x∈X)) Y) _ fun j _=>?_,zagw]
  ·intro x hx
   by_cases h:x∈X
   ·left;simp[allP,h,hx]
   ·right;simp[h]
  ·rw[zaci (allP X Y X) _ hin j]
   unfold jpick
   split
   ·rename_i h0;rw[List.length_eq_zero_iff.1 h0]
   ·rw[if_neg (by simp)]
 ·rw[if_neg h1,if_pos rfl]
  unfold aloneL
  rw[any_none hin,if_neg (by simp),filter_all]
  intro x _
  by_cases h:x∈X<;>simp[h]
theorem sideB (R:Int→Int→Bool) (X Y:List Int):listsL R X X Y=some Y:=by
 unfold listsL
 have hin:∀x∈X,(!decide (x∈X))=false:=fun x hx=>by simp[hx]
 by_cases h1:X.filter (allP X X Y)=Y.filter (allP X X Y)
 ·rw[if_pos h1]
  have hl:(gapsL (allP X X Y) (fun x=>!decide (x∈X)) X).length=(gapsL (allP X X Y) (fun x=>!decide (x∈X)) Y).length:=by
   unfold gapsL
   rw[List.length_append,List.length_append,ztf h1];rfl
  rw[zti (C:=gapsL (allP X X Y) (fun x=>!decide (x∈X)) Y) _ fun j _=>?_,hl,h1,zagw]
  ·intro x hx
   by_cases h:x∈X
   ·left;simp[allP,h,hx]
   ·right;simp[h]
  ·rw[zaci (allP X X Y) _ hin j]
   unfold jpick
   rw[if_pos (by simp)]
 ·rw[if_neg h1]
  by_cases h2:Y.filter (allP X X Y)=X.filter (allP X X Y)
  ·exact absurd h2.symm h1
  ·rw[if_neg h2,if_pos rfl]
   unfold aloneL
   rw[any_none hin,if_neg (by simp),filter_all]
   intro x _
   by_cases h:x∈X<;>simp[h]
theorem zapr {X:List Int} (h:∀x∈X,0≤x):X.map far1=X:=by
 conv=>rhs;rw[← List.map_id X]
 refine List.map_congr_left fun x hx=>?_
 have:=h x hx
 unfold far1
 rw[if_neg (by omega)];rfl
end Go.Ideal

/-
  IDEAL SEMANTICS, 54: THE OPERATIONS OVER KNOWN VALUES, AS THE KERNEL RECKONS THEM FASTEST: few and small terms; what comes out is laid out.
-/
namespace Go.Ideal
open Go
set_option linter.unusedSectionVars false
abbrev XR:=Option (IVal×Mem)
abbrev XF:=Oracle→Mem→XR
def noRho:Opd→IVal:=evalOpd [] [] []
noncomputable def cv (x:Opd):IVal:=Opd.rec (motive:=fun _=>IVal) (fun _=>.undef) (fun v=>v) (fun f=>.p (.func f)) x
theorem cv_eq:∀x:Opd,cv x=noRho x
 | .tmp _=>rfl
 | .const _=>rfl
 | .func _=>rfl
noncomputable def cvs (l:List Opd):List IVal:=List.rec (motive:=fun _=>List IVal) [] (fun x _ ih=>cv x::ih) l
theorem zarq:∀l:List Opd,cvs l=l.map noRho
 | []=>rfl
 |x::r=>by show cv x::cvs r=_;rw[cv_eq,zarq r];rfl
noncomputable def cvo (o:Option Opd):Option IVal:=Option.rec (motive:=fun _=>Option IVal) none (fun x=>some (cv x)) o
noncomputable def cvp (l:List (Nat×Nat×Opd)):List (Nat×Nat×IVal):=List.rec (motive:=fun _=>List (Nat×Nat×IVal)) [] (fun p _ ih=>Prod.rec (fun a q=>Prod.rec (fun b x=>(a,b,cv x)::ih) q) p) l
noncomputable def pN (p:PVal):Option (IntKind×Int):=PVal.rec (motive_1:=fun _=>Option (IntKind×Int)) (motive_2:=fun _=>PUnit) (fun _=>none) (fun k n=>some (k,n)) (fun _=>none) (fun _ _ _ _=>none) (fun _ _=>none) (fun _=>none) none none none none none ⟨⟩ (fun _ _ _ _=>⟨⟩) p
noncomputable def toP (v:IVal):Option PVal:=IVal.rec (motive_1:=fun _=>Option PVal) (motive_2:=fun _=>PUnit) (fun p=>some p) (fun _ _ _=>none) (fun _ _ _ _=>none) (fun _=>none) (fun _ _ _=>none) (fun _ _=>none) (fun _ _=>none) none (fun _=>none) (fun _ _ _ _=>none) ⟨⟩ (fun _ _ _ _=>⟨⟩) v
theorem zagx {v:IVal} {p:PVal} (h:toP v=some p):v = .p p:=by
 cases v<;>first|(injection h with h;rw[h];done)|cases h
theorem zavm {p:PVal} {r:IntKind×Int} (h:pN p=some r):p = .int r.1 r.2:=by
 cases p<;>first|(injection h with h;rw[← h];done)|cases h
noncomputable def toI_h (v:IVal):Option (IntKind×Int):=Option.rec (motive:=fun _=>Option (IntKind×Int)) none pN (toP v)
theorem zrb {v:IVal} {r:IntKind×Int} (h:toI_h v=some r):v = .p (.int r.1 r.2):=by
 unfold toI_h at h
 cases hp:toP v with
 |none=>rw[hp]at h;cases h
 |some p=>rw[hp]at h;rw[zagx hp,zavm h]
noncomputable def ii (a b:IVal) (f:IntKind→IntKind→Int→Int→XR) (e:XR):XR :=
 Option.rec (motive:=fun _=>XR) e (fun p=>Option.rec (motive:=fun _=>XR) e (fun q=>Prod.rec (fun k x=>Prod.rec (fun l y=>f k l x y) q) p) (toI_h b)) (toI_h a)
theorem ii_eq {a b:IVal} {f:IntKind→IntKind→Int→Int→XR} {e r:XR} (h:∀k l x y,a = .p (.int k x)→b = .p (.int l y)→f k l x y=r) (he:e=r):ii a b f e=r:=by
 unfold ii
 cases ha:toI_h a with
 |none=>exact he
 |some p =>
  cases hb:toI_h b with
  |none=>exact he
  |some q=>exact h _ _ _ _ (zrb ha) (zrb hb)
noncomputable def xnum (M:Mem) (k:IntKind) (n:Nat):XR:=nforce n fun n=>some (.p (.int k (.ofNat n)),M)
noncomputable def xfit (M:Mem) (k:IntKind) (n:Nat):XR :=
 nforce n fun n=>Bool.rec (Bool.rec (some (.p (.int k (k.wrap (Int.ofNat n))),M)) (xnum M k (Nat.mod n (lim k))) (usg k)) (some (.p (.int k (.ofNat n)),M)) (Nat.ble (Nat.succ n) (lim k))
theorem zly (M:Mem) (k:IntKind) (n:Nat):xfit M k n=some (.p (.int k (k.wrap (n:Int))),M):=by
 have h:=zex k n
 unfold gfit at h
 unfold xfit
 rw[zabw]
 cases h1:Nat.ble (Nat.succ n) (lim k)with
 |true=>rw[h1]at h;injection h with h;show some (IVal.p (PVal.int k (Int.ofNat n)),M)=_;rw[← h]
 |false =>
  rw[h1]at h
  cases h2:usg k with
  |true=>rw[h2]at h;injection h with h;show some (IVal.p (PVal.int k (Int.ofNat _)),M)=_;rw[← h]
  |false=>rfl
noncomputable def xneg (M:Mem) (k:IntKind) (n:Nat):XR :=
 nforce n fun n=>Bool.rec (Bool.rec (some (.p (.int k (.negSucc n)),M)) (some (.p (.int k (k.wrap (.negSucc n))),M)) (usg k)) (some (.p (.int k (k.wrap (.negSucc n))),M)) (Nat.ble (lim k) n)
theorem zalz (M:Mem) (k:IntKind) (n:Nat):xneg M k n=some (.p (.int k (k.wrap (.negSucc n))),M):=by
 have h:=zyl k n
 unfold gneg at h
 unfold xneg
 rw[zabw]
 cases h1:Nat.ble (lim k) n with
 |true=>rfl
 |false =>
  rw[h1]at h
  cases h2:usg k with
  |true=>rfl
  |false=>rw[h2]at h;injection h with h;show some (IVal.p (PVal.int k (Int.negSucc n)),M)=_;rw[← h]
noncomputable def nn (x y:Int) (f:Nat→Nat→XR) (e:XR):XR:=Int.rec (motive:=fun _=>XR) (fun a=>Int.rec (motive:=fun _=>XR) (fun b=>f a b) (fun _=>e) y) (fun _=>e) x
noncomputable def xof (M:Mem) (r:Option PVal):XR:=Option.rec (motive:=fun _=>XR) none (fun v=>pforce v fun v=>some (.p v,M)) r
theorem zacj (M:Mem) (r:Option PVal):xof M r=match r with|some v=>some (.p v,M)|none=>none:=by
 cases r with
 |none=>rfl
 |some v=>exact zabx v (fun v=>some (IVal.p v,M))
noncomputable def xar (op:BinOp) (f:Mem→IntKind→Nat→Nat→XR) (a b:IVal):XF:=fun _ M =>
 ii a b (fun k l x y=>Bool.rec none (nn x y (f M k) (xof M (intBin op k x y))) (kbeq k l)) (xof M (gbin op a b))
noncomputable def xbool (M:Mem) (b:Bool):XR:=Bool.rec (some (.p (.bool false),M)) (some (.p (.bool true),M)) b
theorem zyy (M:Mem) (b:Bool):xbool M b=some (.p (.bool b),M):=by cases b<;>rfl
noncomputable def pS (p:PVal):Option (List UInt8):=PVal.rec (motive_1:=fun _=>Option (List UInt8)) (motive_2:=fun _=>PUnit) (fun _=>none) (fun _ _=>none) (fun s=>some s) (fun _ _ _ _=>none) (fun _ _=>none) (fun _=>none) none none none none none ⟨⟩ (fun _ _ _ _=>⟨⟩) p
noncomputable def toS (v:IVal):Option (List UInt8):=Option.rec (motive:=fun _=>Option (List UInt8)) none pS (toP v)
theorem zrc {v:IVal} {s:List UInt8} (h:toS v=some s):v = .p (.str s):=by
 unfold toS at h
 cases hp:toP v with
 |none=>rw[hp]at h;cases h
 |some p =>
  rw[hp]at h
  rw[zagx hp]
  cases p<;>first|(injection h with h;rw[h];done)|cases h
noncomputable def ss (a b:IVal) (f:List UInt8→List UInt8→XR) (e:XR):XR :=
 Option.rec (motive:=fun _=>XR) e (fun s=>Option.rec (motive:=fun _=>XR) e (fun t=>f s t) (toS b)) (toS a)
noncomputable def xcmp (op:BinOp) (f:Nat→Nat→Bool) (a b:IVal):XF:=fun _ M =>
 ii a b (fun k l x y=>Bool.rec none (nn x y (fun m n=>xbool M (f m n)) (xof M (gint op k x y))) (kbeq k l)) (xof M (gbin op a b))
noncomputable def xeq (neg:Bool) (op:BinOp) (f:Nat→Nat→Bool) (a b:IVal):XF:=fun _ M =>
 ii a b (fun k l x y=>Bool.rec none (nn x y (fun m n=>xbool M (f m n)) (xof M (gint op k x y))) (kbeq k l)) (ss a b (fun s t=>xbool M (Bool.rec (gstr s t) (gnot (gstr s t)) neg)) (xof M (gbin op a b)))
noncomputable def xgen (op:BinOp) (a b:IVal):XF:=fun _ M=>xof M (gbin op a b)
noncomputable def x_add:=xar .add fun M k a b=>xfit M k (Nat.add a b)
noncomputable def x_sub:=xar .sub fun M k a b=>Bool.rec (xneg M k (Nat.pred (Nat.sub b a))) (xfit M k (Nat.sub a b)) (Nat.ble b a)
noncomputable def x_mul:=xar .mul fun M k a b=>xfit M k (Nat.mul a b)
noncomputable def x_and:=xar .and fun M k a b=>xfit M k (Nat.land (Nat.mod a (full k)) (Nat.mod b (full k)))
noncomputable def x_or:=xar .or fun M k a b=>xfit M k (Nat.lor (Nat.mod a (full k)) (Nat.mod b (full k)))
noncomputable def x_xor:=xar .xor fun M k a b=>xfit M k (Nat.xor (Nat.mod a (full k)) (Nat.mod b (full k)))
noncomputable def x_eql:=xeq false .eql fun a b=>Nat.beq a b
noncomputable def x_neq:=xeq true .neq fun a b=>gnot (Nat.beq a b)
noncomputable def x_lss:=xcmp .lss fun a b=>Nat.ble (Nat.succ a) b
noncomputable def x_leq:=xcmp .leq fun a b=>Nat.ble a b
noncomputable def x_gtr:=xcmp .gtr fun a b=>Nat.ble (Nat.succ b) a
noncomputable def x_geq:=xcmp .geq fun a b=>Nat.ble b a
noncomputable def xbin (op:BinOp):IVal→IVal→XF :=
 BinOp.rec (motive:=fun _=>IVal→IVal→XF) x_add x_sub x_mul (xgen .quo) (xgen .rem) x_and x_or x_xor (xgen .shl) (xgen .shr) (xgen .andNot) x_eql x_neq x_lss x_leq x_gtr x_geq op
def binR (M:Mem) (op:BinOp) (a b:IVal):XR:=match evalBin op a b with|some v=>some (.p v,M)|none=>none
theorem zcy (op:BinOp) (a b:IVal) (C:Oracle) (M:Mem):xgen op a b C M=binR M op a b:=by
 unfold xgen binR
 rw[zacj,zakm]
theorem zwv {op:BinOp} {f:Mem→IntKind→Nat→Nat→XR} (ho:∀k l x y,evalBin op (.p (.int k x)) (.p (.int l y))=if k=l then intBin op k x y else none)
 (hf:∀M k (a b:Nat),f M k a b=match intBin op k (a:Int) (b:Int)with|some v=>some (.p v,M)|none=>none) (a b:IVal) (C:Oracle) (M:Mem):xar op f a b C M=binR M op a b:=by
 refine ii_eq (fun k l x y ha hb=>?_) (zcy op a b C M)
 subst ha hb
 unfold binR
 rw[ho,zyk]
 by_cases h:k=l
 ·simp only[h,decide_true,if_true]
  show nn x y (f M l) (xof M (intBin op l x y))=_
  cases x with
  |negSucc m=>exact zacj M _
  |ofNat m =>
   cases y with
   |negSucc n=>exact zacj M _
   |ofNat n=>exact hf M l m n
 ·simp only[h,decide_false,if_false]
theorem zow {op:BinOp} {f:Nat→Nat→Bool} (ho:∀k l x y,evalBin op (.p (.int k x)) (.p (.int l y))=if k=l then intBin op k x y else none)
 (hf:∀k (a b:Nat),some (PVal.bool (f a b))=intBin op k (a:Int) (b:Int)) (a b:IVal) (C:Oracle) (M:Mem) {e:XR} (he:e=binR M op a b):ii a b (fun k l x y=>Bool.rec none (nn x y (fun m n=>xbool M (f m n)) (xof M (gint op k x y))) (kbeq k l)) e=binR M op a b:=by
 refine ii_eq (fun k l x y ha hb=>?_) he
 subst ha hb
 unfold binR
 rw[ho,zyk]
 by_cases h:k=l
 ·simp only[h,decide_true,if_true]
  show nn x y (fun m n=>xbool M (f m n)) (xof M (gint op l x y))=_
  cases x with
  |negSucc m=>rw[zaem];exact zacj M _
  |ofNat m =>
   cases y with
   |negSucc n=>rw[zaem];exact zacj M _
   |ofNat n=>show xbool M (f m n)=match intBin op l (m:Int) (n:Int)with|some v=>some (IVal.p v,M)|none=>none;rw[zyy,←hf]
 ·simp only[h,decide_false,if_false]
theorem zavn (op:BinOp) (a b:IVal) (C:Oracle) (M:Mem):xbin op a b C M=binR M op a b:=by
 cases op with
 |add=>exact zwv (op := .add) (f:=fun M k a b=>xfit M k (Nat.add a b)) (fun _ _ _ _=>rfl) (fun M k a b=>zly M k (a+b)) a b C M
 |sub =>
  refine zwv (op := .sub) (f:=fun M k a b=>Bool.rec (xneg M k (Nat.pred (Nat.sub b a))) (xfit M k (Nat.sub a b)) (Nat.ble b a)) (fun _ _ _ _=>rfl) (fun M k a b=>?_) a b C M
  have h:=zakj k a b
  unfold gsub at h
  show(Bool.rec (xneg M k (Nat.pred (Nat.sub b a))) (xfit M k (Nat.sub a b)) (Nat.ble b a):XR)=some (IVal.p (PVal.int k (k.wrap ((a:Int)-(b:Int)))),M)
  cases hb:Nat.ble b a with
  |true=>rw[hb]at h;dsimp only at h ⊢;rw[zex]at h;rw[zly];injection h with h;rw[h]
  |false=>rw[hb]at h;dsimp only at h ⊢;rw[zyl]at h;rw[zalz];injection h with h;rw[h]
 |mul=>exact zwv (op := .mul) (f:=fun M k a b=>xfit M k (Nat.mul a b)) (fun _ _ _ _=>rfl) (fun M k a b=>zly M k (a*b)) a b C M
 |quo=>exact zcy _ a b C M
 |rem=>exact zcy _ a b C M
 |and=>exact zwv (op := .and) (f:=fun M k a b=>xfit M k (Nat.land (Nat.mod a (full k)) (Nat.mod b (full k)))) (fun _ _ _ _=>rfl) (fun M k a b=>by show xfit M k _=some (IVal.p (PVal.int k (k.wrap ((BitVec.ofInt k.bits (a:Int) &&& BitVec.ofInt k.bits (b:Int)).toNat:Nat))),M);rw[zly,zagd]) a b C M
 |or=>exact zwv (op := .or) (f:=fun M k a b=>xfit M k (Nat.lor (Nat.mod a (full k)) (Nat.mod b (full k)))) (fun _ _ _ _=>rfl) (fun M k a b=>by show xfit M k _=some (IVal.p (PVal.int k (k.wrap ((BitVec.ofInt k.bits (a:Int) ||| BitVec.ofInt k.bits (b:Int)).toNat:Nat))),M);rw[zly,zakk]) a b C M
 |xor=>exact zwv (op := .xor) (f:=fun M k a b=>xfit M k (Nat.xor (Nat.mod a (full k)) (Nat.mod b (full k)))) (fun _ _ _ _=>rfl) (fun M k a b=>by show xfit M k _=some (IVal.p (PVal.int k (k.wrap ((BitVec.ofInt k.bits (a:Int) ^^^ BitVec.ofInt k.bits (b:Int)).toNat:Nat))),M);rw[zly,zage]) a b C M
 |shl=>exact zcy _ a b C M
 |shr=>exact zcy _ a b C M
 |andNot=>exact zcy _ a b C M
 |eql =>
  refine zow (op := .eql) (f:=fun a b=>Nat.beq a b) (fun _ _ _ _=>rfl) (fun k a b=>(zst .eql k a b:_)) a b C M ?_
  unfold ss
  cases ha:toS a with
  |none=>exact zcy .eql a b C M
  |some s =>
   cases hb:toS b with
   |none=>exact zcy .eql a b C M
   |some t =>
    rw[zrc ha,zrc hb]
    show xbool M (gstr s t)=some (IVal.p (PVal.bool (s==t)),M)
    rw[zyy,zyn,show(s==t)=decide (s=t)by rw[Bool.eq_iff_iff];simp]
 |neq =>
  refine zow (op := .neq) (f:=fun a b=>gnot (Nat.beq a b)) (fun _ _ _ _=>rfl) (fun k a b=>(zst .neq k a b:_)) a b C M ?_
  unfold ss
  cases ha:toS a with
  |none=>exact zcy .neq a b C M
  |some s =>
   cases hb:toS b with
   |none=>exact zcy .neq a b C M
   |some t =>
    rw[zrc ha,zrc hb]
    show xbool M (gnot (gstr s t))=some (IVal.p (PVal.bool (!(s==t))),M)
    rw[zyy,zsp,zyn,show(s==t)=decide (s=t)by rw[Bool.eq_iff_iff];simp]
 |lss=>exact zow (op := .lss) (f:=fun a b=>Nat.ble (Nat.succ a) b) (fun _ _ _ _=>rfl) (fun k a b=>(zst .lss k a b:_)) a b C M (zcy .lss a b C M)
 |leq=>exact zow (op := .leq) (f:=fun a b=>Nat.ble a b) (fun _ _ _ _=>rfl) (fun k a b=>(zst .leq k a b:_)) a b C M (zcy .leq a b C M)
 |gtr=>exact zow (op := .gtr) (f:=fun a b=>Nat.ble (Nat.succ b) a) (fun _ _ _ _=>rfl) (fun k a b=>(zst .gtr k a b:_)) a b C M (zcy .gtr a b C M)
 |geq=>exact zow (op := .geq) (f:=fun a b=>Nat.ble b a) (fun _ _ _ _=>rfl) (fun k a b=>(zst .geq k a b:_)) a b C M (zcy .geq a b C M)
end Go.Ideal

/-
  IDEAL SEMANTICS, 54: THE OTHER OPERATIONS OVER KNOWN VALUES.
-/
namespace Go.Ideal
open Go
set_option linter.unusedSectionVars false
noncomputable def pB (p:PVal):Option Bool:=PVal.rec (motive_1:=fun _=>Option Bool) (motive_2:=fun _=>PUnit) (fun b=>some b) (fun _ _=>none) (fun _=>none) (fun _ _ _ _=>none) (fun _ _=>none) (fun _=>none) none none none none none ⟨⟩ (fun _ _ _ _=>⟨⟩) p
noncomputable def toB (v:IVal):Option Bool:=Option.rec (motive:=fun _=>Option Bool) none pB (toP v)
noncomputable def toC (v:IVal):Option (List IVal):=IVal.rec (motive_1:=fun _=>Option (List IVal)) (motive_2:=fun _=>PUnit) (fun p=>some [.p p]) (fun k a b=>Key.rec (motive:=fun _=>Option (List IVal)) (fun _=>none) (fun i=>some [.ptr (.heap i) a b]) k) (fun i a b c=>some [.slice i a b c]) (fun i=>some [.map i]) (fun f l _=>some [.func f l]) (fun cs _=>some cs) (fun _ _=>none) none (fun _=>none) (fun _ _ _ _=>none) ⟨⟩ (fun _ _ _ _=>⟨⟩) v
theorem zama (v:IVal):toC v=v.cellsOf:=by
 cases v with
 |ptr k a b=>cases k<;>rfl
 |_=>rfl
noncomputable def passB (v:IVal):Bool:=IVal.rec (motive_1:=fun _=>Bool) (motive_2:=fun _=>PUnit) (fun _=>true) (fun k _ _=>Key.rec (motive:=fun _=>Bool) (fun _=>false) (fun _=>true) k) (fun _ _ _ _=>true) (fun _=>true) (fun _ _ _=>true) (fun _ _=>true) (fun _ _=>true) false (fun _=>false) (fun _ _ _ _=>false) ⟨⟩ (fun _ _ _ _=>⟨⟩) v
theorem zaps (v:IVal):passB v=v.passOK:=by
 cases v with
 |ptr k a b=>cases k<;>rfl
 |_=>rfl
noncomputable def passesB (l:List IVal):Bool:=List.rec (motive:=fun _=>Bool) true (fun v _ ih=>Bool.rec false ih (passB v)) l
theorem zww:∀l,passesB l=passesOK l
 | []=>rfl
 |v::r=>by
  show(Bool.rec false (passesB r) (passB v):Bool)=_
  rw[zww r,zaps,passesOK]
  cases v.passOK<;>rfl
inductive PV where
 |cells (cs:List PVal)
 |ref (k:Key) (v o:Nat)
 |no
noncomputable def pPtr (p:PVal):PV:=PVal.rec (motive_1:=fun _=>PV) (motive_2:=fun _=>PUnit) (fun _=>.no) (fun _ _=>.no) (fun _=>.no) (fun _ _ _ _=>.no) (fun cs _=>.cells cs) (fun _=>.no) .no .no .no .no .no ⟨⟩ (fun _ _ _ _=>⟨⟩) p
noncomputable def toPV (v:IVal):PV:=IVal.rec (motive_1:=fun _=>PV) (motive_2:=fun _=>PUnit) pPtr (fun k a b=>.ref k a b) (fun _ _ _ _=>.no) (fun _=>.no) (fun _ _ _=>.no) (fun _ _=>.no) (fun _ _=>.no) .no (fun _=>.no) (fun _ _ _ _=>.no) ⟨⟩ (fun _ _ _ _=>⟨⟩) v
inductive SW where
 |cells (e n:Nat) (cs:List PVal)
 |ref (k v o n:Nat)
 |nil
 |no
noncomputable def pSl (p:PVal):SW:=PVal.rec (motive_1:=fun _=>SW) (motive_2:=fun _=>PUnit) (fun _=>.no) (fun _ _=>.no) (fun _=>.no) (fun e n cs _=>.cells e n cs) (fun _ _=>.no) (fun _=>.no) .no .nil .no .no .no ⟨⟩ (fun _ _ _ _=>⟨⟩) p
noncomputable def toSW (v:IVal):SW:=IVal.rec (motive_1:=fun _=>SW) (motive_2:=fun _=>PUnit) pSl (fun _ _ _=>.no) (fun k a b c=>.ref k a b c) (fun _=>.no) (fun _ _ _=>.no) (fun _ _=>.no) (fun _ _=>.no) .no (fun _=>.no) (fun _ _ _ _=>.no) ⟨⟩ (fun _ _ _ _=>⟨⟩) v
noncomputable def toCells (b:Option IBlk) (f:List IVal→Nat→Nat→Bool→XR):XR:=Option.rec (motive:=fun _=>XR) none (fun b=>IBlk.rec (motive:=fun _=>XR) f (fun _ _=>none) b) b
noncomputable def ztl {α:Type} (n:Nat) (l:List α) (k:List α→XR):XR :=
 List.rec (motive:=fun _=>Nat→XR) (fun n=>Nat.rec (motive:=fun _=>XR) (k []) (fun _ _=>none) n) (fun x t ih n=>Nat.rec (motive:=fun _=>XR) (k (x::t)) (fun n' _=>ih n') n) l n
theorem zyz {α:Type}:∀(l:List α) (n:Nat) (k:List α→XR),ztl n l k=match Nat.ble n l.length with|true=>k (l.drop n)|false=>none
 | [],0,k=>rfl
 | [],n+1,k=>rfl
 |x::t,0,k=>rfl
 |x::t,n+1,k=>(zyz t n k:_)
noncomputable def boxNew (M:Mem) (s:Nat) (b:IBlk):XR:=Option.rec (motive:=fun _=>XR) (some (.ptr (.box s) 0 0,Mem.rec (fun B H=>⟨(s,b)::B,H⟩) M)) (fun _=>none) (gfindBox M.boxes s)
noncomputable def heapNew (M:Mem) (b:IBlk) (f:Nat→IVal):XR:=nforce (llen M.heap) fun n=>some (f n,gpush M b)
noncomputable def xnew (M:Mem) (s:Option Nat) (b:IBlk):XR:=Option.rec (motive:=fun _=>XR) (heapNew M b fun n=>.ptr (.heap n) 0 0) (fun s=>boxNew M s b) s
theorem zaey (M:Mem) (s:Option Nat) (b:IBlk):xnew M s b=newBlk M s b:=by
 cases s with
 |none=>show some (IVal.ptr (.heap (llen M.heap)) 0 0,gpush M b)=_;rw[zar,zfo];rfl
 |some s =>
  show boxNew M s b=_
  unfold boxNew newBlk
  rw[zey]
  dsimp only
  cases findBox M.boxes s<;>rfl
noncomputable def zaj (s:Option Nat) (z:List PVal):XF:=fun _ M=>lall (gpc z) fun cs=>xnew M s (.cells cs (llen z) 0 false)
noncomputable def x_box (s:Option Nat) (n:Nat) (v:IVal):XF:=fun _ M=>Option.rec (motive:=fun _=>XR) none (fun cs=>Bool.rec none (xnew M s (.cells cs n 0 false)) (Nat.beq (llen cs) n)) (toC v)
noncomputable def xfill (parts:List (Nat×Nat×IVal)) (cells:List IVal) (k:List IVal→XR):XR :=
 List.rec (motive:=fun _=>List IVal→XR) k (fun e _ ih c=>Prod.rec (fun off q=>Prod.rec (fun n v=>Option.rec (motive:=fun _=>XR) none (fun new=>Bool.rec none (lall (gsplice c off new) ih) (Bool.rec false (Nat.ble (Nat.add off n) (llen c)) (Nat.beq (llen new) n))) (toC v)) q) e) parts cells
theorem zza (k:List IVal→XR):∀(parts:List (Nat×Nat×Opd)) (c:List IVal),xfill (cvp parts) c k=match fillParts noRho c parts with|some cs=>k cs|none=>none
 | [],c=>rfl
 |(off,n,x)::rest,c=>by
  have ih:=zza k rest
  show(Option.rec (motive:=fun _=>XR) none (fun new=>Bool.rec none (lall (gsplice c off new) fun c=>xfill (cvp rest) c k) (Bool.rec false (Nat.ble (Nat.add off n) (llen c)) (Nat.beq (llen new) n))) (toC (cv x)):XR)=_
  rw[fillParts,zama,cv_eq]
  cases(noRho x).cellsOf with
  |none=>rfl
  |some new =>
   simp only[zat,zeo,zar,ih]
   have hb:(Bool.rec false (Nat.ble (Nat.add off n) c.length) (Nat.beq new.length n):Bool)=(Nat.beq new.length n&&Nat.ble (off+n) c.length):=by cases Nat.beq new.length n<;>rfl
   rw[hb]
   cases(Nat.beq new.length n&&Nat.ble (off+n) c.length)<;>rfl
noncomputable def zak (z:List PVal) (p:List (Nat×Nat×IVal)):XF:=fun _ M=>xfill p (gpc z) fun cs=>some (.agg cs,M)
noncomputable def zag (e n:Nat) (z:List PVal) (p:List (Nat×Nat×IVal)):XF:=fun _ M=>xfill p (grepl n z) fun cs=>heapNew M (.cells cs e 0 false) fun h=>.slice h 0 0 n
noncomputable def xread (M:Mem) (n:Nat) (v:IVal) (k:List IVal→XR):XR :=
 PV.rec (motive:=fun _=>XR) (fun cs=>prd n cs k) (fun key ver off=>toCells (gget M key) fun cs _ v _=>Bool.rec none (grow cs off n k) (Nat.beq ver v)) none (toPV v)
theorem zagy (M:Mem) (n:Nat) (v:IVal) (k:List IVal→XR):xread M n v k=gread M n v k:=by
 cases v with
 |p u=>cases u<;>rfl
 |ptr key ver off =>
  show toCells (gget M key) _=_
  unfold gread
  dsimp only
  cases gget M key with
  |none=>rfl
  |some b=>cases b<;>rfl
 |_=>rfl
noncomputable def one (M:Mem) (l:List IVal):XR:=List.rec (motive:=fun _=>XR) none (fun x t _=>List.rec (motive:=fun _=>XR) (some (x,M)) (fun _ _ _=>none) t) l
noncomputable def zab (n:Option Nat) (v:IVal):XF:=fun _ M=>Option.rec (motive:=fun _=>XR) (xread M 1 v (one M)) (fun n=>xread M n v fun cs=>some (.agg cs,M)) n
noncomputable def xwrite (M:Mem) (a:IVal) (new:List IVal) (k:Mem→XR):XR :=
 PV.rec (motive:=fun _=>XR) (fun _=>none) (fun key ver off=>toCells (gget M key) fun cs e v o=>Bool.rec none (Bool.rec none (lall (gsplice cs off new) fun cs'=>k (gput M key (.cells cs' e v o))) (Nat.ble (Nat.add off (llen new)) (llen cs))) (Nat.beq ver v)) none (toPV a)
theorem zamb (M:Mem) (a:IVal) (new:List IVal) (k:Mem→XR):xwrite M a new k=match writeCells M a new with|some M'=>k M'|none=>none:=by
 cases a with
 |p u=>cases u<;>rfl
 |ptr key ver off =>
  show toCells (gget M key) _=_
  rw[zcb]
  unfold writeCells
  dsimp only
  cases M.get key with
  |none=>rfl
  |some b =>
   cases b with
   |map=>rfl
   |cells cs e v o =>
    show(Bool.rec none (Bool.rec none (lall (gsplice cs off new) fun cs'=>k (gput M key (.cells cs' e v o))) (Nat.ble (Nat.add off (llen new)) (llen cs))) (Nat.beq ver v):XR)=_
    simp only[zat,zeo,zar,zls]
    cases Nat.beq ver v with
    |false=>rfl
    |true =>
     simp only[Bool.true_and]
     show(Bool.rec none (k _) (Nat.ble (off+new.length) cs.length):XR)=_
     cases Nat.ble (off+new.length) cs.length<;>rfl
 |_=>rfl
noncomputable def zaf (n:Nat) (a x:IVal):XF:=fun _ M=>Option.rec (motive:=fun _=>XR) none (fun cs=>Bool.rec none (xwrite M a cs fun M'=>some (.tup [],M')) (Nat.beq (llen cs) n)) (toC x)
noncomputable def okNilP (p:PVal):Bool:=PVal.rec (motive_1:=fun _=>Bool) (motive_2:=fun _=>PUnit) (fun _=>false) (fun _ _=>false) (fun _=>false) (fun _ _ _ _=>false) (fun _ _=>true) (fun _=>true) false false false false false ⟨⟩ (fun _ _ _ _=>⟨⟩) p
noncomputable def okNil (v:IVal):Bool:=IVal.rec (motive_1:=fun _=>Bool) (motive_2:=fun _=>PUnit) okNilP (fun _ _ _=>true) (fun _ _ _ _=>false) (fun _=>false) (fun _ _ _=>true) (fun _ _=>false) (fun _ _=>false) false (fun _=>false) (fun _ _ _ _=>false) ⟨⟩ (fun _ _ _ _=>⟨⟩) v
noncomputable def x_nil (v:IVal):XF:=fun _ M=>Bool.rec none (some (v,M)) (okNil v)
noncomputable def zaa (off:Nat) (v:IVal):XF:=fun _ M=>PV.rec (motive:=fun _=>XR) (fun cs=>ztl off cs fun cs=>some (.p (.ptr cs),M)) (fun k a o=>nforce (Nat.add o off) fun o=>some (.ptr k a o,M)) none (toPV v)
noncomputable def xidx (n:Nat) (v:IVal) (k:Nat→XR):XR:=Option.rec (motive:=fun _=>XR) none (fun p=>Prod.rec (fun _ i=>Int.rec (motive:=fun _=>XR) (fun a=>Bool.rec none (k a) (Nat.ble (Nat.succ a) n)) (fun _=>none) i) p) (toI_h v)
theorem ztm (n:Nat) (v:IVal) (k:Nat→XR):xidx n v k=match asIndex n v with|some j=>k j|none=>none:=by
 rw[← zsu]
 unfold xidx
 cases h:toI_h v with
 |none =>
  have:gidx n v=none:=by
   cases v with
   |p u=>cases u<;>first|rfl|cases h
   |_=>rfl
  rw[this]
 |some p =>
  rw[zrb h]
  obtain⟨t,i⟩:=p
  cases i with
  |ofNat a =>
   show(Bool.rec none (k a) (Nat.ble (Nat.succ a) n):XR)=match(Bool.rec none (some a) (Nat.ble (Nat.succ a) n):Option Nat)with|some j=>k j|none=>none
   cases Nat.ble (Nat.succ a) n<;>rfl
  |negSucc a=>rfl
noncomputable def xbnd (n:Nat) (v:IVal) (k:Nat→XR):XR:=Option.rec (motive:=fun _=>XR) none (fun p=>Prod.rec (fun _ i=>Int.rec (motive:=fun _=>XR) (fun a=>Bool.rec none (k a) (Nat.ble a n)) (fun _=>none) i) p) (toI_h v)
theorem zamc (n:Nat) (v:IVal) (k:Nat→XR):xbnd n v k=match asBound n v with|some j=>k j|none=>none:=by
 rw[← zym]
 unfold xbnd
 cases h:toI_h v with
 |none =>
  have:gbnd n v=none:=by
   cases v with
   |p u=>cases u<;>first|rfl|cases h
   |_=>rfl
  rw[this]
 |some p =>
  rw[zrb h]
  obtain⟨t,i⟩:=p
  cases i with
  |ofNat a =>
   show(Bool.rec none (k a) (Nat.ble a n):XR)=match(Bool.rec none (some a) (Nat.ble a n):Option Nat)with|some j=>k j|none=>none
   cases Nat.ble a n<;>rfl
  |negSucc a=>rfl
noncomputable def zac (e:Nat) (x i:IVal):XF:=fun _ M =>
 SW.rec (motive:=fun _=>XR) (fun es n cs=>Bool.rec none (xidx n i fun j=>some (.p (.ptr (ldrop (j*e) cs)),M)) (Nat.beq es e)) (fun k v o n=>xidx n i fun j=>nforce (o+j*e) fun o=>some (.ptr (.heap k) v o,M)) none none (toSW x)
noncomputable def zam (len e:Nat) (x i:IVal):XF:=fun _ M =>
 xidx len i fun j=>PV.rec (motive:=fun _=>XR) (fun cs=>ztl (j*e) cs fun cs=>some (.p (.ptr cs),M)) (fun k a o=>nforce (o+j*e) fun o=>some (.ptr k a o,M)) none (toPV x)
noncomputable def toAgg (v:IVal):Option (List IVal):=IVal.rec (motive_1:=fun _=>Option (List IVal)) (motive_2:=fun _=>PUnit) (fun _=>none) (fun _ _ _=>none) (fun _ _ _ _=>none) (fun _=>none) (fun _ _ _=>none) (fun cs _=>some cs) (fun _ _=>none) none (fun _=>none) (fun _ _ _ _=>none) ⟨⟩ (fun _ _ _ _=>⟨⟩) v
noncomputable def toTup (v:IVal):Option (List IVal):=IVal.rec (motive_1:=fun _=>Option (List IVal)) (motive_2:=fun _=>PUnit) (fun _=>none) (fun _ _ _=>none) (fun _ _ _ _=>none) (fun _=>none) (fun _ _ _=>none) (fun _ _=>none) (fun cs _=>some cs) none (fun _=>none) (fun _ _ _ _=>none) ⟨⟩ (fun _ _ _ _=>⟨⟩) v
noncomputable def xat (M:Mem) (cs:List IVal) (o:Nat) (n:Option Nat):XR:=Option.rec (motive:=fun _=>XR) (Option.rec (motive:=fun _=>XR) none (fun v=>some (v,M)) (lget cs o)) (fun n=>grow cs o n fun l=>some (.agg l,M)) n
noncomputable def zavo (n:Option Nat) (o:Nat) (x:IVal):XF:=fun _ M=>Option.rec (motive:=fun _=>XR) none (fun cs=>xat M cs o n) (toAgg x)
noncomputable def zagz (len e:Nat) (n:Option Nat) (x i:IVal):XF:=fun _ M=>Option.rec (motive:=fun _=>XR) none (fun cs=>xidx len i fun j=>nforce (j*e) fun o=>xat M cs o n) (toAgg x)
noncomputable def zae (x:IVal) (i:Nat):XF:=fun _ M=>Option.rec (motive:=fun _=>XR) none (fun cs=>Option.rec (motive:=fun _=>XR) none (fun v=>some (v,M)) (lget cs i)) (toTup x)
noncomputable def zaha (x i:IVal):XF:=fun _ M=>Option.rec (motive:=fun _=>XR) none (fun s=>xidx (llen s) i fun j=>Option.rec (motive:=fun _=>XR) none (fun b=>xnum M .u8 b.toNat) (lget s j)) (toS x)
noncomputable def xhi (n:Nat) (o:Option IVal) (k:Nat→XR):XR:=Option.rec (motive:=fun _=>XR) (k n) (fun v=>xbnd n v k) o
noncomputable def xlo (n:Nat) (o:Option IVal) (k:Nat→XR):XR:=Option.rec (motive:=fun _=>XR) (k 0) (fun v=>xbnd n v k) o
theorem zahb (n:Nat) (o:Option Opd) (k:Nat→XR):xhi n (cvo o) k=match boundHi noRho n o with|some j=>k j|none=>none:=by
 cases o with
 |none=>rfl
 |some x=>show xbnd n (cv x) k=_;rw[zamc,cv_eq];rfl
theorem zahc (n:Nat) (o:Option Opd) (k:Nat→XR):xlo n (cvo o) k=match boundLo noRho n o with|some j=>k j|none=>none:=by
 cases o with
 |none=>rfl
 |some x=>show xbnd n (cv x) k=_;rw[zamc,cv_eq];rfl
noncomputable def zwx (x:IVal) (lo hi:Option IVal):XF:=fun _ M=>Option.rec (motive:=fun _=>XR) none (fun s=>xhi (llen s) hi fun h=>xlo h lo fun l=>lall (ltake (h-l) (ldrop l s)) fun s'=>some (.p (.str s'),M)) (toS x)
noncomputable def zjd (e:Nat) (x:IVal) (lo hi:Option IVal):XF:=fun _ M =>
 SW.rec (motive:=fun _=>XR) (fun es n cs=>Bool.rec none (xhi n hi fun h=>xlo h lo fun l=>lall (ltake ((h-l)*e) (ldrop (l*e) cs)) fun cs'=>nforce (h-l) fun m=>some (.p (.slice e m cs'),M)) (Nat.beq es e))
  (fun k v o n=>xhi n hi fun h=>xlo h lo fun l=>toCells (gget M (.heap k)) fun _ es w _=>Bool.rec none (Bool.rec none (nforce (o+l*e) fun o'=>nforce (h-l) fun m=>some (.slice k v o' m,M)) (Nat.beq v w)) (Nat.beq es e))
  (xhi 0 hi fun h=>xlo h lo fun _=>some (.p .nilslice,M)) none (toSW x)
noncomputable def x_not (x:IVal):XF:=fun _ M=>Option.rec (motive:=fun _=>XR) none (fun b=>xbool M (gnot b)) (toB x)
noncomputable def zfp (d:IntKind) (x:IVal):XF:=fun _ M=>Option.rec (motive:=fun _=>XR) none (fun p=>Prod.rec (fun _ n=>Int.rec (motive:=fun _=>XR) (fun a=>xfit M d a) (fun a=>xneg M d a) n) p) (toI_h x)
noncomputable def x_len (x:IVal):XF:=fun _ M=>SW.rec (motive:=fun _=>XR) (fun _ n _=>xnum M .i64 n) (fun _ _ _ n=>xnum M .i64 n) (some (.p (.int .i64 (.ofNat 0)),M)) none (toSW x)
noncomputable def zki (x:IVal):XF:=fun _ M=>Option.rec (motive:=fun _=>XR) none (fun s=>xnum M .i64 (llen s)) (toS x)
noncomputable def zah (c a b:IVal):XF:=fun _ M=>Option.rec (motive:=fun _=>XR) none (fun t=>Bool.rec (some (b,M)) (some (a,M)) t) (toB c)
noncomputable def lay (r:XR):XR:=Option.rec (motive:=fun _=>XR) none (fun p=>Prod.rec (fun v M=>vforce v fun v=>some (v,M)) p) r
theorem zcg (r:XR):lay r=r:=by
 cases r with
 |none=>rfl
 |some p=>obtain⟨v,M⟩:=p;exact zaku v fun v=>some (v,M)
inductive FW where
 |one (f:FuncId)
 |with(f:FuncId) (cap:List IVal)
 |no
noncomputable def pFn (p:PVal):FW:=PVal.rec (motive_1:=fun _=>FW) (motive_2:=fun _=>PUnit) (fun _=>.no) (fun _ _=>.no) (fun _=>.no) (fun _ _ _ _=>.no) (fun _ _=>.no) (fun f=>.one f) .no .no .no .no .no ⟨⟩ (fun _ _ _ _=>⟨⟩) p
noncomputable def toFW (v:IVal):FW:=IVal.rec (motive_1:=fun _=>FW) (motive_2:=fun _=>PUnit) pFn (fun _ _ _=>.no) (fun _ _ _ _=>.no) (fun _=>.no) (fun f l _=>.with f l) (fun _ _=>.no) (fun _ _=>.no) .no (fun _=>.no) (fun _ _ _ _=>.no) ⟨⟩ (fun _ _ _ _=>⟨⟩) v
noncomputable def xret (B:List (Nat×IBlk)) (r:Option (IVal×List IBlk)):XR:=Option.rec (motive:=fun _=>XR) none (fun p=>Prod.rec (fun v H=>some (v,⟨B,H⟩)) p) r
noncomputable def zad (f:IVal) (l:List IVal):XF:=fun C M=>Bool.rec none (Mem.rec (motive:=fun _=>XR) (fun B H=>FW.rec (motive:=fun _=>XR) (fun g=>xret B (C g l H)) (fun g cap=>lall (lapp l cap) fun l=>xret B (C g l H)) none (toFW f)) M) (passesB l)
noncomputable def x_eqv (n:Bool) (c:KTy) (x y:Opd):XF:=fun _ M=>lay (geqvOp n c x y (fun _ _ _=>none) noRho M)
noncomputable def zox (n:Bool) (x y:Opd):XF:=fun _ M=>lay (zakp n x y (fun _ _ _=>none) noRho M)
noncomputable def zarr (n:Bool) (x y:Opd):XF:=fun _ M=>lay (zara n x y (fun _ _ _=>none) noRho M)
noncomputable def x_neg (x:Opd):XF:=fun _ M=>lay (f_neg x (fun _ _ _=>none) noRho M)
noncomputable def zhe (f:FuncId) (cap:List Opd):XF:=fun _ M=>lay (gmkFunc f cap (fun _ _ _=>none) noRho M)
noncomputable def zal (e:Nat) (x y:Opd):XF:=fun _ M=>lay (gappend e x y (fun _ _ _=>none) noRho M)
noncomputable def zahd (l:List Opd):XF:=fun _ M=>lay (zarc l (fun _ _ _=>none) noRho M)
noncomputable def zars (l:List Opd):XF:=fun _ M=>lay (zard l (fun _ _ _=>none) noRho M)
noncomputable def zas (ok:Bool) (z:IVal) (c:KTy) (x k:Opd):XF:=fun _ M=>lay (glookup ok z c x k (fun _ _ _=>none) noRho M)
noncomputable def zby (c:KTy) (x k v:Opd):XF:=fun _ M=>lay (gmapUpd c x k v (fun _ _ _=>none) noRho M)
noncomputable def zdp (e:Nat) (z:List PVal) (n c:Opd):XF:=fun _ M=>lay (gmkSlice e z n c (fun _ _ _=>none) noRho M)
noncomputable def zkj (z:IVal) (c:KTy) (x k:Opd):XF:=fun _ M=>lay (gmapEnt z c x k (fun _ _ _=>none) noRho M)
noncomputable def zoy (x s v:Opd):XF:=fun _ M=>lay (gentSt x s v (fun _ _ _=>none) noRho M)
noncomputable def zwy (l e:Nat) (x:Opd) (a b:Option Opd):XF:=fun _ M=>lay (gsliceArr l e x a b (fun _ _ _=>none) noRho M)
noncomputable def zamd (e:Nat) (x y:Opd):XF:=fun _ M=>lay (gcopy e x y (fun _ _ _=>none) noRho M)
noncomputable def zart (e:Nat) (x h m:Opd):XF:=fun _ M=>lay (gclip e x h m (fun _ _ _=>none) noRho M)
noncomputable def zavp (z:List PVal) (x:Opd):XF:=fun _ M=>lay (gclear z x (fun _ _ _=>none) noRho M)
noncomputable def x_del (c:KTy) (x k:Opd):XF:=fun _ M=>lay (gdel c x k (fun _ _ _=>none) noRho M)
noncomputable def zzb (x:Opd):XF:=fun _ M=>lay (zakq x (fun _ _ _=>none) noRho M)
noncomputable def zrd (n:Opd):XF:=fun _ M=>lay (zagl n (fun _ _ _=>none) noRho M)
noncomputable def zzc (x:Opd):XF:=fun _ M=>lay (zakr x (fun _ _ _=>none) noRho M)
noncomputable def x_mov (v:IVal):XF:=fun _ M=>some (v,M)
noncomputable def zcc:XF:=fun _ M=>heapNew M (.map [] 0) fun n=>.map n
noncomputable def zahe (z:List PVal) (e:Nat):XF:=fun _ M=>lall (gpc z) fun cs=>xnew M none (.cells cs e 0 false)
noncomputable def xop (o:IOp):XF :=
 IOp.rec (motive:=fun _=>XF) (fun x=>x_mov (cv x)) (fun c a b=>zah (cv c) (cv a) (cv b)) zaj (fun s n x=>x_box s n (cv x)) (fun z p=>zak z (cvp p)) (fun e n z p=>zag e n z (cvp p)) (fun n a=>zab n (cv a)) (fun n a x=>zaf n (cv a) (cv x))
  (fun x=>x_nil (cv x)) (fun o x=>zaa o (cv x)) (fun e x i=>zac e (cv x) (cv i)) (fun l e x i=>zam l e (cv x) (cv i)) (fun n o x=>zavo n o (cv x)) (fun l e n x i=>zagz l e n (cv x) (cv i)) (fun x i=>zaha (cv x) (cv i)) (fun x a b=>zwx (cv x) (cvo a) (cvo b)) (fun e x a b=>zjd e (cv x) (cvo a) (cvo b))
  (fun o x y=>xbin o (cv x) (cv y)) x_eqv zox zarr (fun x=>x_not (cv x)) x_neg (fun d x=>zfp d (cv x)) (fun x i=>zae (cv x) i)
  zhe (fun x=>x_len (cv x)) (fun x=>zki (cv x)) zal zahd zars zcc
  zas zby zdp (fun f l=>zad (cv f) (cvs l)) zahe
  zkj zoy zwy zamd zart zavp x_del zzb zrd zzc o
theorem zaru (o:IOp) (C:Oracle) (M:Mem):xop o C M=evalOp C noRho M o:=by
 have hg:∀o:IOp,evalOpG o (fun _ _ _=>none) noRho M=evalOp (fun _ _ _=>none) noRho M o:=fun o=>zoo o _ _ _
 cases o with
 |mov x=>show some (cv x,M)=_;rw[cv_eq];rfl
 |pick c a b =>
  show(Option.rec (motive:=fun _=>XR) none (fun t=>Bool.rec (some (cv b,M)) (some (cv a,M)) t) (toB (cv c)):XR)=match noRho c with | .p (.bool true)=>some (noRho a,M) | .p (.bool false)=>some (noRho b,M)|_=>none
  rw[cv_eq,cv_eq,cv_eq]
  generalize noRho c=v
  cases v with
  |p u=>cases u with
   |bool t=>cases t<;>rfl
   |_=>rfl
  |_=>rfl
 |alloc s z=>show lall (gpc z) (fun cs=>xnew M s (.cells cs (llen z) 0 false))=newBlk M s _;rw[zat,zaey,znf,zar]
 |box s n x =>
  show(Option.rec (motive:=fun _=>XR) none (fun cs=>Bool.rec none (xnew M s (.cells cs n 0 false)) (Nat.beq (llen cs) n)) (toC (cv x)):XR)=_
  rw[cv_eq,zama,evalOp]
  cases(noRho x).cellsOf with
  |none=>rfl
  |some cs =>
   dsimp only
   rw[zar,zaey]
   cases Nat.beq cs.length n<;>rfl
 |build z p=>show xfill (cvp p) (gpc z) (fun cs=>some (.agg cs,M))=_;rw[zza,znf];rfl
 |buildSlice e n z p =>
  show xfill (cvp p) (grepl n z) (fun cs=>heapNew M (.cells cs e 0 false) fun h=>.slice h 0 0 n)=_
  rw[zza,zng,evalOp]
  cases fillParts noRho (repl n z) p with
  |none=>rfl
  |some cs=>show some (IVal.slice (llen M.heap) 0 0 n,gpush M _)=_;rw[zar,zfo]
 |load n a =>
  have h:=hg (.load n a)
  cases n with
  |none =>
   show xread M 1 (cv a) (one M)=_
   rw[zagy,cv_eq]
   have h:gread M 1 (noRho a) (fun l=>match l with|[x]=>some (x,M)|_=>none)=_:=h
   have e:one M=(fun l=>match l with|[x]=>some (x,M)|_=>none):=by
    funext l
    cases l with
    |nil=>rfl
    |cons x t=>cases t<;>rfl
   rw[e,h]
   rfl
  |some n =>
   show xread M n (cv a) (fun cs=>some (.agg cs,M))=_
   rw[zagy,cv_eq]
   exact h
 |store n a x =>
  show(Option.rec (motive:=fun _=>XR) none (fun cs=>Bool.rec none (xwrite M (cv a) cs fun M'=>some (.tup [],M')) (Nat.beq (llen cs) n)) (toC (cv x)):XR)=_
  rw[cv_eq,cv_eq,zama,evalOp]
  cases(noRho x).cellsOf with
  |none=>rfl
  |some cs =>
   dsimp only
   rw[zar,zamb]
   cases Nat.beq cs.length n<;>rfl
 |nilCheck x =>
  show(Bool.rec none (some (cv x,M)) (okNil (cv x)):XR)=zom x C noRho M
  unfold zom
  rw[cv_eq]
  generalize noRho x=v
  cases v with
  |p u=>cases u<;>rfl
  |_=>rfl
 |fieldAddr o x =>
  show(PV.rec (motive:=fun _=>XR) (fun cs=>ztl o cs fun cs=>some (.p (.ptr cs),M)) (fun k a o'=>some (.ptr k a (o'+o),M)) none (toPV (cv x)):XR)=zsw o x C noRho M
  unfold zsw
  rw[cv_eq]
  generalize noRho x=v
  cases v with
  |p u=>cases u with
   |ptr cs=>exact zyz cs o _
   |_=>rfl
  |_=>rfl
 |idxSlice e x i =>
  show(SW.rec (motive:=fun _=>XR) (fun es n cs=>Bool.rec none (xidx n (cv i) fun j=>some (.p (.ptr (ldrop (j*e) cs)),M)) (Nat.beq es e)) (fun k v o n=>xidx n (cv i) fun j=>some (.ptr (.heap k) v (o+j*e),M)) none none (toSW (cv x)):XR)=zwr e x i C noRho M
  unfold zwr
  rw[cv_eq,cv_eq]
  generalize noRho x=v
  cases v with
  |p u=>cases u with
   |slice es n cs =>
    show(Bool.rec none (xidx n (noRho i) fun j=>some (.p (.ptr (ldrop (j*e) cs)),M)) (Nat.beq es e):XR)=_
    rw[ztm]
    dsimp only
    simp only[zbx]
    cases Nat.beq es e<;>cases asIndex n (noRho i)<;>rfl
   |_=>rfl
  |slice k v o n=>exact ztm n (noRho i) _
  |_=>rfl
 |idxArr l e x i =>
  show xidx l (cv i) (fun j=>PV.rec (motive:=fun _=>XR) (fun cs=>ztl (j*e) cs fun cs=>some (.p (.ptr cs),M)) (fun k a o=>some (.ptr k a (o+j*e),M)) none (toPV (cv x)))=zagh l e x i C noRho M
  unfold zagh
  rw[cv_eq,cv_eq,ztm]
  cases asIndex l (noRho i)with
  |none=>rfl
  |some j =>
   dsimp only
   generalize noRho x=v
   cases v with
   |p u=>cases u with
    |ptr cs=>exact zyz cs (j*e) _
    |_=>rfl
   |_=>rfl
 |field n o x =>
  show(Option.rec (motive:=fun _=>XR) none (fun cs=>xat M cs o n) (toAgg (cv x)):XR)=zyp n o x C noRho M
  unfold zyp
  rw[cv_eq]
  generalize noRho x=v
  cases v with
  |agg cs =>
   cases n with
   |none=>show(Option.rec (motive:=fun _=>XR) none (fun v=>some (v,M)) (lget cs o):XR)=_;rw[zdv];dsimp only;cases cs[o]? <;> rfl
   |some n=>exact ziy cs o n (fun l=>some (IVal.agg l,M))
  |p u=>rfl
  |_=>rfl
 |idxVal l e n x i =>
  show(Option.rec (motive:=fun _=>XR) none (fun cs=>xidx l (cv i) fun j=>xat M cs (j*e) n) (toAgg (cv x)):XR)=zagi l e n x i C noRho M
  unfold zagi
  rw[cv_eq,cv_eq]
  generalize noRho x=v
  cases v with
  |agg cs =>
   show xidx l (noRho i) (fun j=>xat M cs (j*e) n)=_
   rw[ztm]
   cases asIndex l (noRho i)with
   |none=>rfl
   |some j =>
    cases n with
    |none=>show(Option.rec (motive:=fun _=>XR) none (fun v=>some (v,M)) (lget cs (j*e)):XR)=_;rw[zdv];dsimp only;cases cs[j*e]? <;> rfl
    |some n=>exact ziy cs (j*e) n (fun l=>some (IVal.agg l,M))
  |_=>rfl
 |idxStr x i =>
  show(Option.rec (motive:=fun _=>XR) none (fun s=>xidx (llen s) (cv i) fun j=>Option.rec (motive:=fun _=>XR) none (fun b=>some (.p (.int .u8 (.ofNat b.toNat)),M)) (lget s j)) (toS (cv x)):XR)=zagj x i C noRho M
  unfold zagj
  rw[cv_eq,cv_eq]
  generalize noRho x=v
  cases v with
  |p u=>cases u with
   |str s =>
    show xidx (llen s) (noRho i) _=_
    rw[ztm,zar]
    dsimp only
    cases asIndex s.length (noRho i)with
    |none=>rfl
    |some j=>dsimp only;rw[zdv];cases s[j]? <;> rfl
   |_=>rfl
  |_=>rfl
 |sliceStr x lo hi =>
  show(Option.rec (motive:=fun _=>XR) none (fun s=>xhi (llen s) (cvo hi) fun h=>xlo h (cvo lo) fun l=>lall (ltake (h-l) (ldrop l s)) fun s'=>some (.p (.str s'),M)) (toS (cv x)):XR)=zws x lo hi C noRho M
  unfold zws
  rw[cv_eq]
  generalize noRho x=v
  cases v with
  |p u=>cases u with
   |str s =>
    show xhi (llen s) (cvo hi) _=_
    rw[zahb,zar]
    dsimp only
    cases boundHi noRho s.length hi with
    |none=>rfl
    |some h =>
     dsimp only
     rw[zahc]
     cases boundLo noRho h lo with
     |none=>rfl
     |some l=>dsimp only;rw[zat,zfn,zbx]
   |_=>rfl
  |_=>rfl
 |sliceSl e x lo hi =>
  show zjd e (cv x) (cvo lo) (cvo hi) C M=zabt e x lo hi C noRho M
  unfold zjd zabt
  rw[cv_eq]
  generalize noRho x=v
  cases v with
  |p u=>cases u with
   |slice es n cs =>
    show(Bool.rec none (xhi n (cvo hi) fun h=>xlo h (cvo lo) fun l=>lall (ltake ((h-l)*e) (ldrop (l*e) cs)) fun cs'=>some (.p (.slice e (h-l) cs'),M)) (Nat.beq es e):XR)=_
    rw[zahb]
    dsimp only
    cases Nat.beq es e with
    |false=>cases boundHi noRho n hi<;>rfl
    |true =>
     cases boundHi noRho n hi with
     |none=>rfl
     |some h =>
      dsimp only
      rw[zahc]
      cases boundLo noRho h lo with
      |none=>rfl
      |some l=>dsimp only;rw[zat,zfn,zbx]
   |nilslice =>
    show xhi 0 (cvo hi) _=_
    rw[zahb]
    dsimp only
    cases boundHi noRho 0 hi with
    |none=>rfl
    |some h =>
     dsimp only
     rw[zahc]
     cases boundLo noRho h lo<;>rfl
   |_=>rfl
  |slice k v o n =>
   show xhi n (cvo hi) _=_
   rw[zahb]
   dsimp only
   cases boundHi noRho n hi with
   |none=>rfl
   |some h =>
    dsimp only
    rw[zahc]
    cases boundLo noRho h lo with
    |none=>rfl
    |some l =>
     dsimp only
     rw[zcb]
     cases M.get (.heap k)with
     |none=>rfl
     |some b =>
      cases b with
      |map=>rfl
      |cells cs es w q =>
       show(Bool.rec none (Bool.rec none (some (.slice k v (o+l*e) (h-l),M)) (Nat.beq v w)) (Nat.beq es e):XR)=_
       dsimp only
       cases Nat.beq es e<;>cases Nat.beq v w<;>rfl
  |_=>rfl
 |bin op x y=>show xbin op (cv x) (cv y) C M=_;rw[zavn,cv_eq,cv_eq];rfl
 |eqv n c x y=>show lay (evalOpG (.eqv n c x y) (fun _ _ _=>none) noRho M)=_;rw[zcg,hg];rfl
 |eqPtr n x y=>show lay (evalOpG (.eqPtr n x y) (fun _ _ _=>none) noRho M)=_;rw[zcg,hg];rfl
 |eqSl n x y=>show lay (evalOpG (.eqSl n x y) (fun _ _ _=>none) noRho M)=_;rw[zcg,hg];rfl
 |not x =>
  show(Option.rec (motive:=fun _=>XR) none (fun b=>xbool M (gnot b)) (toB (cv x)):XR)=f_not x C noRho M
  unfold f_not
  rw[cv_eq]
  generalize noRho x=v
  cases v with
  |p u=>cases u with
   |bool t=>cases t<;>rfl
   |_=>rfl
  |_=>rfl
 |neg x=>show lay (evalOpG (.neg x) (fun _ _ _=>none) noRho M)=_;rw[zcg,hg];rfl
 |conv d x =>
  show(Option.rec (motive:=fun _=>XR) none (fun p=>Prod.rec (fun _ n=>Int.rec (motive:=fun _=>XR) (fun a=>xfit M d a) (fun a=>xneg M d a) n) p) (toI_h (cv x)):XR)=zarb d x C noRho M
  unfold zarb
  rw[cv_eq]
  generalize noRho x=v
  cases v with
  |p u=>cases u with
   |int k n =>
    cases n with
    |ofNat a=>exact zly M d a
    |negSucc a=>exact zalz M d a
   |_=>rfl
  |_=>rfl
 |extract x i =>
  show(Option.rec (motive:=fun _=>XR) none (fun cs=>Option.rec (motive:=fun _=>XR) none (fun v=>some (v,M)) (lget cs i)) (toTup (cv x)):XR)=zabu x i C noRho M
  unfold zabu
  rw[cv_eq]
  generalize noRho x=v
  cases v with
  |tup cs=>show(Option.rec (motive:=fun _=>XR) none (fun v=>some (v,M)) (lget cs i):XR)=_;rw[zdv];dsimp only;cases cs[i]? <;> rfl
  |_=>rfl
 |mkFunc f cap=>show lay (evalOpG (.mkFunc f cap) (fun _ _ _=>none) noRho M)=_;rw[zcg,hg];rfl
 |len x =>
  show x_len (cv x) C M=f_len x C noRho M
  unfold x_len f_len
  rw[cv_eq]
  generalize noRho x=v
  cases v with
  |p u=>cases u<;>rfl
  |_=>rfl
 |lenStr x =>
  show(Option.rec (motive:=fun _=>XR) none (fun s=>some (.p (.int .i64 (.ofNat (llen s))),M)) (toS (cv x)):XR)=zagk x C noRho M
  unfold zagk
  rw[cv_eq]
  generalize noRho x=v
  cases v with
  |p u=>cases u with
   |str s=>show some (IVal.p (.int .i64 (.ofNat (llen s))),M)=_;rw[zar];rfl
   |_=>rfl
  |_=>rfl
 |append e x y=>show lay (evalOpG (.append e x y) (fun _ _ _=>none) noRho M)=_;rw[zcg,hg];rfl
 |maxi l=>show lay (evalOpG (.maxi l) (fun _ _ _=>none) noRho M)=_;rw[zcg,hg];rfl
 |mini l=>show lay (evalOpG (.mini l) (fun _ _ _=>none) noRho M)=_;rw[zcg,hg];rfl
 |mkMap=>show some (IVal.map (llen M.heap),gpush M (.map [] 0))=_;rw[zar,zfo];rfl
 |lookup ok z c x k=>show lay (evalOpG (.lookup ok z c x k) (fun _ _ _=>none) noRho M)=_;rw[zcg,hg];rfl
 |mapUpd c x k v=>show lay (evalOpG (.mapUpd c x k v) (fun _ _ _=>none) noRho M)=_;rw[zcg,hg];rfl
 |mkSlice e z n c=>show lay (evalOpG (.mkSlice e z n c) (fun _ _ _=>none) noRho M)=_;rw[zcg,hg];rfl
 |call f l =>
  show(Bool.rec none (FW.rec (motive:=fun _=>XR) (fun g=>xret M.boxes (C g (cvs l) M.heap)) (fun g cap=>lall (lapp (cvs l) cap) fun l=>xret M.boxes (C g l M.heap)) none (toFW (cv f))) (passesB (cvs l)):XR)=zare f l C noRho M
  unfold zare
  rw[cv_eq,zarq,zww]
  simp only[zat,zew]
  cases passesOK (l.map noRho)with
  |false=>rfl
  |true =>
   dsimp only
   generalize noRho f=v
   cases v with
   |p u=>cases u with
    |func g=>show xret M.boxes (C g (l.map noRho) M.heap)=_;unfold xret;dsimp only;cases C g (l.map noRho) M.heap<;>rfl
    |_=>rfl
   |func g cap=>show xret M.boxes (C g (l.map noRho++cap) M.heap)=_;unfold xret;dsimp only;cases C g (l.map noRho++cap) M.heap<;>rfl
   |_=>rfl
 |allocA z e=>show lall (gpc z) (fun cs=>xnew M none (.cells cs e 0 false))=newBlk M none _;rw[zat,zaey,znf]
 |mapEnt z c x k=>show lay (evalOpG (.mapEnt z c x k) (fun _ _ _=>none) noRho M)=_;rw[zcg,hg];rfl
 |entSt x s v=>show lay (evalOpG (.entSt x s v) (fun _ _ _=>none) noRho M)=_;rw[zcg,hg];rfl
 |sliceArr l e x a b=>show lay (evalOpG (.sliceArr l e x a b) (fun _ _ _=>none) noRho M)=_;rw[zcg,hg];rfl
 |copy e x y=>show lay (evalOpG (.copy e x y) (fun _ _ _=>none) noRho M)=_;rw[zcg,hg];rfl
 |clip e x h m=>show lay (evalOpG (.clip e x h m) (fun _ _ _=>none) noRho M)=_;rw[zcg,hg];rfl
 |clear z x=>show lay (evalOpG (.clear z x) (fun _ _ _=>none) noRho M)=_;rw[zcg,hg];rfl
 |del c x k=>show lay (evalOpG (.del c x k) (fun _ _ _=>none) noRho M)=_;rw[zcg,hg];rfl
 |first x=>show lay (evalOpG (.first x) (fun _ _ _=>none) noRho M)=_;rw[zcg,hg];rfl
 |second n=>show lay (evalOpG (.second n) (fun _ _ _=>none) noRho M)=_;rw[zcg,hg];rfl
 |still x=>show lay (evalOpG (.still x) (fun _ _ _=>none) noRho M)=_;rw[zcg,hg];rfl
end Go.Ideal

/-
  IDEAL SEMANTICS, 54: CODE WHOSE SLOTS ARE LEAN's OWN VARIABLES: for the kernel. 'hcode' makes it out of the ideal code; whatever it comes to, the ideal code comes to.
-/
namespace Go.Ideal
open Go
set_option linter.unusedSectionVars false
inductive HC (α:Type) where
 |op (o:α) (k:IVal→HC α)
 |opg (g:IVal) (w:Bool) (o:α) (k:IVal→HC α)
 |chk (o:IOp) (v:IVal) (k:HC α)
 |chkg (g:IVal) (w:Bool) (o:IOp) (v:IVal) (k:HC α)
 |cond (v:IVal) (a b:HC α)
 |block (id:Nat) (b:HC α) (k:List IVal→HC α)
 |loop (vs:List IVal) (b:List IVal→HC α)
 |fin (x:IExit) (vs:List IVal)
 |fresh (l:List Nat) (vs:List IVal) (k:HC α)
 |both (a b:HC α) (k:List IVal→HC α)
 |stuck
abbrev HR:=Option (IExit×List IVal×Mem)
noncomputable def hfree (s:Nat) (vs:List IVal):Bool:=List.rec (motive:=fun _=>Bool) true (fun v _ ih=>match v with | .ptr (.box t) _ _=>Bool.rec ih false (Nat.beq s t)|_=>ih) vs
noncomputable def hfresh (vs:List IVal) (l:List Nat) (M:Mem) (k:Mem→HR):HR :=
 List.rec (motive:=fun _=>Mem→HR) k (fun s _ ih M=>Option.rec (motive:=fun _=>HR) (ih M) (fun _=>Bool.rec none (ih ⟨dropBox M.boxes s,M.heap⟩) (hfree s vs)) (gfindBox M.boxes s)) l M
noncomputable def hloop (b:List IVal→Mem→HR) (n:Nat):List IVal→Mem→HR :=
 Nat.rec (motive:=fun _=>List IVal→Mem→HR) (fun _ _=>none) (fun _ ih vs M=>Option.rec (motive:=fun _=>HR) none (fun r=>match r with|(x,vs,M)=>IExit.rec (motive:=fun _=>HR) (ih vs M) (fun i=>some (.exit i,vs,M)) (some (.ret,vs,M)) x) (b vs M)) n
noncomputable def hput (k:IVal→Mem→HR) (r:Option (IVal×Mem)):HR :=
 Option.rec (motive:=fun _=>HR) none (fun p=>Prod.rec (fun v M=>k v M) p) r
noncomputable def hchk (C:Oracle) (M:Mem) (o:IOp) (v:IVal):Bool :=
 Bool.rec (motive:=fun _=>Bool) (Option.rec (motive:=fun _=>Bool) false (fun p=>IVal.beq p.1 v) (evalOpG o C noRho M))
  (match contentOf noRho o,keyOf v with
   |some b,some k=>match gget M k with
    |some c=>IBlk.beq b c
    |none=>false
   |_,_=>false) (isAlloc o)
noncomputable def hrun (C:Oracle) (L:Nat) (c:HC XF):Mem→HR :=
 HC.rec (motive:=fun _=>Mem→HR)
  (fun f _ ih M=>hput ih (f C M))
  (fun g w f _ ih M=>Option.rec (motive:=fun _=>HR) none (fun t=>Bool.rec (ih skipped M) (hput ih (f C M)) t) (saysBool w g))
  (fun f v _ ih M=>Bool.rec none (ih M) (hchk C M f v))
  (fun g w f v _ ih M=>Option.rec (motive:=fun _=>HR) none (fun t=>Bool.rec (ih M) (Bool.rec none (ih M) (hchk C M f v)) t) (saysBool w g))
  (fun v _ _ a b M=>Option.rec (motive:=fun _=>HR) none (fun t=>Bool.rec (b M) (a M) t) (fbool v))
  (fun id _ _ b k M=>Option.rec (motive:=fun _=>HR) none (fun r=>match r with|(x,vs,M)=>IExit.rec (motive:=fun _=>HR) (k vs M) (fun i=>Bool.rec (some (.exit i,vs,M)) (k vs M) (Nat.beq i id)) (some (.ret,vs,M)) x) (b M))
  (fun vs _ b M=>hloop b L vs M)
  (fun x vs M=>some (x,vs,M))
  (fun l vs _ ih M=>hfresh vs l M ih)
  (fun _ _ _ a b k M=>match a M,b M with|some (.normal,vs,M1),some (.normal,ws,M2)=>Bool.rec none (k vs M1) (IVal.beqs vs ws&&(boxesBeq M1.boxes M2.boxes&&heapBeq M1.heap M2.heap))|_,_=>none)
  (fun _=>none) c
abbrev SE:=List (Nat×IVal)
def sfind:SE→Nat→Option IVal
 | [],_=>none
 |(s,v)::r,t=>match Nat.beq s t with|true=>some v|false=>sfind r t
def sopd (E:SE):Opd→Option Opd
 | .tmp t=>match sfind E t with|some v=>some (.const v)|none=>none
 |o=>some o
def sopds (E:SE):List Opd→Option (List Opd)
 | []=>some []
 |x::r=>match sopd E x,sopds E r with
  |some y,some l=>some (y::l)
  |_,_=>none
def sopt (E:SE):Option Opd→Option (Option Opd)
 |none=>some none
 |some x=>match sopd E x with|some y=>some (some y)|none=>none
def sparts (E:SE):List (Nat×Nat×Opd)→Option (List (Nat×Nat×Opd))
 | []=>some []
 |(a,b,x)::r=>match sopd E x,sparts E r with
  |some y,some l=>some ((a,b,y)::l)
  |_,_=>none
def sop (E:SE):IOp→Option IOp
 | .mov x=>(sopd E x).map .mov
 | .pick c a b=>match sopd E c,sopd E a,sopd E b with|some c,some a,some b=>some (.pick c a b)|_,_,_=>none
 | .alloc s z=>some (.alloc s z)
 | .box s n x=>(sopd E x).map (.box s n)
 | .build z p=>(sparts E p).map (.build z)
 | .buildSlice e n z p=>(sparts E p).map (.buildSlice e n z)
 | .load n a=>(sopd E a).map (.load n)
 | .store n a x=>match sopd E a,sopd E x with|some a,some x=>some (.store n a x)|_,_=>none
 | .nilCheck x=>(sopd E x).map .nilCheck
 | .fieldAddr o x=>(sopd E x).map (.fieldAddr o)
 | .idxSlice e x i=>match sopd E x,sopd E i with|some x,some i=>some (.idxSlice e x i)|_,_=>none
 | .idxArr l e x i=>match sopd E x,sopd E i with|some x,some i=>some (.idxArr l e x i)|_,_=>none
 | .field n o x=>(sopd E x).map (.field n o)
 | .idxVal l e n x i=>match sopd E x,sopd E i with|some x,some i=>some (.idxVal l e n x i)|_,_=>none
 | .idxStr x i=>match sopd E x,sopd E i with|some x,some i=>some (.idxStr x i)|_,_=>none
 | .sliceStr x a b=>match sopd E x,sopt E a,sopt E b with|some x,some a,some b=>some (.sliceStr x a b)|_,_,_=>none
 | .sliceSl e x a b=>match sopd E x,sopt E a,sopt E b with|some x,some a,some b=>some (.sliceSl e x a b)|_,_,_=>none
 | .bin o x y=>match sopd E x,sopd E y with|some x,some y=>some (.bin o x y)|_,_=>none
 | .eqv n c x y=>match sopd E x,sopd E y with|some x,some y=>some (.eqv n c x y)|_,_=>none
 | .eqPtr n x y=>match sopd E x,sopd E y with|some x,some y=>some (.eqPtr n x y)|_,_=>none
 | .eqSl n x y=>match sopd E x,sopd E y with|some x,some y=>some (.eqSl n x y)|_,_=>none
 | .not x=>(sopd E x).map .not
 | .neg x=>(sopd E x).map .neg
 | .conv d x=>(sopd E x).map (.conv d)
 | .extract x i=>(sopd E x).map (.extract · i)
 | .mkFunc f cap=>(sopds E cap).map (.mkFunc f)
 | .len x=>(sopd E x).map .len
 | .lenStr x=>(sopd E x).map .lenStr
 | .append e x y=>match sopd E x,sopd E y with|some x,some y=>some (.append e x y)|_,_=>none
 | .maxi xs=>(sopds E xs).map .maxi
 | .mini xs=>(sopds E xs).map .mini
 | .mkMap=>some .mkMap
 | .lookup ok z c x k=>match sopd E x,sopd E k with|some x,some k=>some (.lookup ok z c x k)|_,_=>none
 | .mapUpd c x k v=>match sopd E x,sopd E k,sopd E v with|some x,some k,some v=>some (.mapUpd c x k v)|_,_,_=>none
 | .mkSlice e z n c=>match sopd E n,sopd E c with|some n,some c=>some (.mkSlice e z n c)|_,_=>none
 | .call f az=>match sopd E f,sopds E az with|some f,some l=>some (.call f l)|_,_=>none
 | .allocA z e=>some (.allocA z e)
 | .mapEnt z c x k=>match sopd E x,sopd E k with|some x,some k=>some (.mapEnt z c x k)|_,_=>none
 | .entSt x s v=>match sopd E x,sopd E s,sopd E v with|some x,some s,some v=>some (.entSt x s v)|_,_,_=>none
 | .sliceArr l e x a b=>match sopd E x,sopt E a,sopt E b with|some x,some a,some b=>some (.sliceArr l e x a b)|_,_,_=>none
 | .copy e x y=>match sopd E x,sopd E y with|some x,some y=>some (.copy e x y)|_,_=>none
 | .clip e x h m=>match sopd E x,sopd E h,sopd E m with|some x,some h,some m=>some (.clip e x h m)|_,_,_=>none
 | .clear z x=>(sopd E x).map (.clear z)
 | .del c x k=>match sopd E x,sopd E k with|some x,some k=>some (.del c x k)|_,_=>none
 | .first x=>(sopd E x).map .first
 | .second n=>(sopd E n).map .second
 | .still x=>(sopd E x).map .still
def RelSS (E:SE) (ρ:Opd→IVal):Prop:=∀t v,sfind E t=some v→ρ (.tmp t)=v
structure Rho (ρ:Opd→IVal):Prop where
 const:∀v,ρ (.const v)=v
 func:∀f,ρ (.func f) = .p (.func f)
theorem zoz (T R:List IVal) (sub:List (Nat×Nat)):Rho (evalOpd T R sub):=⟨fun _=>rfl,fun _=>rfl⟩
section
variable {E:SE} {ρ:Opd→IVal}
theorem zcd (hρ:Rho ρ) (h:RelSS E ρ) {x y:Opd} (e:sopd E x=some y):ρ x=noRho y:=by
 cases x with
 |tmp t =>
  simp only[sopd]at e
  split at e
  ·rename_i v hv
   injection e with e
   subst e
   exact h t v hv
  ·cases e
 |const v=>injection e with e;subst e;exact hρ.const v
 |func f=>injection e with e;subst e;exact hρ.func f
theorem zzd (hρ:Rho ρ) (h:RelSS E ρ):∀ {l m:List Opd},sopds E l=some m→l.map ρ=m.map noRho
 | [],m,e=>by injection e with e;subst e;rfl
 |x::r,m,e=>by
  simp only[sopds]at e
  split at e
  ·rename_i y l h1 h2
   injection e with e
   subst e
   simp only[List.map_cons]
   rw[zcd hρ h h1,zzd hρ h h2]
  ·cases e
theorem zavq (hρ:Rho ρ) (h:RelSS E ρ) {a b:Option Opd} (e:sopt E a=some b) (n:Nat):boundLo ρ n a=boundLo noRho n b:=by
 cases a with
 |none=>injection e with e;subst e;rfl
 |some x =>
  simp only[sopt]at e
  split at e
  ·rename_i y hy
   injection e with e
   subst e
   simp only[boundLo,zcd hρ h hy]
  ·cases e
theorem zavr (hρ:Rho ρ) (h:RelSS E ρ) {a b:Option Opd} (e:sopt E a=some b) (n:Nat):boundHi ρ n a=boundHi noRho n b:=by
 cases a with
 |none=>injection e with e;subst e;rfl
 |some x =>
  simp only[sopt]at e
  split at e
  ·rename_i y hy
   injection e with e
   subst e
   simp only[boundHi,zcd hρ h hy]
  ·cases e
theorem ztn (hρ:Rho ρ) (h:RelSS E ρ):∀ {l m:List (Nat×Nat×Opd)} (c:List IVal),sparts E l=some m→fillParts ρ c l=fillParts noRho c m
 | [],m,c,e=>by injection e with e;subst e;rfl
 |(a,b,x)::r,m,c,e=>by
  simp only[sparts]at e
  split at e
  ·rename_i y l h1 h2
   injection e with e
   subst e
   rw[fillParts,fillParts,zcd hρ h h1]
   cases(noRho y).cellsOf with
   |none=>rfl
   |some new=>simp only[ztn hρ h _ h2]
  ·cases e
theorem zarv (hρ:Rho ρ) (h:RelSS E ρ) {o o':IOp} (e:sop E o=some o') (C:Oracle) (M:Mem):evalOp C ρ M o=evalOp C noRho M o':=by
 have hn:Rho noRho:=zoz [] [] []
 cases o<;>simp only[sop,Option.map_eq_some_iff]at e
 all_goals first
  |(injection e with e;subst e;rfl)
  |(obtain⟨y,h1,rfl⟩:=e;simp only[evalOp,zcd hρ h h1];done)
  |(obtain⟨y,h1,rfl⟩:=e;simp only[evalOp,ztn hρ h _ h1];done)
  |(obtain⟨y,h1,rfl⟩:=e;simp only[evalOp,zzd hρ h h1];done)
  |(split at e<;>first|(cases e;done)|(injection e with e;subst e;rename_i h1 h2;simp only[evalOp,zcd hρ h h1,zcd hρ h h2];done)|(injection e with e;subst e;rename_i h1 h2;simp only[evalOp,zcd hρ h h1,zzd hρ h h2];done)|(injection e with e;subst e;rename_i h1 h2 h3;simp only[evalOp,zcd hρ h h1,zcd hρ h h2,zcd hρ h h3];done)|(injection e with e;subst e;rename_i h1 h2 h3;simp only[evalOp,zcd hρ h h1,zavq hρ h h2,zavr hρ h h3];done))
theorem zaez (hρ:Rho ρ) (h:RelSS E ρ) {o o':IOp} (e:sop E o=some o'):isAlloc o'=isAlloc o∧contentOf ρ o=contentOf noRho o':=by
 cases o<;>simp only[sop,Option.map_eq_some_iff]at e
 all_goals first
  |(injection e with e;subst e;exact⟨rfl,rfl⟩)
  |(obtain⟨y,h1,rfl⟩:=e;exact⟨rfl,rfl⟩)
  |(obtain⟨y,h1,rfl⟩:=e;refine⟨rfl,?_⟩;simp only[contentOf,zcd hρ h h1];done)
  |(obtain⟨y,h1,rfl⟩:=e;refine⟨rfl,?_⟩;simp only[contentOf,ztn hρ h _ h1];done)
  |(split at e<;>first|(cases e;done)|(injection e with e;subst e;exact⟨rfl,rfl⟩)|(injection e with e;subst e;rename_i h1 h2;refine⟨rfl,?_⟩;simp only[contentOf,zcd hρ h h2];done))
theorem zavs {C:Oracle} {M:Mem} {o':IOp} {v:IVal}:hchk C M o' v=match isAlloc o' with
 |true=>match contentOf noRho o',keyOf v with
  |some b,some k=>match M.get k with
   |some c=>IBlk.beq b c
   |none=>false
  |_,_=>false
 |false=>match evalOp C noRho M o' with
  |some (u,_)=>IVal.beq u v
  |none=>false:=by
 unfold hchk
 rw[zoo]
 simp only[zcb]
 cases isAlloc o' with
 |true=>rfl
 |false =>
  cases evalOp C noRho M o' with
  |none=>rfl
  |some p=>rfl
end
end Go.Ideal

/-
  IDEAL SEMANTICS, 55: THE IDEAL CODE AS CODE OVER LEAN's OWN VARIABLES, and that it comes to the same.
-/
namespace Go.Ideal
open Go
set_option linter.unusedSectionVars false
inductive An where
 |lf
 |sq (a b:An)
 |cd (l:List Nat) (a b:An)
 |cj (a b:An)
 |bk (l:List Nat) (a:An)
 |lp (l:List Nat) (a:An)
section
variable {α:Type} (mk:IOp→α)
def vecS (E:SE):List Nat→Option (List IVal)
 | []=>some []
 |t::l=>match sfind E t,vecS E l with
  |some v,some vs=>some (v::vs)
  |_,_=>none
def hfin (x:IExit) (l:List Nat) (E:SE):HC α:=match vecS E l with|some vs=>.fin x vs|none=>.stuck
def zipSS:List Nat→List IVal→SE
 |t::l,v::vs=>(t,v)::zipSS l vs
 |_,_=>[]
def allIn (m:List Bool):List Nat→Bool
 | []=>true
 |t::l=>match m[t]? with|some true=>allIn m l|_=>false
def mkOK (m:List Bool) (l:List Nat):Bool:=match m with|[]=>true|m=>allIn m l
def sdel (d:Nat):SE→SE
 | []=>[]
 |(s,v)::r=>match Nat.beq s d with|true=>sdel d r|false=>(s,v)::sdel d r
def sput (E:SE) (d:Option Nat) (v:IVal):SE:=match d with|some d=>(d,v)::sdel d E|none=>E
def svals:SE→List IVal
 | []=>[]
 |(_,v)::r=>v::svals r
def dstOK (nt:Nat) (d:Option Nat):Bool:=match d with|some d=>Nat.blt d nt|none=>true
def xv (g:IVal→List IVal→HC α) (vs:List IVal):HC α:=List.casesOn (motive:=fun _=>HC α) vs .stuck fun v r=>g v r
def x0 (c:HC α) (_:List IVal):HC α:=c
def lamV:Nat→(List IVal→HC α)→List IVal→HC α
 |0,f=>x0 (f [])
 |n+1,f=>xv fun v=>lamV n fun l=>f (v::l)
def hop (E:SE) (o:IOp) (g:Option (Nat×Bool)) (k:IVal→HC α):HC α :=
 match sop E o with
 |none=>.stuck
 |some o=>match g with
  |none=>match o with
   | .mov (.const v)=>k v
   |o=>.op (mk o) k
  |some (x,w)=>match sfind E x with
   |some v=>.opg v w (mk o) k
   |none=>.stuck
def hreg (nt:Nat) (kont:SE→HC α):List IOper→SE→HC α
 | [],E=>kont E
 |o::r,E=>match dstOK nt o.dst with
  |true=>hop mk E o.op o.guard fun v=>hreg nt kont r (sput E o.dst v)
  |false=>.stuck
def hfreshS (l:List Nat) (E:SE) (c:HC α):HC α:=match l with|[]=>c|l=>.fresh l (svals E) c
def subS (E R:SE):List (Nat×Nat)→Option SE
 | []=>some E
 |(s,j)::r=>match sfind R j,subS E R r with
  |some v,some E'=>some ((s,v)::E')
  |_,_=>none
def hat (ops:List IOper) (E R:SE) (i:Nat) (k:SE→HC α):HC α :=
 match ops[i]? with
 |none=>.stuck
 |some o=>match subS E R o.sub with
  |some E'=>hop mk E' o.op o.guard fun v=>k ((i,v)::R)
  |none=>.stuck
def hqs (ops:List IOper) (E:SE) (k:SE→HC α):List Nat→SE→HC α
 | [],R=>k R
 |i::r,R=>hat mk ops E R i fun R=>hqs ops E k r R
def hrc (ops:List IOper) (E R:SE) (k:HC α):List Nat→HC α
 | []=>k
 |i::r=>match ops[i]? with
  |none=>.stuck
  |some o=>match subS E R o.sub,sfind R i with
   |some E',some x=>match sop E' o.op with
    |some op=>match o.guard with
     |none=>.chk op x (hrc ops E R k r)
     |some (t,w)=>match sfind E' t with
      |some g=>.chkg g w op x (hrc ops E R k r)
      |none=>.stuck
    |none=>.stuck
   |_,_=>.stuck
def hplan (ops:List IOper) (E:SE) (k:SE→HC α):List Stage→SE→HC α
 | [],R=>k R
 |g::r,R=>hqs mk ops E (fun R=>hrc ops E R (match g.e with
  |none=>hplan ops E k r R
  |some i=>hat mk ops E R i fun R=>hplan ops E k r R) g.rc) g.qs R
def upto:Nat→Nat→List Nat
 |0,_=>[]
 |n+1,i=>i::upto n (i+1)
def hplans (ops:List IOper) (E:SE):List (List Stage)→HC α
 | []=>.stuck
 | [g]=>hplan mk ops E (hfin .normal (upto ops.length 0)) g []
 |g::r=>.both (hplan mk ops E (hfin .normal (upto ops.length 0)) g []) (hplans ops E r) fun vs=>.fin .normal vs
def putAllS (E:SE):List IOper→List IVal→SE
 |o::r,v::vs=>putAllS (sput E o.dst v) r vs
 |_,_=>E
def hdraw (nt:Nat) (ops:List IOper) (plans:List (List Stage)) (kont:SE→HC α) (E:SE):HC α :=
 match dstsFit nt ops with
 |false=>.stuck
 |true=>match plans with
  | [g]=>hplan mk ops E (fun R=>match vecS R (upto ops.length 0)with|some vs=>kont (putAllS E ops vs)|none=>.stuck) g []
  |pl=>.block 0 (hplans mk ops E pl) (lamV ops.length fun vs=>kont (putAllS E ops vs))
def afind:List (Nat×List Nat)→Nat→Option (List Nat)
 | [],_=>none
 |(s,v)::r,t=>match Nat.beq s t with|true=>some v|false=>afind r t
def hcode (nt:Nat) (res:List Nat):List (Nat×List Nat)→ICode→An→(SE→HC α)→SE→HC α
 |_, .skip,_,k,E=>k E
 |Δ, .seq a b, .sq x y,k,E=>hcode nt res Δ a x (fun E=>hcode nt res Δ b y k E) E
 |Δ, .cond c a b, .cj x y,k,E=>match sopd E c with
  |some (.const v)=>.cond v (hcode nt res Δ a x k E) (hcode nt res Δ b y k E)
  |_=>.stuck
 |Δ, .cond c a b, .cd l x y,k,E=>match sopd E c with
  |some (.const v)=>.block 0 (.cond v (hcode nt res Δ a x (hfin .normal l) E) (hcode nt res Δ b y (hfin .normal l) E)) (lamV l.length fun vs=>k (zipSS l vs))
  |_=>.stuck
 |Δ, .block id m c, .bk l x,k,E=>match mkOK m l with
  |true=>.block (id+1) (hcode nt res ((id,l)::Δ) c x (hfin .normal l) E) (lamV l.length fun vs=>k (zipSS l vs))
  |false=>.stuck
 |Δ, .loop m c, .lp l x,_,E=>match mkOK m l,vecS E l with
  |true,some vs=>.loop vs (lamV l.length fun vs=>hcode nt res Δ c x (hfin .normal l) (zipSS l vs))
  |_,_=>.stuck
 |Δ, .exit id,_,_,E=>match afind Δ id with
  |some l=>hfin (.exit (id+1)) l E
  |none=>.stuck
 |_, .ret,_,_,E=>hfin .ret res E
 |_, .reg fr ops,_,k,E=>hfreshS fr E (hreg mk nt k ops E)
 |_, .draw fr ops pl,_,k,E=>hfreshS fr E (hdraw mk nt ops pl k E)
 |_,_,_,_,_=>.stuck
end
structure RelTS (nt:Nat) (E:SE) (T:List IVal):Prop where
 len:T.length=nt
 at':∀t v,sfind E t=some v→T[t]? = some v
def RelVS (l:List Nat) (vs:List IVal) (T:List IVal):Prop:=∀t v,sfind (zipSS l vs) t=some v→T[t]? = some v
theorem RelTS.s {nt:Nat} {E:SE} {T:List IVal} (h:RelTS nt E T):RelSS E (evalOpd T [] []):=fun t v e=>by
 show T.getD t .undef=v
 rw[List.getD_eq_getElem?_getD,h.at' t v e];rfl
theorem zack {d t:Nat}:∀(E:SE),sfind (sdel d E) t=if d=t then none else sfind E t
 | []=>by simp[sdel,sfind]
 |(s,v)::r=>by
  have ih:=zack (d:=d) (t:=t) r
  simp only[sdel]
  cases h:Nat.beq s d with
  |true =>
   have:=Nat.eq_of_beq_eq_true h
   subst this
   simp only[ih,sfind]
   by_cases e:s=t
   ·simp[e]
   ·rw[if_neg e,if_neg e]
    cases h2:Nat.beq s t with
    |true=>exact absurd (Nat.eq_of_beq_eq_true h2) e
    |false=>rfl
  |false =>
   have hne:s≠d:=fun e=>by rw[e,Nat.beq_refl]at h;cases h
   simp only[sfind,ih]
   by_cases e:d=t
   ·subst e
    have:Nat.beq s d=false:=h
    first|(simp only[this,if_true];done)|(simp only[this];simp;done)|(rw[this];simp;done)|simp[this]
   ·rw[if_neg e,if_neg e]
theorem RelTS.put {nt:Nat} {E:SE} {T:List IVal} (h:RelTS nt E T) {d:Option Nat} (hd:dstOK nt d=true) (v:IVal):RelTS nt (sput E d v) (putDst T d v):=by
 cases d with
 |none=>exact h
 |some d =>
  have hd:d<nt:=by simpa[dstOK,Nat.blt_eq]using hd
  refine⟨by simp[putDst,h.len],fun t u e=>?_⟩
  simp only[sput,sfind]at e
  show(T.set d v)[t]? = some u
  cases hb:Nat.beq d t with
  |true =>
   rw[hb]at e
   have:=Nat.eq_of_beq_eq_true hb
   subst this
   injection e with e
   subst e
   rw[List.getElem?_set_self (by rw[h.len];exact hd)]
  |false =>
   rw[hb]at e
   have hne:d≠t:=fun e=>by rw[e,Nat.beq_refl]at hb;cases hb
   simp only[zack,if_neg hne]at e
   rw[List.getElem?_set_ne hne]
   exact h.at' t u e
theorem zahf {E:SE}:∀ {l:List Nat} {vs:List IVal},vecS E l=some vs→∀t v,sfind (zipSS l vs) t=some v→sfind E t=some v
 | [],vs,e,t,v,h=>by injection e with e;subst e;simp[zipSS,sfind]at h
 |s::l,vs,e,t,v,h=>by
  simp only[vecS]at e
  split at e
  ·rename_i u us h1 h2
   injection e with e
   subst e
   simp only[zipSS,sfind]at h
   cases hb:Nat.beq s t with
   |true =>
    rw[hb]at h
    have:=Nat.eq_of_beq_eq_true hb
    subst this
    injection h with h
    subst h
    exact h1
   |false=>rw[hb]at h;exact zahf h2 t v h
  ·cases e
theorem RelTS.vec {nt:Nat} {E:SE} {T:List IVal} (h:RelTS nt E T) {l:List Nat} {vs:List IVal} (e:vecS E l=some vs):RelVS l vs T:=fun t v ht=>h.at' t v (zahf e t v ht)
theorem znj:∀ {l:List Nat} {vs:List IVal} {t:Nat} {v:IVal},sfind (zipSS l vs) t=some v→t∈l
 | [],vs,t,v,h=>by simp[zipSS,sfind]at h
 |s::l,[],t,v,h=>by simp[zipSS,sfind]at h
 |s::l,u::us,t,v,h=>by
  simp only[zipSS,sfind]at h
  cases hb:Nat.beq s t with
  |true=>exact List.mem_cons.2 (.inl (Nat.eq_of_beq_eq_true hb).symm)
  |false=>rw[hb]at h;exact List.mem_cons_of_mem _ (znj h)
theorem zwz {m:List Bool}:∀ {l:List Nat},allIn m l=true→∀t∈l,m[t]? = some true
 | [],_,t,h=>by cases h
 |s::l,h,t,ht=>by
  simp only[allIn]at h
  split at h
  ·rename_i e
   rcases List.mem_cons.1 ht with rfl|ht
   ·exact e
   ·exact zwz h t ht
  ·cases h
theorem zto:∀(m:List Bool) (T:List IVal) (t:Nat),m[t]? = some true→(maskT m T)[t]? = T[t]?
 | [],T,t,h=>by simp at h
 |b::m,[],t,h=>by cases b<;>simp[maskT]
 |true::m,v::T,0,h=>by simp[maskT]
 |false::m,v::T,0,h=>by simp at h
 |true::m,v::T,t+1,h=>by simpa[maskT]using zto m T t (by simpa using h)
 |false::m,v::T,t+1,h=>by simpa[maskT]using zto m T t (by simpa using h)
theorem znk (m:List Bool) (T:List IVal):(maskT m T).length=T.length:=by
 induction m generalizing T with
 |nil=>simp[maskT]
 |cons b m ih =>
  cases T with
  |nil=>cases b<;>simp[maskT]
  |cons v T=>cases b<;>simp[maskT,ih]
theorem RelVS.mask {l:List Nat} {vs T:List IVal} {m:List Bool} (h:RelVS l vs T) (hm:mkOK m l=true):RelVS l vs (maskT m T):=by
 intro t v e
 have:=h t v e
 cases m with
 |nil=>simpa[maskT]using this
 |cons b m =>
  have hm:allIn (b::m) l=true:=hm
  rw[zto _ _ _ (zwz hm t (znj e))]
  exact this
end Go.Ideal

/-
  IDEAL SEMANTICS, 56: WHAT THE CODE OVER LEAN's OWN VARIABLES COMES TO, THE IDEAL CODE COMES TO.
-/
namespace Go.Ideal
open Go
set_option linter.unusedSectionVars false
section
variable {C:Oracle} {L nt:Nat}
theorem zxa {k:IVal→Mem→HR} {r:Option (IVal×Mem)} {x:IExit×List IVal×Mem} (h:hput k r=some x):∃v M,r=some (v,M)∧k v M=some x:=by
 cases r with
 |none=>cases h
 |some p =>
  obtain⟨v,M⟩:=p
  exact⟨v,M,rfl,h⟩
theorem zame {E:SE} {T R:List IVal} {sub:List (Nat×Nat)} (hE:RelSS E (evalOpd T R sub)) {o:IOp} {g:Option (Nat×Bool)} {k:IVal→HC XF} {M:Mem} {x:IExit×List IVal×Mem} (h:hrun C L (hop xop E o g k) M=some x) :
 (wantedI T R sub g=some true∧∃v M',evalOp C (evalOpd T R sub) M o=some (v,M')∧hrun C L (k v) M'=some x)∨(wantedI T R sub g=some false∧hrun C L (k skipped) M=some x):=by
 unfold hop at h
 split at h
 ·cases h
 ·rename_i o' ho
  have heq:=fun M=>zarv (zoz T R sub) hE ho C M
  split at h
  ·split at h
   ·rename_i v
    have:=heq M
    exact .inl ⟨rfl,v,M,by rw[this];rfl,h⟩
   ·have h:hput (fun v=>hrun C L (k v)) (xop o' C M)=some x:=h
    obtain⟨v,M',h1,h2⟩:=zxa h
    rw[zaru,←heq]at h1
    exact .inl ⟨rfl,v,M',h1,h2⟩
  ·rename_i s w
   split at h
   ·rename_i v hv
    have hl:look T R sub s=v:=hE s v hv
    have hw:wantedI T R sub (some (s,w))=saysBool w v:=by
     simp only[wantedI,hl]
     rfl
    have h:(Option.rec (motive:=fun _=>HR) none (fun t=>Bool.rec (hrun C L (k skipped) M) (hput (fun v=>hrun C L (k v)) (xop o' C M)) t) (saysBool w v):HR)=some x:=h
    rw[hw]
    cases hs:saysBool w v with
    |none=>rw[hs]at h;cases h
    |some b =>
     rw[hs]at h
     cases b with
     |false=>exact .inr ⟨rfl,h⟩
     |true =>
      obtain⟨v,M',h1,h2⟩:=zxa h
      rw[zaru,←heq]at h1
      exact .inl ⟨rfl,v,M',h1,h2⟩
   ·cases h
theorem zze {kont:SE→HC XF} {x:IExit×List IVal×Mem}:∀ {ops:List IOper} {E:SE} {T:List IVal} {M:Mem},hrun C L (hreg xop nt kont ops E) M=some x→RelTS nt E T→∃T' M' E',evalReg C ⟨T,M⟩ ops=some ⟨T',M'⟩∧RelTS nt E' T'∧hrun C L (kont E') M'=some x
 | [],E,T,M,h,hE=>⟨T,M,E,rfl,hE,h⟩
 |o::r,E,T,M,h,hE=>by
  simp only[hreg]at h
  split at h
  ·rename_i hd
   rcases zame hE.s h with⟨h1,v,M',h2,h3⟩|⟨h1,h2⟩
   ·obtain⟨T',M2,E',g1,g2,g3⟩:=zze h3 (hE.put hd v)
    refine⟨T',M2,E',?_,g2,g3⟩
    rw[evalReg]
    simp only[h1,h2]
    exact g1
   ·obtain⟨T',M2,E',g1,g2,g3⟩:=zze h2 (hE.put hd skipped)
    refine⟨T',M2,E',?_,g2,g3⟩
    rw[evalReg]
    simp only[h1]
    exact g1
  ·cases h
theorem zxb {s:Nat}:∀ {vs:List IVal},hfree s vs=true→∀v∈vs,killV s v=v
 | [],_,v,h=>by cases h
 |u::vs,h,v,hv=>by
  have key:hfree s vs=true∧killV s u=u:=by
   cases u with
   |ptr key ver off =>
    cases key with
    |box t =>
     have h:(Bool.rec (hfree s vs) false (Nat.beq s t):Bool)=true:=h
     cases hb:Nat.beq s t with
     |true=>rw[hb]at h;cases h
     |false=>rw[hb]at h;exact⟨h,by simp only[killV,hb]⟩
    |heap i=>exact⟨h,rfl⟩
   |_=>exact⟨h,rfl⟩
  rcases List.mem_cons.1 hv with rfl|hv
  ·exact key.2
  ·exact zxb key.1 v hv
theorem zxc:∀ {E:SE} {t:Nat} {v:IVal},sfind E t=some v→v∈svals E
 | [],t,v,h=>by cases h
 |(s,u)::r,t,v,h=>by
  simp only[sfind]at h
  cases hb:Nat.beq s t with
  |true=>rw[hb]at h;injection h with h;subst h;exact List.mem_cons_self
  |false=>rw[hb]at h;exact List.mem_cons_of_mem _ (zxc h)
theorem RelTS.kill {E:SE} {T:List IVal} (h:RelTS nt E T) {s:Nat} (hf:hfree s (svals E)=true):RelTS nt E (kill s T):=by
 refine⟨by simp[Ideal.kill,h.len],fun t v e=>?_⟩
 rw[Ideal.kill,List.getElem?_map,h.at' t v e]
 show some (killV s v)=some v
 rw[zxb hf v (zxc e)]
theorem zpa {E:SE} {c:Mem→HR} {x:IExit×List IVal×Mem}:∀ {l:List Nat} {T:List IVal} {M:Mem},hfresh (svals E) l M c=some x→RelTS nt E T→∃T' M',freshen ⟨T,M⟩ l=⟨T',M'⟩∧RelTS nt E T'∧c M'=some x
 | [],T,M,h,hE=>⟨T,M,rfl,hE,h⟩
 |s::l,T,M,h,hE=>by
  have h:(Option.rec (motive:=fun _=>HR) (hfresh (svals E) l M c) (fun _=>Bool.rec none (hfresh (svals E) l ⟨dropBox M.boxes s,M.heap⟩ c) (hfree s (svals E))) (gfindBox M.boxes s):HR)=some x:=h
  rw[zey]at h
  rw[freshen]
  cases hb:findBox M.boxes s with
  |none=>rw[hb]at h;exact zpa h hE
  |some b =>
   rw[hb]at h
   cases hf:hfree s (svals E)with
   |false=>rw[hf]at h;cases h
   |true=>rw[hf]at h;exact zpa h (hE.kill hf)
theorem ztp {E:SE} {c:HC XF} {x:IExit×List IVal×Mem} {l:List Nat} {T:List IVal} {M:Mem} (h:hrun C L (hfreshS l E c) M=some x) (hE:RelTS nt E T):∃T' M',freshen ⟨T,M⟩ l=⟨T',M'⟩∧RelTS nt E T'∧hrun C L c M'=some x:=by
 unfold hfreshS at h
 split at h
 ·exact⟨T,M,rfl,hE,h⟩
 ·exact zpa (c:=hrun C L c) h hE
structure RelRS (n:Nat) (R:SE) (RL:List IVal):Prop where
 len:RL.length=n
 at':∀j v,sfind R j=some v→RL[j]? = some v
theorem zzf {E R:SE} {T RL:List IVal} {n:Nat} (hE:RelTS nt E T) (hR:RelRS n R RL):∀ {sub:List (Nat×Nat)} {E':SE},subS E R sub=some E'→RelSS E' (evalOpd T RL sub)
 | [],E',h=>by injection h with h;subst h;exact fun t v e=>by show T.getD t .undef=v;rw[List.getD_eq_getElem?_getD,hE.at' t v e];rfl
 |(s,j)::r,E',h=>by
  simp only[subS]at h
  split at h
  ·rename_i v E2 h1 h2
   injection h with h
   subst h
   have ih:=zzf hE hR h2
   intro t u e
   show look T RL ((s,j)::r) t=u
   simp only[sfind]at e
   simp only[look,findSub]
   cases hb:Nat.beq s t with
   |true =>
    rw[hb]at e
    injection e with e
    subst e
    show RL.getD j .undef=v
    rw[List.getD_eq_getElem?_getD,hR.at' j v h1];rfl
   |false =>
    rw[hb]at e
    exact ih t u e
  ·cases h
variable {ops:List IOper}
theorem RelRS.put {n:Nat} {R:SE} {RL:List IVal} (h:RelRS n R RL) {i:Nat} (hi:i<n) (v:IVal):RelRS n ((i,v)::R) (RL.set i v):=by
 refine⟨by simp[h.len],fun j u e=>?_⟩
 simp only[sfind]at e
 cases hb:Nat.beq i j with
 |true =>
  rw[hb]at e
  have:=Nat.eq_of_beq_eq_true hb
  subst this
  injection e with e
  subst e
  rw[List.getElem?_set_self (by rw[h.len];exact hi)]
 |false =>
  rw[hb]at e
  have hne:i≠j:=fun e=>by rw[e,Nat.beq_refl]at hb;cases hb
  rw[List.getElem?_set_ne hne]
  exact h.at' j u e
theorem zamf {E R:SE} {T RL:List IVal} (hE:RelTS nt E T) (hR:RelRS ops.length R RL) {i:Nat} {k:SE→HC XF} {M:Mem} {x:IExit×List IVal×Mem} (h:hrun C L (hat xop ops E R i k) M=some x) :
 ∃R' RL' M',evalAt C ops T RL M i=some (RL',M')∧RelRS ops.length R' RL'∧hrun C L (k R') M'=some x:=by
 unfold hat at h
 split at h
 ·cases h
 ·rename_i o ho
  have hi:i<ops.length:=(List.getElem?_eq_some_iff.1 ho).1
  split at h
  ·rename_i E' hs
   unfold evalAt
   rw[ho]
   rcases zame (zzf hE hR hs) h with⟨h1,v,M',h2,h3⟩|⟨h1,h2⟩
   ·exact⟨_,_,M',by simp only[h1,h2],hR.put hi v,h3⟩
   ·exact⟨_,_,M,by simp only[h1],hR.put hi skipped,h2⟩
  ·cases h
theorem zamg {E:SE} {T:List IVal} (hE:RelTS nt E T) {k:SE→HC XF} {x:IExit×List IVal×Mem}:∀ {l:List Nat} {R:SE} {RL:List IVal} {M:Mem},RelRS ops.length R RL→hrun C L (hqs xop ops E k l R) M=some x →
 ∃R' RL' M',evalQs C ops T RL M l=some (RL',M')∧RelRS ops.length R' RL'∧hrun C L (k R') M'=some x
 | [],R,RL,M,hR,h=>⟨R,RL,M,rfl,hR,h⟩
 |i::l,R,RL,M,hR,h=>by
  obtain⟨R2,RL2,M2,g1,g2,g3⟩:=zamf hE hR h
  obtain⟨R3,RL3,M3,k1,k2,k3⟩:=zamg hE g2 g3
  exact⟨R3,RL3,M3,by rw[evalQs,g1];exact k1,k2,k3⟩
theorem zzg {E R:SE} {T RL:List IVal} (hE:RelTS nt E T) (hR:RelRS ops.length R RL) {k:HC XF} {M:Mem} {x:IExit×List IVal×Mem}:∀ {l:List Nat},hrun C L (hrc ops E R k l) M=some x→rechecks C ops T RL M l=true∧hrun C L k M=some x
 | [],h=>⟨rfl,h⟩
 |i::l,h=>by
  simp only[hrc]at h
  split at h
  ·cases h
  ·rename_i o ho
   split at h
   ·rename_i E' v hs hv
    have hgi:RL.getD i .undef=v:=by rw[List.getD_eq_getElem?_getD,hR.at' i v hv];rfl
    have hS:=zzf hE hR hs
    split at h
    ·rename_i op hop
     obtain⟨ha,hc⟩:=zaez (zoz T RL o.sub) hS hop
     have he:=zarv (zoz T RL o.sub) hS hop C M
     have key:hchk C M op v=true→wantedI T RL o.sub o.guard=some true→recheck C ops T RL M i=true:=by
      intro hk hw
      rw[zavs,ha,←hc,←he]at hk
      unfold recheck
      simp only[ho,hw,hgi]
      exact hk
     split at h
     ·rename_i hg
      have h:(Bool.rec none (hrun C L (hrc ops E R k l) M) (hchk C M op v):HR)=some x:=h
      cases hb:hchk C M op v with
      |false=>rw[hb]at h;cases h
      |true =>
       rw[hb]at h
       obtain⟨g1,g2⟩:=zzg hE hR h
       refine⟨?_,g2⟩
       rw[rechecks,key hb (by rw[hg];rfl)]
       exact g1
     ·rename_i t w hg
      split at h
      ·rename_i g hgv
       have hl:look T RL o.sub t=g:=hS t g hgv
       have hw:wantedI T RL o.sub o.guard=saysBool w g:=by rw[hg];simp only[wantedI,hl];rfl
       have h:(Option.rec (motive:=fun _=>HR) none (fun t=>Bool.rec (hrun C L (hrc ops E R k l) M) (Bool.rec none (hrun C L (hrc ops E R k l) M) (hchk C M op v)) t) (saysBool w g):HR)=some x:=h
       cases hs2:saysBool w g with
       |none=>rw[hs2]at h;cases h
       |some b =>
        rw[hs2]at h
        cases b with
        |false =>
         obtain⟨g1,g2⟩:=zzg hE hR h
         refine⟨?_,g2⟩
         have:recheck C ops T RL M i=true:=by
          unfold recheck
          simp only[ho,hw,hs2]
         rw[rechecks,this]
         exact g1
        |true =>
         have h:(Bool.rec none (hrun C L (hrc ops E R k l) M) (hchk C M op v):HR)=some x:=h
         cases hb:hchk C M op v with
         |false=>rw[hb]at h;cases h
         |true =>
          rw[hb]at h
          obtain⟨g1,g2⟩:=zzg hE hR h
          refine⟨?_,g2⟩
          rw[rechecks,key hb (by rw[hw,hs2])]
          exact g1
      ·cases h
    ·cases h
   ·cases h
theorem znl {E:SE} {T:List IVal} (hE:RelTS nt E T) {k:SE→HC XF} {x:IExit×List IVal×Mem}:∀ {l:List Stage} {R:SE} {RL:List IVal} {M:Mem},RelRS ops.length R RL→hrun C L (hplan xop ops E k l R) M=some x →
 ∃R' RL' M',evalPlan C ops T RL M l=some (RL',M')∧RelRS ops.length R' RL'∧hrun C L (k R') M'=some x
 | [],R,RL,M,hR,h=>⟨R,RL,M,rfl,hR,h⟩
 |g::l,R,RL,M,hR,h=>by
  simp only[hplan]at h
  obtain⟨R2,RL2,M2,g1,g2,g3⟩:=zamg hE hR h
  obtain⟨k1,k2⟩:=zzg hE g2 g3
  rw[evalPlan,g1]
  simp only[k1]
  cases hg:g.e with
  |none =>
   rw[hg]at k2
   exact znl hE g2 k2
  |some i =>
   rw[hg]at k2
   obtain⟨R3,RL3,M3,a1,a2,a3⟩:=zamf hE g2 k2
   simp only[a1]
   exact znl hE a2 a3
theorem zafa:∀(l:List IOper),RelRS l.length [] (noRes l):=fun l=>⟨by induction l with|nil=>rfl|cons o r ih=>simp[noRes,ih],fun j v e=>by cases e⟩
theorem zahg:∀(n i:Nat) {R:SE} {vs:List IVal},vecS R (upto n i)=some vs→vs.length=n∧∀j v,vs[j]? = some v→sfind R (i+j)=some v
 |0,i,R,vs,h=>by injection h with h;subst h;exact⟨rfl,fun j v e=>by simp at e⟩
 |n+1,i,R,vs,h=>by
  simp only[upto,vecS]at h
  split at h
  ·rename_i u us h1 h2
   injection h with h
   subst h
   obtain⟨g1,g2⟩:=zahg n (i+1) h2
   refine⟨by simp[g1],fun j v e=>?_⟩
   cases j with
   |zero=>simp at e;subst e;exact h1
   |succ j=>rw[show i+(j+1)=i+1+j by omega];exact g2 j v (by simpa using e)
  ·cases h
theorem zarw {n:Nat} {R:SE} {RL vs:List IVal} (hR:RelRS n R RL) (h:vecS R (upto n 0)=some vs):vs=RL:=by
 obtain⟨h1,h2⟩:=zahg n 0 h
 apply List.ext_getElem?
 intro j
 cases e:vs[j]? with
 |some v=>have:=h2 j v e;rw[Nat.zero_add]at this;rw[hR.at' j v this]
 |none =>
  rw[List.getElem?_eq_none_iff]at e
  rw[List.getElem?_eq_none (by rw[hR.len];omega)]
theorem zxd {E:SE} {T:List IVal} (hE:RelTS nt E T) {M:Mem} {g:List Stage} {e:IExit} {vs:List IVal} {M':Mem} (h:hrun C L (hplan xop ops E (hfin .normal (upto ops.length 0)) g []) M=some (e,vs,M')):e = .normal∧evalPlan C ops T (noRes ops) M g=some (vs,M'):=by
 obtain⟨R',RL',M2,h1,h2,h3⟩:=znl hE (zafa ops) h
 unfold hfin at h3
 split at h3
 ·rename_i ws hw
  have h3:(some (IExit.normal,ws,M2):HR)=some (e,vs,M'):=h3
  injection h3 with h3
  injection h3 with a b
  injection b with b c
  subst a b c
  rw[zarw h2 hw]
  exact⟨rfl,h1⟩
 ·cases h3
theorem zxe {E:SE} {T:List IVal} (hE:RelTS nt E T) {M:Mem}:∀ {pl:List (List Stage)} {e:IExit} {vs:List IVal} {M':Mem},hrun C L (hplans xop ops E pl) M=some (e,vs,M')→e = .normal∧evalPlans C ops ⟨T,M⟩ pl=some (vs,M')
 | [],e,vs,M',h=>by cases h
 | [g],e,vs,M',h=>by
   rw[evalPlans]
   exact zxd hE h
 |g::g2::r,e,vs,M',h=>by
  have h:(match hrun C L (hplan xop ops E (hfin .normal (upto ops.length 0)) g []) M,hrun C L (hplans xop ops E (g2::r)) M with
   |some (.normal,vs,M1),some (.normal,ws,M2)=>(Bool.rec none (some (.normal,vs,M1)) (IVal.beqs vs ws&&(boxesBeq M1.boxes M2.boxes&&heapBeq M1.heap M2.heap)):HR)
   |_,_=>none)=some (e,vs,M'):=h
  split at h
  ·rename_i vs1 M1 ws M2 h1 h2
   cases hb:(IVal.beqs vs1 ws&&(boxesBeq M1.boxes M2.boxes&&heapBeq M1.heap M2.heap))with
   |false=>rw[hb]at h;cases h
   |true =>
    rw[hb]at h
    have h:(some (IExit.normal,vs1,M1):HR)=some (e,vs,M'):=h
    injection h with h
    injection h with a b
    injection b with b c
    subst a b c
    obtain⟨_,p1⟩:=zxd hE h1
    obtain⟨_,p2⟩:=zxe hE h2
    refine⟨rfl,?_⟩
    rw[evalPlans]
    ·simp only[p1,p2,hb]
    ·simp
  ·cases h
theorem zje:∀ {l:List IOper} {E:SE} {T vs:List IVal},RelTS nt E T→dstsFit nt l=true→RelTS nt (putAllS E l vs) (putAll T l vs)
 | [],E,T,vs,hE,_=>by cases vs<;>exact hE
 |o::r,E,T,[],hE,_=>hE
 |o::r,E,T,v::vs,hE,hd=>by
  rw[putAllS,putAll]
  have hd2:dstOK nt o.dst=true∧dstsFit nt r=true:=by
   simp only[dstsFit]at hd
   split at hd
   ·rename_i d e
    split at hd
    ·rename_i hlt;exact⟨by simp only[dstOK,e];exact hlt,hd⟩
    ·cases hd
   ·rename_i e;exact⟨by simp only[dstOK,e],hd⟩
  exact zje (hE.put hd2.1 v) hd2.2
theorem znm {M:Mem} {x:IExit×List IVal×Mem}:∀ {n:Nat} {f:List IVal→HC XF} {vs:List IVal},hrun C L (lamV n f vs) M=some x→hrun C L (f (vs.take n)) M=some x
 |0,f,vs,h=>by rw[List.take_zero];exact h
 |n+1,f,[],h=>by cases h
 |n+1,f,v::vs,h=>by
  have:=znm (n:=n) (f:=fun l=>f (v::l)) (vs:=vs) h
  rw[List.take_succ_cons]
  exact this
theorem zacl:∀(l:List Nat) (vs:List IVal),zipSS l (vs.take l.length)=zipSS l vs
 | [],vs=>by simp[zipSS]
 |t::l,[]=>by simp[zipSS]
 |t::l,v::vs=>by simp only[List.length_cons,List.take_succ_cons,zipSS,zacl l vs]
theorem zre {M:Mem} {x:IExit×List IVal×Mem} {k:SE→HC XF} {l:List Nat} {vs:List IVal} (h:hrun C L (lamV l.length (fun vs=>k (zipSS l vs)) vs) M=some x):hrun C L (k (zipSS l vs)) M=some x:=by
 have:=znm h
 rwa [zacl]at this
theorem zzh {T:List IVal} {M:Mem} {vs:List IVal} {M':Mem}:∀ {pl:List (List Stage)},evalPlans C ops ⟨T,M⟩ pl=some (vs,M')→vs.length=ops.length:=by
 have at1:∀ {RL M i RL' M'},evalAt C ops T RL M i=some (RL',M')→RL'.length=RL.length:=by
  intro RL M i RL' M' h
  unfold evalAt at h
  split at h
  ·cases h
  ·split at h
   ·cases h
   ·injection h with h;injection h with h _;rw[← h];simp
   ·split at h
    ·injection h with h;injection h with h _;rw[← h];simp
    ·cases h
 have qs1:∀ {l RL M RL' M'},evalQs C ops T RL M l=some (RL',M')→RL'.length=RL.length:=by
  intro l
  induction l with
  |nil=>intro RL M RL' M' h;injection h with h;injection h with h _;rw[← h]
  |cons i l ih =>
   intro RL M RL' M' h
   rw[evalQs]at h
   split at h
   ·rename_i e;rw[ih h,at1 e]
   ·cases h
 have pl1:∀ {g RL M RL' M'},evalPlan C ops T RL M g=some (RL',M')→RL'.length=RL.length:=by
  intro g
  induction g with
  |nil=>intro RL M RL' M' h;injection h with h;injection h with h _;rw[← h]
  |cons s g ih =>
   intro RL M RL' M' h
   rw[evalPlan]at h
   split at h
   ·cases h
   ·rename_i e
    split at h
    ·cases h
    ·split at h
     ·rw[ih h,qs1 e]
     ·split at h
      ·rename_i e2;rw[ih h,at1 e2,qs1 e]
      ·cases h
 have hno:(noRes ops).length=ops.length:=(zafa ops).len
 intro pl h
 match pl,h with
 | [g],h=>rw[evalPlans]at h;rw[pl1 h,hno]
 |g::g2::r,h =>
  rw[evalPlans]at h
  ·split at h
   ·rename_i e1 e2
    split at h
    ·injection h with h;injection h with h _;rw[← h,pl1 e1,hno]
    ·cases h
   ·cases h
  ·simp
theorem zamh {E:SE} {T:List IVal} (hE:RelTS nt E T) {plans:List (List Stage)} {kont:SE→HC XF} {M:Mem} {x:IExit×List IVal×Mem} (h:hrun C L (hdraw xop nt ops plans kont E) M=some x) :
 ∃T' M' E',evalDraw C ops plans ⟨T,M⟩=some ⟨T',M'⟩∧RelTS nt E' T'∧hrun C L (kont E') M'=some x:=by
 unfold hdraw at h
 unfold evalDraw
 simp only[hE.len]
 split at h
 ·cases h
 ·rename_i hd
  simp only[hd]
  split at h
  ·rename_i g
   obtain⟨R',RL',M2,h1,h2,h3⟩:=znl hE (zafa ops) h
   split at h3
   ·rename_i vs hv
    have:=zarw h2 hv
    subst this
    refine⟨_,M2,_,by rw[evalPlans];simp only[h1],zje hE hd,h3⟩
   ·cases h3
  ·have h:(Option.rec (motive:=fun _=>HR) none (fun r=>match r with|(x,vs,M)=>IExit.rec (motive:=fun _=>HR) (hrun C L (lamV ops.length (fun vs=>kont (putAllS E ops vs)) vs) M) (fun i=>Bool.rec (some (.exit i,vs,M)) (hrun C L (lamV ops.length (fun vs=>kont (putAllS E ops vs)) vs) M) (Nat.beq i 0)) (some (.ret,vs,M)) x) (hrun C L (hplans xop ops E plans) M):HR)=some x:=h
   cases hp:hrun C L (hplans xop ops E plans) M with
   |none=>rw[hp]at h;cases h
   |some r =>
    obtain⟨e,vs,M2⟩:=r
    obtain⟨rfl,h2⟩:=zxe hE hp
    rw[hp]at h
    have h:=znm (show hrun C L (lamV ops.length (fun vs=>kont (putAllS E ops vs)) vs) M2=some x from h)
    have hvl:vs.length=ops.length:=zzh h2
    rw[List.take_of_length_le (by omega)]at h
    exact⟨_,M2,_,by simp only[h2],zje hE hd,h⟩
def RelPS:List Nat→List IVal→List IVal→Prop
 | [],vs,_=>vs=[]
 |t::l,vs,T=>∃v r,vs=v::r∧T[t]? = some v∧RelPS l r T
theorem RelTS.pos {E:SE} {T:List IVal} (h:RelTS nt E T):∀ {l:List Nat} {vs:List IVal},vecS E l=some vs→RelPS l vs T
 | [],vs,e=>by injection e with e;exact e.symm
 |t::l,vs,e=>by
  simp only[vecS]at e
  split at e
  ·rename_i v r h1 h2
   injection e with e
   exact⟨v,r,e.symm,h.at' t v h1,RelTS.pos h h2⟩
  ·cases e
def EndOK (nt:Nat) (C:Oracle) (L:Nat) (res:List Nat) (Δ:List (Nat×List Nat)) (k:SE→HC XF) (x:IExit×List IVal×Mem):IExit→List IVal→Mem→Prop
 | .normal,T,M=>∃E,RelTS nt E T∧hrun C L (k E) M=some x
 | .exit i,T,M=>∃l vs,afind Δ i=some l∧x=(.exit (i+1),vs,M)∧T.length=nt∧RelVS l vs T
 | .ret,T,M=>∃vs,x=(.ret,vs,M)∧T.length=nt∧RelPS res vs T
theorem zhf {E:SE} {T:List IVal} {M:Mem} {e:IExit} {l:List Nat} {x:IExit×List IVal×Mem} (hE:RelTS nt E T) (h:hrun C L (hfin e l E) M=some x):∃vs,x=(e,vs,M)∧RelVS l vs T∧RelPS l vs T:=by
 unfold hfin at h
 split at h
 ·rename_i vs hv
  have h:(some (e,vs,M):HR)=some x:=h
  injection h with h
  exact⟨vs,h.symm,hE.vec hv,hE.pos hv⟩
 ·cases h
theorem RelVS.relT {l:List Nat} {vs T:List IVal} (h:RelVS l vs T) (hl:T.length=nt):RelTS nt (zipSS l vs) T:=⟨hl,h⟩
theorem ztq {id:Nat} {b:HC XF} {k:List IVal→HC XF} {M:Mem} {x:IExit×List IVal×Mem} (h:hrun C L (.block id b k) M=some x) :
 ∃e vs M',hrun C L b M=some (e,vs,M')∧((e = .normal∧hrun C L (k vs) M'=some x)∨(e = .exit id∧hrun C L (k vs) M'=some x)∨(∃ i,i≠id∧e = .exit i∧x=(.exit i,vs,M'))∨(e = .ret∧x=(.ret,vs,M'))):=by
 have h:(Option.rec (motive:=fun _=>HR) none (fun r=>match r with|(x,vs,M)=>IExit.rec (motive:=fun _=>HR) (hrun C L (k vs) M) (fun i=>Bool.rec (some (.exit i,vs,M)) (hrun C L (k vs) M) (Nat.beq i id)) (some (.ret,vs,M)) x) (hrun C L b M):HR)=some x:=h
 cases hb:hrun C L b M with
 |none=>rw[hb]at h;cases h
 |some r =>
  obtain⟨e,vs,M'⟩:=r
  rw[hb]at h
  refine⟨e,vs,M',rfl,?_⟩
  cases e with
  |normal=>exact .inl ⟨rfl,h⟩
  |exit i =>
   have h:(Bool.rec (some (.exit i,vs,M')) (hrun C L (k vs) M') (Nat.beq i id):HR)=some x:=h
   cases hi:Nat.beq i id with
   |true=>rw[hi]at h;exact .inr (.inl ⟨by rw[Nat.eq_of_beq_eq_true hi],h⟩)
   |false =>
    rw[hi]at h
    injection h with h
    exact .inr (.inr (.inl ⟨i,(fun e=>by rw[e,Nat.beq_refl]at hi;cases hi),rfl,h.symm⟩))
  |ret =>
   injection h with h
   exact .inr (.inr (.inr ⟨rfl,h.symm⟩))
theorem zxf {v:IVal} {t:Bool} (h:fbool v=some t):v = .p (.bool t):=by
 unfold fbool at h
 split at h
 ·injection h with h;subst h;rfl
 ·cases h
theorem zch (res:List Nat):∀(c:ICode) {Δ:List (Nat×List Nat)} {an:An} {k:SE→HC XF} {E:SE} {T:List IVal} {M:Mem} {x:IExit×List IVal×Mem},hrun C L (hcode xop nt res Δ c an k E) M=some x→RelTS nt E T →
 ∃e T' M',evalCode C (loopN L) c ⟨T,M⟩=some (e,⟨T',M'⟩)∧EndOK nt C L res Δ k x e T' M'
 | .skip,Δ,an,k,E,T,M,x,h,hE=>by
   cases an<;>exact⟨.normal,T,M,rfl,E,hE,by simpa only[hcode]using h⟩
 | .seq a b,Δ,an,k,E,T,M,x,h,hE=>by
   cases an with
   |sq y z =>
    simp only[hcode]at h
    obtain⟨e,T',M',h1,h2⟩:=zch res a h hE
    rw[evalCode,h1]
    cases e with
    |normal =>
     obtain⟨E',h3,h4⟩:=h2
     exact zch res b h4 h3
    |exit i=>exact⟨_,_,_,rfl,h2⟩
    |ret=>exact⟨_,_,_,rfl,h2⟩
   |_=>simp only[hcode]at h;cases h
 | .cond c a b,Δ,an,k,E,T,M,x,h,hE=>by
   cases an with
   |cj y z =>
    simp only[hcode]at h
    split at h
    ·rename_i v hv
     have hev:evalOpd T [] [] c=v:=zcd (zoz T [] []) hE.s hv
     rw[evalCode,hev]
     have h:(Option.rec (motive:=fun _=>HR) none (fun t=>Bool.rec (hrun C L (hcode xop nt res Δ b z k E) M) (hrun C L (hcode xop nt res Δ a y k E) M) t) (fbool v):HR)=some x:=h
     cases hf:fbool v with
     |none=>rw[hf]at h;cases h
     |some t =>
      rw[hf]at h
      obtain rfl:=zxf hf
      cases t with
      |true=>exact zch res a h hE
      |false=>exact zch res b h hE
    ·cases h
   |cd l y z =>
    simp only[hcode]at h
    split at h
    ·rename_i v hv
     have hev:evalOpd T [] [] c=v:=zcd (zoz T [] []) hE.s hv
     rw[evalCode,hev]
     obtain⟨e,vs,M',h1,h2⟩:=ztq h
     have h1:(Option.rec (motive:=fun _=>HR) none (fun t=>Bool.rec (hrun C L (hcode xop nt res Δ b z (hfin .normal l) E) M) (hrun C L (hcode xop nt res Δ a y (hfin .normal l) E) M) t) (fbool v):HR)=some (e,vs,M'):=h1
     have fin:∀e' T' M2,EndOK nt C L res Δ (hfin .normal l) (e,vs,M') e' T' M2→EndOK nt C L res Δ (fun E=>k E) x e' T' M2:=by
      intro e' T' M2 hq
      cases e' with
      |normal =>
       obtain⟨E',g1,g2⟩:=hq
       obtain⟨ws,g3,g4,_⟩:=zhf g1 g2
       injection g3 with a b
       injection b with b c
       subst a b c
       rcases h2 with⟨_,h2⟩|⟨h2,_⟩|⟨i,_,h2,_⟩|⟨h2,_⟩
       ·exact⟨_,g4.relT g1.len,zre h2⟩
       ·cases h2
       ·cases h2
       ·cases h2
      |exit i =>
       obtain⟨l',ws,g1,g2,g3,g4⟩:=hq
       injection g2 with a b
       injection b with b c
       subst a b c
       rcases h2 with⟨h2,_⟩|⟨h2,_⟩|⟨j,_,h2,h3⟩|⟨h2,_⟩
       ·cases h2
       ·injection h2 with h2;omega
       ·injection h2 with h2
        subst h2
        exact⟨l',vs,g1,h3,g3,g4⟩
       ·cases h2
      |ret =>
       obtain⟨ws,g2,g3,g4⟩:=hq
       injection g2 with a b
       injection b with b c
       subst a b c
       rcases h2 with⟨h2,_⟩|⟨h2,_⟩|⟨j,_,h2,_⟩|⟨_,h2⟩
       ·cases h2
       ·cases h2
       ·cases h2
       ·exact⟨vs,h2,g3,g4⟩
     cases hf:fbool v with
     |none=>rw[hf]at h1;cases h1
     |some t =>
      rw[hf]at h1
      obtain rfl:=zxf hf
      cases t with
      |true =>
       obtain⟨e',T',M2,q1,q2⟩:=zch res a h1 hE
       exact⟨e',T',M2,q1,fin _ _ _ q2⟩
      |false =>
       obtain⟨e',T',M2,q1,q2⟩:=zch res b h1 hE
       exact⟨e',T',M2,q1,fin _ _ _ q2⟩
    ·cases h
   |_=>simp only[hcode]at h;cases h
 | .block id m c,Δ,an,k,E,T,M,x,h,hE=>by
   cases an with
   |bk l y =>
    simp only[hcode]at h
    split at h
    ·rename_i hm
     obtain⟨e,vs,M',h1,h2⟩:=ztq h
     obtain⟨e',T',M2,q1,q2⟩:=zch res c h1 hE
     rw[evalCode,q1]
     cases e' with
     |normal =>
      obtain⟨E',g1,g2⟩:=q2
      obtain⟨ws,g3,g4,_⟩:=zhf g1 g2
      injection g3 with a b
      injection b with b c
      subst a b c
      rcases h2 with⟨_,h2⟩|⟨h2,_⟩|⟨i,_,h2,_⟩|⟨h2,_⟩
      ·exact⟨_,_,_,rfl,_,g4.relT g1.len,zre h2⟩
      ·cases h2
      ·cases h2
      ·cases h2
     |exit i =>
      obtain⟨l',ws,g1,g2,g3,g4⟩:=q2
      injection g2 with a b
      injection b with b c
      subst a b c
      dsimp only
      simp only[afind]at g1
      cases hb:Nat.beq i id with
      |true =>
       have hb':Nat.beq id i=true:=by have:=Nat.eq_of_beq_eq_true hb;subst this;exact Nat.beq_refl _
       rw[hb']at g1
       injection g1 with g1
       subst g1
       have hid:=Nat.eq_of_beq_eq_true hb
       subst hid
       rcases h2 with⟨h2,_⟩|⟨_,h2⟩|⟨j,hj,h2,_⟩|⟨h2,_⟩
       ·cases h2
       ·exact⟨_,_,_,rfl,_,(g4.mask hm).relT (by rw[znk];exact g3),zre h2⟩
       ·injection h2 with h2;exact absurd h2.symm hj
       ·cases h2
      |false =>
       have hne:i≠id:=fun e=>by rw[e,Nat.beq_refl]at hb;cases hb
       have hb':Nat.beq id i=false:=by
        cases hq:Nat.beq id i with
        |true=>exact absurd (Nat.eq_of_beq_eq_true hq).symm hne
        |false=>rfl
       rw[hb']at g1
       rcases h2 with⟨h2,_⟩|⟨h2,_⟩|⟨j,_,h2,h3⟩|⟨h2,_⟩
       ·cases h2
       ·injection h2 with h2;omega
       ·injection h2 with h2
        subst h2
        exact⟨_,_,_,rfl,l',vs,g1,h3,g3,g4⟩
       ·cases h2
     |ret =>
      obtain⟨ws,g2,g3,g4⟩:=q2
      injection g2 with a b
      injection b with b c
      subst a b c
      rcases h2 with⟨h2,_⟩|⟨h2,_⟩|⟨j,_,h2,_⟩|⟨_,h2⟩
      ·cases h2
      ·cases h2
      ·cases h2
      ·exact⟨_,_,_,rfl,vs,h2,g3,g4⟩
    ·cases h
   |_=>simp only[hcode]at h;cases h
 | .loop m c,Δ,an,k,E,T,M,x,h,hE=>by
   cases an with
   |lp l y =>
    simp only[hcode]at h
    split at h
    ·rename_i vs0 hm hv0
     have ih:=fun vs M x (h:hrun C L (hcode xop nt res Δ c y (hfin .normal l) (zipSS l vs)) M=some x) T (hT:RelTS nt (zipSS l vs) T)=>zch res c h hT
     have key:∀(n:Nat) (vs:List IVal) (M:Mem) (T:List IVal),hloop (fun vs=>hrun C L (lamV l.length (fun vs=>hcode xop nt res Δ c y (hfin .normal l) (zipSS l vs)) vs)) n vs M=some x→RelVS l vs T→T.length=nt →
      ∃e T' M',loopN n (fun S=>evalCode C (loopN L) c ⟨maskT m S.T,S.M⟩) ⟨T,M⟩=some (e,⟨T',M'⟩)∧EndOK nt C L res Δ k x e T' M':=by
      intro n
      induction n with
      |zero=>intro vs M T h;cases h
      |succ n ihn =>
       intro vs M T h hV hl
       have h:(Option.rec (motive:=fun _=>HR) none (fun r=>match r with|(x,vs,M)=>IExit.rec (motive:=fun _=>HR) (hloop (fun vs=>hrun C L (lamV l.length (fun vs=>hcode xop nt res Δ c y (hfin .normal l) (zipSS l vs)) vs)) n vs M) (fun i=>some (.exit i,vs,M)) (some (.ret,vs,M)) x) (hrun C L (lamV l.length (fun vs=>hcode xop nt res Δ c y (hfin .normal l) (zipSS l vs)) vs) M):HR)=some x:=h
       cases hb:hrun C L (lamV l.length (fun vs=>hcode xop nt res Δ c y (hfin .normal l) (zipSS l vs)) vs) M with
       |none=>rw[hb]at h;cases h
       |some r =>
        obtain⟨e,ws,M2⟩:=r
        rw[hb]at h
        obtain⟨e',T',M3,q1,q2⟩:=ih vs M _ (zre (k:=hcode xop nt res Δ c y (hfin .normal l)) hb) (maskT m T) ((hV.mask hm).relT (by rw[znk];exact hl))
        rw[loopN,q1]
        cases e' with
        |normal =>
         obtain⟨E',g1,g2⟩:=q2
         obtain⟨us,g3,g4,_⟩:=zhf g1 g2
         injection g3 with a b
         injection b with b c
         subst a b c
         exact ihn _ _ _ h g4 g1.len
        |exit i =>
         obtain⟨l',us,g1,g2,g3,g4⟩:=q2
         injection g2 with a b
         injection b with b c
         subst a b c
         injection h with h
         exact⟨_,_,_,rfl,l',ws,g1,h.symm,g3,g4⟩
        |ret =>
         obtain⟨us,g2,g3,g4⟩:=q2
         injection g2 with a b
         injection b with b c
         subst a b c
         injection h with h
         exact⟨_,_,_,rfl,ws,h.symm,g3,g4⟩
     rw[evalCode]
     exact key L vs0 M T h (hE.vec hv0) hE.len
    ·cases h
   |_=>simp only[hcode]at h;cases h
 | .exit i,Δ,an,k,E,T,M,x,h,hE=>by
   have h:hrun C L (match afind Δ i with|some l=>hfin (.exit (i+1)) l E|none=>.stuck) M=some x:=by cases an<;>(simp only[hcode]at h;exact h)
   split at h
   ·rename_i l hl
    obtain⟨vs,h1,h2,_⟩:=zhf hE h
    exact⟨.exit i,T,M,rfl,l,vs,hl,h1,hE.len,h2⟩
   ·cases h
 | .ret,Δ,an,k,E,T,M,x,h,hE=>by
   have h:hrun C L (hfin .ret res E) M=some x:=by cases an<;>(simp only[hcode]at h;exact h)
   obtain⟨vs,h1,_,h2⟩:=zhf hE h
   exact⟨.ret,T,M,rfl,vs,h1,hE.len,h2⟩
 | .reg fr ops,Δ,an,k,E,T,M,x,h,hE=>by
   have h:hrun C L (hfreshS fr E (hreg xop nt k ops E)) M=some x:=by cases an<;>(simp only[hcode]at h;exact h)
   obtain⟨T1,M1,h1,h2,h3⟩:=ztp h hE
   obtain⟨T2,M2,E2,h4,h5,h6⟩:=zze h3 h2
   rw[evalCode,h1,h4]
   exact⟨.normal,T2,M2,rfl,E2,h5,h6⟩
 | .draw fr ops pl,Δ,an,k,E,T,M,x,h,hE=>by
   have h:hrun C L (hfreshS fr E (hdraw xop nt ops pl k E)) M=some x:=by cases an<;>(simp only[hcode]at h;exact h)
   obtain⟨T1,M1,h1,h2,h3⟩:=ztp h hE
   obtain⟨T2,M2,E2,h4,h5,h6⟩:=zamh h2 h3
   rw[evalCode,h1,h4]
   exact⟨.normal,T2,M2,rfl,E2,h5,h6⟩
end
end Go.Ideal

/-
  IDEAL SEMANTICS, 57: FUNCTIONS OVER LEAN's OWN VARIABLES; A CALL.
-/
namespace Go.Ideal
open Go
set_option linter.unusedSectionVars false
structure HFun where
 np:Nat
 code:List IVal→HC XF
 res:List IRes
 pure:Bool
def resSlot:IRes→Nat | .tmp t=>t | .cell t _=>t
def resSlots:List IRes→List Nat
 | []=>[]
 |r::l=>resSlot r::resSlots l
def skips:List Nat→SE
 | []=>[]
 |t::l=>(t,skipped)::skips l
def skOK (np nt:Nat):List Nat→Bool
 | []=>true
 |t::l=>Nat.ble np t&&(Nat.blt t nt&&skOK np nt l)
def hbodyG {α:Type} (mk:IOp→α) (F:IFun) (an:An) (ext:List Nat):List IVal→HC α :=
 lamV F.np fun args=>hcode mk F.nt (resSlots F.res) [] F.code an (hfin .ret (resSlots F.res)) (zipSS (upto F.np 0) args++skips ext)
noncomputable def hbody (F:IFun) (an:An) (ext:List Nat):List IVal→HC XF:=hbodyG xop F an ext
noncomputable def hout (M:Mem) (l:List IRes) (vs:List IVal):Option (List IVal) :=
 List.rec (motive:=fun _=>List IVal→Option (List IVal)) (fun _=>some []) (fun r _ ih vs=>match vs with
  |v::vs=>match(IRes.rec (motive:=fun _=>Option IVal) (fun _=>some v) (fun _ n=>match gload n (.const v) (fun _ _ _=>none) noRho M with|some p=>some p.1|none=>none) r:Option IVal),ih vs with
   |some v,some l=>some (v::l)
   |_,_=>none
  | []=>none) l vs
noncomputable def hend (h:HFun) (r:HR):Option (IVal×List IBlk) :=
 match r with
 |some (.ret,vs,M)=>Option.rec (motive:=fun _=>Option (IVal×List IBlk)) none (fun v=>some (v,M.heap)) (fout (hout M h.res vs))
 |_=>none
noncomputable def hfrun (C:Oracle) (L:Nat) (h:HFun) (args:List IVal) (H:List IBlk):Option (IVal×List IBlk) :=
 Bool.rec none (hend h (hrun C L (h.code args) ⟨[],H⟩)) (Nat.beq (llen args) h.np)
structure HOK (Γ:Prog) (f:FuncId) (h:HFun):Prop where
 ok:∃F an ext,Γ f=some F∧h.np=F.np∧h.res=F.res∧h.pure=F.pure∧Nat.ble F.np F.nt=true∧skOK F.np F.nt ext=true∧h.code=hbody F an ext
theorem zami {A B:SE} {t:Nat}:sfind (A++B) t=match sfind A t with|some v=>some v|none=>sfind B t:=by
 induction A with
 |nil=>rfl
 |cons x A ih =>
  obtain⟨s,v⟩:=x
  simp only[List.cons_append,sfind]
  cases Nat.beq s t with
  |true=>rfl
  |false=>exact ih
theorem zahh:∀(l:List IVal) (i t:Nat) (v:IVal),sfind (zipSS (upto l.length i) l) t=some v→i≤t∧l[t-i]? = some v
 | [],i,t,v,h=>by cases h
 |x::l,i,t,v,h=>by
  simp only[List.length_cons,upto,zipSS,sfind]at h
  cases hb:Nat.beq i t with
  |true =>
   rw[hb]at h
   have:=Nat.eq_of_beq_eq_true hb
   subst this
   injection h with h
   subst h
   exact⟨Nat.le_refl _,by simp⟩
  |false =>
   rw[hb]at h
   have hne:i≠t:=fun e=>by rw[e,Nat.beq_refl]at hb;cases hb
   obtain⟨h1,h2⟩:=zahh l (i+1) t v h
   exact⟨by omega,by rw[show t-i=(t-(i+1))+1 by omega,List.getElem?_cons_succ];exact h2⟩
theorem zxg {np nt:Nat}:∀ {l:List Nat},skOK np nt l=true→∀ {t:Nat} {v:IVal},sfind (skips l) t=some v→np≤t∧t<nt∧v=skipped
 | [],_,t,v,h=>by cases h
 |s::l,hk,t,v,h=>by
  simp only[skOK,Bool.and_eq_true,Nat.blt_eq]at hk
  simp only[skips,sfind]at h
  cases hb:Nat.beq s t with
  |true =>
   rw[hb]at h
   have:=Nat.eq_of_beq_eq_true hb
   subst this
   injection h with h
   exact⟨Nat.le_of_ble_eq_true hk.1,hk.2.1,h.symm⟩
  |false=>rw[hb]at h;exact zxg hk.2.2 h
theorem zxh {np nt:Nat} {args:List IVal} {ext:List Nat} (hn:args.length=np) (hle:np≤nt) (hk:skOK np nt ext=true):RelTS nt (zipSS (upto np 0) args++skips ext) (args++List.replicate (nt-args.length) skipped):=by
 refine⟨by simp;omega,fun t v e=>?_⟩
 rw[zami]at e
 split at e
 ·rename_i u hu
  injection e with e
  subst e
  rw[← hn]at hu
  obtain⟨_,h2⟩:=zahh args 0 t u hu
  rw[Nat.sub_zero]at h2
  rw[List.getElem?_append_left (List.getElem?_eq_some_iff.1 h2).1]
  exact h2
 ·obtain⟨h1,h2,rfl⟩:=zxg hk e
  rw[List.getElem?_append_right (by omega),List.getElem?_replicate,if_pos (by omega)]
theorem zamj {T:List IVal} {M:Mem}:∀ {l:List IRes} {vs:List IVal},RelPS (resSlots l) vs T→hout M l vs=allRes ⟨T,M⟩ l
 | [],vs,h=>rfl
 |r::l,vs,h=>by
  obtain⟨v,ws,rfl,h1,h2⟩:=h
  have ih:=zamj (M:=M) h2
  show(match(IRes.rec (motive:=fun _=>Option IVal) (fun _=>some v) (fun _ n=>match gload n (.const v) (fun _ _ _=>none) noRho M with|some p=>some p.1|none=>none) r:Option IVal),hout M l ws with
   |some v,some l=>some (v::l)
   |_,_=>none)=_
  rw[ih,allRes]
  have hg:T.getD (resSlot r) .undef=v:=by rw[List.getD_eq_getElem?_getD,h1];rfl
  cases r with
  |tmp t=>simp only[oneRes];rw[show T.getD t .undef=v from hg];rfl
  |cell t n =>
   have hl:(match gload n (.const v) (fun _ _ _=>none) noRho M with|some p=>some p.1|none=>none)=loadVal M n v:=by
    have:=zoo (.load n (.const v)) (fun _ _ _=>none) noRho M
    rw[show gload n (.const v) (fun _ _ _=>none) noRho M=evalOpG (.load n (.const v)) (fun _ _ _=>none) noRho M from rfl,this]
    show(match(match loadVal M n v with|some u=>some (u,M)|none=>none)with|some p=>some p.1|none=>none)=_
    cases loadVal M n v<;>rfl
   simp only[oneRes]
   rw[show T.getD t .undef=v from hg,←hl]
   rfl
theorem zacm {Γ:Prog} {f:FuncId} {h:HFun} (hk:HOK Γ f h) {C:Oracle} {L:Nat} {args:List IVal} {H:List IBlk} {r:IVal×List IBlk} (e:hfrun C L h args H=some r):∃F,Γ f=some F∧h.pure=F.pure∧runBody C (loopN L) F args H=some r:=by
 obtain⟨F,an,ext,h1,h2,h3,h4,h5,h6,h7⟩:=hk.ok
 refine⟨F,h1,h4,?_⟩
 unfold hfrun at e
 rw[zar,h2]at e
 unfold runBody
 cases hn:Nat.beq args.length F.np with
 |false=>rw[hn]at e;cases e
 |true =>
  rw[hn]at e
  dsimp only at e ⊢
  have hn':=Nat.eq_of_beq_eq_true hn
  rw[h7]at e
  cases hr:hrun C L (hbody F an ext args) ⟨[],H⟩with
  |none=>rw[hr]at e;cases e
  |some x =>
   rw[hr]at e
   have hr:=znm hr
   rw[List.take_of_length_le (by omega)]at hr
   obtain⟨e',T',M',q1,q2⟩:=zch (resSlots F.res) F.code hr (zxh hn' (Nat.le_of_ble_eq_true h5) h6)
   rw[q1]
   have key:∀vs,x=(.ret,vs,M')→RelPS (resSlots F.res) vs T'→(match Ideal.results ⟨T',M'⟩ F.res with|some v=>some (v,M'.heap)|none=>none)=some r:=by
    intro vs hx hp
    subst hx
    have e:(Option.rec (motive:=fun _=>Option (IVal×List IBlk)) none (fun v=>some (v,M'.heap)) (fout (hout M' h.res vs)):Option (IVal×List IBlk))=some r:=e
    rw[h3,zamj hp]at e
    have:Ideal.results ⟨T',M'⟩ F.res=fout (allRes ⟨T',M'⟩ F.res):=rfl
    rw[this]
    cases hq:fout (allRes ⟨T',M'⟩ F.res)with
    |none=>rw[hq]at e;cases e
    |some v=>rw[hq]at e;exact e
   cases e' with
   |normal =>
    obtain⟨E',g1,g2⟩:=q2
    obtain⟨vs,g3,_,g4⟩:=zhf g1 g2
    exact key vs g3 g4
   |exit i =>
    obtain⟨l,vs,g1,_⟩:=q2
    cases g1
   |ret =>
    obtain⟨vs,g1,_,g2⟩:=q2
    exact key vs g1 g2
noncomputable def hstep (J:Nat→Option HFun) (D:Oracle→Oracle) (L:Nat) (C:Oracle):Oracle:=fun f args H =>
 Option.rec (motive:=fun _=>Option (IVal×List IBlk)) (D C f args H) (fun h=>Bool.rec (hfrun C L h args H) (fpure H args fun az K=>hfrun C L h az K) h.pure) (J f)
noncomputable def hcall (J:Nat→Option HFun) (D:Oracle→Oracle) (L:Nat) (n:Nat):Oracle :=
 Nat.rec (motive:=fun _=>Oracle) (fun _ _ _=>none) (fun _ ih=>hstep J D L ih) n
section
variable [Tabs]
theorem zapt [B:Base] {Γ:Prog} {J:Nat→Option HFun} {D:Oracle→Oracle} {L:Nat} (hJ:∀f h,J f=some h→HOK Γ f h) (hD:∀C:Oracle,C.Le (CW Γ)→(D C).Le (CW Γ)) {C:Oracle} (hC:C.Le (CW Γ)):(hstep J D L C).Le (CW Γ):=fun f args H r e=>by
 unfold hstep at e
 cases hj:J f with
 |none=>rw[hj]at e;exact hD _ hC _ _ _ _ e
 |some h =>
  rw[hj]at e
  have hk:=hJ f h hj
  have hc:callBody Γ C (loopN L) f args H=some r:=by
   have e:(Bool.rec (hfrun C L h args H) (fpure H args fun az K=>hfrun C L h az K) h.pure:Option (IVal×List IBlk))=some r:=e
   cases hp:h.pure with
   |false =>
    rw[hp]at e
    obtain⟨F,g1,g2,g3⟩:=zacm hk e
    unfold callBody
    rw[g1]
    simp only[← g2,hp]
    exact g3
   |true =>
    rw[hp]at e
    have e:fpure H args (fun az K=>hfrun C L h az K)=some r:=e
    unfold fpure at e
    have hF:∃F,Γ f=some F∧h.pure=F.pure:=by
     obtain⟨F,an,ext,h1,h2,h3,h4,_⟩:=hk.ok
     exact⟨F,h1,h4⟩
    obtain⟨F,g1,g2⟩:=hF
    have run:∀ {az K s},hfrun C L h az K=some s→runBody C (loopN L) F az K=some s:=fun q=>by
     obtain⟨F',q1,_,q3⟩:=zacm hk q
     rw[g1]at q1
     injection q1 with q1
     rw[q1]
     exact q3
    unfold callBody
    rw[g1]
    simp only[← g2,hp]
    cases ha:freezeAll H args with
    |none=>rw[ha]at e;exact run e
    |some az =>
     rw[ha]at e
     dsimp only at e ⊢
     cases hr:hfrun C L h az []with
     |none=>rw[hr]at e;cases e
     |some p =>
      obtain⟨v,H'⟩:=p
      rw[hr]at e
      rw[run hr]
      dsimp only at e ⊢
      cases hz:freezeRes H' v with
      |none=>rw[hz]at e;cases e
      |some r' =>
       rw[hz]at e
       dsimp only at e ⊢
       cases hb:(plainArgs args||(scalRes r'||freshRes H' v))with
       |true=>rw[hb]at e;exact e
       |false=>rw[hb]at e;exact run e
  exact CW_of (zgz hC zwj hc)
theorem zahi [B:Base] {Γ:Prog} {J:Nat→Option HFun} {D:Oracle→Oracle} {L:Nat} (hJ:∀f h,J f=some h→HOK Γ f h) (hD:∀C:Oracle,C.Le (CW Γ)→(D C).Le (CW Γ)):∀n,(hcall J D L n).Le (CW Γ)
 |0=>fun _ _ _ _ e=>(by cases e)
 |n+1=>zapt hJ hD (zahi hJ hD n)
end
end Go.Ideal
