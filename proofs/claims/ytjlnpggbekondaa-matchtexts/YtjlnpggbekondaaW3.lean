import Derived.Test.YtjlnpggbekondaaW1
import Derived.Shelf.SlSortCmp.Insertion
import Derived.Sort.AssemblyPlain
import Derived.Test.YtjlnpggbekondaaW2
namespace Go.Ideal
open Go
def scalP:PVal->Bool
 | .bool _ | .int _ _ | .str _=>true
 |_=>false
def sv:PVal->Value
 | .bool b=>.bool b
 | .int k n=>.int k n
 | .str s=>.string ⟨s.toArray⟩
 |_=>.bool false
theorem zadw {z:Cells}:∀ {v:PVal},scalP v=true->∀ {r:Value},PRel z v r↔r=sv v
 | .bool b,_,r=>by simp[PRel,sv]
 | .int k n,_,r=>by simp[PRel,sv]
 | .str s,_,r=>by simp[PRel,sv]
 | .slice ..,h,_ | .ptr ..,h,_ | .func ..,h,_ | .nilptr,h,_ | .nilslice,h,_ | .nilmap,h,_ | .nilfunc,h,_ | .niliface,h,_=>by simp[scalP]at h
theorem zavo:∀ {v:PVal},(sv v).oneCell'=true:=by intro v;cases v<;>rfl
structure SortKit (α:Type) where
 k:Nat
 enc:α->List PVal
 cf:α->α->Int
 len:∀x,(enc x).length=k
 scal:∀x,∀v∈enc x,scalP v=true
 swo:Sort.SWO (Go.Proofs.ltOf cf)
 inj:∀x y,enc x=enc y->x=y
section
variable {α:Type} [Inhabited α]
def SortKit.sort (K:SortKit α) (d:Array α):Array α:=Sort.pdq (Go.Proofs.ltOf K.cf) d 0 d.size (Lib.bitLen d.size) true true
def SortKit.row (K:SortKit α) (d:Array α):List PVal:=d.toList.flatMap K.enc
inductive SortRel (K:SortKit α) (g:FuncId):J3->J2->IVal×J2->Prop
 |nil {H:J2}:SortRel K g [.p .nilslice, .p (.func g)] H (.tup [],H)
 |empty {H:J2} {i ver off:Nat}:SortRel K g [.slice i ver off 0, .p (.func g)] H (.tup [],H)
 |row {H:J2} {i ver off e:Nat} {cs:J3} {op:Bool} (d:Array α) (hb:H[i]? = some (.cells cs e ver op)) (hn:0<d.size) (hm:d.size<4611686018427387904)
  (hl:off+d.size*K.k<=cs.length) (hcs:(cs.drop off).take (d.size*K.k)=pcells (K.row d)) :
  SortRel K g [.slice i ver off d.size, .p (.func g)] H (.tup [],H.set i (.cells (splice cs off (pcells (K.row (K.sort d)))) e ver op))
noncomputable def sortSpec (K:SortKit α) (g:FuncId):Spec:=fun args H=>open Classical in if h:∃r,SortRel K g args H r then some h.choose else none
omit [Inhabited α] in
theorem zzj (K:SortKit α):∀ {l m:List α},l.length=m.length->l.flatMap K.enc=m.flatMap K.enc->l=m
 | [],[],_,_=>rfl
 | [],_::_,h,_=>by simp at h
 |_::_,[],h,_=>by simp at h
 |x::l,y::m,h,e=>by
  rw[AI,AI]at e
  obtain⟨e1,e2⟩:=C8 e (by rw[K.len,K.len])
  rw[K.inj _ _ e1,zzj K (by simpa using h) e2]
theorem zmh (K:SortKit α) (g:FuncId) (H:J2):sortSpec K g [.p .nilslice, .p (.func g)] H=some (.tup [],H):=by
 have hx:∃r,SortRel K g [.p .nilslice, .p (.func g)] H r:=⟨_, .nil⟩
 unfold sortSpec
 rw[dif_pos hx]
 have h:=hx.choose_spec
 generalize hx.choose=r at h
 cases h
 rfl
theorem zqd (K:SortKit α) (g:FuncId) (H:J2) (i ver off:Nat):sortSpec K g [.slice i ver off 0, .p (.func g)] H=some (.tup [],H):=by
 have hx:∃r,SortRel K g [.slice i ver off 0, .p (.func g)] H r:=⟨_, .empty⟩
 unfold sortSpec
 rw[dif_pos hx]
 have h:=hx.choose_spec
 generalize hx.choose=r at h
 generalize hs:0=z at h hx
 cases h with
 |empty=>rfl
 |row d _ hn=>omega
theorem zmi (K:SortKit α) (g:FuncId) {H:J2} {i ver off e:Nat} {cs:J3} {op:Bool} (d:Array α) (hb:H[i]? = some (.cells cs e ver op)) (hn:0<d.size) (hm:d.size<4611686018427387904)
 (hl:off+d.size*K.k<=cs.length) (hcs:(cs.drop off).take (d.size*K.k)=pcells (K.row d)) :
 sortSpec K g [.slice i ver off d.size, .p (.func g)] H=some (.tup [],H.set i (.cells (splice cs off (pcells (K.row (K.sort d)))) e ver op)):=by
 have hx:∃r,SortRel K g [.slice i ver off d.size, .p (.func g)] H r:=⟨_, .row d hb hn hm hl hcs⟩
 unfold sortSpec
 rw[dif_pos hx]
 have h:=hx.choose_spec
 generalize hx.choose=r at h
 generalize hs:d.size=sz at h hx
 cases h with
 |empty=>omega
 |row d' hb' hn' hm' hl' hcs' =>
  rw[hb]at hb'
  cases hb'
  rw[<- hs,hcs]at hcs'
  have:=zzj K (by simpa using hs) (zqv hcs')
  have:d=d':=by rw[<- Array.toList_inj];exact this
  subst this
  rfl
omit [Inhabited α] in
theorem SortKit.zaox (K:SortKit α) (d:Array α):(K.row d).length=d.size*K.k:=by
 unfold SortKit.row
 have key:∀l:List α,(l.flatMap K.enc).length=l.length*K.k:=by
  intro l
  induction l with
  |nil=>simp
  |cons x l ih=>rw[AI,Ag,K.len,ih,AC,A0,Ct,BJ]
 rw[key];rfl
theorem SortKit.perm (K:SortKit α) (d:Array α):Sort.PermIn 0 d.size d (K.sort d)/\Sort.SortedIn (Go.Proofs.ltOf K.cf) 0 d.size (K.sort d) :=
 Go.Sort.pdq_sorts (Go.Proofs.ltOf K.cf) K.swo d 0 d.size (Lib.bitLen d.size) true true (AY _) (Ai _) (Or.inl rfl)
end
def pairEnc (p:Int×Int):List PVal:=[.int .i64 p.1, .int .i64 p.2]
def cmpI (a b:Int):Int:=if a<b then -1 else if b<a then 1 else 0
theorem zsm (a b:Int×Int):Go.Proofs.ltOf (fun x y:Int×Int=>cmpI x.1 y.1) a b=decide (a.1<b.1):=by
 unfold Go.Proofs.ltOf cmpI
 by_cases h1:a.1<b.1
 ·simp[h1]
 ·by_cases h2:b.1<a.1<;>simp[h1,h2]
def pairKit:SortKit (Int×Int) where
 k:=2
 enc:=pairEnc
 cf x y:=cmpI x.1 y.1
 len _:=rfl
 scal x v hv:=by simp[pairEnc]at hv;rcases hv with rfl|rfl<;>rfl
 swo:={
  irrefl x:=by rw[zsm];simp
  trans x y z h1 h2:=by rw[zsm]at *;simp at *;omega
  ntrans x y z h1 h2:=by rw[zsm]at *;simp at *;omega }
 inj x y h:=by
  simp[pairEnc]at h
  exact Prod.ext h.1 h.2
def prc (L:J1):List PVal:=L.flatMap fun p=>[.int .i64 p.1, .int .i64 p.2]
def toI (p:Nat×Nat):Int×Int:=(p.1,p.2)
theorem zsn (L:J1):pairKit.row (L.map toI).toArray=prc L:=by
 show(L.map toI).flatMap pairEnc=_
 rw[prc,List.flatMap_map]
 rfl
def sortP (l:J1):J1:=l.mergeSort fun p q=>decide (p.1<=q.1)
theorem zas (l:J1):(sortP l).Perm l:=List.mergeSort_perm l _
theorem zfe (l:J1):(sortP l).Pairwise fun p q=>p.1<=q.1:=by
 have h:=List.pairwise_mergeSort (le:=fun p q:Nat×Nat=>decide (p.1<=q.1)) (by intro a b c;simp;omega) (by intro a b;simp;omega) l
 exact h.imp fun h=>by simpa using h
theorem zadx {l:J1} (hn:(l.map (·.1)).Nodup) {p q:Nat×Nat} (hp:p∈l) (hq:q∈l) (e:p.1=q.1):p=q:=by
 induction l with
 |nil=>cases hp
 |cons x l ih =>
  rw[As,Bj]at hn
  rcases Aj.1 hp with rfl|hp'<;>rcases Aj.1 hq with rfl|hq'
  ·rfl
  ·exact absurd (AW hq') (e ▸ hn.1)
  ·exact absurd (AW hp') (e ▸ hn.1)
  ·exact ih hn.2 hp' hq'
theorem zhk {l m:J1} (hn:(l.map (·.1)).Nodup) (hp:m.Perm l) (hs:m.Pairwise fun p q=>p.1<=q.1):m=sortP l:=by
 refine List.Perm.eq_of_pairwise (le:=fun p q:Nat×Nat=>p.1<=q.1) (fun p q h1 h2 h3 h4=>?_) hs (zfe l) (hp.trans (zas l).symm)
 exact zadx hn (hp.mem_iff.1 h1) ((zas l).mem_iff.1 h2) (Nat.le_antisymm h3 h4)
theorem zmj {l:J1} (hn:(l.map (·.1)).Nodup):pairKit.sort (l.map toI).toArray=((sortP l).map toI).toArray:=by
 obtain⟨⟨h1,_,h2⟩,h3⟩:=pairKit.perm (l.map toI).toArray
 rw[<- h1]at h3
 generalize pairKit.sort (l.map toI).toArray=d at *
 have hsz:(l.map toI).toArray.size=l.length:=by simp
 have hp:d.toList.Perm (l.map toI):=by
  rw[show(l.map toI).toArray.extract 0 (l.map toI).toArray.size=(l.map toI).toArray from Array.extract_size,show d.extract 0 (l.map toI).toArray.size=d by rw[<- h1];exact Array.extract_size]at h2
  exact h2
 obtain⟨m,hm⟩:∃m:J1,d.toList=m.map toI:=by
  have:∀L:List (Int×Int),(∀ x∈L,∃p:Nat×Nat,x=toI p)->∃m:J1,L=m.map toI:=by
   intro L
   induction L with
   |nil=>intro _;exact⟨[],rfl⟩
   |cons x L ih =>
    intro h
    obtain⟨p,rfl⟩:=h x (by simp)
    obtain⟨m,rfl⟩:=ih fun x hx=>h x (by simp[hx])
    exact⟨p::m,rfl⟩
  refine this _ fun x hx=>?_
  have:=hp.mem_iff.1 hx
  obtain⟨p,_,rfl⟩:=Au.1 this
  exact⟨p,rfl⟩
 have inj:∀p q:Nat×Nat,toI p=toI q->p=q:=fun p q h=>by
  simp only[toI,Prod.mk.injEq]at h
  exact Prod.ext (by omega) (by omega)
 have key:∀L M:J1,L.map toI=M.map toI->L=M:=by
  intro L
  induction L with
  |nil=>intro M h;cases M with|nil=>rfl|cons _ _=>simp at h
  |cons x L ih =>
   intro M h
   cases M with
   |nil=>simp at h
   |cons y M =>
    simp only[As,Cd]at h
    rw[inj _ _ h.1,ih M h.2]
 have hpm:m.Perm l:=by
  have h5:=(hm ▸ hp).map fun x:Int×Int=>(x.1.toNat,x.2.toNat)
  rw[List.map_map,List.map_map]at h5
  have e:((fun x:Int×Int=>(x.1.toNat,x.2.toNat)) ∘ toI)=id:=by
   funext p;simp[toI]
  rw[e,List.map_id,List.map_id]at h5
  exact h5
 have hsm:m.Pairwise fun p q=>p.1<=q.1:=by
  rw[List.pairwise_iff_getElem]
  intro i j hi hj hij
  have hlen:d.size=m.length:=by rw[<- A3,hm];simp
  have:=h3 i j (AY _) hij (by omega)
  rw[show pairKit.cf=fun x y=>cmpI x.1 y.1 from rfl,zsm]at this
  have e1:d[i]! = toI m[i]:=by
   rw[getElem!_pos d i (by omega)]
   have:d.toList[i]'(by rw[A3];omega)=toI m[i]:=by simp only[hm,BO]
   simpa using this
  have e2:d[j]! = toI m[j]:=by
   rw[getElem!_pos d j (by omega)]
   have:d.toList[j]'(by rw[A3];omega)=toI m[j]:=by simp only[hm,BO]
   simpa using this
  rw[e1,e2]at this
  simp[toI]at this
  omega
 rw[<- Array.toList_inj,hm,zhk hn hpm hsm]
noncomputable def sortAny (l:List FuncId):Spec:=match l with
 | []=>fun _ _=>none
 |g::r=>fun args H=>match sortSpec pairKit g args H with
  |some x=>some x
  |none=>sortAny r args H
noncomputable def sortOracle:Oracle:=noOracle.set F_Q31 (sortAny [F_Q50,F_Q67,F_Q32])
noncomputable instance seatBase:Base where
 b:=sortOracle
 m C f a H r:=f=F_Q9/\RangePure C i_Q9 a H r
 mono h g:=⟨g.1,g.2.mono h⟩
 det h g:=h.2.det g.2
 off h:=by rw[h.1];rfl
theorem zqe {g g':FuncId} (hne:g≠g') (v:IVal) (H:J2):sortSpec pairKit g' [v, .p (.func g)] H=none:=by
 unfold sortSpec
 refine dif_neg ?_
 rintro⟨r,h⟩
 generalize hl:[v,IVal.p (.func g)]=l at h
 cases h with
 |nil=>injection hl with _ hl;injection hl with hl _;injection hl with hl;injection hl with hl;exact hne hl
 |empty=>injection hl with _ hl;injection hl with hl _;injection hl with hl;injection hl with hl;exact hne hl
 |row=>injection hl with _ hl;injection hl with hl _;injection hl with hl;injection hl with hl;exact hne hl
theorem zqz {g:FuncId} {v:IVal} {H:J2} {r:IVal×J2} (h:sortSpec pairKit g [v, .p (.func g)] H=some r):∀l:List FuncId,g∈l->sortAny l [v, .p (.func g)] H=some r
 | [],hm=>by simp at hm
 |x::l,hm=>by
  by_cases e:x=g
  ·subst e
   simp only[sortAny,h]
  ·have hm':g∈l:=by
    rcases Aj.1 hm with h'|h'
    ·exact absurd h'.symm e
    ·exact h'
   simp only[sortAny,zqe (fun e'=>e e'.symm)]
   exact zqz h l hm'
theorem zkm {g:FuncId} (hg:g∈[F_Q50,F_Q67,F_Q32]) {v:IVal} {H:J2} {r:IVal×J2} (h:sortSpec pairKit g [v, .p (.func g)] H=some r):seatBase.b F_Q31 [v, .p (.func g)] H=some r:=by
 have e:seatBase.b F_Q31=sortAny [F_Q50,F_Q67,F_Q32]:=by
  show sortOracle _=_
  unfold sortOracle
  exact Oracle.zahe
 rw[e]
 exact zqz h _ hg
end Go.Ideal

namespace Go.Ideal
open Go
theorem zet:∀s:Bytes,bytesLess s s=false
 | []=>rfl
 |a::s=>by simp[bytesLess,zet s]
theorem zlm:∀ {s t:Bytes},bytesLess s t=true->bytesLess t s=false
 | [],[],h=>by simp[bytesLess]at h
 | [],_::_,_=>rfl
 |_::_,[],h=>by simp[bytesLess]at h
 |a::s,b::t,h=>by
  simp only[bytesLess,BX,decide_eq_true_eq,Ak,beq_iff_eq]at h
  simp only[bytesLess,CJ,decide_eq_false_iff_not,Bool.and_eq_false_iff]
  rcases h with h|⟨rfl,h⟩
  ·refine⟨by rw[UInt8.not_lt];exact UInt8.le_of_lt h, .inl ?_⟩
   simp only[beq_eq_false_iff_ne]
   rintro rfl
   exact absurd h (UInt8.lt_irrefl _)
  ·exact⟨UInt8.lt_irrefl _, .inr (zlm h)⟩
theorem zek:∀ {s t:Bytes},bytesLess s t=false->bytesLess t s=false->s=t
 | [],[],_,_=>rfl
 | [],_::_,h,_=>by simp[bytesLess]at h
 |_::_,[],_,h=>by simp[bytesLess]at h
 |a::s,b::t,h,g=>by
  simp only[bytesLess,CJ,decide_eq_false_iff_not,Bool.and_eq_false_iff,beq_eq_false_iff_ne]at h g
  have hab:a=b:=UInt8.le_antisymm (UInt8.not_lt.1 g.1) (UInt8.not_lt.1 h.1)
  subst hab
  rcases h.2 with h2|h2
  ·exact absurd rfl h2
  ·rcases g.2 with g2|g2
   ·exact absurd rfl g2
   ·rw[zek h2 g2]
theorem zoo {s t:Bytes} (h:bytesLess s t=true):s≠t:=by
 rintro rfl;rw[zet]at h;cases h
section
variable {s t:Bytes} {k:SV->Prop}
@[simp ↓ high] theorem zalr:strBinK .lss s t k=k (.bool (bytesLess s t)):=by simp[strBin]
@[simp ↓ high] theorem zals:strBinK .gtr s t k=k (.bool (bytesLess t s)):=by
 have:(!(bytesLess s t||s==t))=bytesLess t s:=by
  cases h:bytesLess s t
  ·cases h2:bytesLess t s
   ·rw[zek h h2];simp
   ·have:=zoo h2
    simp;exact fun e=>this e.symm
  ·rw[zlm h];rfl
 rw[zxo]
 simp only[strBin,zeq,zxq,zxk,this]
@[simp ↓ high] theorem zalt:strBinK .leq s t k=k (.bool (!bytesLess t s)):=by
 have:(bytesLess s t||s==t)=!bytesLess t s:=by
  cases h:bytesLess s t
  ·cases h2:bytesLess t s
   ·rw[zek h h2];simp
   ·have:=zoo h2
    simp;exact fun e=>this e.symm
  ·rw[zlm h];rfl
 rw[zxn]
 simp only[strBin,zeq,zxq,zxk,this]
@[simp ↓ high] theorem zalu:strBinK .geq s t k=k (.bool (!bytesLess s t)):=by
 rw[zxp]
 simp only[strBin,zeq,zxq,zxk]
end
def sgn (l m:Bool):Int:=if l then -1 else if m then 1 else 0
def scmp (s t:Bytes):Int:=sgn (bytesLess s t) (bytesLess t s)
theorem zkn {s t:Bytes}:scmp s t=0↔s=t:=by
 unfold scmp sgn
 cases h:bytesLess s t
 ·cases h2:bytesLess t s
  ·simp[zek h h2]
  ·simp;rintro rfl;rw[zet]at h2;cases h2
 ·simp;exact zoo h
def icmp (a b:Int):Int:=sgn (decide (a<b)) (decide (b<a))
theorem zdm {a b:Int}:icmp a b=0↔a=b:=by
 unfold icmp sgn
 by_cases h:a<b<;>by_cases h2:b<a<;>simp[h,h2]<;>omega
def acmp (p q:Bytes×Bytes):Int:=sgn (bytesLess p.1 q.1||decide (p.1=q.1)&&bytesLess p.2 q.2) (bytesLess q.1 p.1||decide (p.1=q.1)&&bytesLess q.2 p.2)
theorem zady {p q:Bytes×Bytes}:acmp p q=0↔p=q:=by
 obtain⟨a,b⟩:=p
 obtain⟨c,d⟩:=q
 unfold acmp sgn
 simp only[Prod.mk.injEq]
 cases h:bytesLess a c
 ·cases h2:bytesLess c a
  ·have:=zek h h2
   subst this
   cases h3:bytesLess b d
   ·cases h4:bytesLess d b
    ·simp[zek h3 h4]
    ·simp;rintro rfl;rw[zet]at h4;cases h4
   ·simp;exact zoo h3
  ·have hne:a≠c:=fun e=>by rw[e,zet]at h2;cases h2
   simp[hne]
 ·have hne:a≠c:=zoo h
  simp[hne]
def lcmp {α:Type} (f:α->α->Int):List α->List α->Int
 |x::l,y::m=>if f x y=0 then lcmp f l m else f x y
 |l,m=>icmp l.length m.length
theorem zvf {α:Type} {f:α->α->Int}:∀ {l m:List α},(∀ x∈l,∀y,f x y=0↔x=y)->(lcmp f l m=0↔l=m)
 | [],[],_=>by simp[lcmp,zdm]
 | [],_::_,_=>by simp[lcmp,zdm];omega
 |_::_,[],_=>by simp[lcmp,zdm];omega
 |x::l,y::m,h=>by
  have ih:=zvf (l:=l) (m:=m) (fun a ha=>h a (by simp[ha]))
  rw[lcmp]
  by_cases e:f x y=0
  ·rw[if_pos e,ih,(h x (by simp) y).1 e];simp
  ·rw[if_neg e]
   simp only[e,false_iff,Cd,not_and]
   intro e2
   exact absurd ((h x (by simp) y).2 e2) e
mutual
def Tree.nodes:Tree->List Tree
 | .mk k n x a ks=>.mk k n x a ks::knodes ks
def knodes:Option (List Tree)->List Tree
 |none=>[]
 |some l=>lnodes l
def lnodes:List Tree->List Tree
 | []=>[]
 |t::l=>t.nodes++lnodes l
end
theorem zca (t:Tree):t.nodes=t::lnodes (klist t.kids):=by
 obtain⟨k,n,x,a,ks⟩:=t
 cases ks<;>simp[Tree.nodes,knodes,lnodes,klist,Tree.kids]
theorem zic {u:Tree}:∀ {l:List Tree},u∈lnodes l↔∃t∈l,u∈t.nodes
 | []=>by simp[lnodes]
 |t::l=>by simp[lnodes,zic (l:=l)]
theorem zra (t:Tree):t∈t.nodes:=by rw[zca];simp
theorem zvg {t u v:Tree} (h:u∈klist t.kids) (hv:v∈u.nodes):v∈t.nodes:=by
 rw[zca];simp only[Aj];exact .inr (zic.2 ⟨u,h,hv⟩)
def Fine (t:Tree):Prop:=t.size<1000000/\∀u∈t.nodes,(alist u.attrs).length<1000000
theorem Fine.attrs {t:Tree} (h:Fine t):(alist t.attrs).length<1000000000000:=by have:=h.2 t (zra t);omega
theorem Fine.kid {t u:Tree} (h:Fine t) (hu:u∈klist t.kids):Fine u:=by
 have h1:=zag t
 have h2:=zat hu
 exact⟨by have:=h.1;omega,fun v hv=>h.2 v (zvg hu hv)⟩
theorem Fine.kids {t:Tree} (h:Fine t):(klist t.kids).length<1000000000000:=by
 have h1:=zag t
 have h2:=zau (klist t.kids)
 have:=h.1
 omega
def nodeCmp (a b:Tree):Int:=if icmp a.kind b.kind=0 then(if scmp a.name b.name=0 then(if scmp a.text b.text=0 then lcmp acmp (alist a.attrs) (alist b.attrs)else scmp a.text b.text)else scmp a.name b.name)else icmp a.kind b.kind
def SameNode (a b:Tree):Prop:=a.kind=b.kind/\a.name=b.name/\a.text=b.text/\alist a.attrs=alist b.attrs
theorem zmk {a b:Tree}:nodeCmp a b=0↔SameNode a b:=by
 unfold nodeCmp SameNode
 by_cases h1:icmp a.kind b.kind=0
 ·rw[if_pos h1]
  have:=zdm.1 h1
  by_cases h2:scmp a.name b.name=0
  ·rw[if_pos h2]
   have:=zkn.1 h2
   by_cases h3:scmp a.text b.text=0
   ·rw[if_pos h3,zvf (fun _ _ _=>zady)]
    have:=zkn.1 h3
    simp_all
   ·rw[if_neg h3]
    have:=fun e=>h3 (zkn.2 e)
    simp_all
  ·rw[if_neg h2]
   have:=fun e=>h2 (zkn.2 e)
   simp_all
 ·rw[if_neg h1]
  have:=fun e=>h1 (zdm.2 e)
  simp_all
mutual
def cmpT:Tree->Tree->Int
 | .mk k n x a ks,u=>if nodeCmp (.mk k n x a ks) u=0 then cmpK ks (klist u.kids)else nodeCmp (.mk k n x a ks) u
def cmpK:Option (List Tree)->List Tree->Int
 |none,m=>icmp 0 m.length
 |some l,m=>cmpL l m
def cmpL:List Tree->List Tree->Int
 | [],m=>icmp 0 m.length
 |t::l,[]=>icmp (t::l).length 0
 |t::l,u::m=>if cmpT t u=0 then cmpL l m else cmpT t u
end
theorem zxr:∀ {l m:List Tree},cmpL l m=lcmp cmpT l m
 | [],m=>by cases m<;>rw[cmpL,lcmp]<;>simp
 |t::l,[]=>by rw[cmpL,lcmp];simp;simp
 |t::l,u::m=>by rw[cmpL,lcmp,zxr]
theorem zaoy (t u:Tree):cmpT t u=if nodeCmp t u=0 then lcmp cmpT (klist t.kids) (klist u.kids)else nodeCmp t u:=by
 obtain⟨k,n,x,a,ks⟩:=t
 rw[cmpT]
 cases ks with
 |none=>simp only[cmpK,Tree.kids,klist,Option.getD_none,<-zxr,cmpL]
 |some l=>simp only[cmpK,Tree.kids,klist,BH,zxr]
def SameT (t u:Tree):Prop:=cmpT t u=0
instance (t u:Tree):Decidable (SameT t u):=by unfold SameT;infer_instance
theorem zvh:∀ {l m:List Tree},lcmp cmpT l m=0↔l.length=m.length/\∀(j:Nat) (a b:Tree),l[j]? = some a->m[j]? = some b->SameT a b
 | [],[]=>by simp[lcmp,zdm]
 | [],_::_=>by simp[lcmp,zdm];omega
 |_::_,[]=>by simp[lcmp,zdm];omega
 |t::l,u::m=>by
  rw[lcmp]
  by_cases h:cmpT t u=0
  ·rw[if_pos h,zvh]
   constructor
   ·rintro⟨h1,h2⟩
    refine⟨by simp[h1],fun j a b ha hb=>?_⟩
    cases j with
    |zero=>simp at ha hb;subst ha hb;exact h
    |succ j=>exact h2 j a b (by simpa using ha) (by simpa using hb)
   ·rintro⟨h1,h2⟩
    exact⟨by simpa using h1,fun j a b ha hb=>h2 (j+1) a b (by simpa using ha) (by simpa using hb)⟩
  ·rw[if_neg h]
   simp only[h,false_iff,not_and]
   intro _ h2
   exact h (h2 0 t u rfl rfl)
theorem zid {t u:Tree}:SameT t u↔SameNode t u/\(klist t.kids).length=(klist u.kids).length/\∀(j:Nat) (a b:Tree),(klist t.kids)[j]? = some a->(klist u.kids)[j]? = some b->SameT a b:=by
 unfold SameT
 rw[zaoy]
 by_cases h:nodeCmp t u=0
 ·rw[if_pos h,zvh]
  have:=zmk.1 h
  simp only[this,true_and];rfl
 ·rw[if_neg h]
  have:¬SameNode t u:=fun e=>h (zmk.2 e)
  simp[h,this]
section
variable {H H':J2} {bx:List (Nat×IBlk)} {cs xs ys:J3} {esz k n ny ver:Nat} {op:Bool} {v:IVal}
theorem zbd {b:IBlk}:(H++[b])[H.length]? = some b:=by simp
def HS (H:J2) (k esz n:Nat) (v:IVal) (xs:J3):Prop:=∃ver cs op,v = .slice k ver 0 n/\H[k]? = some (.cells cs esz ver op)/\n*esz<=cs.length/\cs.take (n*esz)=xs
def appBlk (cs ys:J3) (esz n ny ver:Nat) (op:Bool):IBlk:=if(n+ny)*esz<=cs.length then .cells (splice cs (n*esz) ys) esz ver op else .cells (cs.take (n*esz)++ys) esz (ver+1) true
def appVer (cs:J3) (esz n ny ver:Nat):Nat:=if(n+ny)*esz<=cs.length then ver else ver+1
theorem zbw {y:IVal} (hk:H[k]? = some (.cells cs esz ver op)) (hn:n*esz<=cs.length) (hy:srcCells ⟨bx,H⟩ esz y=some ys) (hl:srcLen y=some ny) (hpos:0<ny) (hb:n+ny<=4294967296) :
 evalAppend ⟨bx,H⟩ esz (.slice k ver 0 n) y=some (.slice k (appVer cs esz n ny ver) 0 (n+ny),⟨bx,H.set k (appBlk cs ys esz n ny ver op)⟩):=by
 have h1:Nat.ble (n+ny) maxAppend=true:=AB hb
 have h2:(Nat.beq ver ver&&Nat.beq esz esz&&Nat.ble (0+n*esz) cs.length)=true:=by
  rw[AD,AD,Aq,A4,A4]
  exact AB hn
 have h3:Nat.beq ny 0=false:=by rw[zgf];exact decide_eq_false (by omega)
 simp only[evalAppend,hy,hl,sliceLen,h1,Mem.get,hk,h2,h3]
 by_cases h:(n+ny)*esz<=cs.length
 ·have h4:Nat.ble ((n+ny)*esz) cs.length=true:=AB h
  simp only[Aq,h4,appVer,appBlk,if_pos h,Mem.put]
 ·have h4:Nat.ble ((n+ny)*esz) cs.length=false:=by
   cases e:Nat.ble ((n+ny)*esz) cs.length with
   |false=>rfl
   |true=>exact absurd (AE e) h
  simp only[Aq,h4,appVer,appBlk,if_neg h,Mem.put,BF]
theorem zko (hk:k<H.length) (hn:n*esz<=cs.length) (hy:ys.length=ny*esz) :
 HS (H.set k (appBlk cs ys esz n ny ver op)) k esz (n+ny) (.slice k (appVer cs esz n ny ver) 0 (n+ny)) (cs.take (n*esz)++ys):=by
 unfold appBlk appVer
 by_cases h:(n+ny)*esz<=cs.length
 ·rw[if_pos h,if_pos h]
  refine⟨ver,_,op,rfl,by rw[zan hk],?_,?_⟩
  ·simp only[splice,Ag,AQ,Bc]
   rw[A0]at h ⊢
   omega
  ·unfold splice
   rw[<- Ax,Bm (by simp only[Ag,AQ];rw[A0];rw[A0]at h;omega)]
   rw[AA (by simp only[Ag,AQ];rw[A0];omega)]
 ·rw[if_neg h,if_neg h]
  refine⟨_,_,_,rfl,by rw[zan hk],?_,?_⟩
  ·simp only[Ag,AQ]
   rw[A0];omega
  ·rw[AA (by simp only[Ag,AQ];rw[A0];omega)]
theorem append_nil {y:IVal} (hy:srcCells ⟨bx,H⟩ esz y=some ys) (hl:srcLen y=some ny) (hpos:0<ny) (hb:ny<=4294967296) :
 evalAppend ⟨bx,H⟩ esz (.p .nilslice) y=some (.slice H.length 0 0 ny,⟨bx,H++[.cells ys esz 0 true]⟩):=by
 have h1:Nat.ble (0+ny) maxAppend=true:=AB (by unfold maxAppend;omega)
 have h3:Nat.beq ny 0=false:=by rw[zgf];exact decide_eq_false (by omega)
 simp only[evalAppend,hy,hl,sliceLen,h1,h3]
theorem zcl (hk:H[k]? = some (.cells cs esz ver op)) (hn:cs.length=n*esz):srcCells ⟨bx,H⟩ esz (.slice k ver 0 n)=some cs:=by
 have h2:((Nat.beq ver ver&&Nat.beq esz esz)&&Nat.ble (0+n*esz) cs.length)=true:=by
  rw[AD,AD,Aq,A4,A4]
  exact AB (by omega)
 simp only[srcCells,Mem.get,hk,h2,BF]
 rw[AA (by omega)]
@[simp] theorem zaoz {v o:Nat}:srcLen (.slice k v o n)=some n:=rfl
theorem HS.load {j:Nat} (h:HS H k esz n v xs) (hj:j<n) :
 ∃ver,idxS esz v (J4 j)=some (J5 k ver (j*esz))/\loadVal ⟨bx,H⟩ (some esz) (J5 k ver (j*esz))=some (.agg ((xs.drop (j*esz)).take esz)):=by
 obtain⟨ver,cs,op,rfl,hk,hn,hx⟩:=h
 refine⟨ver,by rw[zaq hj,Aq],?_⟩
 have hle:j*esz+esz<=n*esz:=by
  have:(j+1)*esz<=n*esz:=Bl _ hj
  rw[CQ]at this;exact this
 rw[zce hk (by omega),<-hx]
 congr 2
 rw[List.drop_take,BT,Bs (by omega)]
theorem HS.len (h:HS H k esz n v xs):sliceLen v=some n:=by
 obtain⟨ver,cs,op,rfl,hk,hn,hx⟩:=h
 rfl
theorem HS.keep (h:HS H k esz n v xs) (hk:H'[k]? = H[k]?):HS H' k esz n v xs:=by
 obtain⟨ver,cs,op,e,h1,h2,h3⟩:=h
 exact⟨ver,cs,op,e,by rw[hk];exact h1,h2,h3⟩
theorem HS.lt (h:HS H k esz n v xs):k<H.length:=by
 obtain⟨ver,cs,op,rfl,hk,hn,hx⟩:=h
 exact(Aa.1 hk).1
def Keep (S:Nat->Prop) (H H':J2):Prop:=H.length<=H'.length/\∀i,i<H.length->¬S i->H'[i]? = H[i]?
theorem Keep.refl {S:Nat->Prop}:Keep S H H:=⟨Ai _,fun _ _ _=>rfl⟩
theorem Keep.trans {S:Nat->Prop} {H2:J2} (h:Keep S H H') (g:Keep S H' H2):Keep S H H2 :=
 ⟨Bp h.1 g.1,fun i hi hs=>by rw[g.2 i (A1 hi h.1) hs,h.2 i hi hs]⟩
theorem Keep.new {S:Nat->Prop} {b:J2}:Keep S H (H++b):=⟨by simp,fun i hi _=>Ab hi⟩
theorem Keep.set {S:Nat->Prop} {b:IBlk} (h:S k\/H.length<=k):Keep S H (H.set k b):=by
 refine⟨by simp,fun i hi hs=>?_⟩
 rw[Ac]
 rintro rfl
 rcases h with h|h
 ·exact hs h
 ·omega
theorem Keep.mono {S S':Nat->Prop} (h:Keep S H H') (k:∀i,i<H.length->S i->S' i):Keep S' H H':=⟨h.1,fun i hi hs=>h.2 i hi fun x=>hs (k i hi x)⟩
end
section
variable {H:J2} {j k n off:Nat} {xs:J3}
theorem zml {g:IVal->Option PVal} (hg:∀x,g (.p x)=some x):∀l:List PVal,freezeList g (pcells l)=some l
 | []=>rfl
 |a::l=>by
  have:=zml hg l
  simp only[pcells,As]at this ⊢
  simp only[freezeList,hg,this]
theorem zeu {e:Nat} {v:IVal} {xs:List PVal} (h:HS H k e n v (pcells xs)):freezeCell H 100 v=some (.slice e n xs):=by
 obtain⟨ver,cs,op,rfl,hk,hn,hx⟩:=h
 have h2:(Nat.beq ver ver&&Nat.ble (0+n*e) cs.length)=true:=by
  rw[AD,Aq,A4];exact AB hn
 rw[freezeCell]
 simp only[hk,h2,BF,hx]
 rw[zml (fun x=>rfl)]
theorem HS.store {bx:List (Nat×IBlk)} {esz ver:Nat} {new:J3} (h:HS H k esz n (.slice k ver 0 n) xs) (ho:off+new.length<=n*esz) :
 ∃b,writeCells ⟨bx,H⟩ (J5 k ver off) new=some ⟨bx,H.set k b⟩/\HS (H.set k b) k esz n (.slice k ver 0 n) (splice xs off new):=by
 obtain⟨ver',cs,op,e,hk,hn,hx⟩:=h
 injection e with _ e2 _ _
 subst e2
 have hkl:=(Aa.1 hk).1
 refine⟨_,zam hk (by omega),ver,_,op,rfl,zan hkl,?_,?_⟩
 ·simp only[splice,Ag,AQ,Bc];omega
 ·rw[<- hx]
  unfold splice
  rw[C3,C3]
  simp only[AQ,BT]
  rw[Bs (show off<=n*esz by omega),Bs (show off<=cs.length by omega),Nat.min_eq_right (show off<=n*esz by omega)]
  congr 2
  ·rw[AA (by omega)]
  ·rw[List.drop_take];congr 1;omega
theorem HS.field {bx:List (Nat×IBlk)} {esz ver:Nat} {x:IVal} (h:HS H k esz n (.slice k ver 0 n) xs) (hx:xs[off]? = some x):loadVal ⟨bx,H⟩ none (J5 k ver off)=some x:=by
 obtain⟨ver',cs,op,e,hk,hn,hxs⟩:=h
 injection e with _ e2 _ _
 subst e2
 refine zac hk ?_
 rw[<- hxs,Bf]at hx
 split at hx
 ·exact hx
 ·cases hx
mutual
def Tree.height:Tree->Nat
 | .mk _ _ _ _ ks=>kheight ks+1
def kheight:Option (List Tree)->Nat
 |none=>0
 |some l=>lheight l
def lheight:List Tree->Nat
 | []=>0
 |t::r=>max t.height (lheight r)
end
theorem zev (t:Tree):t.height=lheight (klist t.kids)+1:=by
 obtain⟨k,n,x,a,ks⟩:=t
 cases ks<;>simp[Tree.height,kheight,lheight,klist,Tree.kids]
def Tree.bare (t:Tree):Tree := .mk t.kind t.name t.text t.attrs none
structure Item where
 parent:Int
 size:Nat
 depth:Nat
 height:Nat
 place:Nat
 node:Tree
def icell (x:Item):List PVal:=[.int .i64 x.parent, .int .i64 x.size, .int .i64 x.depth, .int .i64 x.height, .int .i64 x.place, .int .i64 x.node.kind, .str x.node.name, .str x.node.text,aval x.node.attrs, .nilslice]
def icells (l:List Item):List PVal:=l.flatMap icell
theorem zkp:∀l:List Item,(icells l).length=l.length*10
 | []=>rfl
 |x::l=>by
  have:=zkp l
  simp only[icells,AI,Ag,AC]at this ⊢
  rw[this];simp[icell];omega
theorem zop {l:List Item} (h:j<l.length):(icells l).drop (j*10)=icell l[j]++(icells l).drop (j*10+10):=by
 induction l generalizing j with
 |nil=>simp at h
 |cons x l ih =>
  have hx:(icell x).length=10:=rfl
  cases j with
  |zero =>
   simp only[icells,AI,CM,BF,CA,Aq]
   rw[BS,Br (by omega),hx,AV]
   rfl
  |succ j =>
   have:=ih (j:=j) (by simpa using h)
   simp only[icells,AI,List.getElem_cons_succ]at this ⊢
   rw[show(j+1)*10=(icell x).length+j*10 by rw[hx];omega,BS,Br (by omega),Bk,AV,this,
    show(icell x).length+j*10+10=(icell x).length+(j*10+10)by omega,BS,Br (l:=icell x) (by omega),Bk,AV]
theorem zadz {l:List Item} {f:Nat} (h:j<l.length) (hf:f<10):(icells l)[j*10+f]? = (icell l[j])[f]? := by
 have h1:=zop h
 have h2:=congrArg (fun x=>x[f]?) h1
 simp only[AR]at h2
 rw[h2,Ab (by simpa[icell]using hf)]
theorem zabg {l:List Item} {f:Nat} {x:Item} {v:PVal} (h:j<l.length) (hf:f<10) (hx:icell x=(icell l[j]).set f v):icells (l.set j x)=(icells l).set (j*10+f) v:=by
 induction l generalizing j with
 |nil=>simp at h
 |cons y l ih =>
  have hy:(icell y).length=10:=rfl
  cases j with
  |zero =>
   simp only[CA]at hx
   simp only[icells,Ca,AI,CM,Aq]
   rw[Bn _ _ (by omega),hx]
  |succ j =>
   have:=ih (j:=j) (by simpa using h) (by simpa using hx)
   simp only[icells,CT,AI]at this ⊢
   rw[List.set_append_right _ _ (by omega),this,hy,show(j+1)*10+f-10=j*10+f by omega]
theorem zie {x:IVal} (h:off<xs.length):splice xs off [x]=xs.set off x:=by
 unfold splice
 rw[Bu,if_pos h]
 rfl
theorem zabh {l:List PVal} {i:Nat} {v:PVal}:pcells (l.set i v)=(pcells l).set i (.p v):=by simp[pcells,CD]
end
structure Vis where
 t:Tree
 parent:Int
 depth:Nat
 place:Nat
mutual
def visT:Tree->Nat->Int->Nat->Nat->List Vis
 | .mk k n x a ks,id,p,d,pl=>⟨.mk k n x a ks,p,d,pl⟩::visK ks (id+1) id (d+1)
def visK:Option (List Tree)->Nat->Nat->Nat->List Vis
 |none,_,_,_=>[]
 |some l,id,p,d=>visL l id p d 0
def visL:List Tree->Nat->Nat->Nat->Nat->List Vis
 | [],_,_,_,_=>[]
 |t::l,id,p,d,pl=>visT t id p d pl++visL l (id+t.size) p d (pl+1)
end
theorem zbl (t:Tree) (id:Nat) (p:Int) (d pl:Nat):visT t id p d pl=⟨t,p,d,pl⟩::visL (klist t.kids) (id+1) id (d+1) 0:=by
 obtain⟨k,n,x,a,ks⟩:=t
 cases ks<;>simp[visT,visK,visL,klist,Tree.kids]
theorem zab (t:Tree):∀(id:Nat) (p:Int) (d pl:Nat),(visT t id p d pl).length=t.size:=by
 have key:∀(n:Nat) (t:Tree),t.size<n->∀(id:Nat) (p:Int) (d pl:Nat),(visT t id p d pl).length=t.size:=by
  intro n
  induction n with
  |zero=>intro t h;omega
  |succ n ih =>
   intro t h id p d pl
   have ht:=zag t
   have hl:∀(l:List Tree) (id p d pl:Nat),lsize l<n->(visL l id p d pl).length=lsize l:=by
    intro l
    induction l with
    |nil=>intros;rfl
    |cons u l ih2 =>
     intro id p d pl hl
     simp only[lsize]at hl
     simp only[visL,lsize,Ag]
     rw[ih u (by omega),ih2 _ _ _ _ (by omega)]
   rw[zbl,AC,hl _ _ _ _ _ (by omega),ht]
 exact key _ t (An _)
mutual
def flatT:Tree->Nat->Int->Nat->Nat->List Item
 | .mk k n x a ks,id,p,d,pl=>⟨p,ksize ks+1,d,kheight ks+1,pl, .mk k n x a none⟩::flatK ks (id+1) id (d+1)
def flatK:Option (List Tree)->Nat->Nat->Nat->List Item
 |none,_,_,_=>[]
 |some l,id,p,d=>flatL l id p d 0
def flatL:List Tree->Nat->Nat->Nat->Nat->List Item
 | [],_,_,_,_=>[]
 |t::l,id,p,d,pl=>flatT t id p d pl++flatL l (id+t.size) p d (pl+1)
end
theorem zkq (t:Tree) (id:Nat) (p:Int) (d pl:Nat):flatT t id p d pl=⟨p,t.size,d,t.height,pl,t.bare⟩::flatL (klist t.kids) (id+1) id (d+1) 0:=by
 obtain⟨k,n,x,a,ks⟩:=t
 cases ks<;>simp[flatT,flatK,flatL,klist,Tree.kids,Tree.size,Tree.height,Tree.bare,Tree.kind,Tree.name,Tree.text,Tree.attrs]
theorem zxs (t:Tree):∀(id:Nat) (p:Int) (d pl:Nat),(flatT t id p d pl).length=t.size:=by
 have key:∀(n:Nat) (t:Tree),t.size<n->∀(id:Nat) (p:Int) (d pl:Nat),(flatT t id p d pl).length=t.size:=by
  intro n
  induction n with
  |zero=>intro t h;omega
  |succ n ih =>
   intro t h id p d pl
   have ht:=zag t
   have hl:∀(l:List Tree) (id p d pl:Nat),lsize l<n->(flatL l id p d pl).length=lsize l:=by
    intro l
    induction l with
    |nil=>intros;rfl
    |cons u l ih2 =>
     intro id p d pl hl
     simp only[lsize]at hl
     simp only[flatL,lsize,Ag]
     rw[ih u (by omega),ih2 _ _ _ _ (by omega)]
   rw[zkq,AC,hl _ _ _ _ _ (by omega),ht]
 exact key _ t (An _)
theorem zbz (t:Tree):∀(id:Nat) (p:Int) (d pl:Nat),(visT t id p d pl).map (·.t)=t.nodes:=by
 have key:∀(n:Nat) (t:Tree),t.size<n->∀(id:Nat) (p:Int) (d pl:Nat),(visT t id p d pl).map (·.t)=t.nodes:=by
  intro n
  induction n with
  |zero=>intro t h;omega
  |succ n ih =>
   intro t h id p d pl
   have ht:=zag t
   have hl:∀(l:List Tree) (id p d pl:Nat),lsize l<n->(visL l id p d pl).map (·.t)=lnodes l:=by
    intro l
    induction l with
    |nil=>intros;rfl
    |cons u l ih2 =>
     intro id p d pl hl
     simp only[lsize]at hl
     simp only[visL,lnodes,AF]
     rw[ih u (by omega),ih2 _ _ _ _ (by omega)]
   rw[zbl,As,hl _ _ _ _ _ (by omega),zca]
 exact key _ t (An _)
def rawOf (v:Vis):Item:=⟨v.parent,1,v.depth,1,v.place,v.t.bare⟩
def bump (q:Item) (s h:Nat):Item:={ q with size:=q.size+s,height:=max q.height (h+1) }
def up1 (L:List Item) (i:Nat):List Item :=
 match L[i]? with
 |none=>L
 |some x=>match L[x.parent.toNat]? with
  |none=>L
  |some q=>L.set x.parent.toNat (bump q x.size x.height)
def backN (L:List Item) (lo:Nat):Nat->List Item
 |0=>L
 |n+1=>backN (up1 L (lo+n)) lo n
theorem zkr (lo n:Nat):∀(m:Nat) (L:List Item),backN L lo (n+m)=backN (backN L (lo+n) m) lo n
 |0,L=>rfl
 |m+1,L=>by
  rw[<- BE,backN,backN,<-BE]
  exact zkr lo n m _
theorem zabi (L:List Item) (i:Nat):(up1 L i).length=L.length:=by
 unfold up1
 split
 ·rfl
 ·split<;>simp
theorem zvi (q:Item) (s h s' h':Nat):bump (bump q s h) s' h'=bump q (s+s') (max h h'):=by
 simp only[bump,Item.mk.injEq,true_and,and_true]
 omega
theorem zaea:∀(n:Nat) (t:Tree),t.size<n->∀(id p d pl:Nat) (A C:List Item) (hA:A.length=id) (hp:p<id),backN (A++(visT t id p d pl).map rawOf++C) id t.size=A.set p (bump (A[p]'(by omega)) t.size t.height)++flatT t id p d pl++C:=by
 intro n
 induction n with
 |zero=>intro t h;omega
 |succ n ih =>
  have hforest:∀(l:List Tree),lsize l<n->∀(id p d pl:Nat) (A C:List Item) (hA:A.length=id) (hp:p<id) (h1:1<=(A[p]'(by omega)).height),backN (A++(visL l id p d pl).map rawOf++C) id (lsize l)=A.set p (bump (A[p]'(by omega)) (lsize l) (lheight l))++flatL l id p d pl++C:=by
   intro l
   induction l with
   |nil =>
    intro _ id p d pl A C hA hp h1
    have hb:bump (A[p]'(by omega)) 0 0=A[p]'(by omega):=by
     simp only[bump,Bd,Aq,Nat.max_eq_left h1]
    simp[visL,lsize,backN,flatL,lheight,hb]
   |cons t l ihl =>
    intro hl id p d pl A C hA hp h1
    simp only[lsize]at hl
    have hlen:(A++(visT t id p d pl).map rawOf).length=id+t.size:=by simp[hA,zab]
    have hget:(A++(visT t id p d pl).map rawOf)[p]'(by omega)=A[p]'(by omega):=C2 (by omega)
    have e1:=ihl (by omega) (id+t.size) p d (pl+1) (A++(visT t id p d pl).map rawOf) C hlen (by omega) (by rw[hget];exact h1)
    rw[hget]at e1
    rw[Bn _ _ (by omega)]at e1
    have e2:=ih t (by omega) id p d pl (A.set p (bump (A[p]'(by omega)) (lsize l) (lheight l))) (flatL l (id+t.size) p d (pl+1)++C) (by simp[hA]) hp
    simp only[visL,AF,lsize,flatL,lheight]
    rw[zkr,<-Ax A,e1]
    simp only[Ax]at e2 ⊢
    rw[e2]
    simp only[List.getElem_set_self,CR,zvi]
    rw[BJ (lsize l),Nat.max_comm (lheight l)]
  intro t h id p d pl A C hA hp
  have ht:=zag t
  have hh:=zev t
  rw[zbl,zkq,ht]
  have e1:=hforest (klist t.kids) (by omega) (id+1) id (d+1) 0 (A++[rawOf ⟨t,p,d,pl⟩]) C (by simp[hA]) (by omega) (by simp[<- hA,rawOf])
  have hg:(A++[rawOf ⟨t,p,d,pl⟩])[id]'(by simp[hA])=rawOf ⟨t,p,d,pl⟩:=by simp[<- hA]
  rw[hg,List.set_append_right _ _ (by omega)]at e1
  have hz:id-A.length=0:=by omega
  rw[hz,Ca]at e1
  have hb:bump (rawOf ⟨t,p,d,pl⟩) (lsize (klist t.kids)) (lheight (klist t.kids))=⟨p,t.size,d,t.height,pl,t.bare⟩:=by
   simp only[bump,rawOf,ht,hh,Item.mk.injEq,true_and,and_true]
   omega
  rw[hb]at e1
  rw[BJ (lsize (klist t.kids)) 1,zkr,As]
  simp only[Ax,At,AV]at e1 ⊢
  rw[e1]
  simp only[backN,Bd]
  have hi:(A++(⟨p,t.size,d,t.height,pl,t.bare⟩:Item)::(flatL (klist t.kids) (id+1) id (d+1) 0++C))[id]? = some ⟨p,t.size,d,t.height,pl,t.bare⟩:=by
   rw[Ad (by omega),hz];rfl
  have hq:(A++(⟨p,t.size,d,t.height,pl,t.bare⟩:Item)::(flatL (klist t.kids) (id+1) id (d+1) 0++C))[p]? = some (A[p]'(by omega)):=by
   rw[Ab (by omega),Ae]
  unfold up1
  simp only[hi,Int.toNat_natCast,hq]
  rw[Bn _ _ (by omega)]
  have e4:lsize (klist t.kids)+1=t.size:=ht.symm
  rw[show 1+lsize (klist t.kids)=t.size by omega]
theorem zaeb (t:Tree):backN ((visT t 0 (-1) 0 0).map rawOf) 1 (lsize (klist t.kids))=flatT t 0 (-1) 0 0:=by
 have hforest:∀(l:List Tree) (A C:List Item) (id p d pl:Nat) (hA:A.length=id) (hp:p<id) (h1:1<=(A[p]'(by omega)).height),backN (A++(visL l id p d pl).map rawOf++C) id (lsize l)=A.set p (bump (A[p]'(by omega)) (lsize l) (lheight l))++flatL l id p d pl++C:=by
  intro l
  induction l with
  |nil =>
   intro A C id p d pl hA hp h1
   have hb:bump (A[p]'(by omega)) 0 0=A[p]'(by omega):=by
    simp only[bump,Bd,Aq,Nat.max_eq_left h1]
   simp[visL,lsize,backN,flatL,lheight,hb]
  |cons t l ihl =>
   intro A C id p d pl hA hp h1
   have hlen:(A++(visT t id p d pl).map rawOf).length=id+t.size:=by simp[hA,zab]
   have hget:(A++(visT t id p d pl).map rawOf)[p]'(by omega)=A[p]'(by omega):=C2 (by omega)
   have e1:=ihl (A++(visT t id p d pl).map rawOf) C (id+t.size) p d (pl+1) hlen (by omega) (by rw[hget];exact h1)
   rw[hget]at e1
   rw[Bn _ _ (by omega)]at e1
   have e2:=zaea _ t (An _) id p d pl (A.set p (bump (A[p]'(by omega)) (lsize l) (lheight l))) (flatL l (id+t.size) p d (pl+1)++C) (by simp[hA]) hp
   simp only[visL,AF,lsize,flatL,lheight]
   rw[zkr,<-Ax A,e1]
   simp only[Ax]at e2 ⊢
   rw[e2]
   simp only[List.getElem_set_self,CR,zvi]
   rw[BJ (lsize l),Nat.max_comm (lheight l)]
 have ht:=zag t
 have hh:=zev t
 rw[zbl,zkq]
 have e1:=hforest (klist t.kids) [rawOf ⟨t, -1,0,0⟩] [] 1 0 1 0 rfl (by omega) (by simp[rawOf])
 simp only[AJ,List.singleton_append,CA,Ca]at e1
 rw[As,e1]
 congr 1
 simp only[bump,rawOf,ht,hh,Item.mk.injEq,true_and,and_true]
 omega
section
variable {H:J2} {esz k n:Nat} {o:Option Nat} {v:IVal} {xs:J3}
def VS (H:J2) (o:Option Nat) (esz n:Nat) (v:IVal) (xs:J3):Prop :=
 match o with
 |none=>v = .p .nilslice/\n=0/\xs=[]
 |some k=>HS H k esz n v xs
theorem VS.nil:VS H none esz 0 (.p .nilslice) []:=⟨rfl,rfl,rfl⟩
theorem VS.len (h:VS H o esz n v xs):sliceLen v=some n:=by
 cases o with
 |none=>obtain⟨rfl,rfl,_⟩:=h;rfl
 |some k=>exact HS.len h
theorem VS.up (h:VS H o esz n v xs):up v = .v v:=by
 cases o with
 |none=>obtain⟨rfl,rfl,_⟩:=h;rfl
 |some k=>obtain⟨_,_,_,rfl,_⟩:=h;rfl
theorem VS.pass (h:VS H o esz n v xs):v.passOK=true:=by
 cases o with
 |none=>obtain⟨rfl,rfl,_⟩:=h;rfl
 |some k=>obtain⟨_,_,_,rfl,_⟩:=h;rfl
theorem VS.cells (h:VS H o esz n v xs):v.cellsOf=some [v]:=by
 cases o with
 |none=>obtain⟨rfl,rfl,_⟩:=h;rfl
 |some k=>obtain⟨_,_,_,rfl,_⟩:=h;rfl
theorem VS.keep {H':J2} (h:VS H o esz n v xs) {S:Nat->Prop} (hk:Keep S H H') (hs:∀k,o=some k->¬S k):VS H' o esz n v xs:=by
 cases o with
 |none=>exact h
 |some k=>exact HS.keep h (hk.2 k (HS.lt h) (hs k rfl))
theorem VS.lt (h:VS H (some k) esz n v xs):k<H.length:=HS.lt h
theorem HS.xlen (h:HS H k esz n v xs):xs.length=n*esz:=by
 obtain⟨ver,cs,op,rfl,hk,hn,hx⟩:=h
 rw[<- hx,AQ];omega
theorem VS.xlen (h:VS H o esz n v xs):xs.length=n*esz:=by
 cases o with
 |none=>obtain⟨_,rfl,rfl⟩:=h;simp
 |some k=>exact HS.xlen h
theorem VS.append1 {ys:J3} (h:VS H o esz n v xs) (hy:ys.length=esz) (hb:n<1000000000) :
 ∃v' H' o',evalAppend ⟨[],H++[.cells ys esz 0 false]⟩ esz v (.slice H.length 0 0 1)=some (v',⟨[],H'⟩)/\VS H' o' esz (n+1) v' (xs++ys)/\Keep (fun x=>o=some x) H H'/\H.length<H'.length/\(o'=o\/∃k,o'=some k/\H.length<=k)/\∃k,o'=some k:=by
 have hsrc:srcCells ⟨[],H++[.cells ys esz 0 false]⟩ esz (.slice H.length 0 0 1)=some ys:=zcl (op:=false) zbd (by omega)
 cases o with
 |none =>
  obtain⟨rfl,rfl,rfl⟩:=h
  refine⟨_,_,some (H.length+1),append_nil hsrc rfl (by omega) (by omega),⟨0,ys,true,by simp,?_,by omega,?_⟩,Keep.new.trans Keep.new,by simp, .inr ⟨_,rfl,by omega⟩,_,rfl⟩
  ·have:(H++[IBlk.cells ys esz 0 false]++[IBlk.cells ys esz 0 true])[(H++[IBlk.cells ys esz 0 false]).length]? = some (IBlk.cells ys esz 0 true):=zbd
   simp at this ⊢
  ·rw[AA (by omega)];rfl
 |some k =>
  obtain⟨ver,cs,op,rfl,hkk,hnn,hxs⟩:=h
  have hkl:=(Aa.1 hkk).1
  have happ:=zbw (bx:=[]) (H:=H++[IBlk.cells ys esz 0 false]) (ny:=1) (by rw[Ab hkl];exact hkk) hnn hsrc rfl (by omega) (by omega)
  have hnew:=zko (H:=H++[IBlk.cells ys esz 0 false]) (ver:=ver) (op:=op) (ys:=ys) (ny:=1) (k:=k) (by simp;omega) hnn (by omega)
  rw[hxs]at hnew
  exact⟨_,_,some k,happ,hnew,Keep.new.trans (Keep.set (.inl rfl)),by simp, .inl rfl,_,rfl⟩
theorem VS.cut {m:Nat} (h:VS H (some k) esz n v xs) (hm:m<=n):∃ver,v = .slice k ver 0 n/\VS H (some k) esz m (.slice k ver 0 m) (xs.take (m*esz))/\∃cs op,H[k]? = some (.cells cs esz ver op):=by
 obtain⟨ver,cs,op,rfl,hkk,hnn,hxs⟩:=h
 have hle:m*esz<=n*esz:=Bl _ hm
 refine⟨ver,rfl,⟨ver,cs,op,rfl,hkk,by omega,?_⟩,cs,op,hkk⟩
 rw[<- hxs,BT,Bs hle]
theorem VS.at1 {j:Nat} (h:VS H (some k) 1 n v xs) (hj:j<n):∃ver,idxS 1 v (J4 j)=some (J5 k ver j)/\∀x,xs[j]? = some x->loadVal ⟨[],H⟩ none (J5 k ver j)=some x:=by
 obtain⟨ver,cs,op,rfl,hkk,hnn,hxs⟩:=h
 refine⟨ver,by rw[zaq hj];simp,fun x hx=>?_⟩
 exact HS.field ⟨ver,cs,op,rfl,hkk,hnn,hxs⟩ hx
theorem zoq {e:Nat} {xs:List PVal} (h:VS H o e n v (pcells xs)):freezeCell H 100 v=some (match o with|none=>.nilslice|some _=>.slice e n xs):=by
 cases o with
 |none=>obtain⟨rfl,_,_⟩:=h;rfl
 |some k=>exact zeu h
def nints (l:List Nat):List PVal:=l.map fun(n:Nat)=>PVal.int .i64 (n:Int)
end
mutual
def postT:Tree->Nat->List Nat
 | .mk _ _ _ _ ks,id=>postK ks (id+1)++[id]
def postK:Option (List Tree)->Nat->List Nat
 |none,_=>[]
 |some l,id=>postL l id
def postL:List Tree->Nat->List Nat
 | [],_=>[]
 |t::l,id=>postT t id++postL l (id+t.size)
end
theorem zks (t:Tree) (id:Nat):postT t id=postL (klist t.kids) (id+1)++[id]:=by
 obtain⟨k,n,x,a,ks⟩:=t
 cases ks<;>simp[postT,postK,postL,klist,Tree.kids]
def popR (e:Nat->Nat) (i:Nat):List Nat->List Nat×List Nat
 | []=>([],[])
 |o::r=>if e o<=i then(o::(popR e i r).1,(popR e i r).2)else([],o::r)
def pop (e:Nat->Nat) (i:Nat) (S:List Nat×List Nat):List Nat×List Nat:=(S.1++(popR e i S.2).1,(popR e i S.2).2)
def stepP (e:Nat->Nat) (i:Nat) (S:List Nat×List Nat):List Nat×List Nat:=((pop e i S).1,i::(pop e i S).2)
def runP (e:Nat->Nat):Nat->Nat->List Nat×List Nat->List Nat×List Nat
 |_,0,S=>S
 |i,n+1,S=>runP e (i+1) n (stepP e i S)
theorem zmw (e:Nat->Nat):∀(n m i:Nat) (S:List Nat×List Nat),runP e i (n+m) S=runP e (i+n) m (runP e i n S)
 |0,m,i,S=>by simp[runP]
 |n+1,m,i,S=>by
  rw[show n+1+m=(n+m)+1 by omega,runP,zmw e n m,runP]
  congr 1;omega
theorem zvj {e:Nat->Nat} {i:Nat} {R:List Nat} (h:∀o∈R,i<e o):popR e i R=([],R):=by
 cases R with
 |nil=>rfl
 |cons o r =>
  have:=h o (by simp)
  rw[popR,if_neg (by omega)]
theorem zvk {e:Nat->Nat} {i:Nat}:∀R:List Nat,popR e i (popR e i R).2=([],(popR e i R).2)
 | []=>rfl
 |o::r=>by
  rw[popR]
  split
  ·exact zvk r
  ·rename_i h;rw[popR,if_neg h]
theorem zapa {e:Nat->Nat} {i:Nat} {S:List Nat×List Nat}:pop e i (pop e i S)=pop e i S:=by
 simp only[pop,zvk,AJ]
theorem zait {e:Nat->Nat} {i n:Nat} {S:List Nat×List Nat}:runP e i (n+1) (pop e i S)=runP e i (n+1) S:=by
 simp only[runP,stepP,zapa]
def EndsL (e:Nat->Nat) (l:List Tree) (id:Nat):Prop:=∀(p d pl i:Nat) (v:Vis),(visL l id p d pl)[i]? = some v->e (id+i)=id+i+v.t.size
def EndsT (e:Nat->Nat) (t:Tree) (id:Nat):Prop:=∀(p:Int) (d pl i:Nat) (v:Vis),(visT t id p d pl)[i]? = some v->e (id+i)=id+i+v.t.size
theorem zaec (e:Nat->Nat):∀(n:Nat) (t:Tree),t.size<n->∀(id:Nat),EndsT e t id->∀(l R:List Nat),(∀ o∈R,id+t.size<=e o)->∀j,id+t.size<=j->pop e j (runP e id t.size (l,R))=pop e j (l++postT t id,R):=by
 intro n
 induction n with
 |zero=>intro t h;omega
 |succ n ih =>
  have hforest:∀(f:List Tree),lsize f<n->∀(id:Nat),EndsL e f id->∀(l R:List Nat),(∀ o∈R,id+lsize f<=e o)->∀j,id+lsize f<=j->pop e j (runP e id (lsize f) (l,R))=pop e j (l++postL f id,R):=by
   intro f
   induction f with
   |nil=>intro _ id _ l R _ j _;simp[lsize,runP,postL]
   |cons t f ihf =>
    intro hl id hE l R hR j hj
    simp only[lsize]at hl hR hj ⊢
    have hEt:EndsT e t id:=by
     intro p d pl i v hv
     have hi:=(Aa.1 hv).1
     rw[zab]at hi
     have hv0:∃v0,(visT t id (0:Nat) 0 0)[i]? = some v0/\v0.t=v.t:=by
      have h1:=congrArg (fun l=>l[i]?) ((zbz t id p d pl).trans (zbz t id (0:Nat) 0 0).symm)
      simp only[Ap,hv,AH]at h1
      cases h2:(visT t id (0:Nat) 0 0)[i]? with
      |none=>rw[h2]at h1;cases h1
      |some v0=>rw[h2]at h1;simp at h1;exact⟨v0,rfl,h1.symm⟩
     obtain⟨v0,h1,h2⟩:=hv0
     have:=hE 0 0 0 i v0 (by rw[visL,Ab (by rw[zab];exact hi)];exact h1)
     rw[this,h2]
    have hEf:EndsL e f (id+t.size):=by
     intro p d pl i v hv
     have h1:(visL f (id+t.size) p d pl)[i]? = some v:=hv
     have hx:∃v0,(visL f (id+t.size) 0 0 1)[i]? = some v0/\v0.t=v.t:=by
      have hn:∀(f:List Tree) (a p d pl b q c pl2:Nat),(visL f a p d pl).map (·.t)=(visL f b q c pl2).map (·.t):=by
       intro f
       induction f with
       |nil=>intros;rfl
       |cons u f ih3 =>
        intro a p d pl b q c pl2
        simp only[visL,AF,zbz]
        rw[ih3]
      have h2:=congrArg (fun l=>l[i]?) (hn f (id+t.size) p d pl (id+t.size) 0 0 1)
      simp only[Ap,hv,AH]at h2
      cases h3:(visL f (id+t.size) 0 0 1)[i]? with
      |none=>rw[h3]at h2;cases h2
      |some v0=>rw[h3]at h2;simp at h2;exact⟨v0,rfl,h2.symm⟩
     obtain⟨v0,h3,h4⟩:=hx
     have:=hE 0 0 0 (t.size+i) v0 (by rw[visL,Ad (by rw[zab];omega),zab,Bk];exact h3)
     rw[<- BE]at this
     rw[this,h4]
    rw[zmw]
    have h0:=zad t
    by_cases hf0:f=[]
    ·subst hf0
     simp only[lsize,Bd,runP,postL,AJ]at hR hj ⊢
     exact ih t (by omega) id hEt l R hR j hj
    ·have hf1:∃m,lsize f=m+1:=by
      cases f with
      |nil=>exact absurd rfl hf0
      |cons u f=>have:=zad u;exact⟨u.size+lsize f-1,by simp only[lsize];omega⟩
     obtain⟨m,hm⟩:=hf1
     have e1:=ih t (by omega) id hEt l R (fun o ho=>by have:=hR o ho;omega) (id+t.size) (Ai _)
     have e2:pop e (id+t.size) (l++postT t id,R)=(l++postT t id,R):=by
      simp only[pop]
      rw[zvj (fun o ho=>by have:=hR o ho;omega)]
      simp
     rw[hm,<-zait,e1,e2,<-hm]
     have e3:=ihf (by omega) (id+t.size) hEf (l++postT t id) R (fun o ho=>by have:=hR o ho;omega) j (by omega)
     rw[e3]
     simp only[postL,Ax]
  intro t h id hE l R hR j hj
  have ht:=zag t
  have he:e id=id+t.size:=by
   have:=hE 0 0 0 0 ⟨t,0,0,0⟩ (by rw[zbl];rfl)
   simpa using this
  have hEk:EndsL e (klist t.kids) (id+1):=by
   intro p d pl i v hv
   have hn:∀(f:List Tree) (a p d pl b q c pl2:Nat),(visL f a p d pl).map (·.t)=(visL f b q c pl2).map (·.t):=by
    intro f
    induction f with
    |nil=>intros;rfl
    |cons u f ih3 =>
     intro a p d pl b q c pl2
     simp only[visL,AF,zbz]
     rw[ih3]
   have h2:=congrArg (fun l=>l[i]?) (hn (klist t.kids) (id+1) p d pl (id+1) id 1 0)
   simp only[Ap,hv,AH]at h2
   cases h3:(visL (klist t.kids) (id+1) id 1 0)[i]? with
   |none=>rw[h3]at h2;cases h2
   |some v0 =>
    rw[h3]at h2
    simp at h2
    have:=hE 0 0 0 (i+1) v0 (by rw[zbl,Aw];exact h3)
    rw[show id+(i+1)=id+1+i by omega]at this
    rw[this,h2]
  rw[show t.size=1+lsize (klist t.kids)by omega,zmw]
  have e1:runP e id 1 (l,R)=(l,id::R):=by
   simp only[runP,stepP,pop]
   rw[zvj (fun o ho=>by have:=hR o ho;omega)]
   simp
  rw[e1,hforest (klist t.kids) (by omega) (id+1) hEk l (id::R) (fun o ho=>by
   rcases Aj.1 ho with rfl|ho
   ·rw[he];omega
   ·have:=hR o ho;omega) j (by omega)]
  rw[zks]
  simp only[pop]
  rw[popR,if_pos (by rw[he];exact hj)]
  simp[Ax]
theorem zaed (e:Nat->Nat) (t:Tree) (hE:EndsT e t 0):runP e 0 (t.size+1) ([],[])=(postT t 0,[t.size]):=by
 rw[zmw]
 have:=zaec e _ t (An _) 0 hE [] [] (by simp) t.size (by omega)
 simp only[runP,stepP,Aq,this]
 simp[pop,popR]
def fullOf (v:Vis):Item:=⟨v.parent,v.t.size,v.depth,v.t.height,v.place,v.t.bare⟩
theorem zdf (t:Tree):∀(id:Nat) (p:Int) (d pl:Nat),flatT t id p d pl=(visT t id p d pl).map fullOf:=by
 have key:∀(n:Nat) (t:Tree),t.size<n->∀(id:Nat) (p:Int) (d pl:Nat),flatT t id p d pl=(visT t id p d pl).map fullOf:=by
  intro n
  induction n with
  |zero=>intro t h;omega
  |succ n ih =>
   intro t h id p d pl
   have ht:=zag t
   have hl:∀(l:List Tree) (id p d pl:Nat),lsize l<n->flatL l id p d pl=(visL l id p d pl).map fullOf:=by
    intro l
    induction l with
    |nil=>intros;rfl
    |cons u l ih2 =>
     intro id p d pl hl
     simp only[lsize]at hl
     simp only[flatL,visL,AF]
     rw[ih u (by omega),ih2 _ _ _ _ (by omega)]
   rw[zkq,zbl,As,hl _ _ _ _ _ (by omega)]
   rfl
 exact key _ t (An _)
def Tree.items (t:Tree):List Item:=flatT t 0 (-1) 0 0
theorem zmm (t:Tree):t.items.length=t.size:=zxs t _ _ _ _
def endOf (t:Tree) (k:Nat):Nat:=match t.items[k]? with|some x=>k+x.size|none=>0
theorem zaiu (t:Tree):EndsT (endOf t) t 0:=by
 intro p d pl i v hv
 have h1:=congrArg (fun l=>l[i]?) ((zbz t 0 p d pl).trans (zbz t 0 (-1) 0 0).symm)
 simp only[Ap,hv,AH]at h1
 cases h2:(visT t 0 (-1) 0 0)[i]? with
 |none=>rw[h2]at h1;cases h1
 |some v0 =>
  rw[h2]at h1
  simp at h1
  have:t.items[i]? = some (fullOf v0):=by rw[Tree.items,zdf,Ap,h2];rfl
  simp only[endOf,Aq,this,fullOf,h1]
theorem zbb (t:Tree):∀id,(postT t id).length=t.size:=by
 have key:∀(n:Nat) (t:Tree),t.size<n->∀id,(postT t id).length=t.size:=by
  intro n
  induction n with
  |zero=>intro t h;omega
  |succ n ih =>
   intro t h id
   have ht:=zag t
   have hl:∀(l:List Tree) (id:Nat),lsize l<n->(postL l id).length=lsize l:=by
    intro l
    induction l with
    |nil=>intros;rfl
    |cons u l ih2 =>
     intro id hl
     simp only[lsize]at hl
     simp only[postL,lsize,Ag]
     rw[ih u (by omega),ih2 _ (by omega)]
   rw[zks,Ag,hl _ _ (by omega),ht];rfl
 exact key _ t (An _)
def ival (t:Tree):PVal := .slice 10 t.size (icells t.items)
theorem zbk {t:Tree} {j:Nat} {x:Item} (h:t.items[j]? = some x):idxS 10 (.p (ival t)) (J4 j)=some (.p (.ptr (.int .i64 x.parent :: .int .i64 x.size :: .int .i64 x.depth :: .int .i64 x.height :: .int .i64 x.place :: .int .i64 x.node.kind :: .str x.node.name :: .str x.node.text::aval x.node.attrs :: .nilslice::(icells t.items).drop (j*10+10)))):=by
 obtain⟨h1,h2⟩:=Aa.1 h
 rw[ival,zcd (by rw[<- zmm];exact h1),zop h1,h2]
 rfl
@[simp] theorem zaiv {t:Tree}:sliceLen (.p (ival t))=some t.size:=rfl
@[simp] theorem zayk {t:Tree}:up (.p (ival t)) = .v (.p (ival t)):=rfl
mutual
def postS:Tree->List Tree
 | .mk k n x a ks=>postSK ks++[.mk k n x a ks]
def postSK:Option (List Tree)->List Tree
 |none=>[]
 |some l=>postSL l
def postSL:List Tree->List Tree
 | []=>[]
 |t::l=>postS t++postSL l
end
theorem zdg (t:Tree):postS t=postSL (klist t.kids)++[t]:=by
 obtain⟨k,n,x,a,ks⟩:=t
 cases ks<;>simp[postS,postSK,postSL,klist,Tree.kids]
theorem zbx:∀a b:List Tree,postSL (a++b)=postSL a++postSL b
 | [],b=>rfl
 |t::a,b=>by simp only[At,postSL,zbx a b,Ax]
theorem zzk (t:Tree):∀(id:Nat) (p:Int) (d pl:Nat),(postT t id).map (fun i=>((visT t id p d pl)[i-id]?).map (·.t))=(postS t).map some/\∀i∈postT t id,id<=i/\i<id+t.size:=by
 have key:∀(n:Nat) (t:Tree),t.size<n->∀(id:Nat) (p:Int) (d pl:Nat),(postT t id).map (fun i=>((visT t id p d pl)[i-id]?).map (·.t))=(postS t).map some/\∀i∈postT t id,id<=i/\i<id+t.size:=by
  intro n
  induction n with
  |zero=>intro t h;omega
  |succ n ih =>
   intro t h id p d pl
   have ht:=zag t
   have hl:∀(l:List Tree),lsize l<n->∀(id p d pl:Nat),(postL l id).map (fun i=>((visL l id p d pl)[i-id]?).map (·.t))=(postSL l).map some/\∀i∈postL l id,id<=i/\i<id+lsize l:=by
    intro l
    induction l with
    |nil=>intro _ id p d pl;simp[postL,postSL]
    |cons u l ih2 =>
     intro hl id p d pl
     simp only[lsize]at hl
     obtain⟨a1,a2⟩:=ih u (by omega) id p d pl
     obtain⟨b1,b2⟩:=ih2 (by omega) (id+u.size) p d (pl+1)
     constructor
     ·simp only[postL,postSL,visL,AF,<-a1,<-b1]
      congr 1
      ·refine B4 fun i hi=>?_
       have:=a2 i hi
       rw[Ab (by rw[zab];omega)]
      ·refine B4 fun i hi=>?_
       have:=b2 i hi
       rw[Ad (by rw[zab];omega),zab]
       congr 2;omega
     ·intro i hi
      simp only[postL,Ao]at hi
      simp only[lsize]
      rcases hi with hi|hi
      ·have:=a2 i hi;omega
      ·have:=b2 i hi;omega
   obtain⟨a1,a2⟩:=hl (klist t.kids) (by omega) (id+1) id (d+1) 0
   constructor
   ·simp only[zks,zdg,zbl,AF,As,Cn,Bb,AL,AH,<-a1]
    congr 1
    refine B4 fun i hi=>?_
    have:=a2 i hi
    rw[show i-id=(i-(id+1))+1 by omega,Aw]
   ·intro i hi
    rw[zks,Ao]at hi
    rcases hi with hi|hi
    ·have:=a2 i hi;omega
    ·simp at hi;omega
 exact key _ t (An _)
theorem zaf (t:Tree):(postS t).length=t.size:=by
 have:=congrArg List.length (zzk t 0 0 0 0).1
 simp only[Bt,zbb]at this
 exact this.symm
theorem zor {t:Tree} {k i:Nat} (h:(postT t 0)[k]? = some i):∃u v,(postS t)[k]? = some u/\(visT t 0 (-1) 0 0)[i]? = some v/\v.t=u/\t.items[i]? = some (fullOf v)/\i<t.size:=by
 obtain⟨h1,h2⟩:=zzk t 0 (-1) 0 0
 have h3:=congrArg (fun l=>l[k]?) h1
 simp only[Ap,h,AH,CL]at h3
 have h4:=h2 i (Az h)
 cases hv:(visT t 0 (-1) 0 0)[i]? with
 |none =>
  rw[Cp,zab]at hv
  omega
 |some v =>
  rw[hv]at h3
  cases hu:(postS t)[k]? with
  |none=>rw[hu]at h3;cases h3
  |some u =>
   rw[hu]at h3
   simp at h3
   exact⟨u,v,rfl,rfl,h3,by rw[Tree.items,zdf,Ap,hv];rfl,by omega⟩
theorem zabj (t:Tree):∀(j:Nat) (u:Tree),(postS t)[j]? = some u->∃A B,postS t=A++(postS u++B)/\A.length+u.size=j+1:=by
 have key:∀(n:Nat) (t:Tree),t.size<n->∀(j:Nat) (u:Tree),(postS t)[j]? = some u->∃A B,postS t=A++(postS u++B)/\A.length+u.size=j+1:=by
  intro n
  induction n with
  |zero=>intro t h;omega
  |succ n ih =>
   intro t h j u hu
   have ht:=zag t
   have hl:∀(l:List Tree),lsize l<n->∀(j:Nat) (u:Tree),(postSL l)[j]? = some u->∃A B,postSL l=A++(postS u++B)/\A.length+u.size=j+1:=by
    intro l
    induction l with
    |nil=>intro _ j u h;simp[postSL]at h
    |cons w l ih2 =>
     intro hl j u h
     simp only[lsize]at hl
     simp only[postSL]at h ⊢
     by_cases hj:j<w.size
     ·rw[Ab (by rw[zaf];exact hj)]at h
      obtain⟨A,B,e1,e2⟩:=ih w (by omega) j u h
      exact⟨A,B++postSL l,by rw[e1];simp,e2⟩
     ·rw[Ad (by rw[zaf];omega),zaf]at h
      obtain⟨A,B,e1,e2⟩:=ih2 (by omega) _ u h
      exact⟨postS w++A,B,by rw[e1];simp,by rw[Ag,zaf];omega⟩
   rw[zdg]at hu
   by_cases hj:j<(postSL (klist t.kids)).length
   ·rw[Ab hj]at hu
    obtain⟨A,B,e1,e2⟩:=hl _ (by omega) j u hu
    exact⟨A,B++[t],by rw[zdg,e1];simp,e2⟩
   ·rw[Ad (by omega)]at hu
    have hj2:j=(postSL (klist t.kids)).length:=by
     have:=(Aa.1 hu).1
     simp only[AK]at this;omega
    subst hj2
    rw[Bb]at hu
    injection hu with hu
    subst hu
    refine⟨[],[],by simp,?_⟩
    have:=zaf t
    rw[zdg,Ag,AK]at this
    simp;omega
 exact key _ t (An _)
theorem VS.appendStore {H:J2} {o:Option Nat} {esz n:Nat} {v:IVal} {xs zs ys:J3} (h:VS H o esz n v xs) (hz:zs.length=esz) (hy:ys.length=esz) (hb:n<1000000000) :
 ∃v' H' k ver b,evalAppend ⟨[],H++[.cells zs esz 0 false]⟩ esz v (.slice H.length 0 0 1)=some (v',⟨[],H'⟩)/\Ideal.up v'=SV.v v'/\idxS esz v' (J4 n)=some (J5 k ver (n*esz)) /\
  (∀ H3:J2,H3[k]? = H'[k]? -> writeCells ⟨[],H3⟩ (J5 k ver (n*esz)) ys=some ⟨[],H3.set k b⟩)/\(∀ H3:J2,H3[k]? = some b->VS H3 (some k) esz (n+1) v' (xs++ys))/\Keep (fun x=>o=some x) H H'/\k<H'.length/\(o=some k\/H.length<=k)/\v'.cellsOf=some [v']/\H.length<H'.length:=by
 obtain⟨v',H',o',a1,a2,a3,a4,a5,k,rfl⟩:=h.append1 hz hb
 obtain⟨ver,cs,op,rfl,hkk,hnn,hxs⟩:=a2
 have hkl:=(Aa.1 hkk).1
 have hle:n*esz+esz=(n+1)*esz:=by rw[CQ]
 refine⟨_,H',k,ver, .cells (splice cs (n*esz) ys) esz ver op,a1,rfl,by rw[zaq (by omega),Aq],?_,?_,a3,hkl,?_,rfl,a4⟩
 ·intro H3 h3
  rw[zam (by rw[h3];exact hkk) (by omega)]
 ·intro H3 h3
  refine⟨ver,_,op,rfl,h3,?_,?_⟩
  ·simp only[splice,Ag,AQ,Bc];omega
  ·have hx:=VS.xlen h
   have h5:=congrArg (List.take (n*esz)) hxs
   rw[BT,Bs (by omega),C9 hx]at h5
   unfold splice
   rw[h5,<-Ax,C9 (by simp[hx,hy,hle])]
 ·rcases a5 with e|⟨k',e,hk'⟩
  ·exact .inl e.symm
  ·injection e with e;subst e;exact .inr hk'
end Go.Ideal
namespace Go.Ideal
open Go
attribute [-simp] getElem?_pos
section
variable {H:J2} {esz j n:Nat} {o o1:Option Nat} {v:IVal} {xs ys:J3}
def nattr (a:Option Attrs):Option Attrs:=if alist a=[]then none else a
def Tree.nbare (t:Tree):Tree := .mk t.kind t.name t.text (nattr t.attrs) none
@[simp] theorem zatc (t:Tree):t.nbare.kind=t.kind:=rfl
@[simp] theorem zatd (t:Tree):t.nbare.name=t.name:=rfl
@[simp] theorem zate (t:Tree):t.nbare.text=t.text:=rfl
@[simp] theorem zapb (t:Tree):t.nbare.attrs=nattr t.attrs:=rfl
@[simp] theorem zatf (t:Tree):t.nbare.kids=none:=rfl
@[simp] theorem zavp:kval none = .nilslice:=rfl
def rcell (v:Vis) (s h:Nat):List PVal:=[.int .i64 v.parent, .int .i64 s, .int .i64 v.depth, .int .i64 h, .int .i64 v.place,
 .int .i64 v.t.kind, .str v.t.name, .str v.t.text,aval (nattr v.t.attrs), .nilslice, .int .i64 v.t.kind, .str v.t.name, .str v.t.text,aval v.t.attrs,kval v.t.kids]
def rfull (v:Vis):List PVal:=rcell v v.t.size v.t.height
def rcells (l:List Vis):List PVal:=l.flatMap rfull
theorem zai:∀a b:List Tree,lsize (a++b)=lsize a+lsize b
 | [],b=>by simp[lsize]
 |t::a,b=>by simp only[At,lsize,zai a b];omega
def Tree.vis (t:Tree):List Vis:=visT t 0 (-1) 0 0
theorem zaw (t:Tree):t.vis.length=t.size:=zab t _ _ _ _
def rval (t:Tree):PVal := .slice 15 t.size (rcells t.vis)
@[simp] theorem zaiw {t:Tree}:sliceLen (.p (rval t))=some t.size:=rfl
@[simp] theorem zayl {t:Tree}:up (.p (rval t)) = .v (.p (rval t)):=rfl
theorem zjj:∀(a b:List Tree) (id p d pl:Nat),visL (a++b) id p d pl=visL a id p d pl++visL b (id+lsize a) p d (pl+a.length)
 | [],b,id,p,d,pl=>by simp[visL,lsize]
 |t::a,b,id,p,d,pl=>by
  simp only[At,visL,lsize,AC,zjj a b,Ax]
  congr 3
  ·omega
  ·omega
theorem zdb:∀(l:List Tree) (id p d pl:Nat),(visL l id p d pl).length=lsize l
 | [],_,_,_,_=>rfl
 |t::l,id,p,d,pl=>by simp only[visL,lsize,Ag,zab,zdb l]
theorem zaee {l:List Tree} (h:j<l.length) (id p d:Nat):visL (l.take (j+1)) id p d 0=visL (l.take j) id p d 0++visT l[j] (id+lsize (l.take j)) p d j:=by
 rw[AX,Ae h,Option.toList_some,zjj,AQ,Bs (by omega),Aq]
 simp[visL]
theorem zcf {l:List Tree} (h:j<l.length):lsize (l.take (j+1))=lsize (l.take j)+l[j].size:=by
 have h1:=zaee h 0 0 0
 have h2:=congrArg List.length h1
 rw[Ag,zdb,zdb,zab]at h2
 exact h2
theorem zqf (t:Tree):t.height<=t.size:=by
 have key:∀(n:Nat) (t:Tree),t.size<n->t.height<=t.size:=by
  intro n
  induction n with
  |zero=>intro t h;omega
  |succ n ih =>
   intro t h
   have h1:=zag t
   have h2:=zev t
   have hl:∀l:List Tree,lsize l<n->lheight l<=lsize l:=by
    intro l
    induction l with
    |nil=>intro _;simp[lheight,lsize]
    |cons u l ih2 =>
     intro hl
     simp only[lsize]at hl
     have a1:=ih u (by omega)
     have a2:=ih2 (by omega)
     simp only[lheight,lsize];omega
   have:=hl (klist t.kids) (by omega)
   omega
 exact key _ t (An _)
theorem VS.src {bx:List (Nat×IBlk)} (h:VS H o esz n v ys):srcCells ⟨bx,H⟩ esz v=some ys/\srcLen v=some n:=by
 cases o with
 |none=>obtain⟨rfl,rfl,rfl⟩:=h;exact⟨rfl,rfl⟩
 |some k =>
  obtain⟨ver,cs,op,rfl,hk,hn,hx⟩:=h
  have h2:((Nat.beq ver ver&&Nat.beq esz esz)&&Nat.ble (0+n*esz) cs.length)=true:=by
   rw[AD,AD,Aq,A4,A4]
   exact AB hn
  refine⟨?_,rfl⟩
  simp only[srcCells,Mem.get,hk,h2,BF,hx]
theorem VS.kill {s:Nat} (h:VS H o esz n v ys):killV s v=v:=by
 cases o with
 |none=>obtain⟨rfl,rfl,rfl⟩:=h;rfl
 |some k=>obtain⟨ver,cs,op,rfl,hk,hn,hx⟩:=h;rfl
theorem VS.appendP {n1 n2:Nat} {v1 v2:IVal} (h:VS H o1 esz n1 v1 xs) (s1:srcCells ⟨[],H⟩ esz v2=some ys) (s2:srcLen v2=some n2) (hy:ys.length=n2*esz) (hb:n1+n2<1000000000) :
 ∃v' H' o',evalAppend ⟨[],H⟩ esz v1 v2=some (v',⟨[],H'⟩)/\VS H' o' esz (n1+n2) v' (xs++ys)/\Keep (fun x=>o1=some x) H H'/\(o'=o1\/∃k,o'=some k/\H.length<=k):=by
 by_cases hz:n2=0
 ·subst hz
  have hys:ys=[]:=by cases ys with|nil=>rfl|cons a l=>simp at hy
  subst hys
  rw[Bd,AJ]
  cases o1 with
  |none =>
   obtain⟨rfl,rfl,rfl⟩:=h
   refine⟨_,H,none,?_,VS.nil,Keep.refl, .inl rfl⟩
   have h1:Nat.ble (0+0) maxAppend=true:=rfl
   have h3:Nat.beq 0 0=true:=rfl
   simp only[evalAppend,s1,s2,sliceLen,h1]
  |some k =>
   have hv:=h
   obtain⟨ver,cs,op,rfl,hkk,hnn,hxs⟩:=h
   refine⟨_,H,some k,?_,hv,Keep.refl, .inl rfl⟩
   have h1:Nat.ble (n1+0) maxAppend=true:=AB (by unfold maxAppend;omega)
   have h2:(Nat.beq ver ver&&Nat.beq esz esz&&Nat.ble (0+n1*esz) cs.length)=true:=by
    rw[AD,AD,Aq,A4,A4]
    exact AB hnn
   have h3:Nat.beq 0 0=true:=rfl
   simp only[evalAppend,s1,s2,sliceLen,h1,Mem.get,hkk,h2]
 ·cases o1 with
  |none =>
   obtain⟨rfl,rfl,rfl⟩:=h
   refine⟨_,_,some H.length,append_nil s1 s2 (by omega) (by omega),?_,Keep.new, .inr ⟨_,rfl,Ai _⟩⟩
   refine⟨0,ys,true,by rw[Aq],zbd,by rw[Aq];omega,?_⟩
   rw[Aq,AA (by omega)];rfl
  |some k =>
   obtain⟨ver,cs,op,rfl,hkk,hnn,hxs⟩:=h
   have hkl:=(Aa.1 hkk).1
   have happ:=zbw (bx:=[]) (ny:=n2) hkk hnn s1 s2 (by omega) (by omega)
   have hnew:=zko (H:=H) (ver:=ver) (op:=op) (ys:=ys) (ny:=n2) (k:=k) hkl hnn hy
   rw[hxs]at hnew
   exact⟨_,_,some k,happ,hnew,Keep.set (.inl rfl), .inl rfl⟩
theorem VS.appendVS {o2:Option Nat} {n1 n2:Nat} {v1 v2:IVal} (h:VS H o1 esz n1 v1 xs) (g:VS H o2 esz n2 v2 ys) (hb:n1+n2<1000000000) :
 ∃v' H' o',evalAppend ⟨[],H⟩ esz v1 v2=some (v',⟨[],H'⟩)/\VS H' o' esz (n1+n2) v' (xs++ys)/\Keep (fun x=>o1=some x) H H'/\(o'=o1\/∃k,o'=some k/\H.length<=k):=by
 obtain⟨s1,s2⟩:=g.src (bx:=[])
 exact h.appendP s1 s2 g.xlen hb
theorem VS.field {bx:List (Nat×IBlk)} {k:Nat} (h:VS H (some k) esz n v xs) (hj:j<n) :
 ∃ver,idxS esz v (J4 j)=some (J5 k ver (j*esz))/\(∀ f x,xs[j*esz+f]? = some x->loadVal ⟨bx,H⟩ none (J5 k ver (j*esz+f))=some x) /\
  ∀f new,j*esz+f+new.length<=n*esz->∃b,writeCells ⟨bx,H⟩ (J5 k ver (j*esz+f)) new=some ⟨bx,H.set k b⟩/\VS (H.set k b) (some k) esz n v (splice xs (j*esz+f) new):=by
 obtain⟨ver,cs,op,rfl,hk,hn,hx⟩:=h
 have hH:HS H k esz n (.slice k ver 0 n) xs:=⟨ver,cs,op,rfl,hk,hn,hx⟩
 exact⟨ver,by rw[zaq hj,Aq],fun f x hf=>hH.field hf,fun f new hf=>hH.store hf⟩
theorem Keep.trans' {S S':Nat->Prop} {H' H2:J2} (h:Keep S H H') (g:Keep S' H' H2) (hs:∀i,i<H.length->S' i->S i):Keep S H H2 :=
 ⟨Bp h.1 g.1,fun i hi hn=>by rw[g.2 i (A1 hi h.1) (fun e=>hn (hs i hi e)),h.2 i hi hn]⟩
structure Grow (o:Option Nat) (H:J2) (o':Option Nat) (H':J2):Prop where
 keep:Keep (fun x=>o=some x) H H'
 blk:o'=o\/∃k,o'=some k/\H.length<=k
theorem Grow.refl:Grow o H o H:=⟨Keep.refl, .inl rfl⟩
theorem Grow.trans {o2:Option Nat} {H1 H2:J2} (h:Grow o H o1 H1) (g:Grow o1 H1 o2 H2):Grow o H o2 H2:=by
 refine⟨h.keep.trans' g.keep fun i hi e=>?_,?_⟩
 ·rcases h.blk with rfl|⟨k,rfl,hk⟩
  ·exact e
  ·injection e with e;omega
 ·have:=h.keep.1
  rcases g.blk with rfl|⟨k,rfl,hk⟩
  ·exact h.blk
  ·exact .inr ⟨k,rfl,by omega⟩
theorem Grow.set {k:Nat} {H1:J2} {b:IBlk} (h:Grow o H (some k) H1):Grow o H (some k) (H1.set k b):=h.trans ⟨Keep.set (.inl rfl), .inl rfl⟩
theorem zrb (l m:List PVal):pcells (l++m)=pcells l++pcells m:=by simp[pcells]
theorem zkt {y:IVal} {kl:List SV->Prop} (h:y.cellsOf=some [y]) (h2:up y = .v y):cellsK (.v y) n kl=(1=n/\kl [.v y]):=by
 simp only[cellsK,h,zeq,AK,ups,h2]
end
end Go.Ideal
namespace Go.Ideal
open Go
set_option maxHeartbeats 4000000
set_option maxRecDepth 20000
attribute [-simp] getElem?_pos
theorem zmn {a b:Int}:evalExt a true [J4 b]=some (max a b):=by
 simp only[evalExt,if_true]
 congr 1
 by_cases h:b>a
 ·rw[if_pos h];omega
 ·rw[if_neg h];omega
end Go.Ideal
namespace Go.Ideal
open Go
set_option maxHeartbeats 4000000
attribute [-simp] getElem?_pos
theorem zaix (t:Tree):∀(id:Nat) (p:Int) (d pl i:Nat) (v:Vis),(visT t id p d pl)[i]? = some v->i+v.t.size<=t.size:=by
 have key:∀(n:Nat) (t:Tree),t.size<n->∀(id:Nat) (p:Int) (d pl i:Nat) (v:Vis),(visT t id p d pl)[i]? = some v->i+v.t.size<=t.size:=by
  intro n
  induction n with
  |zero=>intro t h;omega
  |succ n ih =>
   intro t h id p d pl i v hv
   have ht:=zag t
   have hl:∀(l:List Tree),lsize l<n->∀(id p d pl i:Nat) (v:Vis),(visL l id p d pl)[i]? = some v->i+v.t.size<=lsize l:=by
    intro l
    induction l with
    |nil=>intro _ id p d pl i v h;simp[visL]at h
    |cons u l ih2 =>
     intro hl id p d pl i v h
     simp only[lsize]at hl ⊢
     rw[visL]at h
     by_cases hi:i<u.size
     ·rw[Ab (by rw[zab];exact hi)]at h
      have:=ih u (by omega) _ _ _ _ _ _ h
      omega
     ·rw[Ad (by rw[zab];omega),zab]at h
      have:=ih2 (by omega) _ _ _ _ _ _ h
      omega
   rw[zbl]at hv
   cases i with
   |zero =>
    rw[AL]at hv
    injection hv with hv
    subst hv
    simp
   |succ i =>
    rw[Aw]at hv
    have:=hl _ (by omega) _ _ _ _ _ _ hv
    omega
 exact key _ t (An _)
theorem zso {s:Tree} {i:Nat} {v:Vis} (h:s.vis[i]? = some v):i+v.t.size<=s.size:=zaix s 0 (-1) 0 0 i v h
theorem zaef (t:Tree):∀(id:Nat) (p:Int) (d pl k:Nat) (v:Vis),(visT t id p d pl)[k]? = some v->∃A B,visT t id p d pl=A++(visT v.t (id+k) v.parent v.depth v.place++B)/\A.length=k:=by
 have key:∀(n:Nat) (t:Tree),t.size<n->∀(id:Nat) (p:Int) (d pl k:Nat) (v:Vis),(visT t id p d pl)[k]? = some v->∃A B,visT t id p d pl=A++(visT v.t (id+k) v.parent v.depth v.place++B)/\A.length=k:=by
  intro n
  induction n with
  |zero=>intro t h;omega
  |succ n ih =>
   intro t h id p d pl k v hv
   have ht:=zag t
   have hl:∀(l:List Tree),lsize l<n->∀(id p d pl k:Nat) (v:Vis),(visL l id p d pl)[k]? = some v->∃A B,visL l id p d pl=A++(visT v.t (id+k) v.parent v.depth v.place++B)/\A.length=k:=by
    intro l
    induction l with
    |nil=>intro _ id p d pl k v h;simp[visL]at h
    |cons u l ih2 =>
     intro hl id p d pl k v h
     simp only[lsize]at hl
     rw[visL]at h ⊢
     by_cases hi:k<u.size
     ·rw[Ab (by rw[zab];exact hi)]at h
      obtain⟨A,B,e1,e2⟩:=ih u (by omega) _ _ _ _ _ _ h
      exact⟨A,B++visL l (id+u.size) p d (pl+1),by rw[e1];simp,e2⟩
     ·rw[Ad (by rw[zab];omega),zab]at h
      obtain⟨A,B,e1,e2⟩:=ih2 (by omega) _ _ _ _ _ _ h
      refine⟨visT u id p d pl++A,B,?_,by rw[Ag,zab];omega⟩
      rw[e1,Ax]
      congr 4
      omega
   cases k with
   |zero =>
    have hv0:=hv
    rw[zbl,AL]at hv0
    injection hv0 with hv0
    subst hv0
    exact⟨[],[],by simp,rfl⟩
   |succ k =>
    rw[zbl]at hv ⊢
    rw[Aw]at hv
    obtain⟨A,B,e1,e2⟩:=hl _ (by omega) _ _ _ _ _ _ hv
    refine⟨⟨t,p,d,pl⟩::A,B,?_,by simp[e2]⟩
    rw[e1,At]
    congr 4
    omega
 exact key _ t (An _)
theorem zxt {t:Tree} {k:Nat} {v:Vis} (h:t.vis[k]? = some v) {j:Nat} (hj:j<(klist v.t.kids).length):∃w,t.vis[k+1+lsize ((klist v.t.kids).take j)]? = some w/\w.t=(klist v.t.kids)[j]/\w.parent=k/\w.depth=v.depth+1/\w.place=j:=by
 obtain⟨A,B,e1,e2⟩:=zaef t 0 (-1) 0 0 k v h
 have e3:t.vis=A++(visT v.t (0+k) v.parent v.depth v.place++B):=e1
 rw[e3,zbl]
 refine⟨⟨(klist v.t.kids)[j],k,v.depth+1,j⟩,?_,rfl,rfl,rfl,rfl⟩
 have hs:=zcf hj
 have h1:=zad (klist v.t.kids)[j]
 have hle:lsize ((klist v.t.kids).take (j+1))<=lsize (klist v.t.kids):=by
  have h1:=zai ((klist v.t.kids).take (j+1)) ((klist v.t.kids).drop (j+1))
  rw[BN]at h1;omega
 rw[Ad (by omega),show k+1+lsize ((klist v.t.kids).take j)-A.length=lsize ((klist v.t.kids).take j)+1 by omega,At,Aw,
  Ab (by rw[zdb];omega)]
 have e4:klist v.t.kids=(klist v.t.kids).take j++(klist v.t.kids).drop j:=(BN _ _).symm
 have e5:visL (klist v.t.kids) (0+k+1) (0+k) (v.depth+1) 0=visL ((klist v.t.kids).take j) (0+k+1) (0+k) (v.depth+1) 0++visL ((klist v.t.kids).drop j) (0+k+1+lsize ((klist v.t.kids).take j)) (0+k) (v.depth+1) (0+((klist v.t.kids).take j).length):=by
  rw[<- zjj,<-e4]
 rw[e5,Ad (by rw[zdb];omega),zdb,Bb,AG hj,visL,zbl]
 simp only[At,AL,Aq,AQ,Bs (Nat.le_of_lt hj)]
theorem zsp (l:List Tree) (j:Nat):lsize (l.take j)<=lsize l:=by
 have h1:=zai (l.take j) (l.drop j)
 rw[BN]at h1;omega
end Go.Ideal
namespace Go.Ideal
open Go
set_option maxHeartbeats 1000000
end Go.Ideal

namespace Go.Ideal
open Go
set_option maxHeartbeats 1000000
theorem zabk (a b:Option Attrs) (hl:(alist a).length=(alist b).length) (hs:(alist a).length<1000000000000) (Q:J0)
 (h1:alist a=alist b->Q .normal [] ⟨[],[]⟩) (h2:alist a≠alist b->∀E,lookE E 4 = .bool false->Q .ret E ⟨[],[]⟩) :
 wpLoop (CW tr.look) 26 m_Q100_0 l_Q100_0 (blkK 0 b_Q100_0 Q) [(0, .v (.p (aval a))),(1, .v (.p (aval b))),(12, .int .i64 (alist b).length),(13, .int .i64 0)] ⟨[],[]⟩:=by
 refine zae (α:=Nat) (fun j=>[(0, .v (.p (aval a))),(1, .v (.p (aval b))),(12, .int .i64 (alist b).length),(13, .int .i64 j)]) (fun _=>⟨[],[]⟩)
  (fun j=>j<=(alist a).length/\(alist a).take j=(alist b).take j) (fun j=>(alist a).length-j) ?_ 0 ⟨by omega,by simp⟩
 rintro j ⟨hj,ht⟩ L hL
 dsimp only[l_Q100_0]
 by_cases hjl:j<(alist a).length
 ·have hjb:j<(alist b).length:=by omega
  by_cases he:(alist a)[j]=(alist b)[j]
  ·simp(disch:=omega) [zee,zaa,he]
   refine hL (j+1) ⟨by omega,?_⟩ (by omega)
   rw[AX,AX,ht,Ae hjl,Ae hjb,he]
  ·have h3:((alist a)[j].1==(alist b)[j].1&&(alist a)[j].2==(alist b)[j].2)=false:=by
    rw[CZ];intro h;simp at h;exact he (Prod.ext h.1 h.2)
   simp(disch:=omega) [zee,h3]
   exact h2 (fun e=>he (by simp[e])) _ rfl
 ·obtain rfl:j=(alist a).length:=by omega
  simp[hl]
  refine h1 ?_
  rw[A8,hl,A8]at ht
  exact ht
theorem zaiy (a b:Option Attrs) (hs:(alist a).length<1000000000000) (H:J2):CW tr.look F_Q100 [.p (aval a), .p (aval b)] H=some (.p (.bool (decide (alist a=alist b))),H):=by
 refine zal look_Q100 rfl (by simp) rfl ?_
 dsimp only[i_Q100,c_Q100]
 by_cases hl:(alist a).length=(alist b).length
 ·simp[hl]
  refine zabk a b hl hs _ (fun h=>?_) (fun h E hE=>?_)
  ·simp[h]
  ·simp[hE,h]
 ·have:alist a≠alist b:=fun e=>hl (by rw[e])
  simp[this]
  omega
def kin (a b:Tree):Prop:=a.kind=b.kind/\a.name=b.name
instance (a b:Tree):Decidable (kin a b):=by unfold kin;infer_instance
def cost (a b:Tree):Nat:=if ¬kin a b then 3 else if a.text=b.text/\alist a.attrs=alist b.attrs then 0 else 1
theorem zaeg (a b:Tree) (hs:(alist a.attrs).length<1000000000000) (H:J2):CW tr.look F_Q90 [tagg a,tagg b] H=some (J4 (cost a b),H):=by
 refine zal look_Q90 rfl (by simp) rfl ?_
 dsimp only[i_Q90,c_Q90]
 by_cases h1:a.kind=b.kind<;>by_cases h2:a.name=b.name<;>by_cases h3:a.text=b.text<;>by_cases h4:alist a.attrs=alist b.attrs <;>
  simp[h1,h2,h3,h4,zaiy _ _ hs,cost,kin]
end Go.Ideal
namespace Go.Ideal
open Go
set_option maxHeartbeats 4000000
set_option maxRecDepth 20000
attribute [-simp] getElem?_pos
def PtrOK (r:Nat) (t0:Tree) (pv:IVal) (t:Tree):Prop:=(pv = J5 r 0 0/\t=t0)\/∃rest,pv = .p (.ptr (t.cells++rest))
theorem PtrOK.cell {r:Nat} {t0 t:Tree} {pv:IVal} (h:PtrOK r t0 pv t):pv.cellOK=true/\pv.cellsOf=some [pv]/\up pv = .v pv:=by
 rcases h with⟨rfl,_⟩|⟨rest,rfl⟩<;>exact⟨rfl,rfl,rfl⟩
structure Pend where
 pv:IVal
 t:Tree
 parent:Int
 depth:Nat
 place:Nat
def pcell (p:Pend):J3:=[p.pv, J4 p.parent, J4 p.depth, J4 p.place]
theorem zabl (l:List Pend):(l.flatMap pcell).length=l.length*4:=by
 induction l with
 |nil=>rfl
 |cons a l ih=>simp only[AI,Ag,ih,AC];simp[pcell];omega
theorem zaeh {l:List Pend} {j:Nat} (h:j<l.length):((l.flatMap pcell).drop (j*4)).take 4=pcell l[j]:=by
 induction l generalizing j with
 |nil=>simp at h
 |cons a l ih =>
  cases j with
  |zero=>simp[AI,pcell]
  |succ j =>
   simp only[AI]
   rw[show(j+1)*4=(pcell a).length+j*4 by simp[pcell];omega,BS,Br (by omega),Bk,AV]
   have:=ih (j:=j) (by simpa using h)
   simpa using this
def kidPend (k:Option (List Tree)) (id depth:Nat) (j:Nat) (t:Tree):Pend:=⟨.p (.ptr (t.cells++(kcells (klist k)).drop (j*5+5))),t,id,depth+1,j⟩
def kidsDown (k:Option (List Tree)) (id depth:Nat):Nat->List Pend
 |0=>[]
 |j+1=>match(klist k)[j]? with
  |some t=>kidPend k id depth j t::kidsDown k id depth j
  |none=>kidsDown k id depth j
theorem zgi {k:Option (List Tree)} {id depth j:Nat} (h:j<(klist k).length):kidsDown k id depth (j+1)=kidPend k id depth j (klist k)[j]::kidsDown k id depth j:=by
 simp only[kidsDown,Ae h]
theorem zaei (fv pv:IVal) (t:Tree) (r k0:Nat) (t0:Tree) (id depth:Nat) (par pl:Int) (H0:J2) (hp:PtrOK r t0 pv t) (hrk:r≠k0) (hfv:up fv = .v fv)
 (hr:H0[r]? = some (.cells (pcells t0.cells) 5 0 false)) (_:id<1000000000000) (hdep:depth<1000000000000) (hkl:(klist t.kids).length<1000000) (S:List Pend) (hS:S.length<1000000) (sv:IVal) (hsv:HS H0 k0 4 S.length sv (S.flatMap pcell)) (Q:J0)
 (h1:∀sv' H',HS H' k0 4 (S.length+(klist t.kids).length) sv' ((S++kidsDown t.kids id depth (klist t.kids).length).flatMap pcell)->Keep (· = k0) H0 H'->Q .normal [(1,up fv),(4, .v sv'),(5, .int .i64 id)] ⟨[],H'⟩) :
 wpLoop (CW tr.look) 59 m_Q43_0 l_Q43_0 (blkK 2 b_Q43_2 Q) [(1,up fv),(4, .v sv),(5, .int .i64 id),(6, .box 6 0),(7, .int .i64 ((klist t.kids).length-1))] ⟨[(6,some ⟨[.v pv, .int .i64 par, .int .i64 depth, .int .i64 pl],4⟩)],H0⟩:=by
 refine zae (α:=Nat×IVal×J2×List Pend) (fun a=>[(1,up fv),(4, .v a.2.1),(5, .int .i64 id),(6, .box 6 0),(7, .int .i64 (a.1-1))]) (fun a=>⟨[(6,some ⟨[.v pv, .int .i64 par, .int .i64 depth, .int .i64 pl],4⟩)],a.2.2.1⟩)
  (fun a=>a.1<=(klist t.kids).length/\HS a.2.2.1 k0 4 a.2.2.2.length a.2.1 (a.2.2.2.flatMap pcell)/\Keep (· = k0) H0 a.2.2.1/\a.2.2.2.length+a.1=S.length+(klist t.kids).length/\a.2.2.2++kidsDown t.kids id depth a.1=S++kidsDown t.kids id depth (klist t.kids).length)
  (fun a=>a.1) ?_ ((klist t.kids).length,sv,H0,S) ⟨Ai _,hsv,Keep.refl,rfl,rfl⟩
 rintro⟨j,sv,H,S'⟩ ⟨hj,hs,hk,hn,he⟩ L hL
 dsimp only at hj hs hk hn he hL ⊢
 dsimp only[l_Q43_0]
 cases j with
 |zero =>
  simp only[kidsDown,AJ]at he
  simp(disch:=omega) [hfv]
  rw[hfv]at h1
  refine h1 sv H ?_ hk
  rw[<- he,<-hn]
  exact hs
 |succ j =>
  have hjl:j<(klist t.kids).length:=by omega
  have hr':H[r]? = some (.cells (pcells t0.cells) 5 0 false):=by rw[hk.2 r (Aa.1 hr).1 hrk];exact hr
  have hnc:evalOp (CW tr.look) (fun _=>pv) ⟨[],H⟩ (.nilCheck (t_ 0))=some (pv,⟨[],H⟩):=by
   rcases hp with⟨rfl,_⟩|⟨rest,rfl⟩<;>rfl
  simp only[evalOp]at hnc
  obtain⟨q,hq1,hq2,hq3⟩:∃q,fieldF 4 pv=some q/\loadVal ⟨[],H⟩ none q=some (.p (kval t.kids))/\up q = .v q:=by
   rcases hp with⟨rfl,rfl⟩|⟨rest,rfl⟩
   ·exact⟨_,rfl,zac hr' (by rw[Tree.zax];rfl),rfl⟩
   ·rw[Tree.zax]
    exact⟨_,rfl,rfl,rfl⟩
  have hlen:((j+1:Nat):Int)-1=j:=by omega
  obtain⟨ver,cs,op,rfl,hkk,hnn,hxs⟩:=hs
  have hk0:=(Aa.1 hkk).1
  simp only[hlen]
  have happ:∀ys:J3,ys.length=4->evalAppend ⟨[],H++[IBlk.cells ys 4 0 false]⟩ 4 (.slice k0 ver 0 S'.length) (.slice H.length 0 0 1)=some (.slice k0 (appVer cs 4 S'.length 1 ver) 0 (S'.length+1),⟨[],(H++[IBlk.cells ys 4 0 false]).set k0 (appBlk cs ys 4 S'.length 1 ver op)⟩):=by
   intro ys hy
   refine zbw (by rw[Ab hk0];exact hkk) hnn (zcl (cs:=ys) (op:=false) (ver:=0) (n:=1) zbd (by omega)) rfl (by omega) ?_
   omega
  have happ':=happ (pcell (kidPend t.kids id depth j (klist t.kids)[j])) rfl
  have hcells:pcell (kidPend t.kids id depth j (klist t.kids)[j])=[.p (.ptr (.int .i64 (klist t.kids)[j].kind :: .str (klist t.kids)[j].name :: .str (klist t.kids)[j].text::aval (klist t.kids)[j].attrs::kval (klist t.kids)[j].kids::(kcells (klist t.kids)).drop (j*5+5))), J4 id, J4 (depth+1), J4 j]:=by
   simp only[pcell,kidPend,Tree.zax];rfl
  simp only[hcells]at happ'
  simp(disch:=omega) [hfv,hp.cell.2.2,hnc,hq1,hq2,hq3,zib,zaa,happ']
  have hnew:=zko (H:=H++[IBlk.cells (pcell (kidPend t.kids id depth j (klist t.kids)[j])) 4 0 false]) (ver:=ver) (op:=op) (ys:=pcell (kidPend t.kids id depth j (klist t.kids)[j])) (ny:=1) (k:=k0) (by simp;omega) hnn rfl
  rw[hxs]at hnew
  have:=hL (j, .slice k0 (appVer cs 4 S'.length 1 ver) 0 (S'.length+1),(H++[IBlk.cells (pcell (kidPend t.kids id depth j (klist t.kids)[j])) 4 0 false]).set k0 (appBlk cs (pcell (kidPend t.kids id depth j (klist t.kids)[j])) 4 S'.length 1 ver op),S'++[kidPend t.kids id depth j (klist t.kids)[j]]) ⟨by dsimp only;omega,?_,?_,?_,?_⟩ (by dsimp only;omega)
  ·simp only[hfv,hcells,Bn _ _ hk0]at this
   exact this
  ·simp only[Ag,AK,BQ,AI,List.flatMap_nil,AJ]
   exact hnew
  ·exact(hk.trans Keep.new).trans (Keep.set (.inl rfl))
  ·simp only[Ag,AK];omega
  ·rw[<- he,zgi hjl];simp
def restV:List Pend->Nat->List Vis
 | [],_=>[]
 |p::r,id=>visT p.t id p.parent p.depth p.place++restV r (id+p.t.size)
def sizes (l:List Pend):Nat:=(l.map fun p=>p.t.size).sum
theorem zff (a b:List Pend):sizes (a++b)=sizes a+sizes b:=by simp[sizes]
theorem zhl:∀(a b:List Pend) (id:Nat),restV (a++b) id=restV a id++restV b (id+sizes a)
 | [],b,id=>by simp[restV,sizes]
 |p::a,b,id=>by
  simp only[At,restV,zhl a b]
  simp[sizes,BE]
theorem zvl (k:Option (List Tree)) (id d:Nat):∀n,n<=(klist k).length->∀i,restV (kidsDown k id d n).reverse i=visL ((klist k).take n) i id (d+1) 0/\sizes (kidsDown k id d n)=lsize ((klist k).take n):=by
 have hv:∀(l m:List Tree) (i p d pl:Nat),visL (l++m) i p d pl=visL l i p d pl++visL m (i+lsize l) p d (pl+l.length):=by
  intro l
  induction l with
  |nil=>intro m i p d pl;simp[visL,lsize]
  |cons t l ih =>
   intro m i p d pl
   simp only[At,visL,lsize,AC,ih,Ax]
   congr 3<;>omega
 have hls:∀(l m:List Tree),lsize (l++m)=lsize l+lsize m:=by
  intro l
  induction l with
  |nil=>intro m;simp[lsize]
  |cons t l ih=>intro m;simp only[At,lsize,ih];omega
 intro n
 induction n with
 |zero=>intro _ i;simp[kidsDown,restV,visL,sizes,lsize]
 |succ n ih =>
  intro hn i
  obtain⟨h1,h2⟩:=ih (by omega) i
  rw[zgi (by omega),A9,zhl,h1,AX,Ae (by omega),Option.toList_some,hv,hls]
  have hsz:sizes (kidsDown k id d n).reverse=sizes (kidsDown k id d n):=by simp[sizes,List.sum_reverse]
  refine⟨?_,?_⟩
  ·rw[hsz,h2]
   simp only[restV,visL,kidPend,AJ,AQ,Bs (show n<=(klist k).length by omega),Aq]
  ·have:sizes (kidPend k id d n (klist k)[n]::kidsDown k id d n)=(klist k)[n].size+sizes (kidsDown k id d n):=by simp[sizes,kidPend]
   rw[this,h2]
   simp only[lsize]
   omega
theorem zxu {k:Option (List Tree)} {id d r:Nat} {t0:Tree}:∀n,∀p∈kidsDown k id d n,PtrOK r t0 p.pv p.t/\p.depth=d+1:=by
 intro n
 induction n with
 |zero=>intro p hp;simp[kidsDown]at hp
 |succ n ih =>
  intro p hp
  simp only[kidsDown]at hp
  split at hp
  ·rcases Aj.1 hp with rfl|hp
   ·exact⟨.inr ⟨_,rfl⟩,rfl⟩
   ·exact ih p hp
  ·exact ih p hp
def Looks (g:FuncId) (cap:J3) (t0:Tree) (r k0:Nat) (I:Nat->J2->Prop) (b:Nat->Bool):Prop :=
 ∀i (v:Vis) H pv,(visT t0 0 (-1) 0 0)[i]? = some v->I i H->k0<H.length->H[r]? = some (.cells (pcells t0.cells) 5 0 false)->PtrOK r t0 pv v.t ->
    ∃H',CW tr.look g ([J4 i, .agg [pv, J4 v.parent, J4 v.depth, J4 v.place]]++cap) H=some (.p (.bool (b i)),H')/\Keep (fun x=>x≠r/\x≠k0) H H'/\I (i+1) H'
theorem zaej (g:FuncId) (cap:J3) (t0:Tree) (r k0:Nat) (hrk:r≠k0) (hs:t0.size<1000000)
 (I:Nat->J2->Prop) (b:Nat->Bool)
 (hIk:∀i H H',I i H->Keep (· = k0) H H'->I i H') (hstep:Looks g cap t0 r k0 I b) (H1:J2) (hr:H1[r]? = some (.cells (pcells t0.cells) 5 0 false)) (sv:IVal) (hsv:HS H1 k0 4 1 sv (pcell ⟨J5 r 0 0,t0, -1,0,0⟩)) (hI:I 0 H1) (Q:J0)
 (h1:∀H' n,I n H'->n<=t0.size->(n=t0.size\/∃m,n=m+1/\b m=false)->(∀ i,i+1<n->b i=true)->Q .normal [] ⟨[],H'⟩) :
 wpLoop (CW tr.look) 59 m_Q43_1 l_Q43_1 (blkK 0 b_Q43_0 Q) [(1, .v (.func g cap)),(4, .v sv),(5, .int .i64 0)] ⟨[],H1⟩:=by
 refine zae (α:=Nat×IVal×J2×List Pend) (fun a=>[(1, .v (.func g cap)),(4, .v a.2.1),(5, .int .i64 a.1)]) (fun a=>⟨[],a.2.2.1⟩)
  (fun a=>HS a.2.2.1 k0 4 a.2.2.2.length a.2.1 (a.2.2.2.flatMap pcell)/\a.2.2.1[r]? = some (.cells (pcells t0.cells) 5 0 false)/\I a.1 a.2.2.1/\a.1+sizes a.2.2.2=t0.size/\restV a.2.2.2.reverse a.1=(visT t0 0 (-1) 0 0).drop a.1/\(∀ p∈a.2.2.2,PtrOK r t0 p.pv p.t/\p.depth<=a.1)/\∀i,i<a.1->b i=true)
  (fun a=>sizes a.2.2.2) ?_ (0,sv,H1,[⟨J5 r 0 0,t0, -1,0,0⟩]) ⟨by simpa using hsv,hr,hI,by simp[sizes],by simp[restV],by simp;exact .inl ⟨rfl,rfl⟩,by simp⟩
 rintro⟨id,sv,H,S⟩ ⟨hS,hr,hI,hsz,hrest,hP,hb⟩ L hL
 dsimp only at hS hr hI hsz hrest hP hb hL ⊢
 dsimp only[l_Q43_1]
 have hlenS:S.length<=sizes S:=by
  clear hS hsz hrest hP hL
  induction S with
  |nil=>simp
  |cons p S ih=>have:=zad p.t;simp only[sizes,As,List.sum_cons,AC]at ih ⊢;omega
 rcases List.eq_nil_or_concat S with rfl|⟨S',p,rfl⟩
 ·obtain⟨ver,cs,op,rfl,hkk,hnn,hxs⟩:=hS
  simp[sizes]at hsz
  simp(disch:=omega) []
  refine h1 H id hI (by omega) (.inl hsz) (fun i hi=>hb i (by omega))
 ·rw[List.concat_eq_append]at *
  have hpp:=hP p (by simp)
  have hS0:=hS
  obtain⟨ver,cs,op,rfl,hkk,hnn,hxs⟩:=hS
  have hk0:=(Aa.1 hkk).1
  simp only[Ag,AK]at hnn hlenS hS0 hxs
  obtain⟨ver',hi1,hi2⟩:=HS.load (bx:=[]) hS0 (j:=S'.length) (by omega)
  have hpc:((List.flatMap pcell (S'++[p])).drop (S'.length*4)).take 4=pcell p:=by
   have:=zaeh (l:=S'++[p]) (j:=S'.length) (by simp)
   rw[this];simp
  rw[hpc]at hi2
  simp only[pcell]at hi2
  have hl1:((S'.length+1:Nat):Int)-1=(S'.length:Nat):=by omega
  have hvis:(visT t0 0 (-1) 0 0)[id]? = some ⟨p.t,p.parent,p.depth,p.place⟩:=by
   have h0:=congrArg (fun l=>l[0]?) hrest
   simp only[AR,Bd]at h0
   rw[<- h0,B6]
   simp only[Cy,restV,zbl,At,AL]
  obtain⟨H',hg1,hg2,hg3⟩:=hstep id _ H p.pv hvis hI hk0 hr hpp.1
  simp only[At,AV]at hg1
  have hr':H'[r]? = some (.cells (pcells t0.cells) 5 0 false):=by
   rw[hg2.2 r (Aa.1 hr).1 (by simp)];exact hr
  have hkk':H'[k0]? = some (.cells cs 4 ver op):=by
   rw[hg2.2 k0 hk0 (by simp)];exact hkk
  have hid:id<1000000:=by have:=zad p.t;simp[sizes]at hsz;omega
  have hle:((S'.length:Nat):Int)<=(S'.length:Nat)+1:=by omega
  cases hbi:b id
  ·rw[hbi]at hg1
   simp(disch:=omega) [hi1,hi2,zaa,hg1,boundHi,boundLo,asBound,hpp.1.cell.2.2,hle,Mem.get,hkk]
   have h0:=zad p.t
   exact h1 H' (id+1) hg3 (by simp[sizes]at hsz;omega) (.inr ⟨id,rfl,hbi⟩) (fun i hi=>hb i (by omega))
  ·rw[hbi]at hg1
   have hnc:evalOp (CW tr.look) (fun _=>p.pv) ⟨[],H'⟩ (.nilCheck (t_ 0))=some (p.pv,⟨[],H'⟩):=by
    rcases hpp.1 with⟨h,_⟩|⟨rest,h⟩<;>rw[h]<;>rfl
   simp only[evalOp]at hnc
   obtain⟨q,hq1,hq2,hq3⟩:∃q,fieldF 4 p.pv=some q/\loadVal ⟨[],H'⟩ none q=some (.p (kval p.t.kids))/\up q = .v q:=by
    rcases hpp.1 with⟨h,h2⟩|⟨rest,h⟩
    ·rw[h,h2];exact⟨_,rfl,zac hr' (by rw[Tree.zax];rfl),rfl⟩
    ·rw[h,Tree.zax]
     exact⟨_,rfl,rfl,rfl⟩
   have ht:=zag p.t
   have hkl:=zau (klist p.t.kids)
   have hps:p.t.size<=t0.size:=by simp[sizes]at hsz;omega
   have hSl:S'.length<=t0.size:=by simp[sizes]at hsz hlenS;omega
   simp(disch:=omega) [hi1,hi2,zaa,hg1,boundHi,boundLo,asBound,hpp.1.cell.2.2,hle,Mem.get,hkk,hnc,hq1,hq2,hq3]
   refine zaei (.func g cap) p.pv p.t r k0 t0 id p.depth p.parent p.place H' hpp.1 hrk rfl hr' (by omega) (by have:=hpp.2;omega) (by omega) S' (by omega) _ ⟨ver,cs,op,rfl,hkk',by omega,?_⟩ _ ?_
   ·rw[BQ]at hxs
    have h3:(S'.flatMap pcell).length=S'.length*4:=zabl _
    have h4:=congrArg (List.take (S'.length*4)) hxs
    rw[BT,Bs (by omega),Bm (by omega),AA (l:=S'.flatMap pcell) (by omega)]at h4
    exact h4
   ·intro sv' H2 hs2 hk2
    simp(disch:=omega) [zaa]
    obtain⟨hr1,hr2⟩:=zvl p.t.kids id p.depth (klist p.t.kids).length (Ai _) (id+1)
    rw[A8]at hr1 hr2
    refine hL (id+1,sv',H2,S'++kidsDown p.t.kids id p.depth (klist p.t.kids).length) ⟨?_,?_,?_,?_,?_,?_,?_⟩ ?_
    ·have:(kidsDown p.t.kids id p.depth (klist p.t.kids).length).length=(klist p.t.kids).length:=by
      have key:∀n,n<=(klist p.t.kids).length->(kidsDown p.t.kids id p.depth n).length=n:=by
       intro n
       induction n with
       |zero=>intro _;rfl
       |succ n ih=>intro hn;rw[zgi (by omega),AC,ih (by omega)]
      exact key _ (Ai _)
     simp only[Ag,this]
     exact hs2
    ·dsimp only
     rw[hk2.2 r (Aa.1 hr').1 hrk];exact hr'
    ·exact hIk _ _ _ hg3 hk2
    ·dsimp only
     rw[zff,hr2]
     simp only[zff]at hsz
     simp[sizes]at hsz ⊢
     omega
    ·dsimp only
     rw[B6,zhl,hr1]
     rw[B6]at hrest
     simp only[Cy,restV,zbl p.t,At]at hrest
     have:=congrArg (List.drop 1) hrest
     rw[Ci]at this
     rw[<- this]
     simp only[List.drop_one,List.tail_cons]
     congr 2
     have:sizes (kidsDown p.t.kids id p.depth (klist p.t.kids).length).reverse=sizes (kidsDown p.t.kids id p.depth (klist p.t.kids).length):=by simp[sizes,List.sum_reverse]
     rw[this,hr2,ht]
     omega
    ·intro x hx
     rcases Ao.1 hx with hx|hx
     ·have:=hP x (by simp[hx])
      exact⟨this.1,by dsimp only;omega⟩
     ·have:=zxu (r:=r) (t0:=t0) _ x hx
      exact⟨this.1,by have:=hpp.2;dsimp only;omega⟩
    ·intro i hi
     dsimp only at hi
     by_cases e:i=id
     ·rw[e];exact hbi
     ·exact hb i (by omega)
    ·dsimp only
     rw[zff,hr2,zff]
     simp[sizes]
     omega
theorem zaek (g:FuncId) (cap:J3) (t0:Tree) (r:Nat) (H0:J2) (hr:H0[r]? = some (.cells (pcells t0.cells) 5 0 false)) (hs:t0.size<1000000)
 (I:Nat->J2->Prop) (b:Nat->Bool) (hI0:∀H,Keep (fun _=>False) H0 H->I 0 H) (hIk:∀i H H',I i H->Keep (· = H0.length) H H'->I i H') (hstep:Looks g cap t0 r H0.length I b) :
 ∃H',CW tr.look F_Q43 [J5 r 0 0, .func g cap] H0=some (.tup [],H')/\∃n,I n H'/\n<=t0.size/\(n=t0.size\/∃m,n=m+1/\b m=false)/\∀i,i+1<n->b i=true:=by
 have hrl:=(Aa.1 hr).1
 obtain⟨rr,H',h1,h2,h3⟩:=zay (args:=[J5 r 0 0, .func g cap]) (H:=H0) (Q:=fun rv H'=>rv = .tup []/\∃n,I n H'/\n<=t0.size/\(n=t0.size\/∃m,n=m+1/\b m=false)/\∀i,i+1<n->b i=true) look_Q43 rfl rfl (by
  dsimp only[i_Q43,c_Q43]
  simp(disch:=omega) []
  refine zaej g cap t0 r H0.length (by omega) hs I b hIk hstep _ ?_ _ ⟨0,pcell ⟨J5 r 0 0,t0, -1,0,0⟩,false,rfl,zbd,by simp[pcell],by simp[pcell]⟩ (hI0 _ Keep.new) _ ?_
  ·rw[Ab hrl];exact hr
  ·intro H' n hn h4 h5 h6
   simp(disch:=omega) []
   exact⟨n,hn,h4,h5,h6⟩)
 exact⟨H',by rw[h1,h2],h3⟩
theorem zaiz (a:Option Attrs) (ha:(alist a).length<1000000) (H:J2):CW tr.look F_Q45 [.p (aval a)] H=some (.p (aval a),H):=by
 refine zal look_Q45 rfl (by simp) rfl ?_
 dsimp only[i_Q45,c_Q45]
 cases a with
 |none =>
  have h1:evalNilSl (.p (aval none)) (.p .nilslice)=some true:=rfl
  simp(disch:=omega) [h1]
  rfl
 |some l =>
  have h1:evalNilSl (.p (aval (some l))) (.p .nilslice)=some false:=rfl
  simp only[alist,BH]at ha
  cases l with
  |nil =>
   have h2:evalAppend ⟨[],[.cells [] 2 0 false]⟩ 2 (.slice 0 0 0 0) (.p (aval (some [])))=some (.slice 0 0 0 0,⟨[],[.cells [] 2 0 false]⟩):=rfl
   simp(disch:=omega) [h1,h2]
   rfl
  |cons p l =>
   have hlen:=zjz (p::l)
   have h2:=zbw (bx:=[]) (H:=[.cells [] 2 0 false]) (k:=0) (n:=0) (ver:=0) (op:=false) (cs:=[]) (esz:=2) (y := .p (aval (some (p::l)))) (ys:=pcells (acells (p::l))) (ny:=(p::l).length) rfl (by simp) rfl rfl (by simp) (by omega)
   rw[Aq]at h2
   have hs:=zko (H:=[.cells [] 2 0 false]) (k:=0) (n:=0) (ver:=0) (op:=false) (cs:=[]) (esz:=2) (ys:=pcells (acells (p::l))) (ny:=(p::l).length) (by simp) (by simp) (by simp only[pcells,Bt];exact hlen)
   simp only[List.take_nil,AV,Aq]at hs
   have hz:=zeu hs
   simp(disch:=omega) [h1,h2]
   exact hz
def rawItems (t:Tree):List Item:=(visT t 0 (-1) 0 0).map rawOf
def FlatI (t0:Tree) (lb r k0:Nat) (i:Nat) (H:J2):Prop:=∃lv,H[lb]? = some (.cells [lv] 1 0 false) /\
 ((lv = .p .nilslice/\i=0)\/∃kl,kl≠lb/\kl≠r/\kl≠k0/\HS H kl 10 i lv (pcells (icells ((rawItems t0).take i))))
theorem zxv (t0:Tree) (lb r k0:Nat) (hf:Fine t0) (h1:lb≠r) (h2:lb≠k0) (_:r<k0):Looks F_Q44 [J5 lb 0 0] t0 r k0 (FlatI t0 lb r k0) (fun _=>true):=by
 intro i v H pv hv hI hk0 hr hp
 obtain⟨lv,hlb,hl⟩:=hI
 have hlbl:=(Aa.1 hlb).1
 have hvt:v.t∈t0.nodes:=by rw[<- zbz t0 0 (-1) 0 0];exact Au.2 ⟨v,Az hv,rfl⟩
 have hcl:=zaiz v.t.attrs (hf.2 _ hvt)
 have hi:i<(visT t0 0 (-1) 0 0).length:=(Aa.1 hv).1
 rw[zab]at hi
 have hs6:=hf.1
 have hnc:evalOp (CW tr.look) (fun _=>pv) ⟨[],H⟩ (.nilCheck (t_ 0))=some (pv,⟨[],H⟩):=by
  rcases hp with⟨h,_⟩|⟨rest,h⟩<;>rw[h]<;>rfl
 simp only[evalOp]at hnc
 have hld:loadVal ⟨[],H⟩ (some 5) pv=some (tagg v.t):=by
  rcases hp with⟨h,h2⟩|⟨rest,h⟩
  ·rw[h,h2,zce (off:=0) (n:=5) hr (by simp[pcells,Tree.zbg])]
   simp[tagg,Tree.zax]
  ·rw[h]
   simp[Tree.zbg,tagg]
 have hlb1:=zac (bx:=[]) (off:=0) hlb rfl
 have hwr:∀(T:J2) (x:IVal),writeCells ⟨[],H++T⟩ (J5 lb 0 0) [x]=some ⟨[],(H++T).set lb (.cells [x] 1 0 false)⟩:=by
  intro T x
  rw[zam (by rw[Ab hlbl];exact hlb) (by simp)]
  rfl
 have hraw:(rawItems t0)[i]? = some (rawOf v):=by simp[rawItems,hv]
 have hcell:icell (rawOf v)=[.int .i64 v.parent, .int .i64 1, .int .i64 v.depth, .int .i64 1, .int .i64 v.place, .int .i64 v.t.kind, .str v.t.name, .str v.t.text,aval v.t.attrs, .nilslice]:=rfl
 have fin:∀H',(∃ rr,CW tr.look F_Q44 [J4 i, .agg [pv, J4 v.parent, J4 v.depth, J4 v.place], J5 lb 0 0] H=some (rr,H')/\rr = .p (.bool true)/\Keep (fun x=>x≠r/\x≠k0) H H'/\FlatI t0 lb r k0 (i+1) H') ->
  CW tr.look F_Q44 ([J4 i, .agg [pv, J4 v.parent, J4 v.depth, J4 v.place]]++[J5 lb 0 0]) H=some (.p (.bool true),H')/\Keep (fun x=>x≠r/\x≠k0) H H'/\FlatI t0 lb r k0 (i+1) H':=by
  rintro H' ⟨rr,e1,rfl,e2,e3⟩
  exact⟨e1,e2,e3⟩
 have htake:(rawItems t0).take (i+1)=(rawItems t0).take i++[rawOf v]:=by
  rw[AX,hraw];rfl
 obtain⟨Y,hY⟩:∃Y,[IVal.p (.int .i64 v.parent), J4 1, J4 v.depth, J4 1, J4 v.place, J4 v.t.kind, .p (.str v.t.name), .p (.str v.t.text), .p (aval v.t.attrs), .p .nilslice]=Y:=⟨_,rfl⟩
 have hYl:Y.length=10:=by rw[<- hY];rfl
 have hYc:pcells (icell (rawOf v))=Y:=by rw[<- hY];rfl
 have hrl:=(Aa.1 hr).1
 rcases hl with⟨rfl,rfl⟩|⟨kl,hkl1,hkl2,hkl3,hkl⟩
 ·have happ:=append_nil (bx:=[]) (H:=H++[IBlk.cells Y 10 0 false]) (esz:=10) (ny:=1) (y := .slice H.length 0 0 1) (zcl (op:=false) zbd (by simp[hYl])) rfl (by omega) (by omega)
  obtain⟨rr,H',e1,e2⟩:=zay (args:=[J4 (0:Nat), .agg [pv, J4 v.parent, J4 v.depth, J4 v.place], J5 lb 0 0]) (H:=H)
   (Q:=fun rv H'=>rv = .p (.bool true)/\Keep (fun x=>x≠r/\x≠k0) H H'/\FlatI t0 lb r k0 (0+1) H') look_Q44 rfl rfl (by
   dsimp only[i_Q44,c_Q44]
   simp(disch:=omega) [hp.cell.2.2,hnc,hld,hcl,hlb1,hY,happ,hwr]
   refine⟨(Keep.set (.inl ⟨h1,h2⟩)).trans Keep.new,_,by rw[Ab (by simpa using hlbl)];exact zan hlbl, .inr ⟨H.length+1,by omega,by omega,by omega,0,Y,true,rfl,?_,?_,?_⟩⟩
   ·rw[Ad (by simp),Ay,Bk];rfl
   ·simp[hYl]
   ·rw[show(1:Nat)=0+1 from rfl,htake,AA (by omega),<-hYc];simp[icells,pcells])
  exact⟨H',fin H' ⟨rr,e1,e2⟩⟩
 ·obtain⟨ver,cs,op,rfl,hkk,hnn,hxs⟩:=hkl
  have hkll:=(Aa.1 hkk).1
  have happ:=zbw (bx:=[]) (H:=H++[IBlk.cells Y 10 0 false]) (y := .slice H.length 0 0 1) (ny:=1) (by rw[Ab hkll];exact hkk) hnn (zcl (op:=false) (ver:=0) (n:=1) zbd (by simp[hYl])) rfl (by omega) (by omega)
  have hnew:=zko (H:=H) (ver:=ver) (op:=op) (ys:=Y) (ny:=1) (k:=kl) hkll hnn (by simp[hYl])
  rw[hxs]at hnew
  rw[Bn _ _ hkll]at happ
  generalize appBlk cs Y 10 i 1 ver op=BB at happ hnew
  generalize appVer cs 10 i 1 ver=vv at happ hnew
  have hwr2:∀(T:J2) (x:IVal),writeCells ⟨[],H.set kl BB++T⟩ (J5 lb 0 0) [x]=some ⟨[],(H.set kl BB++T).set lb (.cells [x] 1 0 false)⟩:=by
   intro T x
   rw[zam (by rw[Ab (by simpa using hlbl),Ac hkl1];exact hlb) (by simp)]
   rfl
  obtain⟨rr,H',e1,e2⟩:=zay (args:=[J4 i, .agg [pv, J4 v.parent, J4 v.depth, J4 v.place], J5 lb 0 0]) (H:=H)
   (Q:=fun rv H'=>rv = .p (.bool true)/\Keep (fun x=>x≠r/\x≠k0) H H'/\FlatI t0 lb r k0 (i+1) H') look_Q44 rfl rfl (by
   dsimp only[i_Q44,c_Q44]
   simp(disch:=omega) [hp.cell.2.2,hnc,hld,hcl,hlb1,hY,happ,hwr2]
   refine⟨((Keep.set (.inl ⟨hkl2,hkl3⟩)).trans Keep.new).trans (Keep.set (.inl ⟨h1,h2⟩)),_,zan (by simp;omega), .inr ⟨kl,hkl1,hkl2,hkl3,?_⟩⟩
   rw[htake]
   have h3:pcells (icells ((rawItems t0).take i++[rawOf v]))=pcells (icells ((rawItems t0).take i))++Y:=by
    rw[<- hYc];simp[icells,pcells]
   rw[h3]
   refine hnew.keep ?_
   rw[Ac (Ne.symm hkl1),Ab (by simpa using hkll)])
  exact⟨H',fin H' ⟨rr,e1,e2⟩⟩
theorem zxw {a b:Int}:evalExt a true [J4 b]=some (max a b):=by
 simp only[evalExt,if_true]
 congr 1
 by_cases h:b>a
 ·rw[if_pos h];omega
 ·rw[if_neg h];omega
theorem zrc (t:Tree):∀(id:Nat) (p:Int) (d pl:Nat) (i:Nat) (v:Vis),(visT t id p d pl)[i]? = some v->(i=0/\v.parent=p)\/(id<=v.parent/\v.parent<id+i):=by
 have key:∀(n:Nat) (t:Tree),t.size<n->∀(id:Nat) (p:Int) (d pl:Nat) (i:Nat) (v:Vis),(visT t id p d pl)[i]? = some v->(i=0/\v.parent=p)\/(id<=v.parent/\v.parent<id+i):=by
  intro n
  induction n with
  |zero=>intro t h;omega
  |succ n ih =>
   intro t h id p d pl i v hv
   have ht:=zag t
   have hl:∀(l:List Tree) (id p d pl:Nat),lsize l<n->p<id->∀(i:Nat) (v:Vis),(visL l id p d pl)[i]? = some v->(p:Int)<=v.parent/\v.parent<id+i:=by
    intro l
    induction l with
    |nil=>intro id p d pl _ _ i v hv;simp[visL]at hv
    |cons u l ih2 =>
     intro id p d pl hl hp i v hv
     simp only[lsize]at hl
     simp only[visL]at hv
     by_cases hi:i<(visT u id p d pl).length
     ·rw[Ab hi]at hv
      rcases ih u (by omega) id p d pl i v hv with⟨h1,h2⟩|h1<;>omega
     ·rw[Ad (by omega),zab]at hv
      rw[zab]at hi
      have:=ih2 (id+u.size) p d (pl+1) (by omega) (by omega) _ v hv
      omega
   rw[zbl]at hv
   cases i with
   |zero =>
    simp only[AL,Af]at hv
    subst hv;exact .inl ⟨rfl,rfl⟩
   |succ i =>
    have:=hl (klist t.kids) (id+1) id (d+1) 0 (by omega) (by omega) i v (by rw[Aw]at hv;exact hv)
    right
    omega
 exact key _ t (An _)
theorem zxx (L:List Item) (i:Nat):(up1 L i).map (·.parent)=L.map (·.parent):=by
 unfold up1
 split
 ·rfl
 ·rename_i x hx
  split
  ·rfl
  ·rename_i q hq
   rw[CD]
   obtain⟨h1,h2⟩:=Aa.1 hq
   apply BC
   intro j
   rw[CY]
   split
   ·rename_i e
    subst e
    simp only[Bt,h1,if_true,Ap,hq,AH,bump]
   ·rfl
theorem zaja (L:List Item) (i j:Nat) (x:Item) (h:L[j]? = some x):∃y,(up1 L i)[j]? = some y/\x.size<=y.size/\x.height<=y.height:=by
 unfold up1
 split
 ·exact⟨x,h,Ai _,Ai _⟩
 ·rename_i z hz
  split
  ·exact⟨x,h,Ai _,Ai _⟩
  ·rename_i q hq
   by_cases e:z.parent.toNat=j
   ·subst e
    rw[h]at hq
    injection hq with hq
    subst hq
    refine⟨_,by rw[AO (Aa.1 h).1],?_,?_⟩
    ·simp[bump]
    ·simp only[bump];omega
   ·exact⟨x,by rw[Ac e];exact h,Ai _,Ai _⟩
theorem zln (lo:Nat):∀(n:Nat) (L:List Item) (j:Nat) (x:Item),L[j]? = some x->∃y,(backN L lo n)[j]? = some y/\x.size<=y.size/\x.height<=y.height
 |0,L,j,x,h=>⟨x,h,Ai _,Ai _⟩
 |n+1,L,j,x,h=>by
  obtain⟨y,h1,h2,h3⟩:=zaja L (lo+n) j x h
  obtain⟨z,h4,h5,h6⟩:=zln lo n _ j y h1
  exact⟨z,h4,by omega,by omega⟩
theorem zael:∀(n:Nat) (t:Tree),t.size<n->t.height<=t.size:=by
 intro n
 induction n with
 |zero=>intro t h;omega
 |succ n ih =>
  intro t h
  have ht:=zag t
  have hh:=zev t
  have hl:∀l:List Tree,lsize l<n->lheight l<=lsize l:=by
   intro l
   induction l with
   |nil=>intro _;exact Ai _
   |cons u l ih2 =>
    intro hl
    simp only[lsize]at hl
    have h1:=ih u (by omega)
    have h2:=ih2 (by omega)
    simp only[lheight,lsize]
    omega
  have:=hl (klist t.kids) (by omega)
  omega
theorem zlo (t:Tree):∀(id:Nat) (p:Int) (d pl:Nat) (x:Item),x∈flatT t id p d pl->x.size<=t.size/\x.height<=t.size:=by
 have key:∀(n:Nat) (t:Tree),t.size<n->∀(id:Nat) (p:Int) (d pl:Nat) (x:Item),x∈flatT t id p d pl->x.size<=t.size/\x.height<=t.size:=by
  intro n
  induction n with
  |zero=>intro t h;omega
  |succ n ih =>
   intro t h id p d pl x hx
   have ht:=zag t
   have hl:∀(l:List Tree) (id p d pl:Nat),lsize l<n->∀x∈flatL l id p d pl,x.size<=lsize l/\x.height<=lsize l:=by
    intro l
    induction l with
    |nil=>intro id p d pl _ x hx;simp[flatL]at hx
    |cons u l ih2 =>
     intro id p d pl hl x hx
     simp only[lsize]at hl ⊢
     simp only[flatL,Ao]at hx
     rcases hx with hx|hx
     ·have:=ih u (by omega) _ _ _ _ x hx;omega
     ·have:=ih2 _ _ _ _ (by omega) x hx;omega
   rw[zkq]at hx
   rcases Aj.1 hx with rfl|hx
   ·exact⟨Ai _,zael _ t (An _)⟩
   ·have:=hl _ _ _ _ _ (by omega) x hx;omega
 exact key _ t (An _)
theorem zaem (t:Tree) (hs:t.size<1000000) (lb kl:Nat) (lv:IVal) (hne:kl≠lb) (H0:J2) (hlb:H0[lb]? = some (.cells [lv] 1 0 false)) (hh:HS H0 kl 10 t.size lv (pcells (icells (rawItems t)))) (Q:J0)
 (h1:∀H',H'[lb]? = some (.cells [lv] 1 0 false)->HS H' kl 10 t.size lv (pcells (icells (flatT t 0 (-1) 0 0)))->Q .normal [(3, .v (J5 lb 0 0))] ⟨[],H'⟩) :
 wpLoop (CW tr.look) 49 m_Q22_0 l_Q22_0 (blkK 0 b_Q22_0 Q) [(3, .v (J5 lb 0 0)),(4, .int .i64 (t.size-1))] ⟨[],H0⟩:=by
 have hraw:(rawItems t).length=t.size:=by simp[rawItems,zab]
 have hsz:=zag t
 have hsz1:=zad t
 refine zae (α:=Nat×J2×List Item) (fun a=>[(3, .v (J5 lb 0 0)),(4, .int .i64 a.1)]) (fun a=>⟨[],a.2.1⟩)
  (fun a=>a.1<t.size/\a.2.1[lb]? = some (.cells [lv] 1 0 false)/\HS a.2.1 kl 10 t.size lv (pcells (icells a.2.2))/\a.2.2.length=t.size/\backN a.2.2 1 a.1=flatT t 0 (-1) 0 0/\a.2.2.map (·.parent)=(rawItems t).map (·.parent)) (fun a=>a.1) ?_ (t.size-1,H0,rawItems t) ?_ |> (fun h=>by
   have e:((t.size-1:Nat):Int)=(t.size:Int)-1:=by omega
   simpa only[e]using h)
 ·rintro⟨n,H,L⟩ ⟨hn,hlb,hH,hL1,hL2,hL3⟩ LL hLL
  dsimp only at hn hlb hH hL1 hL2 hL3 hLL ⊢
  dsimp only[l_Q22_0]
  have hld:=zac (bx:=[]) (off:=0) hlb rfl
  cases n with
  |zero =>
   simp(disch:=omega) []
   exact h1 H hlb (by rw[<- hL2];exact hH)
  |succ n =>
   obtain⟨x,hx⟩:∃x,L[n+1]? = some x:=⟨_,Ae (by omega)⟩
   have hpar:∃p:Nat,x.parent=p/\p<n+1:=by
    have h2:=congrArg (fun l=>l[n+1]?) hL3
    simp only[Ap,hx,AH]at h2
    cases hv:(visT t 0 (-1) 0 0)[n+1]? with
    |none=>simp[rawItems,hv]at h2
    |some v =>
     simp only[rawItems,Ap,hv,AH,rawOf,Af]at h2
     rcases zrc t 0 (-1) 0 0 _ v hv with⟨h3,_⟩|h3
     ·omega
     ·exact⟨v.parent.toNat,by omega,by omega⟩
   obtain⟨p,hp1,hp2⟩:=hpar
   obtain⟨q,hq⟩:∃q,L[p]? = some q:=⟨_,Ae (by omega)⟩
   have hup:up1 L (n+1)=L.set p (bump q x.size x.height):=by
    unfold up1
    simp only[hx,hp1,Int.toNat_natCast,hq]
   obtain⟨ver,cs0,op0,rfl,hkk0,hnn0,hxs0⟩:=hH
   have hH:HS H kl 10 t.size (.slice kl ver 0 t.size) (pcells (icells L)):=⟨ver,cs0,op0,rfl,hkk0,hnn0,hxs0⟩
   have hkll:=hH.lt
   have hlbl:=(Aa.1 hlb).1
   have hn1:((n+1:Nat):Int)=(n:Int)+1:=rfl
   have i1:idxS 10 (.slice kl ver 0 t.size) (J4 ((n:Int)+1))=some (J5 kl ver ((n+1)*10)):=by rw[<- hn1,zaq (by omega),Aq]
   have i2:idxS 10 (.slice kl ver 0 t.size) (J4 p)=some (J5 kl ver (p*10)):=by rw[zaq (by omega),Aq]
   have fld:∀(H:J2) (L:List Item) (j f:Nat) (y:Item) (v:PVal),HS H kl 10 t.size (.slice kl ver 0 t.size) (pcells (icells L))->L[j]? = some y->f<10->(icell y)[f]? = some v->loadVal ⟨[],H⟩ none (J5 kl ver (j*10+f))=some (.p v):=by
    intro H L j f y v hH hy hf hv
    obtain⟨hj,hy⟩:=Aa.1 hy
    refine hH.field (x := .p v) ?_
    rw[pcells,Ap,zadz hj hf,hy,hv];rfl
   have sto:∀(H:J2) (L:List Item) (j f:Nat) (y z:Item) (v:PVal),HS H kl 10 t.size (.slice kl ver 0 t.size) (pcells (icells L))->L.length=t.size->L[j]? = some y->f<10->icell z=(icell y).set f v->∃b,writeCells ⟨[],H⟩ (J5 kl ver (j*10+f)) [.p v]=some ⟨[],H.set kl b⟩/\HS (H.set kl b) kl 10 t.size (.slice kl ver 0 t.size) (pcells (icells (L.set j z))):=by
    intro H L j f y z v hH hl hy hf hz
    obtain⟨hj,hy⟩:=Aa.1 hy
    obtain⟨b,hb1,hb2⟩:=hH.store (bx:=[]) (off:=j*10+f) (new:=[.p v]) (by simp;omega)
    refine⟨b,hb1,?_⟩
    rw[zabg hj hf (by rw[hy];exact hz),zabh]
    rw[zie (by simp[pcells,zkp];omega)]at hb2
    exact hb2
   have g0:=fld H L (n+1) 0 x (.int .i64 p) hH hx (by omega) (by rw[icell,hp1];rfl)
   have g1:=fld H L (n+1) 1 x (.int .i64 x.size) hH hx (by omega) rfl
   have g2:=fld H L p 1 q (.int .i64 q.size) hH hq (by omega) rfl
   obtain⟨y,hy1,hy2,hy3⟩:=zln 1 (n+1) L (n+1) x hx
   obtain⟨w,hw1,hw2,hw3⟩:=zln 1 (n+1) L p q hq
   rw[hL2]at hy1 hw1
   have hym:=zlo t _ _ _ _ y (Az hy1)
   have hwm:=zlo t _ _ _ _ w (Az hw1)
   obtain⟨b1,s1,s2⟩:=sto H L p 1 q { q with size:=q.size+x.size } (.int .i64 (q.size+x.size:Nat)) hH hL1 hq (by omega) rfl
   have hne2:p≠n+1:=by omega
   have g3:=fld _ _ (n+1) 3 x (.int .i64 x.height) s2 (by rw[Ac hne2];exact hx) (by omega) rfl
   have g4:=fld _ _ p 3 { q with size:=q.size+x.size } (.int .i64 q.height) s2 (AO (by omega)) (by omega) rfl
   obtain⟨b2,s3,s4⟩:=sto _ _ p 3 { q with size:=q.size+x.size } (bump q x.size x.height) (.int .i64 (max q.height (x.height+1):Nat)) s2 (by simp[hL1]) (AO (by omega)) (by omega) rfl
   have hlb2:(H.set kl b1)[lb]? = some (.cells [.slice kl ver 0 t.size] 1 0 false):=by rw[Ac hne];exact hlb
   have hld2:=zac (bx:=[]) (off:=0) hlb2 rfl
   rw[CR]at s3 s4
   rw[CR,<-hup]at s4
   have hm:max (q.height:Int) ((x.height:Int)+1)=((max q.height (x.height+1):Nat):Int):=by omega
   rw[Bd]at g0
   simp only[Da]at s1
   simp(disch:=omega) [hld,hld2,i1,i2,g0,g1,g2,g3,g4,zaa,s1,s3,zxw,hm]
   refine hLL (n,H.set kl b2,up1 L (n+1)) ⟨by dsimp only;omega,?_,s4,by dsimp only;rw[zabi];exact hL1,?_,?_⟩ (by dsimp only;omega)
   ·dsimp only;rw[Ac hne];exact hlb
   ·rw[<- hL2,backN,BJ 1 n]
   ·dsimp only;rw[zxx,hL3]
 ·exact⟨by dsimp only;omega,hlb,hh,hraw,by rw[<- zaeb,show t.size-1=lsize (klist t.kids)by omega];rfl,rfl⟩
theorem zcg (t:Tree) (hf:Fine t) (H:J2):CW tr.look F_Q22 [tagg t] H=some (.p (ival t),H):=by
 refine zal look_Q22 rfl (by simp) rfl ?_
 dsimp only[i_Q22,c_Q22]
 have hsz1:=zad t
 obtain⟨H',h1,n,hI,hn,hor,_⟩:=zaek F_Q44 [J5 1 0 0] t 0 [.cells (pcells t.cells) 5 0 false, .cells [.p .nilslice] 1 0 false] rfl hf.1 (FlatI t 1 0 2) (fun _=>true)
  (fun H hk=>⟨.p .nilslice,by rw[hk.2 1 (by simp) (by simp)];rfl, .inl ⟨rfl,rfl⟩⟩)
  (by
   rintro i H H' ⟨lv,h1,h2⟩ hk
   have hl:=(Aa.1 h1).1
   refine⟨lv,by rw[hk.2 1 hl (by simp)];exact h1,?_⟩
   rcases h2 with h2|⟨kl,a,b,c,h2⟩
   ·exact .inl h2
   ·exact .inr ⟨kl,a,b,c,h2.keep (hk.2 kl h2.lt (by simpa using c))⟩)
  (zxv t 1 0 2 hf (by simp) (by simp) (by simp))
 obtain rfl:n=t.size:=by
  rcases hor with h|⟨m,_,h⟩
  ·exact h
  ·cases h
 obtain⟨lv,hlb,hl⟩:=hI
 rcases hl with⟨_,h⟩|⟨kl,hk1,hk2,hk3,hl⟩
 ·omega
 have hraw:(rawItems t).length=t.size:=by simp[rawItems,zab]
 rw[AA (by omega)]at hl
 have hld:=zac (bx:=[]) (off:=0) hlb rfl
 have hpc:(pcells t.cells)=[J4 t.kind, .p (.str t.name), .p (.str t.text), .p (aval t.attrs), .p (kval t.kids)]:=by rw[Tree.zax];rfl
 rw[hpc]at h1
 have hlen:=hl.len
 have hs6:=hf.1
 obtain⟨ver,cs,op,rfl,hr⟩:=hl
 simp(disch:=omega) [h1,hld,hlen,zaa]
 refine zaem t hf.1 1 kl _ hk1 H' hlb ⟨ver,cs,op,rfl,hr⟩ _ ?_
 intro H2 h3 h4
 have hld2:=zac (bx:=[]) (off:=0) h3 rfl
 have hz:=zeu h4
 simp(disch:=omega) [hld2,hz]
 rfl
theorem zajb {l:List Nat} {j n:Nat} (h:l[j]? = some n):(pcells (nints l))[j]? = some (J4 n):=by
 simp[pcells,nints,h]
theorem zabm (t:Tree) (i:Nat) (ctr N:SV) (hi:i<=t.size) (hs:t.size<1000000) (l0 R0:List Nat) (hR:∀o∈R0,o<t.size) (H0:J2) (o1 o2:Option Nat) (lv ov:IVal)
 (hl:VS H0 o1 1 l0.length lv (pcells (nints l0))) (ho:VS H0 o2 1 R0.length ov (pcells (nints R0.reverse))) (hne:∀k,o1=some k->o2≠some k) (hlen:l0.length+R0.length<=t.size) (Q:J0)
 (h1:∀H' o1' lv' ov',VS H' o1' 1 (l0++(popR (endOf t) i R0).1).length lv' (pcells (nints (l0++(popR (endOf t) i R0).1)))->VS H' o2 1 (popR (endOf t) i R0).2.length ov' (pcells (nints (popR (endOf t) i R0).2.reverse))->(∀ k,o1'=some k->o2≠some k) ->
  Q .normal [(3, .v (.p (ival t))),(4, .v lv'),(5, .v ov'),(6, .int .i64 i),(12,N),(13,ctr)] ⟨[],H'⟩) :
 wpLoop (CW tr.look) 49 m_Q26_0 l_Q26_0 (blkK 2 b_Q26_2 Q) [(3, .v (.p (ival t))),(4, .v lv),(5, .v ov),(6, .int .i64 i),(12,N),(13,ctr)] ⟨[],H0⟩:=by
 refine zae (α:=List Nat×List Nat×IVal×IVal×J2×Option Nat) (fun a=>[(3, .v (.p (ival t))),(4, .v a.2.2.1),(5, .v a.2.2.2.1),(6, .int .i64 i),(12,N),(13,ctr)]) (fun a=>⟨[],a.2.2.2.2.1⟩)
  (fun a=>VS a.2.2.2.2.1 a.2.2.2.2.2 1 a.1.length a.2.2.1 (pcells (nints a.1))/\VS a.2.2.2.2.1 o2 1 a.2.1.length a.2.2.2.1 (pcells (nints a.2.1.reverse))/\(∀ k,a.2.2.2.2.2=some k->o2≠some k)/\(∀ o∈a.2.1,o<t.size)/\a.1.length+a.2.1.length<=t.size /\
   a.1++(popR (endOf t) i a.2.1).1=l0++(popR (endOf t) i R0).1/\(popR (endOf t) i a.2.1).2=(popR (endOf t) i R0).2) (fun a=>a.2.1.length) ?_ (l0,R0,lv,ov,H0,o1) ⟨hl,ho,hne,hR,hlen,rfl,rfl⟩
 rintro⟨l,R,lv,ov,H,o1⟩ ⟨hl,ho,hne,hR,hlen,e1,e2⟩ L hL
 dsimp only at hl ho hne hR hlen e1 e2 hL ⊢
 dsimp only[l_Q26_0]
 cases R with
 |nil =>
  have hol:=ho.len
  simp only[popR,AJ]at e1 e2
  simp(disch:=omega) [hol]
  refine h1 H o1 lv ov ?_ ?_ hne
  ·rw[<- e1];exact hl
  ·rw[<- e2];exact ho
 |cons o R =>
  obtain⟨k2,rfl⟩:∃k,o2=some k:=by
   cases o2 with
   |none=>have:=ho.2.1;simp at this
   |some k=>exact⟨k,rfl⟩
  have ho0:=hR o (by simp)
  have hol:=ho.len
  obtain⟨x,hx⟩:∃x,t.items[o]? = some x:=⟨_,Ae (by rw[zmm];exact ho0)⟩
  have hxs:=zlo t _ _ _ _ x (Az hx)
  have hend:endOf t o=o+x.size:=by simp only[endOf,hx]
  obtain⟨ver,hi1,hi2⟩:=ho.at1 (j:=R.length) (by simp)
  have hi3:=hi2 _ (zajb (n:=o) (by simp[Ad];rfl))
  have hl1:(((o::R).length:Nat):Int)-1=(R.length:Nat):=by simp
  simp only[AC]at hol hlen hl1
  simp only[popR,hend]at e1 e2
  by_cases hc:o+x.size<=i
  ·rw[if_pos hc]at e1 e2
   obtain⟨lv',H',o1',ha1,ha2,ha3,ha4,ha5,ha6⟩:=hl.append1 (ys:=[J4 o]) rfl (by omega)
   obtain⟨ver2,hv2,hcut,cs,op,hcs⟩:=ho.cut (m:=R.length) (by simp)
   subst hv2
   simp only[AC]at hi1
   have hkl:=ho.lt
   have hcs':H'[k2]? = some (.cells cs 1 ver2 op):=by rw[ha3.2 k2 hkl (fun e=>hne k2 e rfl)];exact hcs
   have hle:((R.length:Nat):Int)<=(R.length:Nat)+1:=by omega
   simp(disch:=omega) [hi1,hi3,zbk hx,zaa,ha1,ha2.up,boundHi,boundLo,asBound,Mem.get,hcs',hle]
   refine hL (l++[o],R,lv', .slice k2 ver2 0 R.length,H',o1') ⟨?_,?_,?_,?_,?_,?_,e2⟩ (by simp)
   ·have:pcells (nints (l++[o]))=pcells (nints l)++[J4 o]:=by simp[pcells,nints]
    simp only[Ag,AK,this]
    exact ha2
   ·have h3:(pcells (nints (o::R).reverse)).take (R.length*1)=pcells (nints R.reverse):=by
     simp only[A9,nints,pcells,AF,B9]
     rw[C9 (by simp)]
    rw[h3]at hcut
    exact hcut.keep ha3 (fun k hk=>by injection hk with hk;subst hk;exact fun e=>hne _ e rfl)
   ·intro k hk
    rcases ha5 with e|⟨k',e,hk'⟩
    ·rw[e]at hk;exact hne k hk
    ·rw[e]at hk;injection hk with hk;subst hk
     intro e2;injection e2 with e2;omega
   ·intro a ha;exact hR a (by simp[ha])
   ·simp only[Ag,AK];omega
   ·rw[<- e1];simp
  ·rw[if_neg hc]at e1 e2
   simp(disch:=omega) [hol,hi1,hi3,zbk hx,zaa]
   simp only[AJ]at e1
   refine h1 H o1 lv ov ?_ ?_ hne
   ·rw[<- e1];exact hl
   ·rw[<- e2];exact ho
theorem zsq (e:Nat->Nat) (i:Nat):∀R:List Nat,(popR e i R).1.length+(popR e i R).2.length=R.length
 | []=>rfl
 |o::r=>by
  rw[popR]
  split
  ·have:=zsq e i r;simp only[AC];omega
  ·simp
theorem zzl (e:Nat->Nat) (i:Nat):∀(R:List Nat) (o:Nat),o∈(popR e i R).2->o∈R
 | [],o,h=>h
 |a::r,o,h=>by
  rw[popR]at h
  split at h
  ·exact Al _ (zzl e i r o h)
  ·exact h
theorem zabn (t:Tree) (hs:t.size<1000000) (Q:J0)
 (h1:∀H' o lv,VS H' o 1 t.size lv (pcells (nints (postT t 0)))->Q .normal [(4, .v lv)] ⟨[],H'⟩) :
 wpLoop (CW tr.look) 49 m_Q26_1 l_Q26_1 (blkK 0 b_Q26_0 Q) [(3, .v (.p (ival t))),(4, .v (.p .nilslice)),(5, .v (.p .nilslice)),(12, .int .i64 (t.size+1)),(13, .int .i64 0)] ⟨[],[]⟩:=by
 refine zae (α:=Nat×List Nat×List Nat×IVal×IVal×J2×Option Nat×Option Nat) (fun a=>[(3, .v (.p (ival t))),(4, .v a.2.2.2.1),(5, .v a.2.2.2.2.1),(12, .int .i64 (t.size+1)),(13, .int .i64 a.1)]) (fun a=>⟨[],a.2.2.2.2.2.1⟩)
  (fun a=>VS a.2.2.2.2.2.1 a.2.2.2.2.2.2.1 1 a.2.1.length a.2.2.2.1 (pcells (nints a.2.1))/\VS a.2.2.2.2.2.1 a.2.2.2.2.2.2.2 1 a.2.2.1.length a.2.2.2.2.1 (pcells (nints a.2.2.1.reverse))/\(∀ k,a.2.2.2.2.2.2.1=some k->a.2.2.2.2.2.2.2≠some k)/\(∀ o∈a.2.2.1,o<a.1)/\a.2.1.length+a.2.2.1.length=a.1 /\
   a.1<=t.size+1/\runP (endOf t) a.1 (t.size+1-a.1) (a.2.1,a.2.2.1)=(postT t 0,[t.size])) (fun a=>t.size+1-a.1) ?_ (0,[],[], .p .nilslice, .p .nilslice,[],none,none) ⟨VS.nil,VS.nil,by simp,by simp,rfl,by simp,zaed _ t (zaiu t)⟩
 rintro⟨i,l,R,lv,ov,H,o1,o2⟩ ⟨hl,ho,hne,hR,hlen,hi,hrun⟩ L hL
 dsimp only at hl ho hne hR hlen hi hrun hL ⊢
 dsimp only[l_Q26_1]
 by_cases hc:i<t.size+1
 ·simp(disch:=omega) []
  refine zabm t i _ _ (by omega) hs l R (fun o h=>by have:=hR o h;omega) H o1 o2 lv ov hl ho hne (by omega) _ ?_
  intro H2 o1' lv' ov' g1 g2 g3
  obtain⟨ov2,H3,o2',a1,a2,a3,a4,a5,a6⟩:=g2.append1 (ys:=[J4 i]) rfl (by have:=zsq (endOf t) i R;omega)
  simp(disch:=omega) [a1,a2.up,zaa]
  refine hL (i+1,l++(popR (endOf t) i R).1,i::(popR (endOf t) i R).2,lv',ov2,H3,o1',o2') ⟨?_,?_,?_,?_,?_,by dsimp only;omega,?_⟩ (by dsimp only;omega)
  ·exact g1.keep a3 (fun k hk e=>g3 k hk e)
  ·have:pcells (nints (i::(popR (endOf t) i R).2).reverse)=pcells (nints (popR (endOf t) i R).2.reverse)++[J4 i]:=by simp[pcells,nints]
   simp only[AC,this]
   exact a2
  ·intro k hk e
   rcases a5 with e2|⟨k',e2,hk'⟩
   ·rw[e2]at e;exact g3 k hk e
   ·rw[e2]at e
    injection e with e
    subst hk
    have:=VS.lt g1
    omega
  ·intro o ho
   rcases Aj.1 ho with rfl|ho
   ·dsimp only;omega
   ·have:=hR o (zzl _ _ _ _ ho);dsimp only;omega
  ·have:=zsq (endOf t) i R
   simp only[Ag,AC];omega
  ·rw[show t.size+1-i=(t.size+1-(i+1))+1 by omega,runP]at hrun
   exact hrun
 ·obtain rfl:i=t.size+1:=by omega
  rw[Bb,runP]at hrun
  injection hrun with e1 e2
  subst e1
  simp(disch:=omega) []
  rw[zbb]at hl
  exact h1 H o1 lv hl
def nval (l:List Nat):PVal := .slice 1 l.length (nints l)
theorem zos (t:Tree) (hf:Fine t) (H:J2):CW tr.look F_Q26 [tagg t] H=some (.p (nval (postT t 0)),H):=by
 refine zal look_Q26 rfl (by simp) rfl ?_
 dsimp only[i_Q26,c_Q26]
 have hsz1:=zad t
 have hs:=hf.1
 simp(disch:=omega) [zaj,zcg t hf,zaa]
 refine zabn t hf.1 _ ?_
 intro H' o lv hv
 have hz:=zoq hv
 simp(disch:=omega) [hv.pass]
 cases o with
 |none=>have:=hv.2.1;omega
 |some k =>
  obtain⟨ver,cs,op,rfl,hr⟩:=hv
  simp only[zes,zhj,hz,AH,nval,zbb]
end Go.Ideal
