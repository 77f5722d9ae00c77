import Derived.Test.YtjlnpggbekondaaGreatW1
import Derived.Shelf.SlSortCmp.Insertion
import Derived.Sort.AssemblyPlain
import Derived.Test.YtjlnpggbekondaaGreatW2
namespace Go.Ideal
open Go
def scalP:PVal->Bool
 | .bool _ | .int _ _ | .str _=>true
 |_=>false
def sv:PVal->Value
 | .bool b=>.bool b
 | .int k n=>.int k n
 | .str s=>.string ⟨s.toArray⟩
 |_=>.bool false
theorem zais {z:Cells}:∀ {v:PVal},scalP v=true->∀ {r:Value},PRel z v r↔r=sv v
 | .bool b,_,r=>by simp[PRel,sv]
 | .int k n,_,r=>by simp[PRel,sv]
 | .str s,_,r=>by simp[PRel,sv]
 | .slice ..,h,_ | .ptr ..,h,_ | .func ..,h,_ | .nilptr,h,_ | .nilslice,h,_ | .nilmap,h,_ | .nilfunc,h,_ | .niliface,h,_=>by simp[scalP]at h
theorem zbbx:∀ {v:PVal},(sv v).oneCell'=true:=by intro v;cases v<;>rfl
structure SortKit (α:Type) where
 k:Nat
 enc:α->List PVal
 cf:α->α->Int
 len:∀x,(enc x).length=k
 scal:∀x,∀v∈enc x,scalP v=true
 swo:Sort.SWO (Go.Proofs.ltOf cf)
 inj:∀x y,enc x=enc y->x=y
section
variable {α:Type} [Inhabited α]
def SortKit.sort (K:SortKit α) (d:Array α):Array α:=Sort.pdq (Go.Proofs.ltOf K.cf) d 0 d.size (Lib.bitLen d.size) true true
def SortKit.row (K:SortKit α) (d:Array α):List PVal:=d.toList.flatMap K.enc
inductive SortRel (K:SortKit α) (g:FuncId):J3->J2->IVal×J2->Prop
 |nil {H:J2}:SortRel K g [.p .nilslice, .p (.func g)] H (.tup [],H)
 |empty {H:J2} {i ver off:Nat}:SortRel K g [.slice i ver off 0, .p (.func g)] H (.tup [],H)
 |row {H:J2} {i ver off e:Nat} {cs:J3} {op:Bool} (d:Array α) (hb:H[i]? = some (.cells cs e ver op)) (hn:0<d.size) (hm:d.size<4611686018427387904)
  (hl:off+d.size*K.k<=cs.length) (hcs:(cs.drop off).take (d.size*K.k)=pcells (K.row d)) :
  SortRel K g [.slice i ver off d.size, .p (.func g)] H (.tup [],H.set i (.cells (splice cs off (pcells (K.row (K.sort d)))) e ver op))
noncomputable def sortSpec (K:SortKit α) (g:FuncId):Spec:=fun args H=>open Classical in if h:∃r,SortRel K g args H r then some h.choose else none
omit [Inhabited α] in
theorem zadg (K:SortKit α):∀ {l m:List α},l.length=m.length->l.flatMap K.enc=m.flatMap K.enc->l=m
 | [],[],_,_=>rfl
 | [],_::_,h,_=>by simp at h
 |_::_,[],h,_=>by simp at h
 |x::l,y::m,h,e=>by
  rw[AD,AD]at e
  obtain⟨e1,e2⟩:=List.append_inj e (by rw[K.len,K.len])
  rw[K.inj _ _ e1,zadg K (by simpa using h) e2]
theorem zoo (K:SortKit α) (g:FuncId) (H:J2):sortSpec K g [.p .nilslice, .p (.func g)] H=some (.tup [],H):=by
 have hx:∃r,SortRel K g [.p .nilslice, .p (.func g)] H r:=⟨_, .nil⟩
 unfold sortSpec
 rw[dif_pos hx]
 have h:=hx.choose_spec
 generalize hx.choose=r at h
 cases h
 rfl
theorem zsj (K:SortKit α) (g:FuncId) (H:J2) (i ver off:Nat):sortSpec K g [.slice i ver off 0, .p (.func g)] H=some (.tup [],H):=by
 have hx:∃r,SortRel K g [.slice i ver off 0, .p (.func g)] H r:=⟨_, .empty⟩
 unfold sortSpec
 rw[dif_pos hx]
 have h:=hx.choose_spec
 generalize hx.choose=r at h
 generalize hs:0=z at h hx
 cases h with
 |empty=>rfl
 |row d _ hn=>omega
theorem zop (K:SortKit α) (g:FuncId) {H:J2} {i ver off e:Nat} {cs:J3} {op:Bool} (d:Array α) (hb:H[i]? = some (.cells cs e ver op)) (hn:0<d.size) (hm:d.size<4611686018427387904)
 (hl:off+d.size*K.k<=cs.length) (hcs:(cs.drop off).take (d.size*K.k)=pcells (K.row d)) :
 sortSpec K g [.slice i ver off d.size, .p (.func g)] H=some (.tup [],H.set i (.cells (splice cs off (pcells (K.row (K.sort d)))) e ver op)):=by
 have hx:∃r,SortRel K g [.slice i ver off d.size, .p (.func g)] H r:=⟨_, .row d hb hn hm hl hcs⟩
 unfold sortSpec
 rw[dif_pos hx]
 have h:=hx.choose_spec
 generalize hx.choose=r at h
 generalize hs:d.size=sz at h hx
 cases h with
 |empty=>omega
 |row d' hb' hn' hm' hl' hcs' =>
  rw[hb]at hb'
  cases hb'
  rw[<- hs,hcs]at hcs'
  have:=zadg K (by simpa using hs) (zta hcs')
  have:d=d':=by rw[<- Array.toList_inj];exact this
  subst this
  rfl
omit [Inhabited α] in
theorem SortKit.zavj (K:SortKit α) (d:Array α):(K.row d).length=d.size*K.k:=by
 unfold SortKit.row
 have key:∀l:List α,(l.flatMap K.enc).length=l.length*K.k:=by
  intro l
  induction l with
  |nil=>simp
  |cons x l ih=>rw[AD,Af,K.len,ih,AA,A5,CL,BK]
 rw[key];rfl
theorem SortKit.perm (K:SortKit α) (d:Array α):Sort.PermIn 0 d.size d (K.sort d)/\Sort.SortedIn (Go.Proofs.ltOf K.cf) 0 d.size (K.sort d) :=
 Go.Sort.pdq_sorts (Go.Proofs.ltOf K.cf) K.swo d 0 d.size (Lib.bitLen d.size) true true (AU _) (Am _) (Or.inl rfl)
end
def pairEnc (p:Int×Int):List PVal:=[.int .i64 p.1, .int .i64 p.2]
def cmpI (a b:Int):Int:=if a<b then -1 else if b<a then 1 else 0
theorem zut (a b:Int×Int):Go.Proofs.ltOf (fun x y:Int×Int=>cmpI x.1 y.1) a b=decide (a.1<b.1):=by
 unfold Go.Proofs.ltOf cmpI
 by_cases h1:a.1<b.1
 ·simp[h1]
 ·by_cases h2:b.1<a.1<;>simp[h1,h2]
def pairKit:SortKit (Int×Int) where
 k:=2
 enc:=pairEnc
 cf x y:=cmpI x.1 y.1
 len _:=rfl
 scal x v hv:=by simp[pairEnc]at hv;rcases hv with rfl|rfl<;>rfl
 swo:={
  irrefl x:=by rw[zut];simp
  trans x y z h1 h2:=by rw[zut]at *;simp at *;omega
  ntrans x y z h1 h2:=by rw[zut]at *;simp at *;omega }
 inj x y h:=by
  simp[pairEnc]at h
  exact Prod.ext h.1 h.2
def prc (L:J1):List PVal:=L.flatMap fun p=>[.int .i64 p.1, .int .i64 p.2]
def toI (p:Nat×Nat):Int×Int:=(p.1,p.2)
theorem zuu (L:J1):pairKit.row (L.map toI).toArray=prc L:=by
 show(L.map toI).flatMap pairEnc=_
 rw[prc,List.flatMap_map]
 rfl
def sortP (l:J1):J1:=l.mergeSort fun p q=>decide (p.1<=q.1)
theorem zaw (l:J1):(sortP l).Perm l:=List.mergeSort_perm l _
theorem zgf (l:J1):(sortP l).Pairwise fun p q=>p.1<=q.1:=by
 have h:=List.pairwise_mergeSort (le:=fun p q:Nat×Nat=>decide (p.1<=q.1)) (by intro a b c;simp;omega) (by intro a b;simp;omega) l
 exact h.imp fun h=>by simpa using h
theorem zabb {l:J1} (hn:(l.map (·.1)).Nodup) {p q:Nat×Nat} (hp:p∈l) (hq:q∈l) (e:p.1=q.1):p=q:=by
 induction l with
 |nil=>cases hp
 |cons x l ih =>
  rw[Aq,Bn]at hn
  rcases Ak.1 hp with rfl|hp'<;>rcases Ak.1 hq with rfl|hq'
  ·rfl
  ·exact absurd (AW hq') (e ▸ hn.1)
  ·exact absurd (AW hp') (e ▸ hn.1)
  ·exact ih hn.2 hp' hq'
theorem zel {l m:J1} (hn:(l.map (·.1)).Nodup) (hp:m.Perm l) (hs:m.Pairwise fun p q=>p.1<=q.1):m=sortP l:=by
 refine List.Perm.eq_of_pairwise (le:=fun p q:Nat×Nat=>p.1<=q.1) (fun p q h1 h2 h3 h4=>?_) hs (zgf l) (hp.trans (zaw l).symm)
 exact zabb hn (hp.mem_iff.1 h1) ((zaw l).mem_iff.1 h2) (Nat.le_antisymm h3 h4)
theorem zoq {l:J1} (hn:(l.map (·.1)).Nodup):pairKit.sort (l.map toI).toArray=((sortP l).map toI).toArray:=by
 obtain⟨⟨h1,_,h2⟩,h3⟩:=pairKit.perm (l.map toI).toArray
 rw[<- h1]at h3
 generalize pairKit.sort (l.map toI).toArray=d at *
 have hsz:(l.map toI).toArray.size=l.length:=by simp
 have hp:d.toList.Perm (l.map toI):=by
  rw[show(l.map toI).toArray.extract 0 (l.map toI).toArray.size=(l.map toI).toArray from Array.extract_size,show d.extract 0 (l.map toI).toArray.size=d by rw[<- h1];exact Array.extract_size]at h2
  exact h2
 obtain⟨m,hm⟩:∃m:J1,d.toList=m.map toI:=by
  have:∀L:List (Int×Int),(∀ x∈L,∃p:Nat×Nat,x=toI p)->∃m:J1,L=m.map toI:=by
   intro L
   induction L with
   |nil=>intro _;exact⟨[],rfl⟩
   |cons x L ih =>
    intro h
    obtain⟨p,rfl⟩:=h x (by simp)
    obtain⟨m,rfl⟩:=ih fun x hx=>h x (by simp[hx])
    exact⟨p::m,rfl⟩
  refine this _ fun x hx=>?_
  have:=hp.mem_iff.1 hx
  obtain⟨p,_,rfl⟩:=AF.1 this
  exact⟨p,rfl⟩
 have inj:∀p q:Nat×Nat,toI p=toI q->p=q:=fun p q h=>by
  simp only[toI,Prod.mk.injEq]at h
  exact Prod.ext (by omega) (by omega)
 have key:∀L M:J1,L.map toI=M.map toI->L=M:=by
  intro L
  induction L with
  |nil=>intro M h;cases M with|nil=>rfl|cons _ _=>simp at h
  |cons x L ih =>
   intro M h
   cases M with
   |nil=>simp at h
   |cons y M =>
    simp only[Aq,Cr]at h
    rw[inj _ _ h.1,ih M h.2]
 have hpm:m.Perm l:=by
  have h5:=(hm ▸ hp).map fun x:Int×Int=>(x.1.toNat,x.2.toNat)
  rw[List.map_map,List.map_map]at h5
  have e:((fun x:Int×Int=>(x.1.toNat,x.2.toNat)) ∘ toI)=id:=by
   funext p;simp[toI]
  rw[e,List.map_id,List.map_id]at h5
  exact h5
 have hsm:m.Pairwise fun p q=>p.1<=q.1:=by
  rw[List.pairwise_iff_getElem]
  intro i j hi hj hij
  have hlen:d.size=m.length:=by rw[<- A8,hm];simp
  have:=h3 i j (AU _) hij (by omega)
  rw[show pairKit.cf=fun x y=>cmpI x.1 y.1 from rfl,zut]at this
  have e1:d[i]! = toI m[i]:=by
   rw[getElem!_pos d i (by omega)]
   have:d.toList[i]'(by rw[A8];omega)=toI m[i]:=by simp only[hm,B6]
   simpa using this
  have e2:d[j]! = toI m[j]:=by
   rw[getElem!_pos d j (by omega)]
   have:d.toList[j]'(by rw[A8];omega)=toI m[j]:=by simp only[hm,B6]
   simpa using this
  rw[e1,e2]at this
  simp[toI]at this
  omega
 rw[<- Array.toList_inj,hm,zel hn hpm hsm]
noncomputable def sortAny (l:List FuncId):Spec:=match l with
 | []=>fun _ _=>none
 |g::r=>fun args H=>match sortSpec pairKit g args H with
  |some x=>some x
  |none=>sortAny r args H
noncomputable def sortOracle:Oracle:=noOracle.set F_Q30 (sortAny [F_Q59,F_Q87,F_Q31])
noncomputable instance seatBase:Base where
 b:=sortOracle
 m C f a H r:=f=F_Q9/\RangePure C i_Q9 a H r
 mono h g:=⟨g.1,g.2.mono h⟩
 det h g:=h.2.det g.2
 off h:=by rw[h.1];rfl
theorem zsk {g g':FuncId} (hne:g≠g') (v:IVal) (H:J2):sortSpec pairKit g' [v, .p (.func g)] H=none:=by
 unfold sortSpec
 refine dif_neg ?_
 rintro⟨r,h⟩
 generalize hl:[v,IVal.p (.func g)]=l at h
 cases h with
 |nil=>injection hl with _ hl;injection hl with hl _;injection hl with hl;injection hl with hl;exact hne hl
 |empty=>injection hl with _ hl;injection hl with hl _;injection hl with hl;injection hl with hl;exact hne hl
 |row=>injection hl with _ hl;injection hl with hl _;injection hl with hl;injection hl with hl;exact hne hl
theorem ztf {g:FuncId} {v:IVal} {H:J2} {r:IVal×J2} (h:sortSpec pairKit g [v, .p (.func g)] H=some r):∀l:List FuncId,g∈l->sortAny l [v, .p (.func g)] H=some r
 | [],hm=>by simp at hm
 |x::l,hm=>by
  by_cases e:x=g
  ·subst e
   simp only[sortAny,h]
  ·have hm':g∈l:=by
    rcases Ak.1 hm with h'|h'
    ·exact absurd h'.symm e
    ·exact h'
   simp only[sortAny,zsk (fun e'=>e e'.symm)]
   exact ztf h l hm'
theorem zmh {g:FuncId} (hg:g∈[F_Q59,F_Q87,F_Q31]) {v:IVal} {H:J2} {r:IVal×J2} (h:sortSpec pairKit g [v, .p (.func g)] H=some r):seatBase.b F_Q30 [v, .p (.func g)] H=some r:=by
 have e:seatBase.b F_Q30=sortAny [F_Q59,F_Q87,F_Q31]:=by
  show sortOracle _=_
  unfold sortOracle
  exact Oracle.zamr
 rw[e]
 exact ztf h _ hg
end Go.Ideal

namespace Go.Ideal
open Go
theorem zdf:∀s:Bytes,bytesLess s s=false
 | []=>rfl
 |a::s=>by simp[bytesLess,zdf s]
theorem zjr:∀ {s t:Bytes},bytesLess s t=true->bytesLess t s=false
 | [],[],h=>by simp[bytesLess]at h
 | [],_::_,_=>rfl
 |_::_,[],h=>by simp[bytesLess]at h
 |a::s,b::t,h=>by
  simp only[bytesLess,BZ,decide_eq_true_eq,Al,beq_iff_eq]at h
  simp only[bytesLess,C3,decide_eq_false_iff_not,Bool.and_eq_false_iff]
  rcases h with h|⟨rfl,h⟩
  ·refine⟨by rw[UInt8.not_lt];exact UInt8.le_of_lt h, .inl ?_⟩
   simp only[beq_eq_false_iff_ne]
   rintro rfl
   exact absurd h (UInt8.lt_irrefl _)
  ·exact⟨UInt8.lt_irrefl _, .inr (zjr h)⟩
theorem zdw:∀ {s t:Bytes},bytesLess s t=false->bytesLess t s=false->s=t
 | [],[],_,_=>rfl
 | [],_::_,h,_=>by simp[bytesLess]at h
 |_::_,[],_,h=>by simp[bytesLess]at h
 |a::s,b::t,h,g=>by
  simp only[bytesLess,C3,decide_eq_false_iff_not,Bool.and_eq_false_iff,beq_eq_false_iff_ne]at h g
  have hab:a=b:=UInt8.le_antisymm (UInt8.not_lt.1 g.1) (UInt8.not_lt.1 h.1)
  subst hab
  rcases h.2 with h2|h2
  ·exact absurd rfl h2
  ·rcases g.2 with g2|g2
   ·exact absurd rfl g2
   ·rw[zdw h2 g2]
theorem zld {s t:Bytes} (h:bytesLess s t=true):s≠t:=by
 rintro rfl;rw[zdf]at h;cases h
section
variable {s t:Bytes} {k:SV->Prop}
@[simp ↓ high] theorem zarw:strBinK .lss s t k=k (.bool (bytesLess s t)):=by simp[strBin]
@[simp ↓ high] theorem zarx:strBinK .gtr s t k=k (.bool (bytesLess t s)):=by
 have:(!(bytesLess s t||s==t))=bytesLess t s:=by
  cases h:bytesLess s t
  ·cases h2:bytesLess t s
   ·rw[zdw h h2];simp
   ·have:=zld h2
    simp;exact fun e=>this e.symm
  ·rw[zjr h];rfl
 rw[zaax]
 simp only[strBin,zfu,zaaz,zaat,this]
@[simp ↓ high] theorem zary:strBinK .leq s t k=k (.bool (!bytesLess t s)):=by
 have:(bytesLess s t||s==t)=!bytesLess t s:=by
  cases h:bytesLess s t
  ·cases h2:bytesLess t s
   ·rw[zdw h h2];simp
   ·have:=zld h2
    simp;exact fun e=>this e.symm
  ·rw[zjr h];rfl
 rw[zaaw]
 simp only[strBin,zfu,zaaz,zaat,this]
@[simp ↓ high] theorem zarz:strBinK .geq s t k=k (.bool (!bytesLess s t)):=by
 rw[zaay]
 simp only[strBin,zfu,zaaz,zaat]
end
def sgn (l m:Bool):Int:=if l then -1 else if m then 1 else 0
def scmp (s t:Bytes):Int:=sgn (bytesLess s t) (bytesLess t s)
theorem zmi {s t:Bytes}:scmp s t=0↔s=t:=by
 unfold scmp sgn
 cases h:bytesLess s t
 ·cases h2:bytesLess t s
  ·simp[zdw h h2]
  ·simp;rintro rfl;rw[zdf]at h2;cases h2
 ·simp;exact zld h
def icmp (a b:Int):Int:=sgn (decide (a<b)) (decide (b<a))
theorem zdp {a b:Int}:icmp a b=0↔a=b:=by
 unfold icmp sgn
 by_cases h:a<b<;>by_cases h2:b<a<;>simp[h,h2]<;>omega
def acmp (p q:Bytes×Bytes):Int:=sgn (bytesLess p.1 q.1||decide (p.1=q.1)&&bytesLess p.2 q.2) (bytesLess q.1 p.1||decide (p.1=q.1)&&bytesLess q.2 p.2)
theorem zait {p q:Bytes×Bytes}:acmp p q=0↔p=q:=by
 obtain⟨a,b⟩:=p
 obtain⟨c,d⟩:=q
 unfold acmp sgn
 simp only[Prod.mk.injEq]
 cases h:bytesLess a c
 ·cases h2:bytesLess c a
  ·have:=zdw h h2
   subst this
   cases h3:bytesLess b d
   ·cases h4:bytesLess d b
    ·simp[zdw h3 h4]
    ·simp;rintro rfl;rw[zdf]at h4;cases h4
   ·simp;exact zld h3
  ·have hne:a≠c:=fun e=>by rw[e,zdf]at h2;cases h2
   simp[hne]
 ·have hne:a≠c:=zld h
  simp[hne]
def lcmp {α:Type} (f:α->α->Int):List α->List α->Int
 |x::l,y::m=>if f x y=0 then lcmp f l m else f x y
 |l,m=>icmp l.length m.length
theorem zxt {α:Type} {f:α->α->Int}:∀ {l m:List α},(∀ x∈l,∀y,f x y=0↔x=y)->(lcmp f l m=0↔l=m)
 | [],[],_=>by simp[lcmp,zdp]
 | [],_::_,_=>by simp[lcmp,zdp];omega
 |_::_,[],_=>by simp[lcmp,zdp];omega
 |x::l,y::m,h=>by
  have ih:=zxt (l:=l) (m:=m) (fun a ha=>h a (by simp[ha]))
  rw[lcmp]
  by_cases e:f x y=0
  ·rw[if_pos e,ih,(h x (by simp) y).1 e];simp
  ·rw[if_neg e]
   simp only[e,false_iff,Cr,not_and]
   intro e2
   exact absurd ((h x (by simp) y).2 e2) e
def lfirst {α:Type} (f:α->α->Int):List α->List α->Int
 |x::l,y::m=>if f x y=0 then lfirst f l m else f x y
 |_,_=>0
theorem zabc {α:Type} {f:α->α->Int}:∀ {l m:List α},lcmp f l m=if lfirst f l m=0 then icmp l.length m.length else lfirst f l m
 | [],[]=>by simp[lcmp,lfirst]
 | [],_::_=>by simp[lcmp,lfirst]
 |_::_,[]=>by simp[lcmp,lfirst]
 |x::l,y::m=>by
  rw[lcmp,lfirst]
  by_cases e:f x y=0
  ·rw[if_pos e,if_pos e,zabc]
   simp only[AA,icmp]
   congr 2<;>simp
  ·rw[if_neg e,if_neg e,if_neg e]
mutual
def Tree.nodes:Tree->List Tree
 | .mk k n x a ks=>.mk k n x a ks::knodes ks
def knodes:Option (List Tree)->List Tree
 |none=>[]
 |some l=>lnodes l
def lnodes:List Tree->List Tree
 | []=>[]
 |t::l=>t.nodes++lnodes l
end
theorem zbu (t:Tree):t.nodes=t::lnodes (klist t.kids):=by
 obtain⟨k,n,x,a,ks⟩:=t
 cases ks<;>simp[Tree.nodes,knodes,lnodes,klist,Tree.kids]
theorem zfl {u:Tree}:∀ {l:List Tree},u∈lnodes l↔∃t∈l,u∈t.nodes
 | []=>by simp[lnodes]
 |t::l=>by simp[lnodes,zfl (l:=l)]
theorem zjs (t:Tree):t∈t.nodes:=by rw[zbu];simp
theorem zxu {t u v:Tree} (h:u∈klist t.kids) (hv:v∈u.nodes):v∈t.nodes:=by
 rw[zbu];simp only[Ak];exact .inr (zfl.2 ⟨u,h,hv⟩)
def Fine (t:Tree):Prop:=t.size<1000000/\∀u∈t.nodes,(alist u.attrs).length<1000000
theorem Fine.attrs {t:Tree} (h:Fine t):(alist t.attrs).length<1000000000000:=by have:=h.2 t (zjs t);omega
theorem Fine.kid {t u:Tree} (h:Fine t) (hu:u∈klist t.kids):Fine u:=by
 have h1:=zag t
 have h2:=zam hu
 exact⟨by have:=h.1;omega,fun v hv=>h.2 v (zxu hu hv)⟩
theorem Fine.kids {t:Tree} (h:Fine t):(klist t.kids).length<1000000000000:=by
 have h1:=zag t
 have h2:=zao (klist t.kids)
 have:=h.1
 omega
def nodeCmp (a b:Tree):Int:=if icmp a.kind b.kind=0 then(if scmp a.name b.name=0 then(if scmp a.text b.text=0 then lcmp acmp (alist a.attrs) (alist b.attrs)else scmp a.text b.text)else scmp a.name b.name)else icmp a.kind b.kind
def SameNode (a b:Tree):Prop:=a.kind=b.kind/\a.name=b.name/\a.text=b.text/\alist a.attrs=alist b.attrs
theorem zgg {a b:Tree}:nodeCmp a b=0↔SameNode a b:=by
 unfold nodeCmp SameNode
 by_cases h1:icmp a.kind b.kind=0
 ·rw[if_pos h1]
  have:=zdp.1 h1
  by_cases h2:scmp a.name b.name=0
  ·rw[if_pos h2]
   have:=zmi.1 h2
   by_cases h3:scmp a.text b.text=0
   ·rw[if_pos h3,zxt (fun _ _ _=>zait)]
    have:=zmi.1 h3
    simp_all
   ·rw[if_neg h3]
    have:=fun e=>h3 (zmi.2 e)
    simp_all
  ·rw[if_neg h2]
   have:=fun e=>h2 (zmi.2 e)
   simp_all
 ·rw[if_neg h1]
  have:=fun e=>h1 (zdp.2 e)
  simp_all
mutual
def cmpT:Tree->Tree->Int
 | .mk k n x a ks,u=>if nodeCmp (.mk k n x a ks) u=0 then cmpK ks (klist u.kids)else nodeCmp (.mk k n x a ks) u
def cmpK:Option (List Tree)->List Tree->Int
 |none,m=>icmp 0 m.length
 |some l,m=>cmpL l m
def cmpL:List Tree->List Tree->Int
 | [],m=>icmp 0 m.length
 |t::l,[]=>icmp (t::l).length 0
 |t::l,u::m=>if cmpT t u=0 then cmpL l m else cmpT t u
end
theorem zabd:∀ {l m:List Tree},cmpL l m=lcmp cmpT l m
 | [],m=>by cases m<;>rw[cmpL,lcmp]<;>simp
 |t::l,[]=>by rw[cmpL,lcmp];simp;simp
 |t::l,u::m=>by rw[cmpL,lcmp,zabd]
theorem zaiu (t u:Tree):cmpT t u=if nodeCmp t u=0 then lcmp cmpT (klist t.kids) (klist u.kids)else nodeCmp t u:=by
 obtain⟨k,n,x,a,ks⟩:=t
 rw[cmpT]
 cases ks with
 |none=>simp only[cmpK,Tree.kids,klist,Option.getD_none,<-zabd,cmpL]
 |some l=>simp only[cmpK,Tree.kids,klist,Bs,zabd]
def SameT (t u:Tree):Prop:=cmpT t u=0
instance (t u:Tree):Decidable (SameT t u):=by unfold SameT;infer_instance
theorem zxv:∀ {l m:List Tree},lcmp cmpT l m=0↔l.length=m.length/\∀(j:Nat) (a b:Tree),l[j]? = some a->m[j]? = some b->SameT a b
 | [],[]=>by simp[lcmp,zdp]
 | [],_::_=>by simp[lcmp,zdp];omega
 |_::_,[]=>by simp[lcmp,zdp];omega
 |t::l,u::m=>by
  rw[lcmp]
  by_cases h:cmpT t u=0
  ·rw[if_pos h,zxv]
   constructor
   ·rintro⟨h1,h2⟩
    refine⟨by simp[h1],fun j a b ha hb=>?_⟩
    cases j with
    |zero=>simp at ha hb;subst ha hb;exact h
    |succ j=>exact h2 j a b (by simpa using ha) (by simpa using hb)
   ·rintro⟨h1,h2⟩
    exact⟨by simpa using h1,fun j a b ha hb=>h2 (j+1) a b (by simpa using ha) (by simpa using hb)⟩
  ·rw[if_neg h]
   simp only[h,false_iff,not_and]
   intro _ h2
   exact h (h2 0 t u rfl rfl)
theorem zgh {t u:Tree}:SameT t u↔SameNode t u/\(klist t.kids).length=(klist u.kids).length/\∀(j:Nat) (a b:Tree),(klist t.kids)[j]? = some a->(klist u.kids)[j]? = some b->SameT a b:=by
 unfold SameT
 rw[zaiu]
 by_cases h:nodeCmp t u=0
 ·rw[if_pos h,zxv]
  have:=zgg.1 h
  simp only[this,true_and];rfl
 ·rw[if_neg h]
  have:¬SameNode t u:=fun e=>h (zgg.2 e)
  simp[h,this]
section
variable {H H':J2} {bx:List (Nat×IBlk)} {cs xs ys:J3} {esz k n ny ver:Nat} {op:Bool} {v:IVal}
theorem zaz {b:IBlk}:(H++[b])[H.length]? = some b:=by simp
def HS (H:J2) (k esz n:Nat) (v:IVal) (xs:J3):Prop:=∃ver cs op,v = .slice k ver 0 n/\H[k]? = some (.cells cs esz ver op)/\n*esz<=cs.length/\cs.take (n*esz)=xs
def appBlk (cs ys:J3) (esz n ny ver:Nat) (op:Bool):IBlk:=if(n+ny)*esz<=cs.length then .cells (splice cs (n*esz) ys) esz ver op else .cells (cs.take (n*esz)++ys) esz (ver+1) true
def appVer (cs:J3) (esz n ny ver:Nat):Nat:=if(n+ny)*esz<=cs.length then ver else ver+1
theorem zbd {y:IVal} (hk:H[k]? = some (.cells cs esz ver op)) (hn:n*esz<=cs.length) (hy:srcCells ⟨bx,H⟩ esz y=some ys) (hl:srcLen y=some ny) (hpos:0<ny) (hb:n+ny<=4294967296) :
 evalAppend ⟨bx,H⟩ esz (.slice k ver 0 n) y=some (.slice k (appVer cs esz n ny ver) 0 (n+ny),⟨bx,H.set k (appBlk cs ys esz n ny ver op)⟩):=by
 have h1:Nat.ble (n+ny) maxAppend=true:=AG hb
 have h2:(Nat.beq ver ver&&Nat.beq esz esz&&Nat.ble (0+n*esz) cs.length)=true:=by
  rw[AH,AH,AB,A3,A3]
  exact AG hn
 have h3:Nat.beq ny 0=false:=by rw[zhl];exact decide_eq_false (by omega)
 simp only[evalAppend,hy,hl,sliceLen,h1,Mem.get,hk,h2,h3]
 by_cases h:(n+ny)*esz<=cs.length
 ·have h4:Nat.ble ((n+ny)*esz) cs.length=true:=AG h
  simp only[AB,h4,appVer,appBlk,if_pos h,Mem.put]
 ·have h4:Nat.ble ((n+ny)*esz) cs.length=false:=by
   cases e:Nat.ble ((n+ny)*esz) cs.length with
   |false=>rfl
   |true=>exact absurd (AJ e) h
  simp only[AB,h4,appVer,appBlk,if_neg h,Mem.put,Bz]
theorem zgw (hk:k<H.length) (hn:n*esz<=cs.length) (hy:ys.length=ny*esz) :
 HS (H.set k (appBlk cs ys esz n ny ver op)) k esz (n+ny) (.slice k (appVer cs esz n ny ver) 0 (n+ny)) (cs.take (n*esz)++ys):=by
 unfold appBlk appVer
 by_cases h:(n+ny)*esz<=cs.length
 ·rw[if_pos h,if_pos h]
  refine⟨ver,_,op,rfl,by rw[zaq hk],?_,?_⟩
  ·simp only[splice,Af,A0,Br]
   rw[A5]at h ⊢
   omega
  ·unfold splice
   rw[<- Aw,BM (by simp only[Af,A0];rw[A5];rw[A5]at h;omega)]
   rw[Au (by simp only[Af,A0];rw[A5];omega)]
 ·rw[if_neg h,if_neg h]
  refine⟨_,_,_,rfl,by rw[zaq hk],?_,?_⟩
  ·simp only[Af,A0]
   rw[A5];omega
  ·rw[Au (by simp only[Af,A0];rw[A5];omega)]
theorem append_nil {y:IVal} (hy:srcCells ⟨bx,H⟩ esz y=some ys) (hl:srcLen y=some ny) (hpos:0<ny) (hb:ny<=4294967296) :
 evalAppend ⟨bx,H⟩ esz (.p .nilslice) y=some (.slice H.length 0 0 ny,⟨bx,H++[.cells ys esz 0 true]⟩):=by
 have h1:Nat.ble (0+ny) maxAppend=true:=AG (by unfold maxAppend;omega)
 have h3:Nat.beq ny 0=false:=by rw[zhl];exact decide_eq_false (by omega)
 simp only[evalAppend,hy,hl,sliceLen,h1,h3]
theorem zbv (hk:H[k]? = some (.cells cs esz ver op)) (hn:cs.length=n*esz):srcCells ⟨bx,H⟩ esz (.slice k ver 0 n)=some cs:=by
 have h2:((Nat.beq ver ver&&Nat.beq esz esz)&&Nat.ble (0+n*esz) cs.length)=true:=by
  rw[AH,AH,AB,A3,A3]
  exact AG (by omega)
 simp only[srcCells,Mem.get,hk,h2,Bz]
 rw[Au (by omega)]
@[simp] theorem zavk {v o:Nat}:srcLen (.slice k v o n)=some n:=rfl
theorem HS.load {j:Nat} (h:HS H k esz n v xs) (hj:j<n) :
 ∃ver,idxS esz v (J4 j)=some (J5 k ver (j*esz))/\loadVal ⟨bx,H⟩ (some esz) (J5 k ver (j*esz))=some (.agg ((xs.drop (j*esz)).take esz)):=by
 obtain⟨ver,cs,op,rfl,hk,hn,hx⟩:=h
 refine⟨ver,by rw[zba hj,AB],?_⟩
 have hle:j*esz+esz<=n*esz:=by
  have:(j+1)*esz<=n*esz:=Bu _ hj
  rw[Cp]at this;exact this
 rw[zek hk (by omega),<-hx]
 congr 2
 rw[List.drop_take,Cn,BJ (by omega)]
theorem HS.len (h:HS H k esz n v xs):sliceLen v=some n:=by
 obtain⟨ver,cs,op,rfl,hk,hn,hx⟩:=h
 rfl
theorem HS.keep (h:HS H k esz n v xs) (hk:H'[k]? = H[k]?):HS H' k esz n v xs:=by
 obtain⟨ver,cs,op,e,h1,h2,h3⟩:=h
 exact⟨ver,cs,op,e,by rw[hk];exact h1,h2,h3⟩
theorem HS.lt (h:HS H k esz n v xs):k<H.length:=by
 obtain⟨ver,cs,op,rfl,hk,hn,hx⟩:=h
 exact(Aa.1 hk).1
def Keep (S:Nat->Prop) (H H':J2):Prop:=H.length<=H'.length/\∀i,i<H.length->¬S i->H'[i]? = H[i]?
theorem Keep.refl {S:Nat->Prop}:Keep S H H:=⟨Am _,fun _ _ _=>rfl⟩
theorem Keep.trans {S:Nat->Prop} {H2:J2} (h:Keep S H H') (g:Keep S H' H2):Keep S H H2 :=
 ⟨Bo h.1 g.1,fun i hi hs=>by rw[g.2 i (A6 hi h.1) hs,h.2 i hi hs]⟩
theorem Keep.new {S:Nat->Prop} {b:J2}:Keep S H (H++b):=⟨by simp,fun i hi _=>Ab hi⟩
theorem Keep.set {S:Nat->Prop} {b:IBlk} (h:S k\/H.length<=k):Keep S H (H.set k b):=by
 refine⟨by simp,fun i hi hs=>?_⟩
 rw[Ad]
 rintro rfl
 rcases h with h|h
 ·exact hs h
 ·omega
theorem Keep.mono {S S':Nat->Prop} (h:Keep S H H') (k:∀i,i<H.length->S i->S' i):Keep S' H H':=⟨h.1,fun i hi hs=>h.2 i hi fun x=>hs (k i hi x)⟩
end
section
variable {H:J2} {j k n off:Nat} {xs:J3}
theorem zor {g:IVal->Option PVal} (hg:∀x,g (.p x)=some x):∀l:List PVal,freezeList g (pcells l)=some l
 | []=>rfl
 |a::l=>by
  have:=zor hg l
  simp only[pcells,Aq]at this ⊢
  simp only[freezeList,hg,this]
theorem zdq {e:Nat} {v:IVal} {xs:List PVal} (h:HS H k e n v (pcells xs)):freezeCell H 100 v=some (.slice e n xs):=by
 obtain⟨ver,cs,op,rfl,hk,hn,hx⟩:=h
 have h2:(Nat.beq ver ver&&Nat.ble (0+n*e) cs.length)=true:=by
  rw[AH,AB,A3];exact AG hn
 rw[freezeCell]
 simp only[hk,h2,Bz,hx]
 rw[zor (fun x=>rfl)]
theorem HS.store {bx:List (Nat×IBlk)} {esz ver:Nat} {new:J3} (h:HS H k esz n (.slice k ver 0 n) xs) (ho:off+new.length<=n*esz) :
 ∃b,writeCells ⟨bx,H⟩ (J5 k ver off) new=some ⟨bx,H.set k b⟩/\HS (H.set k b) k esz n (.slice k ver 0 n) (splice xs off new):=by
 obtain⟨ver',cs,op,e,hk,hn,hx⟩:=h
 injection e with _ e2 _ _
 subst e2
 have hkl:=(Aa.1 hk).1
 refine⟨_,zan hk (by omega),ver,_,op,rfl,zaq hkl,?_,?_⟩
 ·simp only[splice,Af,A0,Br];omega
 ·rw[<- hx]
  unfold splice
  rw[CZ,CZ]
  simp only[A0,Cn]
  rw[BJ (show off<=n*esz by omega),BJ (show off<=cs.length by omega),Nat.min_eq_right (show off<=n*esz by omega)]
  congr 2
  ·rw[Au (by omega)]
  ·rw[List.drop_take];congr 1;omega
theorem HS.field {bx:List (Nat×IBlk)} {esz ver:Nat} {x:IVal} (h:HS H k esz n (.slice k ver 0 n) xs) (hx:xs[off]? = some x):loadVal ⟨bx,H⟩ none (J5 k ver off)=some x:=by
 obtain⟨ver',cs,op,e,hk,hn,hxs⟩:=h
 injection e with _ e2 _ _
 subst e2
 refine zae hk ?_
 rw[<- hxs,Bg]at hx
 split at hx
 ·exact hx
 ·cases hx
mutual
def Tree.height:Tree->Nat
 | .mk _ _ _ _ ks=>kheight ks+1
def kheight:Option (List Tree)->Nat
 |none=>0
 |some l=>lheight l
def lheight:List Tree->Nat
 | []=>0
 |t::r=>max t.height (lheight r)
end
theorem zdr (t:Tree):t.height=lheight (klist t.kids)+1:=by
 obtain⟨k,n,x,a,ks⟩:=t
 cases ks<;>simp[Tree.height,kheight,lheight,klist,Tree.kids]
def Tree.bare (t:Tree):Tree := .mk t.kind t.name t.text t.attrs none
structure Item where
 parent:Int
 size:Nat
 depth:Nat
 height:Nat
 place:Nat
 node:Tree
def icell (x:Item):List PVal:=[.int .i64 x.parent, .int .i64 x.size, .int .i64 x.depth, .int .i64 x.height, .int .i64 x.place, .int .i64 x.node.kind, .str x.node.name, .str x.node.text,aval x.node.attrs, .nilslice]
def icells (l:List Item):List PVal:=l.flatMap icell
theorem zmj:∀l:List Item,(icells l).length=l.length*10
 | []=>rfl
 |x::l=>by
  have:=zmj l
  simp only[icells,AD,Af,AA]at this ⊢
  rw[this];simp[icell];omega
theorem zra {l:List Item} (h:j<l.length):(icells l).drop (j*10)=icell l[j]++(icells l).drop (j*10+10):=by
 induction l generalizing j with
 |nil=>simp at h
 |cons x l ih =>
  have hx:(icell x).length=10:=rfl
  cases j with
  |zero =>
   simp only[icells,AD,CQ,Bz,CU,AB]
   rw[BL,AV (by omega),hx,AN]
   rfl
  |succ j =>
   have:=ih (j:=j) (by simpa using h)
   simp only[icells,AD,CV]at this ⊢
   rw[show(j+1)*10=(icell x).length+j*10 by rw[hx];omega,BL,AV (by omega),A1,AN,this,
    show(icell x).length+j*10+10=(icell x).length+(j*10+10)by omega,BL,AV (l:=icell x) (by omega),A1,AN]
theorem zaiv {l:List Item} {f:Nat} (h:j<l.length) (hf:f<10):(icells l)[j*10+f]? = (icell l[j])[f]? := by
 have h1:=zra h
 have h2:=congrArg (fun x=>x[f]?) h1
 simp only[AX]at h2
 rw[h2,Ab (by simpa[icell]using hf)]
theorem zafj {l:List Item} {f:Nat} {x:Item} {v:PVal} (h:j<l.length) (hf:f<10) (hx:icell x=(icell l[j]).set f v):icells (l.set j x)=(icells l).set (j*10+f) v:=by
 induction l generalizing j with
 |nil=>simp at h
 |cons y l ih =>
  have hy:(icell y).length=10:=rfl
  cases j with
  |zero =>
   simp only[CU]at hx
   simp only[icells,B9,AD,CQ,AB]
   rw[Bv _ _ (by omega),hx]
  |succ j =>
   have:=ih (j:=j) (by simpa using h) (by simpa using hx)
   simp only[icells,CK,AD]at this ⊢
   rw[Cu _ _ (by omega),this,hy,show(j+1)*10+f-10=j*10+f by omega]
theorem zafk {x:IVal} (h:off<xs.length):splice xs off [x]=xs.set off x:=by
 unfold splice
 rw[Bm,if_pos h]
 rfl
theorem zafl {l:List PVal} {i:Nat} {v:PVal}:pcells (l.set i v)=(pcells l).set i (.p v):=by simp[pcells,CA]
end
structure Vis where
 t:Tree
 parent:Int
 depth:Nat
 place:Nat
mutual
def visT:Tree->Nat->Int->Nat->Nat->List Vis
 | .mk k n x a ks,id,p,d,pl=>⟨.mk k n x a ks,p,d,pl⟩::visK ks (id+1) id (d+1)
def visK:Option (List Tree)->Nat->Nat->Nat->List Vis
 |none,_,_,_=>[]
 |some l,id,p,d=>visL l id p d 0
def visL:List Tree->Nat->Nat->Nat->Nat->List Vis
 | [],_,_,_,_=>[]
 |t::l,id,p,d,pl=>visT t id p d pl++visL l (id+t.size) p d (pl+1)
end
theorem zbj (t:Tree) (id:Nat) (p:Int) (d pl:Nat):visT t id p d pl=⟨t,p,d,pl⟩::visL (klist t.kids) (id+1) id (d+1) 0:=by
 obtain⟨k,n,x,a,ks⟩:=t
 cases ks<;>simp[visT,visK,visL,klist,Tree.kids]
theorem zaf (t:Tree):∀(id:Nat) (p:Int) (d pl:Nat),(visT t id p d pl).length=t.size:=by
 have key:∀(n:Nat) (t:Tree),t.size<n->∀(id:Nat) (p:Int) (d pl:Nat),(visT t id p d pl).length=t.size:=by
  intro n
  induction n with
  |zero=>intro t h;omega
  |succ n ih =>
   intro t h id p d pl
   have ht:=zag t
   have hl:∀(l:List Tree) (id p d pl:Nat),lsize l<n->(visL l id p d pl).length=lsize l:=by
    intro l
    induction l with
    |nil=>intros;rfl
    |cons u l ih2 =>
     intro id p d pl hl
     simp only[lsize]at hl
     simp only[visL,lsize,Af]
     rw[ih u (by omega),ih2 _ _ _ _ (by omega)]
   rw[zbj,AA,hl _ _ _ _ _ (by omega),ht]
 exact key _ t (Ai _)
mutual
def flatT:Tree->Nat->Int->Nat->Nat->List Item
 | .mk k n x a ks,id,p,d,pl=>⟨p,ksize ks+1,d,kheight ks+1,pl, .mk k n x a none⟩::flatK ks (id+1) id (d+1)
def flatK:Option (List Tree)->Nat->Nat->Nat->List Item
 |none,_,_,_=>[]
 |some l,id,p,d=>flatL l id p d 0
def flatL:List Tree->Nat->Nat->Nat->Nat->List Item
 | [],_,_,_,_=>[]
 |t::l,id,p,d,pl=>flatT t id p d pl++flatL l (id+t.size) p d (pl+1)
end
theorem zmk (t:Tree) (id:Nat) (p:Int) (d pl:Nat):flatT t id p d pl=⟨p,t.size,d,t.height,pl,t.bare⟩::flatL (klist t.kids) (id+1) id (d+1) 0:=by
 obtain⟨k,n,x,a,ks⟩:=t
 cases ks<;>simp[flatT,flatK,flatL,klist,Tree.kids,Tree.size,Tree.height,Tree.bare,Tree.kind,Tree.name,Tree.text,Tree.attrs]
theorem zabe (t:Tree):∀(id:Nat) (p:Int) (d pl:Nat),(flatT t id p d pl).length=t.size:=by
 have key:∀(n:Nat) (t:Tree),t.size<n->∀(id:Nat) (p:Int) (d pl:Nat),(flatT t id p d pl).length=t.size:=by
  intro n
  induction n with
  |zero=>intro t h;omega
  |succ n ih =>
   intro t h id p d pl
   have ht:=zag t
   have hl:∀(l:List Tree) (id p d pl:Nat),lsize l<n->(flatL l id p d pl).length=lsize l:=by
    intro l
    induction l with
    |nil=>intros;rfl
    |cons u l ih2 =>
     intro id p d pl hl
     simp only[lsize]at hl
     simp only[flatL,lsize,Af]
     rw[ih u (by omega),ih2 _ _ _ _ (by omega)]
   rw[zmk,AA,hl _ _ _ _ _ (by omega),ht]
 exact key _ t (Ai _)
theorem zcd (t:Tree):∀(id:Nat) (p:Int) (d pl:Nat),(visT t id p d pl).map (·.t)=t.nodes:=by
 have key:∀(n:Nat) (t:Tree),t.size<n->∀(id:Nat) (p:Int) (d pl:Nat),(visT t id p d pl).map (·.t)=t.nodes:=by
  intro n
  induction n with
  |zero=>intro t h;omega
  |succ n ih =>
   intro t h id p d pl
   have ht:=zag t
   have hl:∀(l:List Tree) (id p d pl:Nat),lsize l<n->(visL l id p d pl).map (·.t)=lnodes l:=by
    intro l
    induction l with
    |nil=>intros;rfl
    |cons u l ih2 =>
     intro id p d pl hl
     simp only[lsize]at hl
     simp only[visL,lnodes,Ay]
     rw[ih u (by omega),ih2 _ _ _ _ (by omega)]
   rw[zbj,Aq,hl _ _ _ _ _ (by omega),zbu]
 exact key _ t (Ai _)
def rawOf (v:Vis):Item:=⟨v.parent,1,v.depth,1,v.place,v.t.bare⟩
def bump (q:Item) (s h:Nat):Item:={ q with size:=q.size+s,height:=max q.height (h+1) }
def up1 (L:List Item) (i:Nat):List Item :=
 match L[i]? with
 |none=>L
 |some x=>match L[x.parent.toNat]? with
  |none=>L
  |some q=>L.set x.parent.toNat (bump q x.size x.height)
def backN (L:List Item) (lo:Nat):Nat->List Item
 |0=>L
 |n+1=>backN (up1 L (lo+n)) lo n
theorem zml (lo n:Nat):∀(m:Nat) (L:List Item),backN L lo (n+m)=backN (backN L (lo+n) m) lo n
 |0,L=>rfl
 |m+1,L=>by
  rw[<- BN,backN,backN,<-BN]
  exact zml lo n m _
theorem zafm (L:List Item) (i:Nat):(up1 L i).length=L.length:=by
 unfold up1
 split
 ·rfl
 ·split<;>simp
theorem zxw (q:Item) (s h s' h':Nat):bump (bump q s h) s' h'=bump q (s+s') (max h h'):=by
 simp only[bump,Item.mk.injEq,true_and,and_true]
 omega
theorem zaiw:∀(n:Nat) (t:Tree),t.size<n->∀(id p d pl:Nat) (A C:List Item) (hA:A.length=id) (hp:p<id),backN (A++(visT t id p d pl).map rawOf++C) id t.size=A.set p (bump (A[p]'(by omega)) t.size t.height)++flatT t id p d pl++C:=by
 intro n
 induction n with
 |zero=>intro t h;omega
 |succ n ih =>
  have hforest:∀(l:List Tree),lsize l<n->∀(id p d pl:Nat) (A C:List Item) (hA:A.length=id) (hp:p<id) (h1:1<=(A[p]'(by omega)).height),backN (A++(visL l id p d pl).map rawOf++C) id (lsize l)=A.set p (bump (A[p]'(by omega)) (lsize l) (lheight l))++flatL l id p d pl++C:=by
   intro l
   induction l with
   |nil =>
    intro _ id p d pl A C hA hp h1
    have hb:bump (A[p]'(by omega)) 0 0=A[p]'(by omega):=by
     simp only[bump,Bi,AB,Nat.max_eq_left h1]
    simp[visL,lsize,backN,flatL,lheight,hb]
   |cons t l ihl =>
    intro hl id p d pl A C hA hp h1
    simp only[lsize]at hl
    have hlen:(A++(visT t id p d pl).map rawOf).length=id+t.size:=by simp[hA,zaf]
    have hget:(A++(visT t id p d pl).map rawOf)[p]'(by omega)=A[p]'(by omega):=List.getElem_append_left (by omega)
    have e1:=ihl (by omega) (id+t.size) p d (pl+1) (A++(visT t id p d pl).map rawOf) C hlen (by omega) (by rw[hget];exact h1)
    rw[hget]at e1
    rw[Bv _ _ (by omega)]at e1
    have e2:=ih t (by omega) id p d pl (A.set p (bump (A[p]'(by omega)) (lsize l) (lheight l))) (flatL l (id+t.size) p d (pl+1)++C) (by simp[hA]) hp
    simp only[visL,Ay,lsize,flatL,lheight]
    rw[zml,<-Aw A,e1]
    simp only[Aw]at e2 ⊢
    rw[e2]
    simp only[List.getElem_set_self,CD,zxw]
    rw[BK (lsize l),Nat.max_comm (lheight l)]
  intro t h id p d pl A C hA hp
  have ht:=zag t
  have hh:=zdr t
  rw[zbj,zmk,ht]
  have e1:=hforest (klist t.kids) (by omega) (id+1) id (d+1) 0 (A++[rawOf ⟨t,p,d,pl⟩]) C (by simp[hA]) (by omega) (by simp[<- hA,rawOf])
  have hg:(A++[rawOf ⟨t,p,d,pl⟩])[id]'(by simp[hA])=rawOf ⟨t,p,d,pl⟩:=by simp[<- hA]
  rw[hg,Cu _ _ (by omega)]at e1
  have hz:id-A.length=0:=by omega
  rw[hz,B9]at e1
  have hb:bump (rawOf ⟨t,p,d,pl⟩) (lsize (klist t.kids)) (lheight (klist t.kids))=⟨p,t.size,d,t.height,pl,t.bare⟩:=by
   simp only[bump,rawOf,ht,hh,Item.mk.injEq,true_and,and_true]
   omega
  rw[hb]at e1
  rw[BK (lsize (klist t.kids)) 1,zml,Aq]
  simp only[Aw,At,AN]at e1 ⊢
  rw[e1]
  simp only[backN,Bi]
  have hi:(A++(⟨p,t.size,d,t.height,pl,t.bare⟩:Item)::(flatL (klist t.kids) (id+1) id (d+1) 0++C))[id]? = some ⟨p,t.size,d,t.height,pl,t.bare⟩:=by
   rw[Ae (by omega),hz];rfl
  have hq:(A++(⟨p,t.size,d,t.height,pl,t.bare⟩:Item)::(flatL (klist t.kids) (id+1) id (d+1) 0++C))[p]? = some (A[p]'(by omega)):=by
   rw[Ab (by omega),Ac]
  unfold up1
  simp only[hi,Int.toNat_natCast,hq]
  rw[Bv _ _ (by omega)]
  have e4:lsize (klist t.kids)+1=t.size:=ht.symm
  rw[show 1+lsize (klist t.kids)=t.size by omega]
theorem zaix (t:Tree):backN ((visT t 0 (-1) 0 0).map rawOf) 1 (lsize (klist t.kids))=flatT t 0 (-1) 0 0:=by
 have hforest:∀(l:List Tree) (A C:List Item) (id p d pl:Nat) (hA:A.length=id) (hp:p<id) (h1:1<=(A[p]'(by omega)).height),backN (A++(visL l id p d pl).map rawOf++C) id (lsize l)=A.set p (bump (A[p]'(by omega)) (lsize l) (lheight l))++flatL l id p d pl++C:=by
  intro l
  induction l with
  |nil =>
   intro A C id p d pl hA hp h1
   have hb:bump (A[p]'(by omega)) 0 0=A[p]'(by omega):=by
    simp only[bump,Bi,AB,Nat.max_eq_left h1]
   simp[visL,lsize,backN,flatL,lheight,hb]
  |cons t l ihl =>
   intro A C id p d pl hA hp h1
   have hlen:(A++(visT t id p d pl).map rawOf).length=id+t.size:=by simp[hA,zaf]
   have hget:(A++(visT t id p d pl).map rawOf)[p]'(by omega)=A[p]'(by omega):=List.getElem_append_left (by omega)
   have e1:=ihl (A++(visT t id p d pl).map rawOf) C (id+t.size) p d (pl+1) hlen (by omega) (by rw[hget];exact h1)
   rw[hget]at e1
   rw[Bv _ _ (by omega)]at e1
   have e2:=zaiw _ t (Ai _) id p d pl (A.set p (bump (A[p]'(by omega)) (lsize l) (lheight l))) (flatL l (id+t.size) p d (pl+1)++C) (by simp[hA]) hp
   simp only[visL,Ay,lsize,flatL,lheight]
   rw[zml,<-Aw A,e1]
   simp only[Aw]at e2 ⊢
   rw[e2]
   simp only[List.getElem_set_self,CD,zxw]
   rw[BK (lsize l),Nat.max_comm (lheight l)]
 have ht:=zag t
 have hh:=zdr t
 rw[zbj,zmk]
 have e1:=hforest (klist t.kids) [rawOf ⟨t, -1,0,0⟩] [] 1 0 1 0 rfl (by omega) (by simp[rawOf])
 simp only[AQ,List.singleton_append,CU,B9]at e1
 rw[Aq,e1]
 congr 1
 simp only[bump,rawOf,ht,hh,Item.mk.injEq,true_and,and_true]
 omega
section
variable {H:J2} {esz k n:Nat} {o:Option Nat} {v:IVal} {xs:J3}
def VS (H:J2) (o:Option Nat) (esz n:Nat) (v:IVal) (xs:J3):Prop :=
 match o with
 |none=>v = .p .nilslice/\n=0/\xs=[]
 |some k=>HS H k esz n v xs
theorem VS.nil:VS H none esz 0 (.p .nilslice) []:=⟨rfl,rfl,rfl⟩
theorem VS.len (h:VS H o esz n v xs):sliceLen v=some n:=by
 cases o with
 |none=>obtain⟨rfl,rfl,_⟩:=h;rfl
 |some k=>exact HS.len h
theorem VS.up (h:VS H o esz n v xs):up v = .v v:=by
 cases o with
 |none=>obtain⟨rfl,rfl,_⟩:=h;rfl
 |some k=>obtain⟨_,_,_,rfl,_⟩:=h;rfl
theorem VS.pass (h:VS H o esz n v xs):v.passOK=true:=by
 cases o with
 |none=>obtain⟨rfl,rfl,_⟩:=h;rfl
 |some k=>obtain⟨_,_,_,rfl,_⟩:=h;rfl
theorem VS.cells (h:VS H o esz n v xs):v.cellsOf=some [v]:=by
 cases o with
 |none=>obtain⟨rfl,rfl,_⟩:=h;rfl
 |some k=>obtain⟨_,_,_,rfl,_⟩:=h;rfl
theorem VS.keep {H':J2} (h:VS H o esz n v xs) {S:Nat->Prop} (hk:Keep S H H') (hs:∀k,o=some k->¬S k):VS H' o esz n v xs:=by
 cases o with
 |none=>exact h
 |some k=>exact HS.keep h (hk.2 k (HS.lt h) (hs k rfl))
theorem VS.lt (h:VS H (some k) esz n v xs):k<H.length:=HS.lt h
theorem HS.xlen (h:HS H k esz n v xs):xs.length=n*esz:=by
 obtain⟨ver,cs,op,rfl,hk,hn,hx⟩:=h
 rw[<- hx,A0];omega
theorem VS.xlen (h:VS H o esz n v xs):xs.length=n*esz:=by
 cases o with
 |none=>obtain⟨_,rfl,rfl⟩:=h;simp
 |some k=>exact HS.xlen h
theorem VS.append1 {ys:J3} (h:VS H o esz n v xs) (hy:ys.length=esz) (hb:n<1000000000) :
 ∃v' H' o',evalAppend ⟨[],H++[.cells ys esz 0 false]⟩ esz v (.slice H.length 0 0 1)=some (v',⟨[],H'⟩)/\VS H' o' esz (n+1) v' (xs++ys)/\Keep (fun x=>o=some x) H H'/\H.length<H'.length/\(o'=o\/∃k,o'=some k/\H.length<=k)/\∃k,o'=some k:=by
 have hsrc:srcCells ⟨[],H++[.cells ys esz 0 false]⟩ esz (.slice H.length 0 0 1)=some ys:=zbv (op:=false) zaz (by omega)
 cases o with
 |none =>
  obtain⟨rfl,rfl,rfl⟩:=h
  refine⟨_,_,some (H.length+1),append_nil hsrc rfl (by omega) (by omega),⟨0,ys,true,by simp,?_,by omega,?_⟩,Keep.new.trans Keep.new,by simp, .inr ⟨_,rfl,by omega⟩,_,rfl⟩
  ·have:(H++[IBlk.cells ys esz 0 false]++[IBlk.cells ys esz 0 true])[(H++[IBlk.cells ys esz 0 false]).length]? = some (IBlk.cells ys esz 0 true):=zaz
   simp at this ⊢
  ·rw[Au (by omega)];rfl
 |some k =>
  obtain⟨ver,cs,op,rfl,hkk,hnn,hxs⟩:=h
  have hkl:=(Aa.1 hkk).1
  have happ:=zbd (bx:=[]) (H:=H++[IBlk.cells ys esz 0 false]) (ny:=1) (by rw[Ab hkl];exact hkk) hnn hsrc rfl (by omega) (by omega)
  have hnew:=zgw (H:=H++[IBlk.cells ys esz 0 false]) (ver:=ver) (op:=op) (ys:=ys) (ny:=1) (k:=k) (by simp;omega) hnn (by omega)
  rw[hxs]at hnew
  exact⟨_,_,some k,happ,hnew,Keep.new.trans (Keep.set (.inl rfl)),by simp, .inl rfl,_,rfl⟩
theorem VS.cut {m:Nat} (h:VS H (some k) esz n v xs) (hm:m<=n):∃ver,v = .slice k ver 0 n/\VS H (some k) esz m (.slice k ver 0 m) (xs.take (m*esz))/\∃cs op,H[k]? = some (.cells cs esz ver op):=by
 obtain⟨ver,cs,op,rfl,hkk,hnn,hxs⟩:=h
 have hle:m*esz<=n*esz:=Bu _ hm
 refine⟨ver,rfl,⟨ver,cs,op,rfl,hkk,by omega,?_⟩,cs,op,hkk⟩
 rw[<- hxs,Cn,BJ hle]
theorem VS.at1 {j:Nat} (h:VS H (some k) 1 n v xs) (hj:j<n):∃ver,idxS 1 v (J4 j)=some (J5 k ver j)/\∀x,xs[j]? = some x->loadVal ⟨[],H⟩ none (J5 k ver j)=some x:=by
 obtain⟨ver,cs,op,rfl,hkk,hnn,hxs⟩:=h
 refine⟨ver,by rw[zba hj];simp,fun x hx=>?_⟩
 exact HS.field ⟨ver,cs,op,rfl,hkk,hnn,hxs⟩ hx
theorem zcz {e:Nat} {xs:List PVal} (h:VS H o e n v (pcells xs)):freezeCell H 100 v=some (match o with|none=>.nilslice|some _=>.slice e n xs):=by
 cases o with
 |none=>obtain⟨rfl,_,_⟩:=h;rfl
 |some k=>exact zdq h
def nints (l:List Nat):List PVal:=l.map fun(n:Nat)=>PVal.int .i64 (n:Int)
end
mutual
def postT:Tree->Nat->List Nat
 | .mk _ _ _ _ ks,id=>postK ks (id+1)++[id]
def postK:Option (List Tree)->Nat->List Nat
 |none,_=>[]
 |some l,id=>postL l id
def postL:List Tree->Nat->List Nat
 | [],_=>[]
 |t::l,id=>postT t id++postL l (id+t.size)
end
theorem zgi (t:Tree) (id:Nat):postT t id=postL (klist t.kids) (id+1)++[id]:=by
 obtain⟨k,n,x,a,ks⟩:=t
 cases ks<;>simp[postT,postK,postL,klist,Tree.kids]
def popR (e:Nat->Nat) (i:Nat):List Nat->List Nat×List Nat
 | []=>([],[])
 |o::r=>if e o<=i then(o::(popR e i r).1,(popR e i r).2)else([],o::r)
def pop (e:Nat->Nat) (i:Nat) (S:List Nat×List Nat):List Nat×List Nat:=(S.1++(popR e i S.2).1,(popR e i S.2).2)
def stepP (e:Nat->Nat) (i:Nat) (S:List Nat×List Nat):List Nat×List Nat:=((pop e i S).1,i::(pop e i S).2)
def runP (e:Nat->Nat):Nat->Nat->List Nat×List Nat->List Nat×List Nat
 |_,0,S=>S
 |i,n+1,S=>runP e (i+1) n (stepP e i S)
theorem zpf (e:Nat->Nat):∀(n m i:Nat) (S:List Nat×List Nat),runP e i (n+m) S=runP e (i+n) m (runP e i n S)
 |0,m,i,S=>by simp[runP]
 |n+1,m,i,S=>by
  rw[show n+1+m=(n+m)+1 by omega,runP,zpf e n m,runP]
  congr 1;omega
theorem zxx {e:Nat->Nat} {i:Nat} {R:List Nat} (h:∀o∈R,i<e o):popR e i R=([],R):=by
 cases R with
 |nil=>rfl
 |cons o r =>
  have:=h o (by simp)
  rw[popR,if_neg (by omega)]
theorem zxy {e:Nat->Nat} {i:Nat}:∀R:List Nat,popR e i (popR e i R).2=([],(popR e i R).2)
 | []=>rfl
 |o::r=>by
  rw[popR]
  split
  ·exact zxy r
  ·rename_i h;rw[popR,if_neg h]
theorem zavl {e:Nat->Nat} {i:Nat} {S:List Nat×List Nat}:pop e i (pop e i S)=pop e i S:=by
 simp only[pop,zxy,AQ]
theorem zaog {e:Nat->Nat} {i n:Nat} {S:List Nat×List Nat}:runP e i (n+1) (pop e i S)=runP e i (n+1) S:=by
 simp only[runP,stepP,zavl]
def EndsL (e:Nat->Nat) (l:List Tree) (id:Nat):Prop:=∀(p d pl i:Nat) (v:Vis),(visL l id p d pl)[i]? = some v->e (id+i)=id+i+v.t.size
def EndsT (e:Nat->Nat) (t:Tree) (id:Nat):Prop:=∀(p:Int) (d pl i:Nat) (v:Vis),(visT t id p d pl)[i]? = some v->e (id+i)=id+i+v.t.size
theorem zaiy (e:Nat->Nat):∀(n:Nat) (t:Tree),t.size<n->∀(id:Nat),EndsT e t id->∀(l R:List Nat),(∀ o∈R,id+t.size<=e o)->∀j,id+t.size<=j->pop e j (runP e id t.size (l,R))=pop e j (l++postT t id,R):=by
 intro n
 induction n with
 |zero=>intro t h;omega
 |succ n ih =>
  have hforest:∀(f:List Tree),lsize f<n->∀(id:Nat),EndsL e f id->∀(l R:List Nat),(∀ o∈R,id+lsize f<=e o)->∀j,id+lsize f<=j->pop e j (runP e id (lsize f) (l,R))=pop e j (l++postL f id,R):=by
   intro f
   induction f with
   |nil=>intro _ id _ l R _ j _;simp[lsize,runP,postL]
   |cons t f ihf =>
    intro hl id hE l R hR j hj
    simp only[lsize]at hl hR hj ⊢
    have hEt:EndsT e t id:=by
     intro p d pl i v hv
     have hi:=(Aa.1 hv).1
     rw[zaf]at hi
     have hv0:∃v0,(visT t id (0:Nat) 0 0)[i]? = some v0/\v0.t=v.t:=by
      have h1:=congrArg (fun l=>l[i]?) ((zcd t id p d pl).trans (zcd t id (0:Nat) 0 0).symm)
      simp only[Ap,hv,AI]at h1
      cases h2:(visT t id (0:Nat) 0 0)[i]? with
      |none=>rw[h2]at h1;cases h1
      |some v0=>rw[h2]at h1;simp at h1;exact⟨v0,rfl,h1.symm⟩
     obtain⟨v0,h1,h2⟩:=hv0
     have:=hE 0 0 0 i v0 (by rw[visL,Ab (by rw[zaf];exact hi)];exact h1)
     rw[this,h2]
    have hEf:EndsL e f (id+t.size):=by
     intro p d pl i v hv
     have h1:(visL f (id+t.size) p d pl)[i]? = some v:=hv
     have hx:∃v0,(visL f (id+t.size) 0 0 1)[i]? = some v0/\v0.t=v.t:=by
      have hn:∀(f:List Tree) (a p d pl b q c pl2:Nat),(visL f a p d pl).map (·.t)=(visL f b q c pl2).map (·.t):=by
       intro f
       induction f with
       |nil=>intros;rfl
       |cons u f ih3 =>
        intro a p d pl b q c pl2
        simp only[visL,Ay,zcd]
        rw[ih3]
      have h2:=congrArg (fun l=>l[i]?) (hn f (id+t.size) p d pl (id+t.size) 0 0 1)
      simp only[Ap,hv,AI]at h2
      cases h3:(visL f (id+t.size) 0 0 1)[i]? with
      |none=>rw[h3]at h2;cases h2
      |some v0=>rw[h3]at h2;simp at h2;exact⟨v0,rfl,h2.symm⟩
     obtain⟨v0,h3,h4⟩:=hx
     have:=hE 0 0 0 (t.size+i) v0 (by rw[visL,Ae (by rw[zaf];omega),zaf,A1];exact h3)
     rw[<- BN]at this
     rw[this,h4]
    rw[zpf]
    have h0:=zac t
    by_cases hf0:f=[]
    ·subst hf0
     simp only[lsize,Bi,runP,postL,AQ]at hR hj ⊢
     exact ih t (by omega) id hEt l R hR j hj
    ·have hf1:∃m,lsize f=m+1:=by
      cases f with
      |nil=>exact absurd rfl hf0
      |cons u f=>have:=zac u;exact⟨u.size+lsize f-1,by simp only[lsize];omega⟩
     obtain⟨m,hm⟩:=hf1
     have e1:=ih t (by omega) id hEt l R (fun o ho=>by have:=hR o ho;omega) (id+t.size) (Am _)
     have e2:pop e (id+t.size) (l++postT t id,R)=(l++postT t id,R):=by
      simp only[pop]
      rw[zxx (fun o ho=>by have:=hR o ho;omega)]
      simp
     rw[hm,<-zaog,e1,e2,<-hm]
     have e3:=ihf (by omega) (id+t.size) hEf (l++postT t id) R (fun o ho=>by have:=hR o ho;omega) j (by omega)
     rw[e3]
     simp only[postL,Aw]
  intro t h id hE l R hR j hj
  have ht:=zag t
  have he:e id=id+t.size:=by
   have:=hE 0 0 0 0 ⟨t,0,0,0⟩ (by rw[zbj];rfl)
   simpa using this
  have hEk:EndsL e (klist t.kids) (id+1):=by
   intro p d pl i v hv
   have hn:∀(f:List Tree) (a p d pl b q c pl2:Nat),(visL f a p d pl).map (·.t)=(visL f b q c pl2).map (·.t):=by
    intro f
    induction f with
    |nil=>intros;rfl
    |cons u f ih3 =>
     intro a p d pl b q c pl2
     simp only[visL,Ay,zcd]
     rw[ih3]
   have h2:=congrArg (fun l=>l[i]?) (hn (klist t.kids) (id+1) p d pl (id+1) id 1 0)
   simp only[Ap,hv,AI]at h2
   cases h3:(visL (klist t.kids) (id+1) id 1 0)[i]? with
   |none=>rw[h3]at h2;cases h2
   |some v0 =>
    rw[h3]at h2
    simp at h2
    have:=hE 0 0 0 (i+1) v0 (by rw[zbj,Ax];exact h3)
    rw[show id+(i+1)=id+1+i by omega]at this
    rw[this,h2]
  rw[show t.size=1+lsize (klist t.kids)by omega,zpf]
  have e1:runP e id 1 (l,R)=(l,id::R):=by
   simp only[runP,stepP,pop]
   rw[zxx (fun o ho=>by have:=hR o ho;omega)]
   simp
  rw[e1,hforest (klist t.kids) (by omega) (id+1) hEk l (id::R) (fun o ho=>by
   rcases Ak.1 ho with rfl|ho
   ·rw[he];omega
   ·have:=hR o ho;omega) j (by omega)]
  rw[zgi]
  simp only[pop]
  rw[popR,if_pos (by rw[he];exact hj)]
  simp[Aw]
theorem zaiz (e:Nat->Nat) (t:Tree) (hE:EndsT e t 0):runP e 0 (t.size+1) ([],[])=(postT t 0,[t.size]):=by
 rw[zpf]
 have:=zaiy e _ t (Ai _) 0 hE [] [] (by simp) t.size (by omega)
 simp only[runP,stepP,AB,this]
 simp[pop,popR]
def fullOf (v:Vis):Item:=⟨v.parent,v.t.size,v.depth,v.t.height,v.place,v.t.bare⟩
theorem zdz (t:Tree):∀(id:Nat) (p:Int) (d pl:Nat),flatT t id p d pl=(visT t id p d pl).map fullOf:=by
 have key:∀(n:Nat) (t:Tree),t.size<n->∀(id:Nat) (p:Int) (d pl:Nat),flatT t id p d pl=(visT t id p d pl).map fullOf:=by
  intro n
  induction n with
  |zero=>intro t h;omega
  |succ n ih =>
   intro t h id p d pl
   have ht:=zag t
   have hl:∀(l:List Tree) (id p d pl:Nat),lsize l<n->flatL l id p d pl=(visL l id p d pl).map fullOf:=by
    intro l
    induction l with
    |nil=>intros;rfl
    |cons u l ih2 =>
     intro id p d pl hl
     simp only[lsize]at hl
     simp only[flatL,visL,Ay]
     rw[ih u (by omega),ih2 _ _ _ _ (by omega)]
   rw[zmk,zbj,Aq,hl _ _ _ _ _ (by omega)]
   rfl
 exact key _ t (Ai _)
def Tree.items (t:Tree):List Item:=flatT t 0 (-1) 0 0
theorem zos (t:Tree):t.items.length=t.size:=zabe t _ _ _ _
def endOf (t:Tree) (k:Nat):Nat:=match t.items[k]? with|some x=>k+x.size|none=>0
theorem zaoh (t:Tree):EndsT (endOf t) t 0:=by
 intro p d pl i v hv
 have h1:=congrArg (fun l=>l[i]?) ((zcd t 0 p d pl).trans (zcd t 0 (-1) 0 0).symm)
 simp only[Ap,hv,AI]at h1
 cases h2:(visT t 0 (-1) 0 0)[i]? with
 |none=>rw[h2]at h1;cases h1
 |some v0 =>
  rw[h2]at h1
  simp at h1
  have:t.items[i]? = some (fullOf v0):=by rw[Tree.items,zdz,Ap,h2];rfl
  simp only[endOf,AB,this,fullOf,h1]
theorem zal (t:Tree):∀id,(postT t id).length=t.size:=by
 have key:∀(n:Nat) (t:Tree),t.size<n->∀id,(postT t id).length=t.size:=by
  intro n
  induction n with
  |zero=>intro t h;omega
  |succ n ih =>
   intro t h id
   have ht:=zag t
   have hl:∀(l:List Tree) (id:Nat),lsize l<n->(postL l id).length=lsize l:=by
    intro l
    induction l with
    |nil=>intros;rfl
    |cons u l ih2 =>
     intro id hl
     simp only[lsize]at hl
     simp only[postL,lsize,Af]
     rw[ih u (by omega),ih2 _ (by omega)]
   rw[zgi,Af,hl _ _ (by omega),ht];rfl
 exact key _ t (Ai _)
def ival (t:Tree):PVal := .slice 10 t.size (icells t.items)
theorem zbq {t:Tree} {j:Nat} {x:Item} (h:t.items[j]? = some x):idxS 10 (.p (ival t)) (J4 j)=some (.p (.ptr (.int .i64 x.parent :: .int .i64 x.size :: .int .i64 x.depth :: .int .i64 x.height :: .int .i64 x.place :: .int .i64 x.node.kind :: .str x.node.name :: .str x.node.text::aval x.node.attrs :: .nilslice::(icells t.items).drop (j*10+10)))):=by
 obtain⟨h1,h2⟩:=Aa.1 h
 rw[ival,zcm (by rw[<- zos];exact h1),zra h1,h2]
 rfl
@[simp] theorem zaoi {t:Tree}:sliceLen (.p (ival t))=some t.size:=rfl
@[simp] theorem zbex {t:Tree}:up (.p (ival t)) = .v (.p (ival t)):=rfl
mutual
def postS:Tree->List Tree
 | .mk k n x a ks=>postSK ks++[.mk k n x a ks]
def postSK:Option (List Tree)->List Tree
 |none=>[]
 |some l=>postSL l
def postSL:List Tree->List Tree
 | []=>[]
 |t::l=>postS t++postSL l
end
theorem zea (t:Tree):postS t=postSL (klist t.kids)++[t]:=by
 obtain⟨k,n,x,a,ks⟩:=t
 cases ks<;>simp[postS,postSK,postSL,klist,Tree.kids]
theorem zcl:∀a b:List Tree,postSL (a++b)=postSL a++postSL b
 | [],b=>rfl
 |t::a,b=>by simp only[At,postSL,zcl a b,Aw]
theorem zadh (t:Tree):∀(id:Nat) (p:Int) (d pl:Nat),(postT t id).map (fun i=>((visT t id p d pl)[i-id]?).map (·.t))=(postS t).map some/\∀i∈postT t id,id<=i/\i<id+t.size:=by
 have key:∀(n:Nat) (t:Tree),t.size<n->∀(id:Nat) (p:Int) (d pl:Nat),(postT t id).map (fun i=>((visT t id p d pl)[i-id]?).map (·.t))=(postS t).map some/\∀i∈postT t id,id<=i/\i<id+t.size:=by
  intro n
  induction n with
  |zero=>intro t h;omega
  |succ n ih =>
   intro t h id p d pl
   have ht:=zag t
   have hl:∀(l:List Tree),lsize l<n->∀(id p d pl:Nat),(postL l id).map (fun i=>((visL l id p d pl)[i-id]?).map (·.t))=(postSL l).map some/\∀i∈postL l id,id<=i/\i<id+lsize l:=by
    intro l
    induction l with
    |nil=>intro _ id p d pl;simp[postL,postSL]
    |cons u l ih2 =>
     intro hl id p d pl
     simp only[lsize]at hl
     obtain⟨a1,a2⟩:=ih u (by omega) id p d pl
     obtain⟨b1,b2⟩:=ih2 (by omega) (id+u.size) p d (pl+1)
     constructor
     ·simp only[postL,postSL,visL,Ay,<-a1,<-b1]
      congr 1
      ·refine Ci fun i hi=>?_
       have:=a2 i hi
       rw[Ab (by rw[zaf];omega)]
      ·refine Ci fun i hi=>?_
       have:=b2 i hi
       rw[Ae (by rw[zaf];omega),zaf]
       congr 2;omega
     ·intro i hi
      simp only[postL,Ar]at hi
      simp only[lsize]
      rcases hi with hi|hi
      ·have:=a2 i hi;omega
      ·have:=b2 i hi;omega
   obtain⟨a1,a2⟩:=hl (klist t.kids) (by omega) (id+1) id (d+1) 0
   constructor
   ·simp only[zgi,zea,zbj,Ay,Aq,BG,Bk,AK,AI,<-a1]
    congr 1
    refine Ci fun i hi=>?_
    have:=a2 i hi
    rw[show i-id=(i-(id+1))+1 by omega,Ax]
   ·intro i hi
    rw[zgi,Ar]at hi
    rcases hi with hi|hi
    ·have:=a2 i hi;omega
    ·simp at hi;omega
 exact key _ t (Ai _)
theorem zak (t:Tree):(postS t).length=t.size:=by
 have:=congrArg List.length (zadh t 0 0 0 0).1
 simp only[A4,zal]at this
 exact this.symm
theorem zgx {t:Tree} {k i:Nat} (h:(postT t 0)[k]? = some i):∃u v,(postS t)[k]? = some u/\(visT t 0 (-1) 0 0)[i]? = some v/\v.t=u/\t.items[i]? = some (fullOf v)/\i<t.size:=by
 obtain⟨h1,h2⟩:=zadh t 0 (-1) 0 0
 have h3:=congrArg (fun l=>l[k]?) h1
 simp only[Ap,h,AI,C7]at h3
 have h4:=h2 i (Ao h)
 cases hv:(visT t 0 (-1) 0 0)[i]? with
 |none =>
  rw[CF,zaf]at hv
  omega
 |some v =>
  rw[hv]at h3
  cases hu:(postS t)[k]? with
  |none=>rw[hu]at h3;cases h3
  |some u =>
   rw[hu]at h3
   simp at h3
   exact⟨u,v,rfl,rfl,h3,by rw[Tree.items,zdz,Ap,hv];rfl,by omega⟩
theorem ztg (t:Tree):∀(j:Nat) (u:Tree),(postS t)[j]? = some u->∃A B,postS t=A++(postS u++B)/\A.length+u.size=j+1:=by
 have key:∀(n:Nat) (t:Tree),t.size<n->∀(j:Nat) (u:Tree),(postS t)[j]? = some u->∃A B,postS t=A++(postS u++B)/\A.length+u.size=j+1:=by
  intro n
  induction n with
  |zero=>intro t h;omega
  |succ n ih =>
   intro t h j u hu
   have ht:=zag t
   have hl:∀(l:List Tree),lsize l<n->∀(j:Nat) (u:Tree),(postSL l)[j]? = some u->∃A B,postSL l=A++(postS u++B)/\A.length+u.size=j+1:=by
    intro l
    induction l with
    |nil=>intro _ j u h;simp[postSL]at h
    |cons w l ih2 =>
     intro hl j u h
     simp only[lsize]at hl
     simp only[postSL]at h ⊢
     by_cases hj:j<w.size
     ·rw[Ab (by rw[zak];exact hj)]at h
      obtain⟨A,B,e1,e2⟩:=ih w (by omega) j u h
      exact⟨A,B++postSL l,by rw[e1];simp,e2⟩
     ·rw[Ae (by rw[zak];omega),zak]at h
      obtain⟨A,B,e1,e2⟩:=ih2 (by omega) _ u h
      exact⟨postS w++A,B,by rw[e1];simp,by rw[Af,zak];omega⟩
   rw[zea]at hu
   by_cases hj:j<(postSL (klist t.kids)).length
   ·rw[Ab hj]at hu
    obtain⟨A,B,e1,e2⟩:=hl _ (by omega) j u hu
    exact⟨A,B++[t],by rw[zea,e1];simp,e2⟩
   ·rw[Ae (by omega)]at hu
    have hj2:j=(postSL (klist t.kids)).length:=by
     have:=(Aa.1 hu).1
     simp only[AO]at this;omega
    subst hj2
    rw[Bk]at hu
    injection hu with hu
    subst hu
    refine⟨[],[],by simp,?_⟩
    have:=zak t
    rw[zea,Af,AO]at this
    simp;omega
 exact key _ t (Ai _)
theorem VS.appendStore {H:J2} {o:Option Nat} {esz n:Nat} {v:IVal} {xs zs ys:J3} (h:VS H o esz n v xs) (hz:zs.length=esz) (hy:ys.length=esz) (hb:n<1000000000) :
 ∃v' H' k ver b,evalAppend ⟨[],H++[.cells zs esz 0 false]⟩ esz v (.slice H.length 0 0 1)=some (v',⟨[],H'⟩)/\Ideal.up v'=SV.v v'/\idxS esz v' (J4 n)=some (J5 k ver (n*esz)) /\
  (∀ H3:J2,H3[k]? = H'[k]? -> writeCells ⟨[],H3⟩ (J5 k ver (n*esz)) ys=some ⟨[],H3.set k b⟩)/\(∀ H3:J2,H3[k]? = some b->VS H3 (some k) esz (n+1) v' (xs++ys))/\Keep (fun x=>o=some x) H H'/\k<H'.length/\(o=some k\/H.length<=k)/\v'.cellsOf=some [v']/\H.length<H'.length:=by
 obtain⟨v',H',o',a1,a2,a3,a4,a5,k,rfl⟩:=h.append1 hz hb
 obtain⟨ver,cs,op,rfl,hkk,hnn,hxs⟩:=a2
 have hkl:=(Aa.1 hkk).1
 have hle:n*esz+esz=(n+1)*esz:=by rw[Cp]
 refine⟨_,H',k,ver, .cells (splice cs (n*esz) ys) esz ver op,a1,rfl,by rw[zba (by omega),AB],?_,?_,a3,hkl,?_,rfl,a4⟩
 ·intro H3 h3
  rw[zan (by rw[h3];exact hkk) (by omega)]
 ·intro H3 h3
  refine⟨ver,_,op,rfl,h3,?_,?_⟩
  ·simp only[splice,Af,A0,Br];omega
  ·have hx:=VS.xlen h
   have h5:=congrArg (List.take (n*esz)) hxs
   rw[Cn,BJ (by omega),List.take_left' hx]at h5
   unfold splice
   rw[h5,<-Aw,List.take_left' (by simp[hx,hy,hle])]
 ·rcases a5 with e|⟨k',e,hk'⟩
  ·exact .inl e.symm
  ·injection e with e;subst e;exact .inr hk'
end Go.Ideal
namespace Go.Ideal
open Go
attribute [-simp] getElem?_pos
section
variable {H:J2} {esz j n:Nat} {o o1:Option Nat} {t:Tree} {v:IVal} {xs ys:J3}
def nattr (a:Option Attrs):Option Attrs:=if alist a=[]then none else a
def Tree.nbare (t:Tree):Tree := .mk t.kind t.name t.text (nattr t.attrs) none
@[simp] theorem zazl (t:Tree):t.nbare.kind=t.kind:=rfl
@[simp] theorem zazm (t:Tree):t.nbare.name=t.name:=rfl
@[simp] theorem zazn (t:Tree):t.nbare.text=t.text:=rfl
@[simp] theorem zabf (t:Tree):t.nbare.attrs=nattr t.attrs:=rfl
@[simp] theorem zazo (t:Tree):t.nbare.kids=none:=rfl
@[simp] theorem zbby:kval none = .nilslice:=rfl
theorem zbe (a:Option Attrs):alist (nattr a)=alist a:=by
 unfold nattr
 split
 ·rename_i h;rw[h];rfl
 ·rfl
def rcell (v:Vis) (s h:Nat):List PVal:=[.int .i64 v.parent, .int .i64 s, .int .i64 v.depth, .int .i64 h, .int .i64 v.place,
 .int .i64 v.t.kind, .str v.t.name, .str v.t.text,aval (nattr v.t.attrs), .nilslice, .int .i64 v.t.kind, .str v.t.name, .str v.t.text,aval v.t.attrs,kval v.t.kids]
def rfull (v:Vis):List PVal:=rcell v v.t.size v.t.height
def rcells (l:List Vis):List PVal:=l.flatMap rfull
theorem zth:∀l:List Vis,(rcells l).length=l.length*15
 | []=>rfl
 |v::l=>by
  have:=zth l
  simp only[rcells,AD,Af,AA]at this ⊢
  rw[this];simp[rfull,rcell];omega
theorem zafn (a b:List Vis):rcells (a++b)=rcells a++rcells b:=by simp[rcells]
theorem zabg {l:List Vis} {v:Vis} (h:l[j]? = some v):(rcells l).drop (j*15)=rfull v++(rcells l).drop (j*15+15):=by
 induction l generalizing j with
 |nil=>simp at h
 |cons x l ih =>
  have hx:(rfull x).length=15:=rfl
  cases j with
  |zero =>
   rw[AK]at h
   injection h with h
   subst h
   simp only[rcells,AD,CQ,Bz,AB]
   rw[BL,AV (by omega),hx,AN]
   rfl
  |succ j =>
   rw[Ax]at h
   have:=ih h
   simp only[rcells,AD]at this ⊢
   rw[show(j+1)*15=(rfull x).length+j*15 by rw[hx];omega,BL,AV (by omega),A1,AN,this,
    show(rfull x).length+j*15+15=(rfull x).length+(j*15+15)by omega,BL,AV (l:=rfull x) (by omega),A1,AN]
theorem zah:∀a b:List Tree,lsize (a++b)=lsize a+lsize b
 | [],b=>by simp[lsize]
 |t::a,b=>by simp only[At,lsize,zah a b];omega
def Tree.vis (t:Tree):List Vis:=visT t 0 (-1) 0 0
theorem zas (t:Tree):t.vis.length=t.size:=zaf t _ _ _ _
def rval (t:Tree):PVal := .slice 15 t.size (rcells t.vis)
theorem zdd {v:Vis} (h:t.vis[j]? = some v):idxS 15 (.p (rval t)) (J4 j)=some (.p (.ptr (.int .i64 v.parent :: .int .i64 v.t.size :: .int .i64 v.depth :: .int .i64 v.t.height :: .int .i64 v.place :: .int .i64 v.t.kind :: .str v.t.name :: .str v.t.text::aval (nattr v.t.attrs) :: .nilslice :: .int .i64 v.t.kind :: .str v.t.name :: .str v.t.text::aval v.t.attrs::kval v.t.kids::(rcells t.vis).drop (j*15+15)))):=by
 obtain⟨h1,h2⟩:=Aa.1 h
 rw[rval,zcm (by rw[<- zas];exact h1),zabg h]
 rfl
@[simp] theorem zaoj:sliceLen (.p (rval t))=some t.size:=rfl
@[simp] theorem zbey:up (.p (rval t)) = .v (.p (rval t)):=rfl
theorem zle:∀(a b:List Tree) (id p d pl:Nat),visL (a++b) id p d pl=visL a id p d pl++visL b (id+lsize a) p d (pl+a.length)
 | [],b,id,p,d,pl=>by simp[visL,lsize]
 |t::a,b,id,p,d,pl=>by
  simp only[At,visL,lsize,AA,zle a b,Aw]
  congr 3
  ·omega
  ·omega
theorem zdg:∀(l:List Tree) (id p d pl:Nat),(visL l id p d pl).length=lsize l
 | [],_,_,_,_=>rfl
 |t::l,id,p,d,pl=>by simp only[visL,lsize,Af,zaf,zdg l]
theorem zxz {l:List Tree} (h:j<l.length) (id p d:Nat):visL (l.take (j+1)) id p d 0=visL (l.take j) id p d 0++visT l[j] (id+lsize (l.take j)) p d j:=by
 rw[AE,Ac h,Cq,zle,A0,BJ (by omega),AB]
 simp[visL]
theorem zbg {l:List Tree} (h:j<l.length):lsize (l.take (j+1))=lsize (l.take j)+l[j].size:=by
 have h1:=zxz h 0 0 0
 have h2:=congrArg List.length h1
 rw[Af,zdg,zdg,zaf]at h2
 exact h2
theorem zgy:∀ {l:List Tree} {j:Nat} (h:j<l.length),lheight (l.take (j+1))=max (lheight (l.take j)) l[j].height
 | [],j,h=>by simp at h
 |t::l,0,h=>by simp[lheight]
 |t::l,j+1,h=>by
  have:=zgy (l:=l) (j:=j) (by simpa using h)
  simp only[Ch,lheight,CV]at this ⊢
  omega
theorem zeb (t:Tree):t.height<=t.size:=by
 have key:∀(n:Nat) (t:Tree),t.size<n->t.height<=t.size:=by
  intro n
  induction n with
  |zero=>intro t h;omega
  |succ n ih =>
   intro t h
   have h1:=zag t
   have h2:=zdr t
   have hl:∀l:List Tree,lsize l<n->lheight l<=lsize l:=by
    intro l
    induction l with
    |nil=>intro _;simp[lheight,lsize]
    |cons u l ih2 =>
     intro hl
     simp only[lsize]at hl
     have a1:=ih u (by omega)
     have a2:=ih2 (by omega)
     simp only[lheight,lsize];omega
   have:=hl (klist t.kids) (by omega)
   omega
 exact key _ t (Ai _)
theorem VS.src {bx:List (Nat×IBlk)} (h:VS H o esz n v ys):srcCells ⟨bx,H⟩ esz v=some ys/\srcLen v=some n:=by
 cases o with
 |none=>obtain⟨rfl,rfl,rfl⟩:=h;exact⟨rfl,rfl⟩
 |some k =>
  obtain⟨ver,cs,op,rfl,hk,hn,hx⟩:=h
  have h2:((Nat.beq ver ver&&Nat.beq esz esz)&&Nat.ble (0+n*esz) cs.length)=true:=by
   rw[AH,AH,AB,A3,A3]
   exact AG hn
  refine⟨?_,rfl⟩
  simp only[srcCells,Mem.get,hk,h2,Bz,hx]
theorem VS.kill {s:Nat} (h:VS H o esz n v ys):killV s v=v:=by
 cases o with
 |none=>obtain⟨rfl,rfl,rfl⟩:=h;rfl
 |some k=>obtain⟨ver,cs,op,rfl,hk,hn,hx⟩:=h;rfl
theorem VS.appendP {n1 n2:Nat} {v1 v2:IVal} (h:VS H o1 esz n1 v1 xs) (s1:srcCells ⟨[],H⟩ esz v2=some ys) (s2:srcLen v2=some n2) (hy:ys.length=n2*esz) (hb:n1+n2<1000000000) :
 ∃v' H' o',evalAppend ⟨[],H⟩ esz v1 v2=some (v',⟨[],H'⟩)/\VS H' o' esz (n1+n2) v' (xs++ys)/\Keep (fun x=>o1=some x) H H'/\(o'=o1\/∃k,o'=some k/\H.length<=k):=by
 by_cases hz:n2=0
 ·subst hz
  have hys:ys=[]:=by cases ys with|nil=>rfl|cons a l=>simp at hy
  subst hys
  rw[Bi,AQ]
  cases o1 with
  |none =>
   obtain⟨rfl,rfl,rfl⟩:=h
   refine⟨_,H,none,?_,VS.nil,Keep.refl, .inl rfl⟩
   have h1:Nat.ble (0+0) maxAppend=true:=rfl
   have h3:Nat.beq 0 0=true:=rfl
   simp only[evalAppend,s1,s2,sliceLen,h1]
  |some k =>
   have hv:=h
   obtain⟨ver,cs,op,rfl,hkk,hnn,hxs⟩:=h
   refine⟨_,H,some k,?_,hv,Keep.refl, .inl rfl⟩
   have h1:Nat.ble (n1+0) maxAppend=true:=AG (by unfold maxAppend;omega)
   have h2:(Nat.beq ver ver&&Nat.beq esz esz&&Nat.ble (0+n1*esz) cs.length)=true:=by
    rw[AH,AH,AB,A3,A3]
    exact AG hnn
   have h3:Nat.beq 0 0=true:=rfl
   simp only[evalAppend,s1,s2,sliceLen,h1,Mem.get,hkk,h2]
 ·cases o1 with
  |none =>
   obtain⟨rfl,rfl,rfl⟩:=h
   refine⟨_,_,some H.length,append_nil s1 s2 (by omega) (by omega),?_,Keep.new, .inr ⟨_,rfl,Am _⟩⟩
   refine⟨0,ys,true,by rw[AB],zaz,by rw[AB];omega,?_⟩
   rw[AB,Au (by omega)];rfl
  |some k =>
   obtain⟨ver,cs,op,rfl,hkk,hnn,hxs⟩:=h
   have hkl:=(Aa.1 hkk).1
   have happ:=zbd (bx:=[]) (ny:=n2) hkk hnn s1 s2 (by omega) (by omega)
   have hnew:=zgw (H:=H) (ver:=ver) (op:=op) (ys:=ys) (ny:=n2) (k:=k) hkl hnn hy
   rw[hxs]at hnew
   exact⟨_,_,some k,happ,hnew,Keep.set (.inl rfl), .inl rfl⟩
theorem VS.appendVS {o2:Option Nat} {n1 n2:Nat} {v1 v2:IVal} (h:VS H o1 esz n1 v1 xs) (g:VS H o2 esz n2 v2 ys) (hb:n1+n2<1000000000) :
 ∃v' H' o',evalAppend ⟨[],H⟩ esz v1 v2=some (v',⟨[],H'⟩)/\VS H' o' esz (n1+n2) v' (xs++ys)/\Keep (fun x=>o1=some x) H H'/\(o'=o1\/∃k,o'=some k/\H.length<=k):=by
 obtain⟨s1,s2⟩:=g.src (bx:=[])
 exact h.appendP s1 s2 g.xlen hb
theorem VS.field {bx:List (Nat×IBlk)} {k:Nat} (h:VS H (some k) esz n v xs) (hj:j<n) :
 ∃ver,idxS esz v (J4 j)=some (J5 k ver (j*esz))/\(∀ f x,xs[j*esz+f]? = some x->loadVal ⟨bx,H⟩ none (J5 k ver (j*esz+f))=some x) /\
  ∀f new,j*esz+f+new.length<=n*esz->∃b,writeCells ⟨bx,H⟩ (J5 k ver (j*esz+f)) new=some ⟨bx,H.set k b⟩/\VS (H.set k b) (some k) esz n v (splice xs (j*esz+f) new):=by
 obtain⟨ver,cs,op,rfl,hk,hn,hx⟩:=h
 have hH:HS H k esz n (.slice k ver 0 n) xs:=⟨ver,cs,op,rfl,hk,hn,hx⟩
 exact⟨ver,by rw[zba hj,AB],fun f x hf=>hH.field hf,fun f new hf=>hH.store hf⟩
theorem Keep.trans' {S S':Nat->Prop} {H' H2:J2} (h:Keep S H H') (g:Keep S' H' H2) (hs:∀i,i<H.length->S' i->S i):Keep S H H2 :=
 ⟨Bo h.1 g.1,fun i hi hn=>by rw[g.2 i (A6 hi h.1) (fun e=>hn (hs i hi e)),h.2 i hi hn]⟩
structure Grow (o:Option Nat) (H:J2) (o':Option Nat) (H':J2):Prop where
 keep:Keep (fun x=>o=some x) H H'
 blk:o'=o\/∃k,o'=some k/\H.length<=k
theorem Grow.refl:Grow o H o H:=⟨Keep.refl, .inl rfl⟩
theorem Grow.trans {o2:Option Nat} {H1 H2:J2} (h:Grow o H o1 H1) (g:Grow o1 H1 o2 H2):Grow o H o2 H2:=by
 refine⟨h.keep.trans' g.keep fun i hi e=>?_,?_⟩
 ·rcases h.blk with rfl|⟨k,rfl,hk⟩
  ·exact e
  ·injection e with e;omega
 ·have:=h.keep.1
  rcases g.blk with rfl|⟨k,rfl,hk⟩
  ·exact h.blk
  ·exact .inr ⟨k,rfl,by omega⟩
theorem Grow.set {k:Nat} {H1:J2} {b:IBlk} (h:Grow o H (some k) H1):Grow o H (some k) (H1.set k b):=h.trans ⟨Keep.set (.inl rfl), .inl rfl⟩
theorem zti {A B new:J3} {f:Nat} (hn:n=A.length+f):splice (A++B) n new=A++splice B f new:=by
 subst hn
 unfold splice
 rw[CZ,Au (by omega),A1,BL,AV (l:=A) (by omega)]
 simp only[AN,Aw]
 congr 4
 omega
theorem zavm {A B:J3} {f:Nat} (hn:n=A.length+f):(A++B)[n]? = B[f]? := by
 subst hn
 rw[Ae (by omega),A1]
theorem zdj (l m:List PVal):pcells (l++m)=pcells l++pcells m:=by simp[pcells]
theorem ziw (l:List PVal):(pcells l).length=l.length:=by simp[pcells]
theorem zgz {y:IVal} {kl:List SV->Prop} (h:y.cellsOf=some [y]) (h2:up y = .v y):cellsK (.v y) n kl=(1=n/\kl [.v y]):=by
 simp only[cellsK,h,zfu,AO,ups,h2]
end
end Go.Ideal
namespace Go.Ideal
open Go
set_option maxHeartbeats 4000000
set_option maxRecDepth 20000
attribute [-simp] getElem?_pos
theorem zya (a:Option Attrs) (ha:(alist a).length<1000000) (H:J2):∃w H',evalAppend ⟨[],H⟩ 2 (.p .nilslice) (.p (aval a))=some (w,⟨[],H'⟩)/\up w = .v w/\freezeCell H' 100 w=some (aval (nattr a))/\w.cellsOf=some [w]/\w≠.undef/\w.passOK=true/\freezeOne H' w=some (.p (aval (nattr a)))/\Keep (fun _=>False) H H':=by
 have hs:srcCells ⟨[],H⟩ 2 (.p (aval a))=some (pcells (acells (alist a))):=by cases a<;>rfl
 have hl:srcLen (.p (aval a))=some (alist a).length:=by cases a<;>rfl
 by_cases h0:alist a=[]
 ·refine⟨.p .nilslice,H,?_,rfl,?_,rfl,by simp,rfl,?_,Keep.refl⟩
  ·rw[h0]at hs hl
   have h1:Nat.ble (0+[].length (α:=Bytes×Bytes)) maxAppend=true:=rfl
   have h3:Nat.beq ([]:Attrs).length 0=true:=rfl
   simp only[evalAppend,hs,hl,sliceLen]
   rfl
  ·unfold nattr;rw[if_pos h0];rfl
  ·unfold nattr;rw[if_pos h0];rfl
 ·obtain⟨l,rfl⟩:∃l,a=some l:=by cases a with|none=>exact absurd rfl h0|some l=>exact⟨l,rfl⟩
  have h0':l≠[]:=h0
  have hpos:0<l.length:=List.length_pos_iff.2 h0'
  have hla:(alist (some l)).length=l.length:=rfl
  rw[hla]at ha hl
  have happ:=append_nil (bx:=[]) hs hl hpos (by omega)
  have hHS:HS (H++[IBlk.cells (pcells (acells l)) 2 0 true]) H.length 2 l.length (.slice H.length 0 0 l.length) (pcells (acells l)):=⟨0,_,true,rfl,zaz,by rw[ziw,zfa];omega,by rw[Au (by rw[ziw,zfa];omega)]⟩
  have hfz:=zdq hHS
  have hn:nattr (some l)=some l:=by unfold nattr;rw[if_neg h0]
  refine⟨_,_,happ,rfl,?_,rfl,by simp,rfl,?_,Keep.new⟩
  ·rw[hn];exact hfz
  ·rw[hn,zcc]
   have hfz':freezeCell (H++[IBlk.cells (pcells (acells (alist (some l)))) 2 0 true]) 100 (.slice H.length 0 0 l.length)=some (.slice 2 l.length (acells l)):=hfz
   rw[hfz'];rfl
theorem zaok (t:Tree) (ha:(alist t.attrs).length<1000000) (H:J2):CW tr.look F_Q99 [tagg t] H=some (tagg t.nbare,H):=by
 refine zaj look_Q99 rfl (by simp) rfl ?_
 dsimp only[i_Q99,c_Q99]
 obtain⟨w,H',a1,a2,a3,a4,a5,a6,_⟩:=zya t.attrs ha []
 simp(disch:=omega) [a1,a2,zgz a4 a2]
 simp[freezeOne,freezeList,a3,tagg,Tree.zau,Tree.nbare,Tree.kind,Tree.name,Tree.text,Tree.attrs,Tree.kids]
theorem zyb {a b:Int}:evalExt a true [J4 b]=some (max a b):=by
 simp only[evalExt,if_true]
 congr 1
 by_cases h:b>a
 ·rw[if_pos h];omega
 ·rw[if_neg h];omega
def FlatSays (t:Tree):Prop:=∀(H:J2) (o:Option Nat) (m:Nat) (lv:IVal) (X:List PVal) (p:Int) (d pl:Nat),VS H o 15 m lv (pcells X)->m+t.size<1000000->d+t.size<1000000 ->
 ∃H' o' lv',CW tr.look F_Q71 [lv,tagg t, J4 p, J4 d, J4 pl] H=some (lv',H')/\VS H' o' 15 (m+t.size) lv' (pcells (X++rcells (visT t m p d pl)))/\Grow o H o' H'/\∃k,o'=some k
theorem zafo (t:Tree) (m d pl:Nat) (p:Int) (o:Option Nat) (H0:J2) (X:List PVal) (hX:X.length=m*15) (hk:∀u∈klist t.kids,FlatSays u) (hs:m+t.size<1000000) (hd:d+t.size<1000000)
 (k1:Nat) (lv0:IVal) (H1:J2) (hv:VS H1 (some k1) 15 (m+1) lv0 (pcells (X++rcell ⟨t,p,d,pl⟩ 0 0))) (hg:Grow o H0 (some k1) H1) {c0 c1 c2 c3:SV} (Q:J0)
 (hQ:∀H' k lv,VS H' (some k) 15 (m+t.size) lv (pcells (X++(rcell ⟨t,p,d,pl⟩ 0 0++rcells (visL (klist t.kids) (m+1) m (d+1) 0))))->Grow o H0 (some k) H'->Q .normal [(0, .v lv),(11, .int .i64 m),(12, .int .i64 (lheight (klist t.kids)))] ⟨[],H'⟩) :
 wpLoop (CW tr.look) 69 m_Q71_0 l_Q71_0 (blkK 0 b_Q71_0 Q) [(0, .v lv0),(3, .int .i64 d),(6, .box 6 0),(11, .int .i64 m),(12, .int .i64 0),(13, .int .i64 0)] ⟨[(6,some ⟨[c0,c1,c2,c3, .v (.p (kval t.kids))],5⟩)],H1⟩:=by
 refine zab (α:=Nat×IVal×Nat×J2) (fun a=>[(0, .v a.2.1),(3, .int .i64 d),(6, .box 6 0),(11, .int .i64 m),(12, .int .i64 (lheight ((klist t.kids).take a.1))),(13, .int .i64 a.1)]) (fun a=>⟨[(6,some ⟨[c0,c1,c2,c3, .v (.p (kval t.kids))],5⟩)],a.2.2.2⟩)
  (fun a=>a.1<=(klist t.kids).length/\VS a.2.2.2 (some a.2.2.1) 15 (m+1+lsize ((klist t.kids).take a.1)) a.2.1 (pcells (X++(rcell ⟨t,p,d,pl⟩ 0 0++rcells (visL ((klist t.kids).take a.1) (m+1) m (d+1) 0))))/\Grow o H0 (some a.2.2.1) a.2.2.2) (fun a=>(klist t.kids).length-a.1) ?_ (0,lv0,k1,H1) ⟨by simp,by simpa[lsize,visL,rcells]using hv,hg⟩
 rintro⟨j,lv,k,H⟩ ⟨hj,hV,hG⟩ R hR
 dsimp only at hj hV hG hR ⊢
 dsimp only[l_Q71_0]
 have ht:=zag t
 have hkl:=zao (klist t.kids)
 by_cases hc:j<(klist t.kids).length
 ·have hjm:=ziv hc
  have hts:=zbg hc
  have hle:lsize ((klist t.kids).take (j+1))<=lsize (klist t.kids):=by
   have h1:=zah ((klist t.kids).take (j+1)) ((klist t.kids).drop (j+1))
   rw[BE]at h1;omega
  obtain⟨H',o',lv',c1,c2,c3,k',rfl⟩:=hk _ (A2 hc) H (some k) (m+1+lsize ((klist t.kids).take j)) lv _ m (d+1) j hV (by omega) (by omega)
  have hup:=hV.up
  have hlen:=hV.len
  have hpass:=hV.pass
  have hne:lv≠.undef:=by rintro rfl;exact absurd hpass (by decide)
  have hup':=c2.up
  have hne':lv'≠.undef:=by rintro rfl;exact absurd c2.pass (by decide)
  obtain⟨ver,f1,f2,_⟩:=c2.field (bx:=[]) (j:=m+1+lsize ((klist t.kids).take j)) (by have:=zac (klist t.kids)[j];omega)
  have f3:=f2 3 (.p (.int .i64 (klist t.kids)[j].height)) (by
   rw[zbj,zdj]
   rw[zavm (f:=3) (by
    rw[ziw]
    simp only[Af,zth,zdg,hX,rcell,AA,BT]
    omega)]
   rfl)
  have e1:(d:Int)+1=((d+1:Nat):Int):=by omega
  have hh1:=zeb (klist t.kids)[j]
  have hmx:max (lheight ((klist t.kids).take j):Int) ((klist t.kids)[j].height:Int)=(lheight ((klist t.kids).take (j+1)):Nat):=by rw[zgy hc];omega
  have e2:(m:Int)+1+(lsize ((klist t.kids).take j):Nat)=((m+1+lsize ((klist t.kids).take j):Nat):Int):=by omega
  simp only[B3,Int.natCast_one]at c1 f1 hlen
  simp(disch:=omega) [hlen,hpass,hup',zcp,zad,zaa,c1,f1,f3,zyb,hmx]
  refine hR (j+1,lv',k',H') ⟨by dsimp only;omega,?_,hG.trans c3⟩ (by dsimp only;omega)
  dsimp only
  rw[zxz hc,zafn,hts]
  rw[show m+1+(lsize ((klist t.kids).take j)+(klist t.kids)[j].size)=m+1+lsize ((klist t.kids).take j)+(klist t.kids)[j].size by omega]
  simpa only[Aw]using c2
 ·obtain rfl:j=(klist t.kids).length:=by omega
  have e:(klist t.kids).take (klist t.kids).length=klist t.kids:=AT
  rw[e]at hV
  rw[e]
  have hup:=hV.up
  have hlen:=hV.len
  simp(disch:=omega) []
  refine hQ H k lv ?_ hG
  rw[show m+t.size=m+1+lsize (klist t.kids)by omega]
  exact hV
theorem zafp {X R:List PVal} {m s a b:Nat} {v:Vis} (hX:X.length=m*15):splice (pcells (X++(rcell v a b++R))) (m*15+1) [J4 s]=pcells (X++(rcell v s b++R)):=by
 rw[zdj,zti (f:=1) (by rw[ziw,hX])]
 simp[splice,rcell]
theorem zyc {X R:List PVal} {m s a b:Nat} {v:Vis} (hX:X.length=m*15):splice (pcells (X++(rcell v a b++R))) (m*15+3) [J4 s]=pcells (X++(rcell v a s++R)):=by
 rw[zdj,zti (f:=3) (by rw[ziw,hX])]
 simp[splice,rcell]
theorem zaol:∀(n:Nat) (t:Tree),t.size<n->Fine t->FlatSays t:=by
 intro n
 induction n with
 |zero=>intro t h;omega
 |succ n ih =>
  intro t h hf H o m lv X p d pl hV hm hd
  have ht:=zag t
  have hX:X.length=m*15:=by have:=hV.xlen;rw[ziw]at this;exact this
  have hb:=fun H=>zaok t (by have:=hf.2 t (zjs t);omega) H
  obtain⟨lv1,H1,o1,a1,a2,a3,a4,a5,k1,rfl⟩:=hV.append1 (ys:=pcells (rcell ⟨t,p,d,pl⟩ 0 0)) (by rfl) (by omega)
  have hup:=hV.up
  have hlen:=hV.len
  have hpass:=hV.pass
  have hne:lv≠.undef:=by rintro rfl;exact absurd hpass (by decide)
  have hkill:=fun s=>hV.kill (s:=s)
  have hup1:=a2.up
  have hne1:lv1≠.undef:=by rintro rfl;exact absurd a2.pass (by decide)
  rw[<- zdj]at a2
  obtain⟨r,H',h1,o',h2,h3,h4⟩:=zat (args:=[lv,tagg t, J4 p, J4 d, J4 pl]) (H:=H) (Q:=fun r H'=>∃o',VS H' o' 15 (m+t.size) r (pcells (X++rcells (visT t m p d pl)))/\Grow o H o' H'/\∃k,o'=some k) look_Q71 rfl rfl (by
   dsimp only[i_Q71,c_Q71]
   simp[rcell]at a1
   simp(disch:=omega) [hup,hlen,zad,hb,a1,hup1,hkill]
   refine zafo t m d pl p o H X hX (fun u hu=>ih u (by have:=zam hu;omega) (hf.kid hu)) hm hd k1 lv1 H1 a2 ⟨a3,a5⟩ _ ?_
   intro H2 k2 lv2 hV2 hG2
   have h1s:=zac t
   obtain⟨ver,f1,_,f3⟩:=hV2.field (bx:=[]) (j:=m) (by omega)
   obtain⟨b1,w1,V1⟩:=f3 1 [J4 t.size] (by simp only[AO];omega)
   rw[zafp hX]at V1
   obtain⟨ver2,g1,_,g3⟩:=V1.field (bx:=[]) (j:=m) (by omega)
   have hvv:ver2=ver:=by rw[f1]at g1;injection g1 with g1;injection g1 with _ g1 _;exact g1.symm
   subst hvv
   obtain⟨b2,w2,V2⟩:=g3 3 [J4 (t.height:Nat)] (by simp only[AO];omega)
   rw[zyc hX]at V2
   have hup2:=hV2.up
   have hlen2:=hV2.len
   have hpass2:=hV2.pass
   have hne2:lv2≠.undef:=by rintro rfl;exact absurd hpass2 (by decide)
   have e1:(m:Int)+(t.size:Int)-(m:Int)=(t.size:Int):=by omega
   have hh:=zdr t
   have e2:(lheight (klist t.kids):Int)+1=((t.height:Nat):Int):=by omega
   have hhs:=zeb t
   simp(disch:=omega) [hlen2,hpass2,f1,w1,w2,zaa,e1,e2]
   refine⟨some k2,?_,hG2.set,⟨_,rfl⟩⟩
   have e3:rcells (visT t m p d pl)=rcell ⟨t,p,d,pl⟩ t.size t.height++rcells (visL (klist t.kids) (m+1) m (d+1) 0):=by rw[zbj];rfl
   rw[e3]
   rw[CD]at V2
   simpa[pcells]using V2)
  exact⟨H',o',r,h1,h2,h3,h4⟩
theorem zcx (t:Tree) (hf:Fine t) (H:J2):CW tr.look F_Q34 [tagg t] H=some (.p (rval t),H):=by
 refine zaj look_Q34 rfl (by simp) rfl ?_
 dsimp only[i_Q34,c_Q34]
 have h1:=hf.1
 obtain⟨H',o',lv,a1,a2,a3,k,rfl⟩:=zaol _ t (Ai _) hf [] none 0 (.p .nilslice) [] (-1) 0 0 VS.nil (by omega) (by omega)
 rw[AB,AN]at a2
 have hup:=a2.up
 have hpass:=a2.pass
 have hne:lv≠.undef:=by rintro rfl;exact absurd hpass (by decide)
 have hfr:=zcz a2
 have hfo:freezeOne H' lv=some (.p (rval t)):=by
  obtain⟨ver,cs,op,rfl,_⟩:=a2
  rw[zcc,hfr];rfl
 have hfr2:freezeRes H' lv=some (.p (rval t)):=by
  obtain⟨ver,cs,op,rfl,_⟩:=a2
  rw[zcb];exact hfo
 simp only[Int.natCast_zero]at a1
 simp(disch:=omega) [zad,a1,hup,hpass,hfr2]
end Go.Ideal
namespace Go.Ideal
open Go
set_option maxHeartbeats 4000000
attribute [-simp] getElem?_pos
theorem zaom (t:Tree):∀(id:Nat) (p:Int) (d pl i:Nat) (v:Vis),(visT t id p d pl)[i]? = some v->i+v.t.size<=t.size:=by
 have key:∀(n:Nat) (t:Tree),t.size<n->∀(id:Nat) (p:Int) (d pl i:Nat) (v:Vis),(visT t id p d pl)[i]? = some v->i+v.t.size<=t.size:=by
  intro n
  induction n with
  |zero=>intro t h;omega
  |succ n ih =>
   intro t h id p d pl i v hv
   have ht:=zag t
   have hl:∀(l:List Tree),lsize l<n->∀(id p d pl i:Nat) (v:Vis),(visL l id p d pl)[i]? = some v->i+v.t.size<=lsize l:=by
    intro l
    induction l with
    |nil=>intro _ id p d pl i v h;simp[visL]at h
    |cons u l ih2 =>
     intro hl id p d pl i v h
     simp only[lsize]at hl ⊢
     rw[visL]at h
     by_cases hi:i<u.size
     ·rw[Ab (by rw[zaf];exact hi)]at h
      have:=ih u (by omega) _ _ _ _ _ _ h
      omega
     ·rw[Ae (by rw[zaf];omega),zaf]at h
      have:=ih2 (by omega) _ _ _ _ _ _ h
      omega
   rw[zbj]at hv
   cases i with
   |zero =>
    rw[AK]at hv
    injection hv with hv
    subst hv
    simp
   |succ i =>
    rw[Ax]at hv
    have:=hl _ (by omega) _ _ _ _ _ _ hv
    omega
 exact key _ t (Ai _)
theorem znk {s:Tree} {i:Nat} {v:Vis} (h:s.vis[i]? = some v):i+v.t.size<=s.size:=zaom s 0 (-1) 0 0 i v h
theorem zaja (t:Tree):∀(id:Nat) (p:Int) (d pl k:Nat) (v:Vis),(visT t id p d pl)[k]? = some v->∃A B,visT t id p d pl=A++(visT v.t (id+k) v.parent v.depth v.place++B)/\A.length=k:=by
 have key:∀(n:Nat) (t:Tree),t.size<n->∀(id:Nat) (p:Int) (d pl k:Nat) (v:Vis),(visT t id p d pl)[k]? = some v->∃A B,visT t id p d pl=A++(visT v.t (id+k) v.parent v.depth v.place++B)/\A.length=k:=by
  intro n
  induction n with
  |zero=>intro t h;omega
  |succ n ih =>
   intro t h id p d pl k v hv
   have ht:=zag t
   have hl:∀(l:List Tree),lsize l<n->∀(id p d pl k:Nat) (v:Vis),(visL l id p d pl)[k]? = some v->∃A B,visL l id p d pl=A++(visT v.t (id+k) v.parent v.depth v.place++B)/\A.length=k:=by
    intro l
    induction l with
    |nil=>intro _ id p d pl k v h;simp[visL]at h
    |cons u l ih2 =>
     intro hl id p d pl k v h
     simp only[lsize]at hl
     rw[visL]at h ⊢
     by_cases hi:k<u.size
     ·rw[Ab (by rw[zaf];exact hi)]at h
      obtain⟨A,B,e1,e2⟩:=ih u (by omega) _ _ _ _ _ _ h
      exact⟨A,B++visL l (id+u.size) p d (pl+1),by rw[e1];simp,e2⟩
     ·rw[Ae (by rw[zaf];omega),zaf]at h
      obtain⟨A,B,e1,e2⟩:=ih2 (by omega) _ _ _ _ _ _ h
      refine⟨visT u id p d pl++A,B,?_,by rw[Af,zaf];omega⟩
      rw[e1,Aw]
      congr 4
      omega
   cases k with
   |zero =>
    have hv0:=hv
    rw[zbj,AK]at hv0
    injection hv0 with hv0
    subst hv0
    exact⟨[],[],by simp,rfl⟩
   |succ k =>
    rw[zbj]at hv ⊢
    rw[Ax]at hv
    obtain⟨A,B,e1,e2⟩:=hl _ (by omega) _ _ _ _ _ _ hv
    refine⟨⟨t,p,d,pl⟩::A,B,?_,by simp[e2]⟩
    rw[e1,At]
    congr 4
    omega
 exact key _ t (Ai _)
theorem zrb {t:Tree} {k:Nat} {v:Vis} (h:t.vis[k]? = some v) {j:Nat} (hj:j<(klist v.t.kids).length):∃w,t.vis[k+1+lsize ((klist v.t.kids).take j)]? = some w/\w.t=(klist v.t.kids)[j]/\w.parent=k/\w.depth=v.depth+1/\w.place=j:=by
 obtain⟨A,B,e1,e2⟩:=zaja t 0 (-1) 0 0 k v h
 have e3:t.vis=A++(visT v.t (0+k) v.parent v.depth v.place++B):=e1
 rw[e3,zbj]
 refine⟨⟨(klist v.t.kids)[j],k,v.depth+1,j⟩,?_,rfl,rfl,rfl,rfl⟩
 have hs:=zbg hj
 have h1:=zac (klist v.t.kids)[j]
 have hle:lsize ((klist v.t.kids).take (j+1))<=lsize (klist v.t.kids):=by
  have h1:=zah ((klist v.t.kids).take (j+1)) ((klist v.t.kids).drop (j+1))
  rw[BE]at h1;omega
 rw[Ae (by omega),show k+1+lsize ((klist v.t.kids).take j)-A.length=lsize ((klist v.t.kids).take j)+1 by omega,At,Ax,
  Ab (by rw[zdg];omega)]
 have e4:klist v.t.kids=(klist v.t.kids).take j++(klist v.t.kids).drop j:=(BE _ _).symm
 have e5:visL (klist v.t.kids) (0+k+1) (0+k) (v.depth+1) 0=visL ((klist v.t.kids).take j) (0+k+1) (0+k) (v.depth+1) 0++visL ((klist v.t.kids).drop j) (0+k+1+lsize ((klist v.t.kids).take j)) (0+k) (v.depth+1) (0+((klist v.t.kids).take j).length):=by
  rw[<- zle,<-e4]
 rw[e5,Ae (by rw[zdg];omega),zdg,Bk,As hj,visL,zbj]
 simp only[At,AK,AB,A0,BJ (Da hj)]
theorem zot:∀(a b:List Tree) (id:Nat),postL (a++b) id=postL a id++postL b (id+lsize a)
 | [],b,id=>by simp[postL,lsize]
 |t::a,b,id=>by
  simp only[At,postL,lsize,zot a b,Aw]
  congr 3
  omega
theorem zafq {l:List Tree} {j:Nat} (h:j<l.length) (id:Nat):postL (l.take (j+1)) id=postL (l.take j) id++postT l[j] (id+lsize (l.take j)):=by
 rw[AE,Ac h,Cq,zot]
 simp[postL]
theorem zmm (l:List Tree) (j:Nat):lsize (l.take j)<=lsize l:=by
 have h1:=zah (l.take j) (l.drop j)
 rw[BE]at h1;omega
end Go.Ideal
namespace Go.Ideal
open Go
set_option maxHeartbeats 1000000
theorem zajb (k:Option (List Tree)) {c0 c1 c2 c3:SV} (h:∀t∈klist k,∀H,CW tr.look F_Q18 [tagg t] H=some (J4 t.size,H)) (hs:lsize (klist k)<1000000000000) (Q:J0)
 (hQ:Q .normal [(3, .int .i64 (lsize (klist k)+1:Nat))] ⟨[],[]⟩) :
 wpLoop (CW tr.look) 21 m_Q18_0 l_Q18_0 (blkK 0 b_Q18_0 Q) [(1, .box 1 0),(3, .int .i64 1),(4, .int .i64 0)] ⟨[(1,some ⟨[c0,c1,c2,c3, .v (.p (kval k))],5⟩)],[]⟩:=by
 refine zab (α:=Nat×Nat) (fun a=>[(1, .box 1 0),(3, .int .i64 a.2),(4, .int .i64 a.1)]) (fun a=>⟨[(1,some ⟨[c0,c1,c2,c3, .v (.p (kval k))],5⟩)],[]⟩)
  (fun a=>a.1<=(klist k).length/\a.2+lsize ((klist k).drop a.1)=lsize (klist k)+1) (fun a=>(klist k).length-a.1) ?_ (0,1) ⟨by omega,by simp;omega⟩
 rintro⟨j,acc⟩ ⟨hj,ha⟩ L hL
 dsimp only at hj ha hL ⊢
 dsimp only[l_Q18_0]
 by_cases hjl:j<(klist k).length
 ·have hl:=ztd hjl
  have hc:=h _ (A2 hjl)
  have:=zao (klist k)
  have:=ziv hjl
  simp(disch:=omega) [zcp,zad,hc,zaa]
  exact hL (j+1,acc+(klist k)[j].size) ⟨by dsimp only;omega,by dsimp only;omega⟩ (by dsimp only;omega)
 ·obtain rfl:j=(klist k).length:=by omega
  simp[lsize]at ha
  subst ha
  simp
  simpa using hQ
theorem zajc:∀(n:Nat) (t:Tree),t.size<n->n<=1000000000000->∀(H:J2),CW tr.look F_Q18 [tagg t] H=some (J4 t.size,H):=by
 intro n
 induction n with
 |zero=>intro t h;omega
 |succ n ih =>
  intro t h hb H
  have ht:=zag t
  refine zaj look_Q18 rfl (by simp) rfl ?_
  dsimp only[i_Q18,c_Q18]
  simp
  refine zajb _ (fun u hu H=>ih u (by have:=zam hu;omega) (by omega) H) (by omega) _ ?_
  simp[ht]
end Go.Ideal
namespace Go.Ideal
open Go
set_option maxHeartbeats 4000000
set_option maxRecDepth 20000
theorem zho (l m:Bool) (H:J2):CW tr.look F_Q80 [.p (.bool l), .p (.bool m)] H=some (J4 (sgn l m),H):=by
 refine zaj look_Q80 rfl (by simp) rfl ?_
 dsimp only[i_Q80,c_Q80]
 cases l<;>cases m<;>simp[sgn]
theorem zmn (a b:Tree) (hs:(alist a.attrs).length<1000000000000) (c:Int) (Q:J0) {x0 x1 x2 x4 y0 y1 y2 y4:SV} {B:List (Nat×Option KB)}
 (hB:B=[(3,some ⟨[y0,y1,y2, .v (.p (aval b.attrs)),y4],5⟩),(2,some ⟨[x0,x1,x2, .v (.p (aval a.attrs)),x4],5⟩)])
 (h1:Q .normal [(2, .box 2 0),(3, .box 3 0),(5, .int .i64 (if c=0 then lfirst acmp (alist a.attrs) (alist b.attrs)else c))] ⟨B,[]⟩) :
 wpLoop (CW tr.look) 131 m_Q79_0 l_Q79_0 (blkK 0 b_Q79_0 Q) [(2, .box 2 0),(3, .box 3 0),(5, .int .i64 c),(6, .int .i64 0)] ⟨B,[]⟩:=by
 subst hB
 refine zab (α:=Int×Nat) (fun s=>[(2, .box 2 0),(3, .box 3 0),(5, .int .i64 s.1),(6, .int .i64 s.2)]) (fun _=>⟨_,[]⟩)
  (fun s=>s.2<=(alist a.attrs).length+1/\(if s.1=0 then lfirst acmp ((alist a.attrs).drop s.2) ((alist b.attrs).drop s.2)else s.1)=if c=0 then lfirst acmp (alist a.attrs) (alist b.attrs)else c) (fun s=>(alist a.attrs).length+1-s.2) ?_ (c,0) ⟨by simp,by simp⟩
 rintro⟨d,j⟩ ⟨hj,hd⟩ L hL
 dsimp only at hj hd hL ⊢
 dsimp only[l_Q79_0]
 by_cases h0:d=0
 case neg =>
  rw[if_neg h0]at hd
  rw[<- hd]at h1
  simp(disch:=omega) []
  exact h1
 subst h0
 rw[if_pos rfl]at hd
 by_cases hja:j<(alist a.attrs).length
 case neg =>
  rw[AV (by omega)]at hd
  rw[<- hd]at h1
  simp(disch:=omega) []
  exact h1
 by_cases hjb:j<(alist b.attrs).length
 case neg =>
  have:lfirst acmp ((alist a.attrs).drop j) ((alist b.attrs).drop j)=0:=by
   rw[AV (l:=alist b.attrs) (by omega)]
   cases(alist a.attrs).drop j<;>rfl
  rw[this]at hd
  rw[<- hd]at h1
  simp(disch:=omega) []
  exact h1
 rw[As hja,As hjb,lfirst]at hd
 have hgo:L [(2, .box 2 0),(3, .box 3 0),(5, .int .i64 (acmp (alist a.attrs)[j] (alist b.attrs)[j])),(6, .int .i64 ((j:Int)+1))] ⟨[(3,some ⟨[y0,y1,y2, .v (.p (aval b.attrs)),y4],5⟩),(2,some ⟨[x0,x1,x2, .v (.p (aval a.attrs)),x4],5⟩)],[]⟩:=by
  refine hL (acmp (alist a.attrs)[j] (alist b.attrs)[j],j+1) ⟨by dsimp only;omega,?_⟩ (by dsimp only;omega)
  exact hd
 unfold acmp at hgo
 cases e1:bytesLess (alist a.attrs)[j].1 (alist b.attrs)[j].1
 ·cases e2:bytesLess (alist b.attrs)[j].1 (alist a.attrs)[j].1
  ·have e3:=zdw e1 e2
   cases e4:bytesLess (alist a.attrs)[j].2 (alist b.attrs)[j].2<;>cases e5:bytesLess (alist b.attrs)[j].2 (alist a.attrs)[j].2 <;>
    (simp only[e3,e4,e5,zdf,decide_true,Bool.false_or,Bool.and_self,BP]at hgo
     simp(disch:=omega) [zbt,e3,e4,e5,zdf,zho,zaa]
     exact hgo)
  ·have e3:decide ((alist a.attrs)[j].1=(alist b.attrs)[j].1)=false:=decide_eq_false fun e=>zld e2 e.symm
   simp only[e1,e2,e3,Bool.false_and,Bool.or_false]at hgo
   simp(disch:=omega) [zbt,e1,e2,e3,zho,zaa]
   exact hgo
 ·have e2:=zjr e1
  have e3:decide ((alist a.attrs)[j].1=(alist b.attrs)[j].1)=false:=decide_eq_false fun e=>zld e1 e
  simp only[e1,e2,e3,Bool.false_and,Bool.or_false]at hgo
  simp(disch:=omega) [zbt,e1,e2,e3,zho,zaa]
  exact hgo
theorem zajd (a b:Tree) (hs:(alist a.attrs).length<1000000000000) (H:J2):CW tr.look F_Q79 [tagg a,tagg b] H=some (J4 (nodeCmp a b),H):=by
 refine zaj look_Q79 rfl (by simp) rfl ?_
 dsimp only[i_Q79,c_Q79]
 have s1:sgn (decide (a.kind<b.kind)) (decide (b.kind<a.kind))=icmp a.kind b.kind:=rfl
 have s2:sgn (bytesLess a.name b.name) (bytesLess b.name a.name)=scmp a.name b.name:=rfl
 have s3:sgn (bytesLess a.text b.text) (bytesLess b.text a.text)=scmp a.text b.text:=rfl
 have s4:∀x:Int,lcmp acmp (alist a.attrs) (alist b.attrs)=if lfirst acmp (alist a.attrs) (alist b.attrs)=0 then icmp (alist a.attrs).length (alist b.attrs).length else lfirst acmp (alist a.attrs) (alist b.attrs):=fun _=>zabc
 have s5:sgn (decide ((alist a.attrs).length<(alist b.attrs).length)) (decide ((alist b.attrs).length<(alist a.attrs).length))=icmp (alist a.attrs).length (alist b.attrs).length:=by
  unfold icmp
  congr 1<;>simp
 unfold nodeCmp
 by_cases h1:icmp a.kind b.kind=0
 case neg =>
  simp(disch:=omega) [zho,s1]
  refine zmn a b hs _ _ rfl ?_
  simp(disch:=omega) [h1]
 by_cases h2:scmp a.name b.name=0
 case neg =>
  simp(disch:=omega) [zho,s1,s2]
  refine zmn a b hs _ _ rfl ?_
  simp(disch:=omega) [h1,h2]
 by_cases h3:scmp a.text b.text=0
 case neg =>
  simp(disch:=omega) [zho,s1,s2,s3]
  refine zmn a b hs _ _ rfl ?_
  simp(disch:=omega) [h1,h2,h3]
 simp(disch:=omega) [zho,s1,s2,s3]
 refine zmn a b hs _ _ rfl ?_
 rw[if_pos h1,if_pos h2,if_pos h3,if_pos h3,s4 0]
 by_cases h4:lfirst acmp (alist a.attrs) (alist b.attrs)=0
 ·simp(disch:=omega) [h4,zho,s5]
 ·simp(disch:=omega) [h4]
theorem zyd (a b:Tree) (hs:(klist a.kids).length<1000000000000) (c:Int) (hk:∀u∈klist a.kids,∀v H,CW tr.look F_Q43 [tagg u,tagg v] H=some (J4 (cmpT u v),H)) (Q:J0) {x0 x1 x2 x3 y0 y1 y2 y3:SV} {B:List (Nat×Option KB)}
 (hB:B=[(3,some ⟨[y0,y1,y2,y3, .v (.p (kval b.kids))],5⟩),(2,some ⟨[x0,x1,x2,x3, .v (.p (kval a.kids))],5⟩)])
 (h1:Q .normal [(2, .box 2 0),(3, .box 3 0),(5, .int .i64 (if c=0 then lfirst cmpT (klist a.kids) (klist b.kids)else c))] ⟨B,[]⟩) :
 wpLoop (CW tr.look) 57 m_Q43_0 l_Q43_0 (blkK 0 b_Q43_0 Q) [(2, .box 2 0),(3, .box 3 0),(5, .int .i64 c),(6, .int .i64 0)] ⟨B,[]⟩:=by
 subst hB
 refine zab (α:=Int×Nat) (fun s=>[(2, .box 2 0),(3, .box 3 0),(5, .int .i64 s.1),(6, .int .i64 s.2)]) (fun _=>⟨_,[]⟩)
  (fun s=>s.2<=(klist a.kids).length+1/\(if s.1=0 then lfirst cmpT ((klist a.kids).drop s.2) ((klist b.kids).drop s.2)else s.1)=if c=0 then lfirst cmpT (klist a.kids) (klist b.kids)else c) (fun s=>(klist a.kids).length+1-s.2) ?_ (c,0) ⟨by simp,by simp⟩
 rintro⟨d,j⟩ ⟨hj,hd⟩ L hL
 dsimp only at hj hd hL ⊢
 dsimp only[l_Q43_0]
 by_cases h0:d=0
 case neg =>
  rw[if_neg h0]at hd
  rw[<- hd]at h1
  simp(disch:=omega) []
  exact h1
 subst h0
 rw[if_pos rfl]at hd
 by_cases hja:j<(klist a.kids).length
 case neg =>
  rw[AV (by omega)]at hd
  rw[<- hd]at h1
  simp(disch:=omega) []
  exact h1
 by_cases hjb:j<(klist b.kids).length
 case neg =>
  have:lfirst cmpT ((klist a.kids).drop j) ((klist b.kids).drop j)=0:=by
   rw[AV (l:=klist b.kids) (by omega)]
   cases(klist a.kids).drop j<;>rfl
  rw[this]at hd
  rw[<- hd]at h1
  simp(disch:=omega) []
  exact h1
 rw[As hja,As hjb,lfirst]at hd
 have hc:=hk _ (A2 hja) (klist b.kids)[j]
 simp(disch:=omega) [zcp,zad,hc,zaa]
 exact hL (cmpT (klist a.kids)[j] (klist b.kids)[j],j+1) ⟨by dsimp only;omega,hd⟩ (by dsimp only;omega)
theorem zafr:∀(n:Nat) (a b:Tree),a.size<n->Fine a->∀H,CW tr.look F_Q43 [tagg a,tagg b] H=some (J4 (cmpT a b),H):=by
 intro n
 induction n with
 |zero=>intro a b h;omega
 |succ n ih =>
  intro a b h hf H
  have ht:=zag a
  refine zaj look_Q43 rfl (by simp) rfl ?_
  dsimp only[i_Q43,c_Q43]
  have hn:=zajd a b hf.attrs
  have s4:lcmp cmpT (klist a.kids) (klist b.kids)=if lfirst cmpT (klist a.kids) (klist b.kids)=0 then icmp (klist a.kids).length (klist b.kids).length else lfirst cmpT (klist a.kids) (klist b.kids):=zabc
  have s5:sgn (decide ((klist a.kids).length<(klist b.kids).length)) (decide ((klist b.kids).length<(klist a.kids).length))=icmp (klist a.kids).length (klist b.kids).length:=by
   unfold icmp
   congr 1<;>simp
  rw[zaiu]
  simp(disch:=omega) [zad,hn]
  refine zyd a b hf.kids _ (fun u hu v H=>ih u v (by have:=zam hu;omega) (hf.kid hu) H) _ rfl ?_
  by_cases h1:nodeCmp a b=0
  case neg=>simp(disch:=omega) [h1]
  rw[if_pos h1,if_pos h1,s4]
  by_cases h4:lfirst cmpT (klist a.kids) (klist b.kids)=0
  ·simp(disch:=omega) [h4,zho,s5]
  ·simp(disch:=omega) [h4]
theorem zuv (a b:Tree) (hf:Fine a) (H:J2):CW tr.look F_Q14 [tagg a,tagg b] H=some (.p (.bool (decide (SameT a b))),H):=by
 refine zaj look_Q14 rfl (by simp) rfl ?_
 dsimp only[i_Q14,c_Q14]
 have:=zafr _ a b (Ai _) hf
 simp(disch:=omega) [zad,this]
 rfl
end Go.Ideal
namespace Go.Ideal
open Go
set_option maxHeartbeats 1000000
theorem zafs (a b:Option Attrs) (hl:(alist a).length=(alist b).length) (hs:(alist a).length<1000000000000) (Q:J0)
 (h1:alist a=alist b->Q .normal [] ⟨[],[]⟩) (h2:alist a≠alist b->∀E,lookE E 4 = .bool false->Q .ret E ⟨[],[]⟩) :
 wpLoop (CW tr.look) 26 m_Q129_0 l_Q129_0 (blkK 0 b_Q129_0 Q) [(0, .v (.p (aval a))),(1, .v (.p (aval b))),(12, .int .i64 (alist b).length),(13, .int .i64 0)] ⟨[],[]⟩:=by
 refine zab (α:=Nat) (fun j=>[(0, .v (.p (aval a))),(1, .v (.p (aval b))),(12, .int .i64 (alist b).length),(13, .int .i64 j)]) (fun _=>⟨[],[]⟩)
  (fun j=>j<=(alist a).length/\(alist a).take j=(alist b).take j) (fun j=>(alist a).length-j) ?_ 0 ⟨by omega,by simp⟩
 rintro j ⟨hj,ht⟩ L hL
 dsimp only[l_Q129_0]
 by_cases hjl:j<(alist a).length
 ·have hjb:j<(alist b).length:=by omega
  by_cases he:(alist a)[j]=(alist b)[j]
  ·simp(disch:=omega) [zbt,zaa,he]
   refine hL (j+1) ⟨by omega,?_⟩ (by omega)
   rw[AE,AE,ht,Ac hjl,Ac hjb,he]
  ·have h3:((alist a)[j].1==(alist b)[j].1&&(alist a)[j].2==(alist b)[j].2)=false:=by
    rw[Cv];intro h;simp at h;exact he (Prod.ext h.1 h.2)
   simp(disch:=omega) [zbt,h3]
   exact h2 (fun e=>he (by simp[e])) _ rfl
 ·obtain rfl:j=(alist a).length:=by omega
  simp[hl]
  refine h1 ?_
  rw[AT,hl,AT]at ht
  exact ht
theorem zaon (a b:Option Attrs) (hs:(alist a).length<1000000000000) (H:J2):CW tr.look F_Q129 [.p (aval a), .p (aval b)] H=some (.p (.bool (decide (alist a=alist b))),H):=by
 refine zaj look_Q129 rfl (by simp) rfl ?_
 dsimp only[i_Q129,c_Q129]
 by_cases hl:(alist a).length=(alist b).length
 ·simp[hl]
  refine zafs a b hl hs _ (fun h=>?_) (fun h E hE=>?_)
  ·simp[h]
  ·simp[hE,h]
 ·have:alist a≠alist b:=fun e=>hl (by rw[e])
  simp[this]
  omega
def kin (a b:Tree):Prop:=a.kind=b.kind/\a.name=b.name
instance (a b:Tree):Decidable (kin a b):=by unfold kin;infer_instance
def cost (a b:Tree):Nat:=if ¬kin a b then 3 else if a.text=b.text/\alist a.attrs=alist b.attrs then 0 else 1
theorem zaje (a b:Tree) (hs:(alist a.attrs).length<1000000000000) (H:J2):CW tr.look F_Q115 [tagg a,tagg b] H=some (J4 (cost a b),H):=by
 refine zaj look_Q115 rfl (by simp) rfl ?_
 dsimp only[i_Q115,c_Q115]
 by_cases h1:a.kind=b.kind<;>by_cases h2:a.name=b.name<;>by_cases h3:a.text=b.text<;>by_cases h4:alist a.attrs=alist b.attrs <;>
  simp[h1,h2,h3,h4,zaon _ _ hs,cost,kin]
end Go.Ideal
namespace Go.Ideal
open Go
set_option maxHeartbeats 4000000
set_option maxRecDepth 20000
attribute [-simp] getElem?_pos
def PtrOK (r:Nat) (t0:Tree) (pv:IVal) (t:Tree):Prop:=(pv = J5 r 0 0/\t=t0)\/∃rest,pv = .p (.ptr (t.cells++rest))
theorem PtrOK.cell {r:Nat} {t0 t:Tree} {pv:IVal} (h:PtrOK r t0 pv t):pv.cellOK=true/\pv.cellsOf=some [pv]/\up pv = .v pv:=by
 rcases h with⟨rfl,_⟩|⟨rest,rfl⟩<;>exact⟨rfl,rfl,rfl⟩
structure Pend where
 pv:IVal
 t:Tree
 parent:Int
 depth:Nat
 place:Nat
def pcell (p:Pend):J3:=[p.pv, J4 p.parent, J4 p.depth, J4 p.place]
theorem zaft (l:List Pend):(l.flatMap pcell).length=l.length*4:=by
 induction l with
 |nil=>rfl
 |cons a l ih=>simp only[AD,Af,ih,AA];simp[pcell];omega
theorem zajf {l:List Pend} {j:Nat} (h:j<l.length):((l.flatMap pcell).drop (j*4)).take 4=pcell l[j]:=by
 induction l generalizing j with
 |nil=>simp at h
 |cons a l ih =>
  cases j with
  |zero=>simp[AD,pcell]
  |succ j =>
   simp only[AD]
   rw[show(j+1)*4=(pcell a).length+j*4 by simp[pcell];omega,BL,AV (by omega),A1,AN]
   have:=ih (j:=j) (by simpa using h)
   simpa using this
def kidPend (k:Option (List Tree)) (id depth:Nat) (j:Nat) (t:Tree):Pend:=⟨.p (.ptr (t.cells++(kcells (klist k)).drop (j*5+5))),t,id,depth+1,j⟩
def kidsDown (k:Option (List Tree)) (id depth:Nat):Nat->List Pend
 |0=>[]
 |j+1=>match(klist k)[j]? with
  |some t=>kidPend k id depth j t::kidsDown k id depth j
  |none=>kidsDown k id depth j
theorem zhp {k:Option (List Tree)} {id depth j:Nat} (h:j<(klist k).length):kidsDown k id depth (j+1)=kidPend k id depth j (klist k)[j]::kidsDown k id depth j:=by
 simp only[kidsDown,Ac h]
theorem zajg (fv pv:IVal) (t:Tree) (r k0:Nat) (t0:Tree) (id depth:Nat) (par pl:Int) (H0:J2) (hp:PtrOK r t0 pv t) (hrk:r≠k0) (hfv:up fv = .v fv)
 (hr:H0[r]? = some (.cells (pcells t0.cells) 5 0 false)) (_:id<1000000000000) (hdep:depth<1000000000000) (hkl:(klist t.kids).length<1000000) (S:List Pend) (hS:S.length<1000000) (sv:IVal) (hsv:HS H0 k0 4 S.length sv (S.flatMap pcell)) (Q:J0)
 (h1:∀sv' H',HS H' k0 4 (S.length+(klist t.kids).length) sv' ((S++kidsDown t.kids id depth (klist t.kids).length).flatMap pcell)->Keep (· = k0) H0 H'->Q .normal [(1,up fv),(4, .v sv'),(5, .int .i64 id)] ⟨[],H'⟩) :
 wpLoop (CW tr.look) 59 m_Q52_0 l_Q52_0 (blkK 2 b_Q52_2 Q) [(1,up fv),(4, .v sv),(5, .int .i64 id),(6, .box 6 0),(7, .int .i64 ((klist t.kids).length-1))] ⟨[(6,some ⟨[.v pv, .int .i64 par, .int .i64 depth, .int .i64 pl],4⟩)],H0⟩:=by
 refine zab (α:=Nat×IVal×J2×List Pend) (fun a=>[(1,up fv),(4, .v a.2.1),(5, .int .i64 id),(6, .box 6 0),(7, .int .i64 (a.1-1))]) (fun a=>⟨[(6,some ⟨[.v pv, .int .i64 par, .int .i64 depth, .int .i64 pl],4⟩)],a.2.2.1⟩)
  (fun a=>a.1<=(klist t.kids).length/\HS a.2.2.1 k0 4 a.2.2.2.length a.2.1 (a.2.2.2.flatMap pcell)/\Keep (· = k0) H0 a.2.2.1/\a.2.2.2.length+a.1=S.length+(klist t.kids).length/\a.2.2.2++kidsDown t.kids id depth a.1=S++kidsDown t.kids id depth (klist t.kids).length)
  (fun a=>a.1) ?_ ((klist t.kids).length,sv,H0,S) ⟨Am _,hsv,Keep.refl,rfl,rfl⟩
 rintro⟨j,sv,H,S'⟩ ⟨hj,hs,hk,hn,he⟩ L hL
 dsimp only at hj hs hk hn he hL ⊢
 dsimp only[l_Q52_0]
 cases j with
 |zero =>
  simp only[kidsDown,AQ]at he
  simp(disch:=omega) [hfv]
  rw[hfv]at h1
  refine h1 sv H ?_ hk
  rw[<- he,<-hn]
  exact hs
 |succ j =>
  have hjl:j<(klist t.kids).length:=by omega
  have hr':H[r]? = some (.cells (pcells t0.cells) 5 0 false):=by rw[hk.2 r (Aa.1 hr).1 hrk];exact hr
  have hnc:evalOp (CW tr.look) (fun _=>pv) ⟨[],H⟩ (.nilCheck (t_ 0))=some (pv,⟨[],H⟩):=by
   rcases hp with⟨rfl,_⟩|⟨rest,rfl⟩<;>rfl
  simp only[evalOp]at hnc
  obtain⟨q,hq1,hq2,hq3⟩:∃q,fieldF 4 pv=some q/\loadVal ⟨[],H⟩ none q=some (.p (kval t.kids))/\up q = .v q:=by
   rcases hp with⟨rfl,rfl⟩|⟨rest,rfl⟩
   ·exact⟨_,rfl,zae hr' (by rw[Tree.zau];rfl),rfl⟩
   ·rw[Tree.zau]
    exact⟨_,rfl,rfl,rfl⟩
  have hlen:((j+1:Nat):Int)-1=j:=by omega
  obtain⟨ver,cs,op,rfl,hkk,hnn,hxs⟩:=hs
  have hk0:=(Aa.1 hkk).1
  simp only[hlen]
  have happ:∀ys:J3,ys.length=4->evalAppend ⟨[],H++[IBlk.cells ys 4 0 false]⟩ 4 (.slice k0 ver 0 S'.length) (.slice H.length 0 0 1)=some (.slice k0 (appVer cs 4 S'.length 1 ver) 0 (S'.length+1),⟨[],(H++[IBlk.cells ys 4 0 false]).set k0 (appBlk cs ys 4 S'.length 1 ver op)⟩):=by
   intro ys hy
   refine zbd (by rw[Ab hk0];exact hkk) hnn (zbv (cs:=ys) (op:=false) (ver:=0) (n:=1) zaz (by omega)) rfl (by omega) ?_
   omega
  have happ':=happ (pcell (kidPend t.kids id depth j (klist t.kids)[j])) rfl
  have hcells:pcell (kidPend t.kids id depth j (klist t.kids)[j])=[.p (.ptr (.int .i64 (klist t.kids)[j].kind :: .str (klist t.kids)[j].name :: .str (klist t.kids)[j].text::aval (klist t.kids)[j].attrs::kval (klist t.kids)[j].kids::(kcells (klist t.kids)).drop (j*5+5))), J4 id, J4 (depth+1), J4 j]:=by
   simp only[pcell,kidPend,Tree.zau];rfl
  simp only[hcells]at happ'
  simp(disch:=omega) [hfv,hp.cell.2.2,hnc,hq1,hq2,hq3,zcp,zaa,happ']
  have hnew:=zgw (H:=H++[IBlk.cells (pcell (kidPend t.kids id depth j (klist t.kids)[j])) 4 0 false]) (ver:=ver) (op:=op) (ys:=pcell (kidPend t.kids id depth j (klist t.kids)[j])) (ny:=1) (k:=k0) (by simp;omega) hnn rfl
  rw[hxs]at hnew
  have:=hL (j, .slice k0 (appVer cs 4 S'.length 1 ver) 0 (S'.length+1),(H++[IBlk.cells (pcell (kidPend t.kids id depth j (klist t.kids)[j])) 4 0 false]).set k0 (appBlk cs (pcell (kidPend t.kids id depth j (klist t.kids)[j])) 4 S'.length 1 ver op),S'++[kidPend t.kids id depth j (klist t.kids)[j]]) ⟨by dsimp only;omega,?_,?_,?_,?_⟩ (by dsimp only;omega)
  ·simp only[hfv,hcells,Bv _ _ hk0]at this
   exact this
  ·simp only[Af,AO,Ck,AD,List.flatMap_nil,AQ]
   exact hnew
  ·exact(hk.trans Keep.new).trans (Keep.set (.inl rfl))
  ·simp only[Af,AO];omega
  ·rw[<- he,zhp hjl];simp
def restV:List Pend->Nat->List Vis
 | [],_=>[]
 |p::r,id=>visT p.t id p.parent p.depth p.place++restV r (id+p.t.size)
def sizes (l:List Pend):Nat:=(l.map fun p=>p.t.size).sum
theorem zgj (a b:List Pend):sizes (a++b)=sizes a+sizes b:=by simp[sizes]
theorem zix:∀(a b:List Pend) (id:Nat),restV (a++b) id=restV a id++restV b (id+sizes a)
 | [],b,id=>by simp[restV,sizes]
 |p::a,b,id=>by
  simp only[At,restV,zix a b]
  simp[sizes,BN]
theorem zye (k:Option (List Tree)) (id d:Nat):∀n,n<=(klist k).length->∀i,restV (kidsDown k id d n).reverse i=visL ((klist k).take n) i id (d+1) 0/\sizes (kidsDown k id d n)=lsize ((klist k).take n):=by
 have hv:∀(l m:List Tree) (i p d pl:Nat),visL (l++m) i p d pl=visL l i p d pl++visL m (i+lsize l) p d (pl+l.length):=by
  intro l
  induction l with
  |nil=>intro m i p d pl;simp[visL,lsize]
  |cons t l ih =>
   intro m i p d pl
   simp only[At,visL,lsize,AA,ih,Aw]
   congr 3<;>omega
 have hls:∀(l m:List Tree),lsize (l++m)=lsize l+lsize m:=by
  intro l
  induction l with
  |nil=>intro m;simp[lsize]
  |cons t l ih=>intro m;simp only[At,lsize,ih];omega
 intro n
 induction n with
 |zero=>intro _ i;simp[kidsDown,restV,visL,sizes,lsize]
 |succ n ih =>
  intro hn i
  obtain⟨h1,h2⟩:=ih (by omega) i
  rw[zhp (by omega),Bc,zix,h1,AE,Ac (by omega),Cq,hv,hls]
  have hsz:sizes (kidsDown k id d n).reverse=sizes (kidsDown k id d n):=by simp[sizes,List.sum_reverse]
  refine⟨?_,?_⟩
  ·rw[hsz,h2]
   simp only[restV,visL,kidPend,AQ,A0,BJ (show n<=(klist k).length by omega),AB]
  ·have:sizes (kidPend k id d n (klist k)[n]::kidsDown k id d n)=(klist k)[n].size+sizes (kidsDown k id d n):=by simp[sizes,kidPend]
   rw[this,h2]
   simp only[lsize]
   omega
theorem zabh {k:Option (List Tree)} {id d r:Nat} {t0:Tree}:∀n,∀p∈kidsDown k id d n,PtrOK r t0 p.pv p.t/\p.depth=d+1:=by
 intro n
 induction n with
 |zero=>intro p hp;simp[kidsDown]at hp
 |succ n ih =>
  intro p hp
  simp only[kidsDown]at hp
  split at hp
  ·rcases Ak.1 hp with rfl|hp
   ·exact⟨.inr ⟨_,rfl⟩,rfl⟩
   ·exact ih p hp
  ·exact ih p hp
def Looks (g:FuncId) (cap:J3) (t0:Tree) (r k0:Nat) (I:Nat->J2->Prop) (b:Nat->Bool):Prop :=
 ∀i (v:Vis) H pv,(visT t0 0 (-1) 0 0)[i]? = some v->I i H->k0<H.length->H[r]? = some (.cells (pcells t0.cells) 5 0 false)->PtrOK r t0 pv v.t ->
    ∃H',CW tr.look g ([J4 i, .agg [pv, J4 v.parent, J4 v.depth, J4 v.place]]++cap) H=some (.p (.bool (b i)),H')/\Keep (fun x=>x≠r/\x≠k0) H H'/\I (i+1) H'
theorem zajh (g:FuncId) (cap:J3) (t0:Tree) (r k0:Nat) (hrk:r≠k0) (hs:t0.size<1000000)
 (I:Nat->J2->Prop) (b:Nat->Bool)
 (hIk:∀i H H',I i H->Keep (· = k0) H H'->I i H') (hstep:Looks g cap t0 r k0 I b) (H1:J2) (hr:H1[r]? = some (.cells (pcells t0.cells) 5 0 false)) (sv:IVal) (hsv:HS H1 k0 4 1 sv (pcell ⟨J5 r 0 0,t0, -1,0,0⟩)) (hI:I 0 H1) (Q:J0)
 (h1:∀H' n,I n H'->n<=t0.size->(n=t0.size\/∃m,n=m+1/\b m=false)->(∀ i,i+1<n->b i=true)->Q .normal [] ⟨[],H'⟩) :
 wpLoop (CW tr.look) 59 m_Q52_1 l_Q52_1 (blkK 0 b_Q52_0 Q) [(1, .v (.func g cap)),(4, .v sv),(5, .int .i64 0)] ⟨[],H1⟩:=by
 refine zab (α:=Nat×IVal×J2×List Pend) (fun a=>[(1, .v (.func g cap)),(4, .v a.2.1),(5, .int .i64 a.1)]) (fun a=>⟨[],a.2.2.1⟩)
  (fun a=>HS a.2.2.1 k0 4 a.2.2.2.length a.2.1 (a.2.2.2.flatMap pcell)/\a.2.2.1[r]? = some (.cells (pcells t0.cells) 5 0 false)/\I a.1 a.2.2.1/\a.1+sizes a.2.2.2=t0.size/\restV a.2.2.2.reverse a.1=(visT t0 0 (-1) 0 0).drop a.1/\(∀ p∈a.2.2.2,PtrOK r t0 p.pv p.t/\p.depth<=a.1)/\∀i,i<a.1->b i=true)
  (fun a=>sizes a.2.2.2) ?_ (0,sv,H1,[⟨J5 r 0 0,t0, -1,0,0⟩]) ⟨by simpa using hsv,hr,hI,by simp[sizes],by simp[restV],by simp;exact .inl ⟨rfl,rfl⟩,by simp⟩
 rintro⟨id,sv,H,S⟩ ⟨hS,hr,hI,hsz,hrest,hP,hb⟩ L hL
 dsimp only at hS hr hI hsz hrest hP hb hL ⊢
 dsimp only[l_Q52_1]
 have hlenS:S.length<=sizes S:=by
  clear hS hsz hrest hP hL
  induction S with
  |nil=>simp
  |cons p S ih=>have:=zac p.t;simp only[sizes,Aq,List.sum_cons,AA]at ih ⊢;omega
 rcases List.eq_nil_or_concat S with rfl|⟨S',p,rfl⟩
 ·obtain⟨ver,cs,op,rfl,hkk,hnn,hxs⟩:=hS
  simp[sizes]at hsz
  simp(disch:=omega) []
  refine h1 H id hI (by omega) (.inl hsz) (fun i hi=>hb i (by omega))
 ·rw[List.concat_eq_append]at *
  have hpp:=hP p (by simp)
  have hS0:=hS
  obtain⟨ver,cs,op,rfl,hkk,hnn,hxs⟩:=hS
  have hk0:=(Aa.1 hkk).1
  simp only[Af,AO]at hnn hlenS hS0 hxs
  obtain⟨ver',hi1,hi2⟩:=HS.load (bx:=[]) hS0 (j:=S'.length) (by omega)
  have hpc:((List.flatMap pcell (S'++[p])).drop (S'.length*4)).take 4=pcell p:=by
   have:=zajf (l:=S'++[p]) (j:=S'.length) (by simp)
   rw[this];simp
  rw[hpc]at hi2
  simp only[pcell]at hi2
  have hl1:((S'.length+1:Nat):Int)-1=(S'.length:Nat):=by omega
  have hvis:(visT t0 0 (-1) 0 0)[id]? = some ⟨p.t,p.parent,p.depth,p.place⟩:=by
   have h0:=congrArg (fun l=>l[0]?) hrest
   simp only[AX,Bi]at h0
   rw[<- h0,Cl]
   simp only[CS,restV,zbj,At,AK]
  obtain⟨H',hg1,hg2,hg3⟩:=hstep id _ H p.pv hvis hI hk0 hr hpp.1
  simp only[At,AN]at hg1
  have hr':H'[r]? = some (.cells (pcells t0.cells) 5 0 false):=by
   rw[hg2.2 r (Aa.1 hr).1 (by simp)];exact hr
  have hkk':H'[k0]? = some (.cells cs 4 ver op):=by
   rw[hg2.2 k0 hk0 (by simp)];exact hkk
  have hid:id<1000000:=by have:=zac p.t;simp[sizes]at hsz;omega
  have hle:((S'.length:Nat):Int)<=(S'.length:Nat)+1:=by omega
  cases hbi:b id
  ·rw[hbi]at hg1
   simp(disch:=omega) [hi1,hi2,zaa,hg1,boundHi,boundLo,asBound,hpp.1.cell.2.2,hle,Mem.get,hkk]
   have h0:=zac p.t
   exact h1 H' (id+1) hg3 (by simp[sizes]at hsz;omega) (.inr ⟨id,rfl,hbi⟩) (fun i hi=>hb i (by omega))
  ·rw[hbi]at hg1
   have hnc:evalOp (CW tr.look) (fun _=>p.pv) ⟨[],H'⟩ (.nilCheck (t_ 0))=some (p.pv,⟨[],H'⟩):=by
    rcases hpp.1 with⟨h,_⟩|⟨rest,h⟩<;>rw[h]<;>rfl
   simp only[evalOp]at hnc
   obtain⟨q,hq1,hq2,hq3⟩:∃q,fieldF 4 p.pv=some q/\loadVal ⟨[],H'⟩ none q=some (.p (kval p.t.kids))/\up q = .v q:=by
    rcases hpp.1 with⟨h,h2⟩|⟨rest,h⟩
    ·rw[h,h2];exact⟨_,rfl,zae hr' (by rw[Tree.zau];rfl),rfl⟩
    ·rw[h,Tree.zau]
     exact⟨_,rfl,rfl,rfl⟩
   have ht:=zag p.t
   have hkl:=zao (klist p.t.kids)
   have hps:p.t.size<=t0.size:=by simp[sizes]at hsz;omega
   have hSl:S'.length<=t0.size:=by simp[sizes]at hsz hlenS;omega
   simp(disch:=omega) [hi1,hi2,zaa,hg1,boundHi,boundLo,asBound,hpp.1.cell.2.2,hle,Mem.get,hkk,hnc,hq1,hq2,hq3]
   refine zajg (.func g cap) p.pv p.t r k0 t0 id p.depth p.parent p.place H' hpp.1 hrk rfl hr' (by omega) (by have:=hpp.2;omega) (by omega) S' (by omega) _ ⟨ver,cs,op,rfl,hkk',by omega,?_⟩ _ ?_
   ·rw[Ck]at hxs
    have h3:(S'.flatMap pcell).length=S'.length*4:=zaft _
    have h4:=congrArg (List.take (S'.length*4)) hxs
    rw[Cn,BJ (by omega),BM (by omega),Au (l:=S'.flatMap pcell) (by omega)]at h4
    exact h4
   ·intro sv' H2 hs2 hk2
    simp(disch:=omega) [zaa]
    obtain⟨hr1,hr2⟩:=zye p.t.kids id p.depth (klist p.t.kids).length (Am _) (id+1)
    rw[AT]at hr1 hr2
    refine hL (id+1,sv',H2,S'++kidsDown p.t.kids id p.depth (klist p.t.kids).length) ⟨?_,?_,?_,?_,?_,?_,?_⟩ ?_
    ·have:(kidsDown p.t.kids id p.depth (klist p.t.kids).length).length=(klist p.t.kids).length:=by
      have key:∀n,n<=(klist p.t.kids).length->(kidsDown p.t.kids id p.depth n).length=n:=by
       intro n
       induction n with
       |zero=>intro _;rfl
       |succ n ih=>intro hn;rw[zhp (by omega),AA,ih (by omega)]
      exact key _ (Am _)
     simp only[Af,this]
     exact hs2
    ·dsimp only
     rw[hk2.2 r (Aa.1 hr').1 hrk];exact hr'
    ·exact hIk _ _ _ hg3 hk2
    ·dsimp only
     rw[zgj,hr2]
     simp only[zgj]at hsz
     simp[sizes]at hsz ⊢
     omega
    ·dsimp only
     rw[Cl,zix,hr1]
     rw[Cl]at hrest
     simp only[CS,restV,zbj p.t,At]at hrest
     have:=congrArg (List.drop 1) hrest
     rw[Cx]at this
     rw[<- this]
     simp only[List.drop_one,List.tail_cons]
     congr 2
     have:sizes (kidsDown p.t.kids id p.depth (klist p.t.kids).length).reverse=sizes (kidsDown p.t.kids id p.depth (klist p.t.kids).length):=by simp[sizes,List.sum_reverse]
     rw[this,hr2,ht]
     omega
    ·intro x hx
     rcases Ar.1 hx with hx|hx
     ·have:=hP x (by simp[hx])
      exact⟨this.1,by dsimp only;omega⟩
     ·have:=zabh (r:=r) (t0:=t0) _ x hx
      exact⟨this.1,by have:=hpp.2;dsimp only;omega⟩
    ·intro i hi
     dsimp only at hi
     by_cases e:i=id
     ·rw[e];exact hbi
     ·exact hb i (by omega)
    ·dsimp only
     rw[zgj,hr2,zgj]
     simp[sizes]
     omega
theorem zaji (g:FuncId) (cap:J3) (t0:Tree) (r:Nat) (H0:J2) (hr:H0[r]? = some (.cells (pcells t0.cells) 5 0 false)) (hs:t0.size<1000000)
 (I:Nat->J2->Prop) (b:Nat->Bool) (hI0:∀H,Keep (fun _=>False) H0 H->I 0 H) (hIk:∀i H H',I i H->Keep (· = H0.length) H H'->I i H') (hstep:Looks g cap t0 r H0.length I b) :
 ∃H',CW tr.look F_Q52 [J5 r 0 0, .func g cap] H0=some (.tup [],H')/\∃n,I n H'/\n<=t0.size/\(n=t0.size\/∃m,n=m+1/\b m=false)/\∀i,i+1<n->b i=true:=by
 have hrl:=(Aa.1 hr).1
 obtain⟨rr,H',h1,h2,h3⟩:=zat (args:=[J5 r 0 0, .func g cap]) (H:=H0) (Q:=fun rv H'=>rv = .tup []/\∃n,I n H'/\n<=t0.size/\(n=t0.size\/∃m,n=m+1/\b m=false)/\∀i,i+1<n->b i=true) look_Q52 rfl rfl (by
  dsimp only[i_Q52,c_Q52]
  simp(disch:=omega) []
  refine zajh g cap t0 r H0.length (by omega) hs I b hIk hstep _ ?_ _ ⟨0,pcell ⟨J5 r 0 0,t0, -1,0,0⟩,false,rfl,zaz,by simp[pcell],by simp[pcell]⟩ (hI0 _ Keep.new) _ ?_
  ·rw[Ab hrl];exact hr
  ·intro H' n hn h4 h5 h6
   simp(disch:=omega) []
   exact⟨n,hn,h4,h5,h6⟩)
 exact⟨H',by rw[h1,h2],h3⟩
end Go.Ideal
