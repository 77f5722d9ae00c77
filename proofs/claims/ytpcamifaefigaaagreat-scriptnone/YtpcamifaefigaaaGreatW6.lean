/-
  IDEAL SEMANTICS: slices.SortFunc AT WHATEVER LENGTH, over rows of scalars: its contract comes from the library's shelf.
-/
import Derived.Test.YtpcamifaefigaaaGreatW1
import Derived.Shelf.SlSortCmp.Insertion
import Derived.Sort.AssemblyPlain
import Derived.Test.YtpcamifaefigaaaGreatW5
import Derived.Test.YtpcamifaefigaaaGreatW2
namespace Go.Ideal
open Go
set_option linter.unusedSectionVars false
variable [Tabs]
def scalP:PVal→Bool
 | .bool _ | .int _ _ | .str _=>true
 |_=>false
def sv:PVal→Value
 | .bool b=>.bool b
 | .int k n=>.int k n
 | .str s=>.string ⟨s.toArray⟩
 |_=>.bool false
theorem zafo {z:Cells}:∀ {v:PVal},scalP v=true→∀ {r:Value},PRel z v r↔r=sv v
 | .bool b,_,r=>by simp[PRel,sv]
 | .int k n,_,r=>by simp[PRel,sv]
 | .str s,_,r=>by simp[PRel,sv]
 | .slice ..,h,_ | .ptr ..,h,_ | .func ..,h,_ | .nilptr,h,_ | .nilslice,h,_ | .nilmap,h,_ | .nilfunc,h,_ | .niliface,h,_=>by simp[scalP]at h
theorem zaxq:∀ {v:PVal},(sv v).oneCell'=true:=by intro v;cases v<;>rfl
structure SortKit (α:Type) where
 k:Nat
 enc:α→List PVal
 cf:α→α→Int
 len:∀x,(enc x).length=k
 scal:∀x,∀v∈enc x,scalP v=true
 swo:Sort.SWO (Go.Proofs.ltOf cf)
 inj:∀x y,enc x=enc y→x=y
section
variable {α:Type} [Inhabited α]
def SortKit.sort (K:SortKit α) (d:Array α):Array α:=Sort.pdq (Go.Proofs.ltOf K.cf) d 0 d.size (Lib.bitLen d.size) true true
def SortKit.row (K:SortKit α) (d:Array α):List PVal:=d.toList.flatMap K.enc
inductive SortRel (K:SortKit α) (g:FuncId):List IVal→List IBlk→IVal×List IBlk→Prop
 |nil {H:List IBlk}:SortRel K g [.p .nilslice, .p (.func g)] H (.tup [],H)
 |empty {H:List IBlk} {i ver off:Nat}:SortRel K g [.slice i ver off 0, .p (.func g)] H (.tup [],H)
 |row {H:List IBlk} {i ver off e:Nat} {cs:List IVal} {op:Bool} (d:Array α) (hb:H[i]? = some (.cells cs e ver op)) (hn:0<d.size) (hm:d.size<4611686018427387904)
  (hl:off+d.size*K.k≤cs.length) (hcs:(cs.drop off).take (d.size*K.k)=pcells (K.row d)) :
  SortRel K g [.slice i ver off d.size, .p (.func g)] H (.tup [],H.set i (.cells (splice cs off (pcells (K.row (K.sort d)))) e ver op))
noncomputable def sortSpec (K:SortKit α) (g:FuncId):Spec:=fun args H=>open Classical in if h:∃r,SortRel K g args H r then some h.choose else none
omit [Inhabited α] in
theorem zabc (K:SortKit α):∀ {l m:List α},l.length=m.length→l.flatMap K.enc=m.flatMap K.enc→l=m
 | [],[],_,_=>rfl
 | [],_::_,h,_=>by simp at h
 |_::_,[],h,_=>by simp at h
 |x::l,y::m,h,e=>by
  rw[List.flatMap_cons,List.flatMap_cons]at e
  obtain⟨e1,e2⟩:=List.append_inj e (by rw[K.len,K.len])
  rw[K.inj _ _ e1,zabc K (by simpa using h) e2]
theorem zhx (K:SortKit α) (g:FuncId) (H:List IBlk):sortSpec K g [.p .nilslice, .p (.func g)] H=some (.tup [],H):=by
 have hx:∃r,SortRel K g [.p .nilslice, .p (.func g)] H r:=⟨_, .nil⟩
 unfold sortSpec
 rw[dif_pos hx]
 have h:=hx.choose_spec
 generalize hx.choose=r at h
 cases h
 rfl
theorem zrc (K:SortKit α) (g:FuncId) (H:List IBlk) (i ver off:Nat):sortSpec K g [.slice i ver off 0, .p (.func g)] H=some (.tup [],H):=by
 have hx:∃r,SortRel K g [.slice i ver off 0, .p (.func g)] H r:=⟨_, .empty⟩
 unfold sortSpec
 rw[dif_pos hx]
 have h:=hx.choose_spec
 generalize hx.choose=r at h
 generalize hs:0=z at h hx
 cases h with
 |empty=>rfl
 |row d _ hn=>omega
theorem zhy (K:SortKit α) (g:FuncId) {H:List IBlk} {i ver off e:Nat} {cs:List IVal} {op:Bool} (d:Array α) (hb:H[i]? = some (.cells cs e ver op)) (hn:0<d.size) (hm:d.size<4611686018427387904)
 (hl:off+d.size*K.k≤cs.length) (hcs:(cs.drop off).take (d.size*K.k)=pcells (K.row d)) :
 sortSpec K g [.slice i ver off d.size, .p (.func g)] H=some (.tup [],H.set i (.cells (splice cs off (pcells (K.row (K.sort d)))) e ver op)):=by
 have hx:∃r,SortRel K g [.slice i ver off d.size, .p (.func g)] H r:=⟨_, .row d hb hn hm hl hcs⟩
 unfold sortSpec
 rw[dif_pos hx]
 have h:=hx.choose_spec
 generalize hx.choose=r at h
 generalize hs:d.size=sz at h hx
 cases h with
 |empty=>omega
 |row d' hb' hn' hm' hl' hcs' =>
  rw[hb]at hb'
  cases hb'
  rw[← hs,hcs]at hcs'
  have:=zabc K (by simpa using hs) (zru hcs')
  have:d=d':=by rw[← Array.toList_inj];exact this
  subst this
  rfl
omit [Inhabited α] in
theorem SortKit.zard (K:SortKit α) (d:Array α):(K.row d).length=d.size*K.k:=by
 unfold SortKit.row
 have key:∀l:List α,(l.flatMap K.enc).length=l.length*K.k:=by
  intro l
  induction l with
  |nil=>simp
  |cons x l ih=>rw[List.flatMap_cons,List.length_append,K.len,ih,List.length_cons,Nat.add_mul,Nat.one_mul,Nat.add_comm]
 rw[key];rfl
theorem SortKit.perm (K:SortKit α) (d:Array α):Sort.PermIn 0 d.size d (K.sort d)∧Sort.SortedIn (Go.Proofs.ltOf K.cf) 0 d.size (K.sort d) :=
 Go.Sort.pdq_sorts (Go.Proofs.ltOf K.cf) K.swo d 0 d.size (Lib.bitLen d.size) true true (Nat.zero_le _) (Nat.le_refl _) (Or.inl rfl)
end
end Go.Ideal

/-
  PAIRS OF NUMBERS, SORTED BY THE FIRST ONE.
-/
namespace Go.Ideal
open Go
set_option linter.unusedSectionVars false
variable [Tabs]
def pairEnc (p:Int×Int):List PVal:=[.int .i64 p.1, .int .i64 p.2]
def cmpI (a b:Int):Int:=if a<b then -1 else if b<a then 1 else 0
theorem ztv (a b:Int×Int):Go.Proofs.ltOf (fun x y:Int×Int=>cmpI x.1 y.1) a b=decide (a.1<b.1):=by
 unfold Go.Proofs.ltOf cmpI
 by_cases h1:a.1<b.1
 ·simp[h1]
 ·by_cases h2:b.1<a.1<;>simp[h1,h2]
def pairKit:SortKit (Int×Int) where
 k:=2
 enc:=pairEnc
 cf x y:=cmpI x.1 y.1
 len _:=rfl
 scal x v hv:=by simp[pairEnc]at hv;rcases hv with rfl|rfl<;>rfl
 swo:={
  irrefl x:=by rw[ztv];simp
  trans x y z h1 h2:=by rw[ztv]at *;simp at *;omega
  ntrans x y z h1 h2:=by rw[ztv]at *;simp at *;omega }
 inj x y h:=by
  simp[pairEnc]at h
  exact Prod.ext h.1 h.2
def prc (L:List (Nat×Nat)):List PVal:=L.flatMap fun p=>[.int .i64 p.1, .int .i64 p.2]
def toI (p:Nat×Nat):Int×Int:=(p.1,p.2)
theorem zml (L:List (Nat×Nat)):pairKit.row (L.map toI).toArray=prc L:=by
 show(L.map toI).flatMap pairEnc=_
 rw[prc,List.flatMap_map]
 rfl
def sortP (l:List (Nat×Nat)):List (Nat×Nat):=l.mergeSort fun p q=>decide (p.1≤q.1)
theorem zas (l:List (Nat×Nat)):(sortP l).Perm l:=List.mergeSort_perm l _
theorem zdv (l:List (Nat×Nat)):(sortP l).Pairwise fun p q=>p.1≤q.1:=by
 have h:=List.pairwise_mergeSort (le:=fun p q:Nat×Nat=>decide (p.1≤q.1)) (by intro a b c;simp;omega) (by intro a b;simp;omega) l
 exact h.imp fun h=>by simpa using h
theorem zafp {l:List (Nat×Nat)} (hn:(l.map (·.1)).Nodup) {p q:Nat×Nat} (hp:p∈l) (hq:q∈l) (e:p.1=q.1):p=q:=by
 induction l with
 |nil=>cases hp
 |cons x l ih =>
  rw[List.map_cons,List.nodup_cons]at hn
  rcases List.mem_cons.1 hp with rfl|hp'<;>rcases List.mem_cons.1 hq with rfl|hq'
  ·rfl
  ·exact absurd (List.mem_map_of_mem hq') (e ▸ hn.1)
  ·exact absurd (List.mem_map_of_mem hp') (e ▸ hn.1)
  ·exact ih hn.2 hp' hq'
theorem zfl {l m:List (Nat×Nat)} (hn:(l.map (·.1)).Nodup) (hp:m.Perm l) (hs:m.Pairwise fun p q=>p.1≤q.1):m=sortP l:=by
 refine List.Perm.eq_of_pairwise (le:=fun p q:Nat×Nat=>p.1≤q.1) (fun p q h1 h2 h3 h4=>?_) hs (zdv l) (hp.trans (zas l).symm)
 exact zafp hn (hp.mem_iff.1 h1) ((zas l).mem_iff.1 h2) (Nat.le_antisymm h3 h4)
theorem zhz {l:List (Nat×Nat)} (hn:(l.map (·.1)).Nodup):pairKit.sort (l.map toI).toArray=((sortP l).map toI).toArray:=by
 obtain⟨⟨h1,_,h2⟩,h3⟩:=pairKit.perm (l.map toI).toArray
 rw[← h1]at h3
 generalize pairKit.sort (l.map toI).toArray=d at *
 have hsz:(l.map toI).toArray.size=l.length:=by simp
 have hp:d.toList.Perm (l.map toI):=by
  rw[show(l.map toI).toArray.extract 0 (l.map toI).toArray.size=(l.map toI).toArray from Array.extract_size,show d.extract 0 (l.map toI).toArray.size=d by rw[← h1];exact Array.extract_size]at h2
  exact h2
 obtain⟨m,hm⟩:∃m:List (Nat×Nat),d.toList=m.map toI:=by
  have:∀L:List (Int×Int),(∀ x∈L,∃p:Nat×Nat,x=toI p)→∃m:List (Nat×Nat),L=m.map toI:=by
   intro L
   induction L with
   |nil=>intro _;exact⟨[],rfl⟩
   |cons x L ih =>
    intro h
    obtain⟨p,rfl⟩:=h x (by simp)
    obtain⟨m,rfl⟩:=ih fun x hx=>h x (by simp[hx])
    exact⟨p::m,rfl⟩
  refine this _ fun x hx=>?_
  have:=hp.mem_iff.1 hx
  obtain⟨p,_,rfl⟩:=List.mem_map.1 this
  exact⟨p,rfl⟩
 have inj:∀p q:Nat×Nat,toI p=toI q→p=q:=fun p q h=>by
  simp only[toI,Prod.mk.injEq]at h
  exact Prod.ext (by omega) (by omega)
 have key:∀L M:List (Nat×Nat),L.map toI=M.map toI→L=M:=by
  intro L
  induction L with
  |nil=>intro M h;cases M with|nil=>rfl|cons _ _=>simp at h
  |cons x L ih =>
   intro M h
   cases M with
   |nil=>simp at h
   |cons y M =>
    simp only[List.map_cons,List.cons.injEq]at h
    rw[inj _ _ h.1,ih M h.2]
 have hpm:m.Perm l:=by
  have h5:=(hm ▸ hp).map fun x:Int×Int=>(x.1.toNat,x.2.toNat)
  rw[List.map_map,List.map_map]at h5
  have e:((fun x:Int×Int=>(x.1.toNat,x.2.toNat)) ∘ toI)=id:=by
   funext p;simp[toI]
  rw[e,List.map_id,List.map_id]at h5
  exact h5
 have hsm:m.Pairwise fun p q=>p.1≤q.1:=by
  rw[List.pairwise_iff_getElem]
  intro i j hi hj hij
  have hlen:d.size=m.length:=by rw[← Array.length_toList,hm];simp
  have:=h3 i j (Nat.zero_le _) hij (by omega)
  rw[show pairKit.cf=fun x y=>cmpI x.1 y.1 from rfl,ztv]at this
  have e1:d[i]! = toI m[i]:=by
   rw[getElem!_pos d i (by omega)]
   have:d.toList[i]'(by rw[Array.length_toList];omega)=toI m[i]:=by simp only[hm,List.getElem_map]
   simpa using this
  have e2:d[j]! = toI m[j]:=by
   rw[getElem!_pos d j (by omega)]
   have:d.toList[j]'(by rw[Array.length_toList];omega)=toI m[j]:=by simp only[hm,List.getElem_map]
   simpa using this
  rw[e1,e2]at this
  simp[toI]at this
  omega
 rw[← Array.toList_inj,hm,zfl hn hpm hsm]
end Go.Ideal

namespace Go.Ideal
open Go
noncomputable def sortAny (l:List FuncId):Spec:=match l with
 | []=>fun _ _=>none
 |g::r=>fun args H=>match sortSpec pairKit g args H with
  |some x=>some x
  |none=>sortAny r args H
noncomputable def sortOracle:Oracle:=noOracle.set F_Q93 (sortAny [F_Q130,F_Q168,F_Q94])
noncomputable instance seatBase:Base where
 b:=sortOracle
 m C f a H r:=f=F_Q45∧RangePure C i_Q45 a H r
 mono h g:=⟨g.1,g.2.mono h⟩
 det h g:=h.2.det g.2
 off h:=by rw[h.1];rfl
theorem zrd {g g':FuncId} (hne:g≠g') (v:IVal) (H:List IBlk):sortSpec pairKit g' [v, .p (.func g)] H=none:=by
 unfold sortSpec
 refine dif_neg ?_
 rintro⟨r,h⟩
 generalize hl:[v,IVal.p (.func g)]=l at h
 cases h with
 |nil=>injection hl with _ hl;injection hl with hl _;injection hl with hl;injection hl with hl;exact hne hl
 |empty=>injection hl with _ hl;injection hl with hl _;injection hl with hl;injection hl with hl;exact hne hl
 |row=>injection hl with _ hl;injection hl with hl _;injection hl with hl;injection hl with hl;exact hne hl
theorem zsa {g:FuncId} {v:IVal} {H:List IBlk} {r:IVal×List IBlk} (h:sortSpec pairKit g [v, .p (.func g)] H=some r):∀l:List FuncId,g∈l→sortAny l [v, .p (.func g)] H=some r
 | [],hm=>by simp at hm
 |x::l,hm=>by
  by_cases e:x=g
  ·subst e
   simp only[sortAny,h]
  ·have hm':g∈l:=by
    rcases List.mem_cons.1 hm with h'|h'
    ·exact absurd h'.symm e
    ·exact h'
   simp only[sortAny,zrd (fun e'=>e e'.symm)]
   exact zsa h l hm'
theorem zge {g:FuncId} (hg:g∈[F_Q130,F_Q168,F_Q94]) {v:IVal} {H:List IBlk} {r:IVal×List IBlk} (h:sortSpec pairKit g [v, .p (.func g)] H=some r):seatBase.b F_Q93 [v, .p (.func g)] H=some r:=by
 have e:seatBase.b F_Q93=sortAny [F_Q130,F_Q168,F_Q94]:=by
  show sortOracle _=_
  unfold sortOracle
  exact Oracle.zti
 rw[e]
 exact zsa h _ hg
end Go.Ideal

namespace Go.Ideal
open Go
set_option maxHeartbeats 1000000
theorem zafq (k:Option (List Tree)) {c0 c1 c2 c3:SV} (h:∀t∈klist k,∀H,CW tr.look F_Q18 [tagg t] H=some (.p (.int .i64 t.size),H)) (hs:lsize (klist k)<1000000000000) (Q:IExit→Env→KM→Prop)
 (hQ:Q .normal [(3, .int .i64 (lsize (klist k)+1:Nat))] ⟨[],[]⟩) :
 wpLoop (CW tr.look) 21 m_Q18_0 l_Q18_0 (blkK 0 b_Q18_0 Q) [(1, .box 1 0),(3, .int .i64 1),(4, .int .i64 0)] ⟨[(1,some ⟨[c0,c1,c2,c3, .v (.p (kval k))],5⟩)],[]⟩:=by
 refine zac (α:=Nat×Nat) (fun a=>[(1, .box 1 0),(3, .int .i64 a.2),(4, .int .i64 a.1)]) (fun a=>⟨[(1,some ⟨[c0,c1,c2,c3, .v (.p (kval k))],5⟩)],[]⟩)
  (fun a=>a.1≤(klist k).length∧a.2+lsize ((klist k).drop a.1)=lsize (klist k)+1) (fun a=>(klist k).length-a.1) ?_ (0,1) ⟨by omega,by simp;omega⟩
 rintro⟨j,acc⟩ ⟨hj,ha⟩ L hL
 dsimp only at hj ha hL ⊢
 dsimp only[l_Q18_0]
 by_cases hjl:j<(klist k).length
 ·have hl:=zrz hjl
  have hc:=h _ (List.getElem_mem hjl)
  have:=zal (klist k)
  have:=zlh hjl
  simp(disch:=omega) [zck,zad,hc,zaa]
  exact hL (j+1,acc+(klist k)[j].size) ⟨by dsimp only;omega,by dsimp only;omega⟩ (by dsimp only;omega)
 ·obtain rfl:j=(klist k).length:=by omega
  simp[lsize]at ha
  subst ha
  simp
  simpa using hQ
theorem zafr:∀(n:Nat) (t:Tree),t.size<n→n≤1000000000000→∀(H:List IBlk),CW tr.look F_Q18 [tagg t] H=some (.p (.int .i64 t.size),H):=by
 intro n
 induction n with
 |zero=>intro t h;omega
 |succ n ih =>
  intro t h hb H
  have ht:=zag t
  refine zai look_Q18 rfl (by simp) rfl ?_
  dsimp only[i_Q18,c_Q18]
  simp
  refine zafq _ (fun u hu H=>ih u (by have:=zam hu;omega) (by omega) H) (by omega) _ ?_
  simp[ht]
end Go.Ideal

/-
  IDEAL SEMANTICS, 40: STRINGS IN ORDER.
-/
namespace Go.Ideal
open Go
set_option linter.unusedSectionVars false
variable [Tabs]
theorem zdj:∀s:Bytes,bytesLess s s=false
 | []=>rfl
 |a::s=>by simp[bytesLess,zdj s]
theorem zmm:∀ {s t:Bytes},bytesLess s t=true→bytesLess t s=false
 | [],[],h=>by simp[bytesLess]at h
 | [],_::_,_=>rfl
 |_::_,[],h=>by simp[bytesLess]at h
 |a::s,b::t,h=>by
  simp only[bytesLess,Bool.or_eq_true,decide_eq_true_eq,Bool.and_eq_true,beq_iff_eq]at h
  simp only[bytesLess,Bool.or_eq_false_iff,decide_eq_false_iff_not,Bool.and_eq_false_iff]
  rcases h with h|⟨rfl,h⟩
  ·refine⟨by rw[UInt8.not_lt];exact UInt8.le_of_lt h, .inl ?_⟩
   simp only[beq_eq_false_iff_ne]
   rintro rfl
   exact absurd h (UInt8.lt_irrefl _)
  ·exact⟨UInt8.lt_irrefl _, .inr (zmm h)⟩
theorem zeq:∀ {s t:Bytes},bytesLess s t=false→bytesLess t s=false→s=t
 | [],[],_,_=>rfl
 | [],_::_,h,_=>by simp[bytesLess]at h
 |_::_,[],_,h=>by simp[bytesLess]at h
 |a::s,b::t,h,g=>by
  simp only[bytesLess,Bool.or_eq_false_iff,decide_eq_false_iff_not,Bool.and_eq_false_iff,beq_eq_false_iff_ne]at h g
  have hab:a=b:=UInt8.le_antisymm (UInt8.not_lt.1 g.1) (UInt8.not_lt.1 h.1)
  subst hab
  rcases h.2 with h2|h2
  ·exact absurd rfl h2
  ·rcases g.2 with g2|g2
   ·exact absurd rfl g2
   ·rw[zeq h2 g2]
theorem zpl {s t:Bytes} (h:bytesLess s t=true):s≠t:=by
 rintro rfl;rw[zdj]at h;cases h
section
variable {s t:Bytes} {k:SV→Prop}
@[simp ↓ high] theorem zant:strBinK .lss s t k=k (.bool (bytesLess s t)):=by simp[strBin]
@[simp ↓ high] theorem zanu:strBinK .gtr s t k=k (.bool (bytesLess t s)):=by
 have:(!(bytesLess s t||s==t))=bytesLess t s:=by
  cases h:bytesLess s t
  ·cases h2:bytesLess t s
   ·rw[zeq h h2];simp
   ·have:=zpl h2
    simp;exact fun e=>this e.symm
  ·rw[zmm h];rfl
 rw[zyz]
 simp only[strBin,zex,zzb,zyv,this]
@[simp ↓ high] theorem zanv:strBinK .leq s t k=k (.bool (!bytesLess t s)):=by
 have:(bytesLess s t||s==t)=!bytesLess t s:=by
  cases h:bytesLess s t
  ·cases h2:bytesLess t s
   ·rw[zeq h h2];simp
   ·have:=zpl h2
    simp;exact fun e=>this e.symm
  ·rw[zmm h];rfl
 rw[zyy]
 simp only[strBin,zex,zzb,zyv,this]
@[simp ↓ high] theorem zanw:strBinK .geq s t k=k (.bool (!bytesLess s t)):=by
 rw[zza]
 simp only[strBin,zex,zzb,zyv]
end
def sgn (l m:Bool):Int:=if l then -1 else if m then 1 else 0
def scmp (s t:Bytes):Int:=sgn (bytesLess s t) (bytesLess t s)
theorem zll {s t:Bytes}:scmp s t=0↔s=t:=by
 unfold scmp sgn
 cases h:bytesLess s t
 ·cases h2:bytesLess t s
  ·simp[zeq h h2]
  ·simp;rintro rfl;rw[zdj]at h2;cases h2
 ·simp;exact zpl h
def icmp (a b:Int):Int:=sgn (decide (a<b)) (decide (b<a))
theorem zdw {a b:Int}:icmp a b=0↔a=b:=by
 unfold icmp sgn
 by_cases h:a<b<;>by_cases h2:b<a<;>simp[h,h2]<;>omega
def acmp (p q:Bytes×Bytes):Int:=sgn (bytesLess p.1 q.1||decide (p.1=q.1)&&bytesLess p.2 q.2) (bytesLess q.1 p.1||decide (p.1=q.1)&&bytesLess q.2 p.2)
theorem zafs {p q:Bytes×Bytes}:acmp p q=0↔p=q:=by
 obtain⟨a,b⟩:=p
 obtain⟨c,d⟩:=q
 unfold acmp sgn
 simp only[Prod.mk.injEq]
 cases h:bytesLess a c
 ·cases h2:bytesLess c a
  ·have:=zeq h h2
   subst this
   cases h3:bytesLess b d
   ·cases h4:bytesLess d b
    ·simp[zeq h3 h4]
    ·simp;rintro rfl;rw[zdj]at h4;cases h4
   ·simp;exact zpl h3
  ·have hne:a≠c:=fun e=>by rw[e,zdj]at h2;cases h2
   simp[hne]
 ·have hne:a≠c:=zpl h
  simp[hne]
def lcmp {α:Type} (f:α→α→Int):List α→List α→Int
 |x::l,y::m=>if f x y=0 then lcmp f l m else f x y
 |l,m=>icmp l.length m.length
theorem zwl {α:Type} {f:α→α→Int}:∀ {l m:List α},(∀ x∈l,∀y,f x y=0↔x=y)→(lcmp f l m=0↔l=m)
 | [],[],_=>by simp[lcmp,zdw]
 | [],_::_,_=>by simp[lcmp,zdw];omega
 |_::_,[],_=>by simp[lcmp,zdw];omega
 |x::l,y::m,h=>by
  have ih:=zwl (l:=l) (m:=m) (fun a ha=>h a (by simp[ha]))
  rw[lcmp]
  by_cases e:f x y=0
  ·rw[if_pos e,ih,(h x (by simp) y).1 e];simp
  ·rw[if_neg e]
   simp only[e,false_iff,List.cons.injEq,not_and]
   intro e2
   exact absurd ((h x (by simp) y).2 e2) e
end Go.Ideal

/-
  IDEAL SEMANTICS, 41: A TREE's NODES; TREES IN ORDER.
-/
namespace Go.Ideal
open Go
set_option linter.unusedSectionVars false
variable [Tabs]
mutual
def Tree.nodes:Tree→List Tree
 | .mk k n x a ks=>.mk k n x a ks::knodes ks
def knodes:Option (List Tree)→List Tree
 |none=>[]
 |some l=>lnodes l
def lnodes:List Tree→List Tree
 | []=>[]
 |t::l=>t.nodes++lnodes l
end
theorem zbl (t:Tree):t.nodes=t::lnodes (klist t.kids):=by
 obtain⟨k,n,x,a,ks⟩:=t
 cases ks<;>simp[Tree.nodes,knodes,lnodes,klist,Tree.kids]
theorem zdk {u:Tree}:∀ {l:List Tree},u∈lnodes l↔∃t∈l,u∈t.nodes
 | []=>by simp[lnodes]
 |t::l=>by simp[lnodes,zdk (l:=l)]
theorem ziy (t:Tree):t∈t.nodes:=by rw[zbl];simp
theorem zwm {t u v:Tree} (h:u∈klist t.kids) (hv:v∈u.nodes):v∈t.nodes:=by
 rw[zbl];simp only[List.mem_cons];exact .inr (zdk.2 ⟨u,h,hv⟩)
def Fine (t:Tree):Prop:=t.size<1000000∧∀u∈t.nodes,(alist u.attrs).length<1000000
theorem Fine.attrs {t:Tree} (h:Fine t):(alist t.attrs).length<1000000000000:=by have:=h.2 t (ziy t);omega
theorem Fine.kid {t u:Tree} (h:Fine t) (hu:u∈klist t.kids):Fine u:=by
 have h1:=zag t
 have h2:=zam hu
 exact⟨by have:=h.1;omega,fun v hv=>h.2 v (zwm hu hv)⟩
theorem Fine.kids {t:Tree} (h:Fine t):(klist t.kids).length<1000000000000:=by
 have h1:=zag t
 have h2:=zal (klist t.kids)
 have:=h.1
 omega
def nodeCmp (a b:Tree):Int:=if icmp a.kind b.kind=0 then(if scmp a.name b.name=0 then(if scmp a.text b.text=0 then lcmp acmp (alist a.attrs) (alist b.attrs)else scmp a.text b.text)else scmp a.name b.name)else icmp a.kind b.kind
def SameNode (a b:Tree):Prop:=a.kind=b.kind∧a.name=b.name∧a.text=b.text∧alist a.attrs=alist b.attrs
theorem znf {a b:Tree}:nodeCmp a b=0↔SameNode a b:=by
 unfold nodeCmp SameNode
 by_cases h1:icmp a.kind b.kind=0
 ·rw[if_pos h1]
  have:=zdw.1 h1
  by_cases h2:scmp a.name b.name=0
  ·rw[if_pos h2]
   have:=zll.1 h2
   by_cases h3:scmp a.text b.text=0
   ·rw[if_pos h3,zwl (fun _ _ _=>zafs)]
    have:=zll.1 h3
    simp_all
   ·rw[if_neg h3]
    have:=fun e=>h3 (zll.2 e)
    simp_all
  ·rw[if_neg h2]
   have:=fun e=>h2 (zll.2 e)
   simp_all
 ·rw[if_neg h1]
  have:=fun e=>h1 (zdw.2 e)
  simp_all
mutual
def cmpT:Tree→Tree→Int
 | .mk k n x a ks,u=>if nodeCmp (.mk k n x a ks) u=0 then cmpK ks (klist u.kids)else nodeCmp (.mk k n x a ks) u
def cmpK:Option (List Tree)→List Tree→Int
 |none,m=>icmp 0 m.length
 |some l,m=>cmpL l m
def cmpL:List Tree→List Tree→Int
 | [],m=>icmp 0 m.length
 |t::l,[]=>icmp (t::l).length 0
 |t::l,u::m=>if cmpT t u=0 then cmpL l m else cmpT t u
end
theorem cmpL_eq:∀ {l m:List Tree},cmpL l m=lcmp cmpT l m
 | [],m=>by cases m<;>rw[cmpL,lcmp]<;>simp
 |t::l,[]=>by rw[cmpL,lcmp];simp;simp
 |t::l,u::m=>by rw[cmpL,lcmp,cmpL_eq]
theorem zare (t u:Tree):cmpT t u=if nodeCmp t u=0 then lcmp cmpT (klist t.kids) (klist u.kids)else nodeCmp t u:=by
 obtain⟨k,n,x,a,ks⟩:=t
 rw[cmpT]
 cases ks with
 |none=>simp only[cmpK,Tree.kids,klist,Option.getD_none,←cmpL_eq,cmpL]
 |some l=>simp only[cmpK,Tree.kids,klist,Option.getD_some,cmpL_eq]
def SameT (t u:Tree):Prop:=cmpT t u=0
instance (t u:Tree):Decidable (SameT t u):=by unfold SameT;infer_instance
theorem zwn:∀ {l m:List Tree},lcmp cmpT l m=0↔l.length=m.length∧∀(j:Nat) (a b:Tree),l[j]? = some a→m[j]? = some b→SameT a b
 | [],[]=>by simp[lcmp,zdw]
 | [],_::_=>by simp[lcmp,zdw];omega
 |_::_,[]=>by simp[lcmp,zdw];omega
 |t::l,u::m=>by
  rw[lcmp]
  by_cases h:cmpT t u=0
  ·rw[if_pos h,zwn]
   constructor
   ·rintro⟨h1,h2⟩
    refine⟨by simp[h1],fun j a b ha hb=>?_⟩
    cases j with
    |zero=>simp at ha hb;subst ha hb;exact h
    |succ j=>exact h2 j a b (by simpa using ha) (by simpa using hb)
   ·rintro⟨h1,h2⟩
    exact⟨by simpa using h1,fun j a b ha hb=>h2 (j+1) a b (by simpa using ha) (by simpa using hb)⟩
  ·rw[if_neg h]
   simp only[h,false_iff,not_and]
   intro _ h2
   exact h (h2 0 t u rfl rfl)
theorem ziz {t u:Tree}:SameT t u↔SameNode t u∧(klist t.kids).length=(klist u.kids).length∧∀(j:Nat) (a b:Tree),(klist t.kids)[j]? = some a→(klist u.kids)[j]? = some b→SameT a b:=by
 unfold SameT
 rw[zare]
 by_cases h:nodeCmp t u=0
 ·rw[if_pos h,zwn]
  have:=znf.1 h
  simp only[this,true_and];rfl
 ·rw[if_neg h]
  have:¬SameNode t u:=fun e=>h (znf.2 e)
  simp[h,this]
end Go.Ideal



namespace Go.Ideal
open Go
set_option maxHeartbeats 1000000
theorem zacu (a b:Option Attrs) (hl:(alist a).length=(alist b).length) (hs:(alist a).length<1000000000000) (Q:IExit→Env→KM→Prop)
 (h1:alist a=alist b→Q .normal [] ⟨[],[]⟩) (h2:alist a≠alist b→∀E,lookE E 4 = .bool false→Q .ret E ⟨[],[]⟩) :
 wpLoop (CW tr.look) 26 m_Q208_0 l_Q208_0 (blkK 0 b_Q208_0 Q) [(0, .v (.p (aval a))),(1, .v (.p (aval b))),(12, .int .i64 (alist b).length),(13, .int .i64 0)] ⟨[],[]⟩:=by
 refine zac (α:=Nat) (fun j=>[(0, .v (.p (aval a))),(1, .v (.p (aval b))),(12, .int .i64 (alist b).length),(13, .int .i64 j)]) (fun _=>⟨[],[]⟩)
  (fun j=>j≤(alist a).length∧(alist a).take j=(alist b).take j) (fun j=>(alist a).length-j) ?_ 0 ⟨by omega,by simp⟩
 rintro j ⟨hj,ht⟩ L hL
 dsimp only[l_Q208_0]
 by_cases hjl:j<(alist a).length
 ·have hjb:j<(alist b).length:=by omega
  by_cases he:(alist a)[j]=(alist b)[j]
  ·simp(disch:=omega) [zbk,zaa,he]
   refine hL (j+1) ⟨by omega,?_⟩ (by omega)
   rw[List.take_add_one,List.take_add_one,ht,List.getElem?_eq_getElem hjl,List.getElem?_eq_getElem hjb,he]
  ·have h3:((alist a)[j].1==(alist b)[j].1&&(alist a)[j].2==(alist b)[j].2)=false:=by
    rw[Bool.eq_false_iff];intro h;simp at h;exact he (Prod.ext h.1 h.2)
   simp(disch:=omega) [zbk,h3]
   exact h2 (fun e=>he (by simp[e])) _ rfl
 ·obtain rfl:j=(alist a).length:=by omega
  simp[hl]
  refine h1 ?_
  rw[List.take_length,hl,List.take_length]at ht
  exact ht
theorem zakt (a b:Option Attrs) (hs:(alist a).length<1000000000000) (H:List IBlk):CW tr.look F_Q208 [.p (aval a), .p (aval b)] H=some (.p (.bool (decide (alist a=alist b))),H):=by
 refine zai look_Q208 rfl (by simp) rfl ?_
 dsimp only[i_Q208,c_Q208]
 by_cases hl:(alist a).length=(alist b).length
 ·simp[hl]
  refine zacu a b hl hs _ (fun h=>?_) (fun h E hE=>?_)
  ·simp[h]
  ·simp[hE,h]
 ·have:alist a≠alist b:=fun e=>hl (by rw[e])
  simp[this]
  omega
def kin (a b:Tree):Prop:=a.kind=b.kind∧a.name=b.name
instance (a b:Tree):Decidable (kin a b):=by unfold kin;infer_instance
def cost (a b:Tree):Nat:=if ¬kin a b then 3 else if a.text=b.text∧alist a.attrs=alist b.attrs then 0 else 1
theorem zaft (a b:Tree) (hs:(alist a.attrs).length<1000000000000) (H:List IBlk):CW tr.look F_Q195 [tagg a,tagg b] H=some (.p (.int .i64 (cost a b)),H):=by
 refine zai look_Q195 rfl (by simp) rfl ?_
 dsimp only[i_Q195,c_Q195]
 by_cases h1:a.kind=b.kind<;>by_cases h2:a.name=b.name<;>by_cases h3:a.text=b.text<;>by_cases h4:alist a.attrs=alist b.attrs <;>
  simp[h1,h2,h3,h4,zakt _ _ hs,cost,kin]
end Go.Ideal

/-
  IDEAL SEMANTICS, 42: SLICES IN THE HEAP.
-/
namespace Go.Ideal
open Go
set_option linter.unusedSectionVars false
variable [Tabs]
theorem zbh {H:List IBlk} {b:IBlk}:(H++[b])[H.length]? = some b:=by simp
def HS (H:List IBlk) (k esz n:Nat) (v:IVal) (xs:List IVal):Prop:=∃ver cs op,v = .slice k ver 0 n∧H[k]? = some (.cells cs esz ver op)∧n*esz≤cs.length∧cs.take (n*esz)=xs
def appBlk (cs ys:List IVal) (esz n ny ver:Nat) (op:Bool):IBlk:=if(n+ny)*esz≤cs.length then .cells (splice cs (n*esz) ys) esz ver op else .cells (cs.take (n*esz)++ys) esz (ver+1) true
def appVer (cs:List IVal) (esz n ny ver:Nat):Nat:=if(n+ny)*esz≤cs.length then ver else ver+1
theorem zbx {bx:List (Nat×IBlk)} {H:List IBlk} {esz k n ny ver:Nat} {op:Bool} {cs ys:List IVal} {y:IVal} (hk:H[k]? = some (.cells cs esz ver op)) (hn:n*esz≤cs.length) (hy:srcCells ⟨bx,H⟩ esz y=some ys) (hl:srcLen y=some ny) (hpos:0<ny) (hb:n+ny≤4294967296) :
 evalAppend ⟨bx,H⟩ esz (.slice k ver 0 n) y=some (.slice k (appVer cs esz n ny ver) 0 (n+ny),⟨bx,H.set k (appBlk cs ys esz n ny ver op)⟩):=by
 have h1:Nat.ble (n+ny) maxAppend=true:=Nat.ble_eq_true_of_le hb
 have h2:(Nat.beq ver ver&&Nat.beq esz esz&&Nat.ble (0+n*esz) cs.length)=true:=by
  rw[Nat.beq_refl,Nat.beq_refl,Nat.zero_add,Bool.true_and,Bool.true_and]
  exact Nat.ble_eq_true_of_le hn
 have h3:Nat.beq ny 0=false:=by rw[zfq];exact decide_eq_false (by omega)
 simp only[evalAppend,evalAppend0,hy,hl,sliceLen,h1,Mem.get,hk,h2,h3]
 by_cases h:(n+ny)*esz≤cs.length
 ·have h4:Nat.ble ((n+ny)*esz) cs.length=true:=Nat.ble_eq_true_of_le h
  simp only[Nat.zero_add,h4,appVer,appBlk,if_pos h,Mem.put]
 ·have h4:Nat.ble ((n+ny)*esz) cs.length=false:=by
   cases e:Nat.ble ((n+ny)*esz) cs.length with
   |false=>rfl
   |true=>exact absurd (Nat.le_of_ble_eq_true e) h
  simp only[Nat.zero_add,h4,appVer,appBlk,if_neg h,Mem.put,List.drop_zero]
theorem zlm {H:List IBlk} {esz k n ny ver:Nat} {op:Bool} {cs ys:List IVal} (hk:k<H.length) (hn:n*esz≤cs.length) (hy:ys.length=ny*esz) :
 HS (H.set k (appBlk cs ys esz n ny ver op)) k esz (n+ny) (.slice k (appVer cs esz n ny ver) 0 (n+ny)) (cs.take (n*esz)++ys):=by
 unfold appBlk appVer
 by_cases h:(n+ny)*esz≤cs.length
 ·rw[if_pos h,if_pos h]
  refine⟨ver,_,op,rfl,by rw[zap hk],?_,?_⟩
  ·simp only[splice,List.length_append,List.length_take,List.length_drop]
   rw[Nat.add_mul]at h ⊢
   omega
  ·unfold splice
   rw[← List.append_assoc,List.take_append_of_le_length (by simp only[List.length_append,List.length_take];rw[Nat.add_mul];rw[Nat.add_mul]at h;omega)]
   rw[List.take_of_length_le (by simp only[List.length_append,List.length_take];rw[Nat.add_mul];omega)]
 ·rw[if_neg h,if_neg h]
  refine⟨_,_,_,rfl,by rw[zap hk],?_,?_⟩
  ·simp only[List.length_append,List.length_take]
   rw[Nat.add_mul];omega
  ·rw[List.take_of_length_le (by simp only[List.length_append,List.length_take];rw[Nat.add_mul];omega)]
theorem append_nil {bx:List (Nat×IBlk)} {H:List IBlk} {esz ny:Nat} {ys:List IVal} {y:IVal} (hy:srcCells ⟨bx,H⟩ esz y=some ys) (hl:srcLen y=some ny) (hpos:0<ny) (hb:ny≤4294967296) :
 evalAppend ⟨bx,H⟩ esz (.p .nilslice) y=some (.slice H.length 0 0 ny,⟨bx,H++[.cells ys esz 0 true]⟩):=by
 have h1:Nat.ble (0+ny) maxAppend=true:=Nat.ble_eq_true_of_le (by unfold maxAppend;omega)
 have h3:Nat.beq ny 0=false:=by rw[zfq];exact decide_eq_false (by omega)
 simp only[evalAppend,evalAppend0,hy,hl,sliceLen,h1,h3]
theorem zcl {bx:List (Nat×IBlk)} {H:List IBlk} {esz k n ver:Nat} {op:Bool} {cs:List IVal} (hk:H[k]? = some (.cells cs esz ver op)) (hn:cs.length=n*esz):srcCells ⟨bx,H⟩ esz (.slice k ver 0 n)=some cs:=by
 have h2:((Nat.beq ver ver&&Nat.beq esz esz)&&Nat.ble (0+n*esz) cs.length)=true:=by
  rw[Nat.beq_refl,Nat.beq_refl,Nat.zero_add,Bool.true_and,Bool.true_and]
  exact Nat.ble_eq_true_of_le (by omega)
 simp only[srcCells,Mem.get,hk,h2,List.drop_zero]
 rw[List.take_of_length_le (by omega)]
@[simp] theorem zzd {k v o n:Nat}:srcLen (.slice k v o n)=some n:=rfl
theorem HS.load {bx:List (Nat×IBlk)} {H:List IBlk} {k esz n j:Nat} {v:IVal} {xs:List IVal} (h:HS H k esz n v xs) (hj:j<n) :
 ∃ver,idxS esz v (.p (.int .i64 j))=some (.ptr (.heap k) ver (j*esz))∧loadVal ⟨bx,H⟩ (some esz) (.ptr (.heap k) ver (j*esz))=some (.agg ((xs.drop (j*esz)).take esz)):=by
 obtain⟨ver,cs,op,rfl,hk,hn,hx⟩:=h
 refine⟨ver,by rw[zau hj,Nat.zero_add],?_⟩
 have hle:j*esz+esz≤n*esz:=by
  have:(j+1)*esz≤n*esz:=Nat.mul_le_mul_right _ hj
  rw[Nat.succ_mul]at this;exact this
 rw[zdc hk (by omega),←hx]
 congr 2
 rw[List.drop_take,List.take_take,Nat.min_eq_left (by omega)]
theorem HS.len {H:List IBlk} {k esz n:Nat} {v:IVal} {xs:List IVal} (h:HS H k esz n v xs):sliceLen v=some n:=by
 obtain⟨ver,cs,op,rfl,hk,hn,hx⟩:=h
 rfl
theorem HS.keep {H H':List IBlk} {k esz n:Nat} {v:IVal} {xs:List IVal} (h:HS H k esz n v xs) (hk:H'[k]? = H[k]?):HS H' k esz n v xs:=by
 obtain⟨ver,cs,op,e,h1,h2,h3⟩:=h
 exact⟨ver,cs,op,e,by rw[hk];exact h1,h2,h3⟩
theorem HS.lt {H:List IBlk} {k esz n:Nat} {v:IVal} {xs:List IVal} (h:HS H k esz n v xs):k<H.length:=by
 obtain⟨ver,cs,op,rfl,hk,hn,hx⟩:=h
 exact(List.getElem?_eq_some_iff.1 hk).1
def Keep (S:Nat→Prop) (H H':List IBlk):Prop:=H.length≤H'.length∧∀i,i<H.length→¬S i→H'[i]? = H[i]?
theorem Keep.refl {S:Nat→Prop} {H:List IBlk}:Keep S H H:=⟨Nat.le_refl _,fun _ _ _=>rfl⟩
theorem Keep.trans {S:Nat→Prop} {H H' H2:List IBlk} (h:Keep S H H') (g:Keep S H' H2):Keep S H H2 :=
 ⟨Nat.le_trans h.1 g.1,fun i hi hs=>by rw[g.2 i (Nat.lt_of_lt_of_le hi h.1) hs,h.2 i hi hs]⟩
theorem Keep.new {S:Nat→Prop} {H:List IBlk} {b:List IBlk}:Keep S H (H++b):=⟨by simp,fun i hi _=>List.getElem?_append_left hi⟩
theorem Keep.set {S:Nat→Prop} {H:List IBlk} {k:Nat} {b:IBlk} (h:S k∨H.length≤k):Keep S H (H.set k b):=by
 refine⟨by simp,fun i hi hs=>?_⟩
 rw[List.getElem?_set_ne]
 rintro rfl
 rcases h with h|h
 ·exact hs h
 ·omega
theorem Keep.mono {S S':Nat→Prop} {H H':List IBlk} (h:Keep S H H') (k:∀i,i<H.length→S i→S' i):Keep S' H H':=⟨h.1,fun i hi hs=>h.2 i hi fun x=>hs (k i hi x)⟩
end Go.Ideal

/-
  IDEAL SEMANTICS, 43: A TREE's NODES IN A LIST, WITH THEIR SIZES, HEIGHTS; SLICES THAT ARE FROZEN.
-/
namespace Go.Ideal
open Go
set_option linter.unusedSectionVars false
variable [Tabs]
theorem zng {g:IVal→Option PVal} (hg:∀x,g (.p x)=some x):∀l:List PVal,freezeList g (pcells l)=some l
 | []=>rfl
 |a::l=>by
  have:=zng hg l
  simp only[pcells,List.map_cons]at this ⊢
  simp only[freezeList,hg,this]
theorem zdx {H:List IBlk} {k e n:Nat} {v:IVal} {xs:List PVal} (h:HS H k e n v (pcells xs)):freezeCell H 100 v=some (.slice e n xs):=by
 obtain⟨ver,cs,op,rfl,hk,hn,hx⟩:=h
 have h2:(Nat.beq ver ver&&Nat.ble (0+n*e) cs.length)=true:=by
  rw[Nat.beq_refl,Nat.zero_add,Bool.true_and];exact Nat.ble_eq_true_of_le hn
 rw[freezeCell]
 simp only[hk,h2,List.drop_zero,hx]
 rw[zng (fun x=>rfl)]
theorem HS.store {bx:List (Nat×IBlk)} {H:List IBlk} {k esz n ver off:Nat} {xs new:List IVal} (h:HS H k esz n (.slice k ver 0 n) xs) (ho:off+new.length≤n*esz) :
 ∃b,writeCells ⟨bx,H⟩ (.ptr (.heap k) ver off) new=some ⟨bx,H.set k b⟩∧HS (H.set k b) k esz n (.slice k ver 0 n) (splice xs off new):=by
 obtain⟨ver',cs,op,e,hk,hn,hx⟩:=h
 injection e with _ e2 _ _
 subst e2
 have hkl:=(List.getElem?_eq_some_iff.1 hk).1
 refine⟨_,zan hk (by omega),ver,_,op,rfl,zap hkl,?_,?_⟩
 ·simp only[splice,List.length_append,List.length_take,List.length_drop];omega
 ·rw[← hx]
  unfold splice
  rw[List.take_append,List.take_append]
  simp only[List.length_take,List.take_take]
  rw[Nat.min_eq_left (show off≤n*esz by omega),Nat.min_eq_left (show off≤cs.length by omega),Nat.min_eq_right (show off≤n*esz by omega)]
  congr 2
  ·rw[List.take_of_length_le (by omega)]
  ·rw[List.drop_take];congr 1;omega
theorem HS.field {bx:List (Nat×IBlk)} {H:List IBlk} {k esz n ver off:Nat} {xs:List IVal} {x:IVal} (h:HS H k esz n (.slice k ver 0 n) xs) (hx:xs[off]? = some x):loadVal ⟨bx,H⟩ none (.ptr (.heap k) ver off)=some x:=by
 obtain⟨ver',cs,op,e,hk,hn,hxs⟩:=h
 injection e with _ e2 _ _
 subst e2
 refine zab hk ?_
 rw[← hxs,List.getElem?_take]at hx
 split at hx
 ·exact hx
 ·cases hx
mutual
def Tree.height:Tree→Nat
 | .mk _ _ _ _ ks=>kheight ks+1
def kheight:Option (List Tree)→Nat
 |none=>0
 |some l=>lheight l
def lheight:List Tree→Nat
 | []=>0
 |t::r=>max t.height (lheight r)
end
theorem zfc (t:Tree):t.height=lheight (klist t.kids)+1:=by
 obtain⟨k,n,x,a,ks⟩:=t
 cases ks<;>simp[Tree.height,kheight,lheight,klist,Tree.kids]
def Tree.bare (t:Tree):Tree := .mk t.kind t.name t.text t.attrs none
structure Item where
 parent:Int
 size:Nat
 depth:Nat
 height:Nat
 place:Nat
 node:Tree
def icell (x:Item):List PVal:=[.int .i64 x.parent, .int .i64 x.size, .int .i64 x.depth, .int .i64 x.height, .int .i64 x.place, .int .i64 x.node.kind, .str x.node.name, .str x.node.text,aval x.node.attrs, .nilslice]
def icells (l:List Item):List PVal:=l.flatMap icell
theorem zln:∀l:List Item,(icells l).length=l.length*10
 | []=>rfl
 |x::l=>by
  have:=zln l
  simp only[icells,List.flatMap_cons,List.length_append,List.length_cons]at this ⊢
  rw[this];simp[icell];omega
theorem zpm {l:List Item} {j:Nat} (h:j<l.length):(icells l).drop (j*10)=icell l[j]++(icells l).drop (j*10+10):=by
 induction l generalizing j with
 |nil=>simp at h
 |cons x l ih =>
  have hx:(icell x).length=10:=rfl
  cases j with
  |zero =>
   simp only[icells,List.flatMap_cons,Nat.zero_mul,List.drop_zero,List.getElem_cons_zero,Nat.zero_add]
   rw[List.drop_append,List.drop_of_length_le (by omega),hx,List.nil_append]
   rfl
  |succ j =>
   have:=ih (j:=j) (by simpa using h)
   simp only[icells,List.flatMap_cons,List.getElem_cons_succ]at this ⊢
   rw[show(j+1)*10=(icell x).length+j*10 by rw[hx];omega,List.drop_append,List.drop_of_length_le (by omega),Nat.add_sub_cancel_left,List.nil_append,this,
    show(icell x).length+j*10+10=(icell x).length+(j*10+10)by omega,List.drop_append,List.drop_of_length_le (l:=icell x) (by omega),Nat.add_sub_cancel_left,List.nil_append]
theorem zafu {l:List Item} {j f:Nat} (h:j<l.length) (hf:f<10):(icells l)[j*10+f]? = (icell l[j])[f]? := by
 have h1:=zpm h
 have h2:=congrArg (fun x=>x[f]?) h1
 simp only[List.getElem?_drop]at h2
 rw[h2,List.getElem?_append_left (by simpa[icell]using hf)]
theorem zacv {l:List Item} {j f:Nat} {x:Item} {v:PVal} (h:j<l.length) (hf:f<10) (hx:icell x=(icell l[j]).set f v):icells (l.set j x)=(icells l).set (j*10+f) v:=by
 induction l generalizing j with
 |nil=>simp at h
 |cons y l ih =>
  have hy:(icell y).length=10:=rfl
  cases j with
  |zero =>
   simp only[List.getElem_cons_zero]at hx
   simp only[icells,List.set_cons_zero,List.flatMap_cons,Nat.zero_mul,Nat.zero_add]
   rw[List.set_append_left _ _ (by omega),hx]
  |succ j =>
   have:=ih (j:=j) (by simpa using h) (by simpa using hx)
   simp only[icells,List.set_cons_succ,List.flatMap_cons]at this ⊢
   rw[List.set_append_right _ _ (by omega),this,hy,show(j+1)*10+f-10=j*10+f by omega]
theorem zgf {xs:List IVal} {off:Nat} {x:IVal} (h:off<xs.length):splice xs off [x]=xs.set off x:=by
 unfold splice
 rw[List.set_eq_take_append_cons_drop,if_pos h]
 rfl
theorem zacw {l:List PVal} {i:Nat} {v:PVal}:pcells (l.set i v)=(pcells l).set i (.p v):=by simp[pcells,List.map_set]
end Go.Ideal

/-
  IDEAL SEMANTICS, 44: THE NODES IN ORDER; HOW SIZES AND HEIGHTS ARE SUMMED UP FROM BEHIND.
-/
namespace Go.Ideal
open Go
set_option linter.unusedSectionVars false
variable [Tabs]
structure Vis where
 t:Tree
 parent:Int
 depth:Nat
 place:Nat
mutual
def visT:Tree→Nat→Int→Nat→Nat→List Vis
 | .mk k n x a ks,id,p,d,pl=>⟨.mk k n x a ks,p,d,pl⟩::visK ks (id+1) id (d+1)
def visK:Option (List Tree)→Nat→Nat→Nat→List Vis
 |none,_,_,_=>[]
 |some l,id,p,d=>visL l id p d 0
def visL:List Tree→Nat→Nat→Nat→Nat→List Vis
 | [],_,_,_,_=>[]
 |t::l,id,p,d,pl=>visT t id p d pl++visL l (id+t.size) p d (pl+1)
end
theorem zbp (t:Tree) (id:Nat) (p:Int) (d pl:Nat):visT t id p d pl=⟨t,p,d,pl⟩::visL (klist t.kids) (id+1) id (d+1) 0:=by
 obtain⟨k,n,x,a,ks⟩:=t
 cases ks<;>simp[visT,visK,visL,klist,Tree.kids]
theorem zae (t:Tree):∀(id:Nat) (p:Int) (d pl:Nat),(visT t id p d pl).length=t.size:=by
 have key:∀(n:Nat) (t:Tree),t.size<n→∀(id:Nat) (p:Int) (d pl:Nat),(visT t id p d pl).length=t.size:=by
  intro n
  induction n with
  |zero=>intro t h;omega
  |succ n ih =>
   intro t h id p d pl
   have ht:=zag t
   have hl:∀(l:List Tree) (id p d pl:Nat),lsize l<n→(visL l id p d pl).length=lsize l:=by
    intro l
    induction l with
    |nil=>intros;rfl
    |cons u l ih2 =>
     intro id p d pl hl
     simp only[lsize]at hl
     simp only[visL,lsize,List.length_append]
     rw[ih u (by omega),ih2 _ _ _ _ (by omega)]
   rw[zbp,List.length_cons,hl _ _ _ _ _ (by omega),ht]
 exact key _ t (Nat.lt_succ_self _)
mutual
def flatT:Tree→Nat→Int→Nat→Nat→List Item
 | .mk k n x a ks,id,p,d,pl=>⟨p,ksize ks+1,d,kheight ks+1,pl, .mk k n x a none⟩::flatK ks (id+1) id (d+1)
def flatK:Option (List Tree)→Nat→Nat→Nat→List Item
 |none,_,_,_=>[]
 |some l,id,p,d=>flatL l id p d 0
def flatL:List Tree→Nat→Nat→Nat→Nat→List Item
 | [],_,_,_,_=>[]
 |t::l,id,p,d,pl=>flatT t id p d pl++flatL l (id+t.size) p d (pl+1)
end
theorem zlo (t:Tree) (id:Nat) (p:Int) (d pl:Nat):flatT t id p d pl=⟨p,t.size,d,t.height,pl,t.bare⟩::flatL (klist t.kids) (id+1) id (d+1) 0:=by
 obtain⟨k,n,x,a,ks⟩:=t
 cases ks<;>simp[flatT,flatK,flatL,klist,Tree.kids,Tree.size,Tree.height,Tree.bare,Tree.kind,Tree.name,Tree.text,Tree.attrs]
theorem zze (t:Tree):∀(id:Nat) (p:Int) (d pl:Nat),(flatT t id p d pl).length=t.size:=by
 have key:∀(n:Nat) (t:Tree),t.size<n→∀(id:Nat) (p:Int) (d pl:Nat),(flatT t id p d pl).length=t.size:=by
  intro n
  induction n with
  |zero=>intro t h;omega
  |succ n ih =>
   intro t h id p d pl
   have ht:=zag t
   have hl:∀(l:List Tree) (id p d pl:Nat),lsize l<n→(flatL l id p d pl).length=lsize l:=by
    intro l
    induction l with
    |nil=>intros;rfl
    |cons u l ih2 =>
     intro id p d pl hl
     simp only[lsize]at hl
     simp only[flatL,lsize,List.length_append]
     rw[ih u (by omega),ih2 _ _ _ _ (by omega)]
   rw[zlo,List.length_cons,hl _ _ _ _ _ (by omega),ht]
 exact key _ t (Nat.lt_succ_self _)
theorem zbj (t:Tree):∀(id:Nat) (p:Int) (d pl:Nat),(visT t id p d pl).map (·.t)=t.nodes:=by
 have key:∀(n:Nat) (t:Tree),t.size<n→∀(id:Nat) (p:Int) (d pl:Nat),(visT t id p d pl).map (·.t)=t.nodes:=by
  intro n
  induction n with
  |zero=>intro t h;omega
  |succ n ih =>
   intro t h id p d pl
   have ht:=zag t
   have hl:∀(l:List Tree) (id p d pl:Nat),lsize l<n→(visL l id p d pl).map (·.t)=lnodes l:=by
    intro l
    induction l with
    |nil=>intros;rfl
    |cons u l ih2 =>
     intro id p d pl hl
     simp only[lsize]at hl
     simp only[visL,lnodes,List.map_append]
     rw[ih u (by omega),ih2 _ _ _ _ (by omega)]
   rw[zbp,List.map_cons,hl _ _ _ _ _ (by omega),zbl]
 exact key _ t (Nat.lt_succ_self _)
def rawOf (v:Vis):Item:=⟨v.parent,1,v.depth,1,v.place,v.t.bare⟩
def bump (q:Item) (s h:Nat):Item:={ q with size:=q.size+s,height:=max q.height (h+1) }
def up1 (L:List Item) (i:Nat):List Item :=
 match L[i]? with
 |none=>L
 |some x=>match L[x.parent.toNat]? with
  |none=>L
  |some q=>L.set x.parent.toNat (bump q x.size x.height)
def backN (L:List Item) (lo:Nat):Nat→List Item
 |0=>L
 |n+1=>backN (up1 L (lo+n)) lo n
theorem zlp (lo n:Nat):∀(m:Nat) (L:List Item),backN L lo (n+m)=backN (backN L (lo+n) m) lo n
 |0,L=>rfl
 |m+1,L=>by
  rw[← Nat.add_assoc,backN,backN,←Nat.add_assoc]
  exact zlp lo n m _
theorem zacx (L:List Item) (i:Nat):(up1 L i).length=L.length:=by
 unfold up1
 split
 ·rfl
 ·split<;>simp
theorem zwo (q:Item) (s h s' h':Nat):bump (bump q s h) s' h'=bump q (s+s') (max h h'):=by
 simp only[bump,Item.mk.injEq,true_and,and_true]
 omega
theorem zafv:∀(n:Nat) (t:Tree),t.size<n→∀(id p d pl:Nat) (A C:List Item) (hA:A.length=id) (hp:p<id),backN (A++(visT t id p d pl).map rawOf++C) id t.size=A.set p (bump (A[p]'(by omega)) t.size t.height)++flatT t id p d pl++C:=by
 intro n
 induction n with
 |zero=>intro t h;omega
 |succ n ih =>
  have hforest:∀(l:List Tree),lsize l<n→∀(id p d pl:Nat) (A C:List Item) (hA:A.length=id) (hp:p<id) (h1:1≤(A[p]'(by omega)).height),backN (A++(visL l id p d pl).map rawOf++C) id (lsize l)=A.set p (bump (A[p]'(by omega)) (lsize l) (lheight l))++flatL l id p d pl++C:=by
   intro l
   induction l with
   |nil =>
    intro _ id p d pl A C hA hp h1
    have hb:bump (A[p]'(by omega)) 0 0=A[p]'(by omega):=by
     simp only[bump,Nat.add_zero,Nat.zero_add,Nat.max_eq_left h1]
    simp[visL,lsize,backN,flatL,lheight,hb]
   |cons t l ihl =>
    intro hl id p d pl A C hA hp h1
    simp only[lsize]at hl
    have hlen:(A++(visT t id p d pl).map rawOf).length=id+t.size:=by simp[hA,zae]
    have hget:(A++(visT t id p d pl).map rawOf)[p]'(by omega)=A[p]'(by omega):=List.getElem_append_left (by omega)
    have e1:=ihl (by omega) (id+t.size) p d (pl+1) (A++(visT t id p d pl).map rawOf) C hlen (by omega) (by rw[hget];exact h1)
    rw[hget]at e1
    rw[List.set_append_left _ _ (by omega)]at e1
    have e2:=ih t (by omega) id p d pl (A.set p (bump (A[p]'(by omega)) (lsize l) (lheight l))) (flatL l (id+t.size) p d (pl+1)++C) (by simp[hA]) hp
    simp only[visL,List.map_append,lsize,flatL,lheight]
    rw[zlp,←List.append_assoc A,e1]
    simp only[List.append_assoc]at e2 ⊢
    rw[e2]
    simp only[List.getElem_set_self,List.set_set,zwo]
    rw[Nat.add_comm (lsize l),Nat.max_comm (lheight l)]
  intro t h id p d pl A C hA hp
  have ht:=zag t
  have hh:=zfc t
  rw[zbp,zlo,ht]
  have e1:=hforest (klist t.kids) (by omega) (id+1) id (d+1) 0 (A++[rawOf ⟨t,p,d,pl⟩]) C (by simp[hA]) (by omega) (by simp[← hA,rawOf])
  have hg:(A++[rawOf ⟨t,p,d,pl⟩])[id]'(by simp[hA])=rawOf ⟨t,p,d,pl⟩:=by simp[← hA]
  rw[hg,List.set_append_right _ _ (by omega)]at e1
  have hz:id-A.length=0:=by omega
  rw[hz,List.set_cons_zero]at e1
  have hb:bump (rawOf ⟨t,p,d,pl⟩) (lsize (klist t.kids)) (lheight (klist t.kids))=⟨p,t.size,d,t.height,pl,t.bare⟩:=by
   simp only[bump,rawOf,ht,hh,Item.mk.injEq,true_and,and_true]
   omega
  rw[hb]at e1
  rw[Nat.add_comm (lsize (klist t.kids)) 1,zlp,List.map_cons]
  simp only[List.append_assoc,List.cons_append,List.nil_append]at e1 ⊢
  rw[e1]
  simp only[backN,Nat.add_zero]
  have hi:(A++(⟨p,t.size,d,t.height,pl,t.bare⟩:Item)::(flatL (klist t.kids) (id+1) id (d+1) 0++C))[id]? = some ⟨p,t.size,d,t.height,pl,t.bare⟩:=by
   rw[List.getElem?_append_right (by omega),hz];rfl
  have hq:(A++(⟨p,t.size,d,t.height,pl,t.bare⟩:Item)::(flatL (klist t.kids) (id+1) id (d+1) 0++C))[p]? = some (A[p]'(by omega)):=by
   rw[List.getElem?_append_left (by omega),List.getElem?_eq_getElem]
  unfold up1
  simp only[hi,Int.toNat_natCast,hq]
  rw[List.set_append_left _ _ (by omega)]
  have e4:lsize (klist t.kids)+1=t.size:=ht.symm
  rw[show 1+lsize (klist t.kids)=t.size by omega]
theorem zafw (t:Tree):backN ((visT t 0 (-1) 0 0).map rawOf) 1 (lsize (klist t.kids))=flatT t 0 (-1) 0 0:=by
 have hforest:∀(l:List Tree) (A C:List Item) (id p d pl:Nat) (hA:A.length=id) (hp:p<id) (h1:1≤(A[p]'(by omega)).height),backN (A++(visL l id p d pl).map rawOf++C) id (lsize l)=A.set p (bump (A[p]'(by omega)) (lsize l) (lheight l))++flatL l id p d pl++C:=by
  intro l
  induction l with
  |nil =>
   intro A C id p d pl hA hp h1
   have hb:bump (A[p]'(by omega)) 0 0=A[p]'(by omega):=by
    simp only[bump,Nat.add_zero,Nat.zero_add,Nat.max_eq_left h1]
   simp[visL,lsize,backN,flatL,lheight,hb]
  |cons t l ihl =>
   intro A C id p d pl hA hp h1
   have hlen:(A++(visT t id p d pl).map rawOf).length=id+t.size:=by simp[hA,zae]
   have hget:(A++(visT t id p d pl).map rawOf)[p]'(by omega)=A[p]'(by omega):=List.getElem_append_left (by omega)
   have e1:=ihl (A++(visT t id p d pl).map rawOf) C (id+t.size) p d (pl+1) hlen (by omega) (by rw[hget];exact h1)
   rw[hget]at e1
   rw[List.set_append_left _ _ (by omega)]at e1
   have e2:=zafv _ t (Nat.lt_succ_self _) id p d pl (A.set p (bump (A[p]'(by omega)) (lsize l) (lheight l))) (flatL l (id+t.size) p d (pl+1)++C) (by simp[hA]) hp
   simp only[visL,List.map_append,lsize,flatL,lheight]
   rw[zlp,←List.append_assoc A,e1]
   simp only[List.append_assoc]at e2 ⊢
   rw[e2]
   simp only[List.getElem_set_self,List.set_set,zwo]
   rw[Nat.add_comm (lsize l),Nat.max_comm (lheight l)]
 have ht:=zag t
 have hh:=zfc t
 rw[zbp,zlo]
 have e1:=hforest (klist t.kids) [rawOf ⟨t, -1,0,0⟩] [] 1 0 1 0 rfl (by omega) (by simp[rawOf])
 simp only[List.append_nil,List.singleton_append,List.getElem_cons_zero,List.set_cons_zero]at e1
 rw[List.map_cons,e1]
 congr 1
 simp only[bump,rawOf,ht,hh,Item.mk.injEq,true_and,and_true]
 omega
end Go.Ideal

/-
  IDEAL SEMANTICS, 45: SLICES THAT GROW: nil, or a block of the heap.
-/
namespace Go.Ideal
open Go
set_option linter.unusedSectionVars false
variable [Tabs]
def VS (H:List IBlk) (o:Option Nat) (esz n:Nat) (v:IVal) (xs:List IVal):Prop :=
 match o with
 |none=>v = .p .nilslice∧n=0∧xs=[]
 |some k=>HS H k esz n v xs
theorem VS.nil {H:List IBlk} {esz:Nat}:VS H none esz 0 (.p .nilslice) []:=⟨rfl,rfl,rfl⟩
theorem VS.len {H:List IBlk} {o:Option Nat} {esz n:Nat} {v:IVal} {xs:List IVal} (h:VS H o esz n v xs):sliceLen v=some n:=by
 cases o with
 |none=>obtain⟨rfl,rfl,_⟩:=h;rfl
 |some k=>exact HS.len h
theorem VS.up {H:List IBlk} {o:Option Nat} {esz n:Nat} {v:IVal} {xs:List IVal} (h:VS H o esz n v xs):up v = .v v:=by
 cases o with
 |none=>obtain⟨rfl,rfl,_⟩:=h;rfl
 |some k=>obtain⟨_,_,_,rfl,_⟩:=h;rfl
theorem VS.pass {H:List IBlk} {o:Option Nat} {esz n:Nat} {v:IVal} {xs:List IVal} (h:VS H o esz n v xs):v.passOK=true:=by
 cases o with
 |none=>obtain⟨rfl,rfl,_⟩:=h;rfl
 |some k=>obtain⟨_,_,_,rfl,_⟩:=h;rfl
theorem VS.cells {H:List IBlk} {o:Option Nat} {esz n:Nat} {v:IVal} {xs:List IVal} (h:VS H o esz n v xs):v.cellsOf=some [v]:=by
 cases o with
 |none=>obtain⟨rfl,rfl,_⟩:=h;rfl
 |some k=>obtain⟨_,_,_,rfl,_⟩:=h;rfl
theorem VS.keep {H H':List IBlk} {o:Option Nat} {esz n:Nat} {v:IVal} {xs:List IVal} (h:VS H o esz n v xs) {S:Nat→Prop} (hk:Keep S H H') (hs:∀k,o=some k→¬S k):VS H' o esz n v xs:=by
 cases o with
 |none=>exact h
 |some k=>exact HS.keep h (hk.2 k (HS.lt h) (hs k rfl))
theorem VS.lt {H:List IBlk} {k esz n:Nat} {v:IVal} {xs:List IVal} (h:VS H (some k) esz n v xs):k<H.length:=HS.lt h
theorem HS.xlen {H:List IBlk} {k esz n:Nat} {v:IVal} {xs:List IVal} (h:HS H k esz n v xs):xs.length=n*esz:=by
 obtain⟨ver,cs,op,rfl,hk,hn,hx⟩:=h
 rw[← hx,List.length_take];omega
theorem VS.xlen {H:List IBlk} {o:Option Nat} {esz n:Nat} {v:IVal} {xs:List IVal} (h:VS H o esz n v xs):xs.length=n*esz:=by
 cases o with
 |none=>obtain⟨_,rfl,rfl⟩:=h;simp
 |some k=>exact HS.xlen h
theorem VS.append1 {H:List IBlk} {o:Option Nat} {esz n:Nat} {v:IVal} {xs ys:List IVal} (h:VS H o esz n v xs) (hy:ys.length=esz) (hb:n<1000000000) :
 ∃v' H' o',evalAppend ⟨[],H++[.cells ys esz 0 false]⟩ esz v (.slice H.length 0 0 1)=some (v',⟨[],H'⟩)∧VS H' o' esz (n+1) v' (xs++ys)∧Keep (fun x=>o=some x) H H'∧H.length<H'.length∧(o'=o∨∃k,o'=some k∧H.length≤k)∧∃k,o'=some k:=by
 have hsrc:srcCells ⟨[],H++[.cells ys esz 0 false]⟩ esz (.slice H.length 0 0 1)=some ys:=zcl (op:=false) zbh (by omega)
 cases o with
 |none =>
  obtain⟨rfl,rfl,rfl⟩:=h
  refine⟨_,_,some (H.length+1),append_nil hsrc rfl (by omega) (by omega),⟨0,ys,true,by simp,?_,by omega,?_⟩,Keep.new.trans Keep.new,by simp, .inr ⟨_,rfl,by omega⟩,_,rfl⟩
  ·have:(H++[IBlk.cells ys esz 0 false]++[IBlk.cells ys esz 0 true])[(H++[IBlk.cells ys esz 0 false]).length]? = some (IBlk.cells ys esz 0 true):=zbh
   simp at this ⊢
  ·rw[List.take_of_length_le (by omega)];rfl
 |some k =>
  obtain⟨ver,cs,op,rfl,hkk,hnn,hxs⟩:=h
  have hkl:=(List.getElem?_eq_some_iff.1 hkk).1
  have happ:=zbx (bx:=[]) (H:=H++[IBlk.cells ys esz 0 false]) (ny:=1) (by rw[List.getElem?_append_left hkl];exact hkk) hnn hsrc rfl (by omega) (by omega)
  have hnew:=zlm (H:=H++[IBlk.cells ys esz 0 false]) (ver:=ver) (op:=op) (ys:=ys) (ny:=1) (k:=k) (by simp;omega) hnn (by omega)
  rw[hxs]at hnew
  exact⟨_,_,some k,happ,hnew,Keep.new.trans (Keep.set (.inl rfl)),by simp, .inl rfl,_,rfl⟩
theorem VS.cut {H:List IBlk} {k esz n m:Nat} {v:IVal} {xs:List IVal} (h:VS H (some k) esz n v xs) (hm:m≤n):∃ver,v = .slice k ver 0 n∧VS H (some k) esz m (.slice k ver 0 m) (xs.take (m*esz))∧∃cs op,H[k]? = some (.cells cs esz ver op):=by
 obtain⟨ver,cs,op,rfl,hkk,hnn,hxs⟩:=h
 have hle:m*esz≤n*esz:=Nat.mul_le_mul_right _ hm
 refine⟨ver,rfl,⟨ver,cs,op,rfl,hkk,by omega,?_⟩,cs,op,hkk⟩
 rw[← hxs,List.take_take,Nat.min_eq_left hle]
theorem VS.at1 {H:List IBlk} {k n j:Nat} {v:IVal} {xs:List IVal} (h:VS H (some k) 1 n v xs) (hj:j<n):∃ver,idxS 1 v (.p (.int .i64 j))=some (.ptr (.heap k) ver j)∧∀x,xs[j]? = some x→loadVal ⟨[],H⟩ none (.ptr (.heap k) ver j)=some x:=by
 obtain⟨ver,cs,op,rfl,hkk,hnn,hxs⟩:=h
 refine⟨ver,by rw[zau hj];simp,fun x hx=>?_⟩
 exact HS.field ⟨ver,cs,op,rfl,hkk,hnn,hxs⟩ hx
theorem zia {H:List IBlk} {o:Option Nat} {e n:Nat} {v:IVal} {xs:List PVal} (h:VS H o e n v (pcells xs)):freezeCell H 100 v=some (match o with|none=>.nilslice|some _=>.slice e n xs):=by
 cases o with
 |none=>obtain⟨rfl,_,_⟩:=h;rfl
 |some k=>exact zdx h
def nints (l:List Nat):List PVal:=l.map fun(n:Nat)=>PVal.int .i64 (n:Int)
end Go.Ideal

/-
  IDEAL SEMANTICS, 46: NODES BEHIND THEIR KIDS.
-/
namespace Go.Ideal
open Go
set_option linter.unusedSectionVars false
variable [Tabs]
mutual
def postT:Tree→Nat→List Nat
 | .mk _ _ _ _ ks,id=>postK ks (id+1)++[id]
def postK:Option (List Tree)→Nat→List Nat
 |none,_=>[]
 |some l,id=>postL l id
def postL:List Tree→Nat→List Nat
 | [],_=>[]
 |t::l,id=>postT t id++postL l (id+t.size)
end
theorem zja (t:Tree) (id:Nat):postT t id=postL (klist t.kids) (id+1)++[id]:=by
 obtain⟨k,n,x,a,ks⟩:=t
 cases ks<;>simp[postT,postK,postL,klist,Tree.kids]
def popR (e:Nat→Nat) (i:Nat):List Nat→List Nat×List Nat
 | []=>([],[])
 |o::r=>if e o≤i then(o::(popR e i r).1,(popR e i r).2)else([],o::r)
def pop (e:Nat→Nat) (i:Nat) (S:List Nat×List Nat):List Nat×List Nat:=(S.1++(popR e i S.2).1,(popR e i S.2).2)
def stepP (e:Nat→Nat) (i:Nat) (S:List Nat×List Nat):List Nat×List Nat:=((pop e i S).1,i::(pop e i S).2)
def runP (e:Nat→Nat):Nat→Nat→List Nat×List Nat→List Nat×List Nat
 |_,0,S=>S
 |i,n+1,S=>runP e (i+1) n (stepP e i S)
theorem znr (e:Nat→Nat):∀(n m i:Nat) (S:List Nat×List Nat),runP e i (n+m) S=runP e (i+n) m (runP e i n S)
 |0,m,i,S=>by simp[runP]
 |n+1,m,i,S=>by
  rw[show n+1+m=(n+m)+1 by omega,runP,znr e n m,runP]
  congr 1;omega
theorem zwp {e:Nat→Nat} {i:Nat} {R:List Nat} (h:∀o∈R,i<e o):popR e i R=([],R):=by
 cases R with
 |nil=>rfl
 |cons o r =>
  have:=h o (by simp)
  rw[popR,if_neg (by omega)]
theorem zwq {e:Nat→Nat} {i:Nat}:∀R:List Nat,popR e i (popR e i R).2=([],(popR e i R).2)
 | []=>rfl
 |o::r=>by
  rw[popR]
  split
  ·exact zwq r
  ·rename_i h;rw[popR,if_neg h]
theorem zarf {e:Nat→Nat} {i:Nat} {S:List Nat×List Nat}:pop e i (pop e i S)=pop e i S:=by
 simp only[pop,zwq,List.append_nil]
theorem zaku {e:Nat→Nat} {i n:Nat} {S:List Nat×List Nat}:runP e i (n+1) (pop e i S)=runP e i (n+1) S:=by
 simp only[runP,stepP,zarf]
def EndsL (e:Nat→Nat) (l:List Tree) (id:Nat):Prop:=∀(p d pl i:Nat) (v:Vis),(visL l id p d pl)[i]? = some v→e (id+i)=id+i+v.t.size
def EndsT (e:Nat→Nat) (t:Tree) (id:Nat):Prop:=∀(p:Int) (d pl i:Nat) (v:Vis),(visT t id p d pl)[i]? = some v→e (id+i)=id+i+v.t.size
theorem zafx (e:Nat→Nat):∀(n:Nat) (t:Tree),t.size<n→∀(id:Nat),EndsT e t id→∀(l R:List Nat),(∀ o∈R,id+t.size≤e o)→∀j,id+t.size≤j→pop e j (runP e id t.size (l,R))=pop e j (l++postT t id,R):=by
 intro n
 induction n with
 |zero=>intro t h;omega
 |succ n ih =>
  have hforest:∀(f:List Tree),lsize f<n→∀(id:Nat),EndsL e f id→∀(l R:List Nat),(∀ o∈R,id+lsize f≤e o)→∀j,id+lsize f≤j→pop e j (runP e id (lsize f) (l,R))=pop e j (l++postL f id,R):=by
   intro f
   induction f with
   |nil=>intro _ id _ l R _ j _;simp[lsize,runP,postL]
   |cons t f ihf =>
    intro hl id hE l R hR j hj
    simp only[lsize]at hl hR hj ⊢
    have hEt:EndsT e t id:=by
     intro p d pl i v hv
     have hi:=(List.getElem?_eq_some_iff.1 hv).1
     rw[zae]at hi
     have hv0:∃v0,(visT t id (0:Nat) 0 0)[i]? = some v0∧v0.t=v.t:=by
      have h1:=congrArg (fun l=>l[i]?) ((zbj t id p d pl).trans (zbj t id (0:Nat) 0 0).symm)
      simp only[List.getElem?_map,hv,Option.map_some]at h1
      cases h2:(visT t id (0:Nat) 0 0)[i]? with
      |none=>rw[h2]at h1;cases h1
      |some v0=>rw[h2]at h1;simp at h1;exact⟨v0,rfl,h1.symm⟩
     obtain⟨v0,h1,h2⟩:=hv0
     have:=hE 0 0 0 i v0 (by rw[visL,List.getElem?_append_left (by rw[zae];exact hi)];exact h1)
     rw[this,h2]
    have hEf:EndsL e f (id+t.size):=by
     intro p d pl i v hv
     have h1:(visL f (id+t.size) p d pl)[i]? = some v:=hv
     have hx:∃v0,(visL f (id+t.size) 0 0 1)[i]? = some v0∧v0.t=v.t:=by
      have hn:∀(f:List Tree) (a p d pl b q c pl2:Nat),(visL f a p d pl).map (·.t)=(visL f b q c pl2).map (·.t):=by
       intro f
       induction f with
       |nil=>intros;rfl
       |cons u f ih3 =>
        intro a p d pl b q c pl2
        simp only[visL,List.map_append,zbj]
        rw[ih3]
      have h2:=congrArg (fun l=>l[i]?) (hn f (id+t.size) p d pl (id+t.size) 0 0 1)
      simp only[List.getElem?_map,hv,Option.map_some]at h2
      cases h3:(visL f (id+t.size) 0 0 1)[i]? with
      |none=>rw[h3]at h2;cases h2
      |some v0=>rw[h3]at h2;simp at h2;exact⟨v0,rfl,h2.symm⟩
     obtain⟨v0,h3,h4⟩:=hx
     have:=hE 0 0 0 (t.size+i) v0 (by rw[visL,List.getElem?_append_right (by rw[zae];omega),zae,Nat.add_sub_cancel_left];exact h3)
     rw[← Nat.add_assoc]at this
     rw[this,h4]
    rw[znr]
    have h0:=zaf t
    by_cases hf0:f=[]
    ·subst hf0
     simp only[lsize,Nat.add_zero,runP,postL,List.append_nil]at hR hj ⊢
     exact ih t (by omega) id hEt l R hR j hj
    ·have hf1:∃m,lsize f=m+1:=by
      cases f with
      |nil=>exact absurd rfl hf0
      |cons u f=>have:=zaf u;exact⟨u.size+lsize f-1,by simp only[lsize];omega⟩
     obtain⟨m,hm⟩:=hf1
     have e1:=ih t (by omega) id hEt l R (fun o ho=>by have:=hR o ho;omega) (id+t.size) (Nat.le_refl _)
     have e2:pop e (id+t.size) (l++postT t id,R)=(l++postT t id,R):=by
      simp only[pop]
      rw[zwp (fun o ho=>by have:=hR o ho;omega)]
      simp
     rw[hm,←zaku,e1,e2,←hm]
     have e3:=ihf (by omega) (id+t.size) hEf (l++postT t id) R (fun o ho=>by have:=hR o ho;omega) j (by omega)
     rw[e3]
     simp only[postL,List.append_assoc]
  intro t h id hE l R hR j hj
  have ht:=zag t
  have he:e id=id+t.size:=by
   have:=hE 0 0 0 0 ⟨t,0,0,0⟩ (by rw[zbp];rfl)
   simpa using this
  have hEk:EndsL e (klist t.kids) (id+1):=by
   intro p d pl i v hv
   have hn:∀(f:List Tree) (a p d pl b q c pl2:Nat),(visL f a p d pl).map (·.t)=(visL f b q c pl2).map (·.t):=by
    intro f
    induction f with
    |nil=>intros;rfl
    |cons u f ih3 =>
     intro a p d pl b q c pl2
     simp only[visL,List.map_append,zbj]
     rw[ih3]
   have h2:=congrArg (fun l=>l[i]?) (hn (klist t.kids) (id+1) p d pl (id+1) id 1 0)
   simp only[List.getElem?_map,hv,Option.map_some]at h2
   cases h3:(visL (klist t.kids) (id+1) id 1 0)[i]? with
   |none=>rw[h3]at h2;cases h2
   |some v0 =>
    rw[h3]at h2
    simp at h2
    have:=hE 0 0 0 (i+1) v0 (by rw[zbp,List.getElem?_cons_succ];exact h3)
    rw[show id+(i+1)=id+1+i by omega]at this
    rw[this,h2]
  rw[show t.size=1+lsize (klist t.kids)by omega,znr]
  have e1:runP e id 1 (l,R)=(l,id::R):=by
   simp only[runP,stepP,pop]
   rw[zwp (fun o ho=>by have:=hR o ho;omega)]
   simp
  rw[e1,hforest (klist t.kids) (by omega) (id+1) hEk l (id::R) (fun o ho=>by
   rcases List.mem_cons.1 ho with rfl|ho
   ·rw[he];omega
   ·have:=hR o ho;omega) j (by omega)]
  rw[zja]
  simp only[pop]
  rw[popR,if_pos (by rw[he];exact hj)]
  simp[List.append_assoc]
theorem zafy (e:Nat→Nat) (t:Tree) (hE:EndsT e t 0):runP e 0 (t.size+1) ([],[])=(postT t 0,[t.size]):=by
 rw[znr]
 have:=zafx e _ t (Nat.lt_succ_self _) 0 hE [] [] (by simp) t.size (by omega)
 simp only[runP,stepP,Nat.zero_add,this]
 simp[pop,popR]
def fullOf (v:Vis):Item:=⟨v.parent,v.t.size,v.depth,v.t.height,v.place,v.t.bare⟩
theorem zdd (t:Tree):∀(id:Nat) (p:Int) (d pl:Nat),flatT t id p d pl=(visT t id p d pl).map fullOf:=by
 have key:∀(n:Nat) (t:Tree),t.size<n→∀(id:Nat) (p:Int) (d pl:Nat),flatT t id p d pl=(visT t id p d pl).map fullOf:=by
  intro n
  induction n with
  |zero=>intro t h;omega
  |succ n ih =>
   intro t h id p d pl
   have ht:=zag t
   have hl:∀(l:List Tree) (id p d pl:Nat),lsize l<n→flatL l id p d pl=(visL l id p d pl).map fullOf:=by
    intro l
    induction l with
    |nil=>intros;rfl
    |cons u l ih2 =>
     intro id p d pl hl
     simp only[lsize]at hl
     simp only[flatL,visL,List.map_append]
     rw[ih u (by omega),ih2 _ _ _ _ (by omega)]
   rw[zlo,zbp,List.map_cons,hl _ _ _ _ _ (by omega)]
   rfl
 exact key _ t (Nat.lt_succ_self _)
def Tree.items (t:Tree):List Item:=flatT t 0 (-1) 0 0
theorem znh (t:Tree):t.items.length=t.size:=zze t _ _ _ _
def endOf (t:Tree) (k:Nat):Nat:=match t.items[k]? with|some x=>k+x.size|none=>0
theorem zakv (t:Tree):EndsT (endOf t) t 0:=by
 intro p d pl i v hv
 have h1:=congrArg (fun l=>l[i]?) ((zbj t 0 p d pl).trans (zbj t 0 (-1) 0 0).symm)
 simp only[List.getElem?_map,hv,Option.map_some]at h1
 cases h2:(visT t 0 (-1) 0 0)[i]? with
 |none=>rw[h2]at h1;cases h1
 |some v0 =>
  rw[h2]at h1
  simp at h1
  have:t.items[i]? = some (fullOf v0):=by rw[Tree.items,zdd,List.getElem?_map,h2];rfl
  simp only[endOf,Nat.zero_add,this,fullOf,h1]
theorem zay (t:Tree):∀id,(postT t id).length=t.size:=by
 have key:∀(n:Nat) (t:Tree),t.size<n→∀id,(postT t id).length=t.size:=by
  intro n
  induction n with
  |zero=>intro t h;omega
  |succ n ih =>
   intro t h id
   have ht:=zag t
   have hl:∀(l:List Tree) (id:Nat),lsize l<n→(postL l id).length=lsize l:=by
    intro l
    induction l with
    |nil=>intros;rfl
    |cons u l ih2 =>
     intro id hl
     simp only[lsize]at hl
     simp only[postL,lsize,List.length_append]
     rw[ih u (by omega),ih2 _ (by omega)]
   rw[zja,List.length_append,hl _ _ (by omega),ht];rfl
 exact key _ t (Nat.lt_succ_self _)
def ival (t:Tree):PVal := .slice 10 t.size (icells t.items)
theorem zbc {t:Tree} {j:Nat} {x:Item} (h:t.items[j]? = some x):idxS 10 (.p (ival t)) (.p (.int .i64 j))=some (.p (.ptr (.int .i64 x.parent :: .int .i64 x.size :: .int .i64 x.depth :: .int .i64 x.height :: .int .i64 x.place :: .int .i64 x.node.kind :: .str x.node.name :: .str x.node.text::aval x.node.attrs :: .nilslice::(icells t.items).drop (j*10+10)))):=by
 obtain⟨h1,h2⟩:=List.getElem?_eq_some_iff.1 h
 rw[ival,zcb (by rw[← znh];exact h1),zpm h1,h2]
 rfl
@[simp] theorem zakw {t:Tree}:sliceLen (.p (ival t))=some t.size:=rfl
@[simp] theorem zbar {t:Tree}:up (.p (ival t)) = .v (.p (ival t)):=rfl
end Go.Ideal

namespace Go.Ideal
open Go
set_option maxHeartbeats 4000000
set_option maxRecDepth 20000
attribute [-simp] getElem?_pos
def PtrOK (r:Nat) (t0:Tree) (pv:IVal) (t:Tree):Prop:=(pv = .ptr (.heap r) 0 0∧t=t0)∨∃rest,pv = .p (.ptr (t.cells++rest))
theorem PtrOK.cell {r:Nat} {t0 t:Tree} {pv:IVal} (h:PtrOK r t0 pv t):pv.cellOK=true∧pv.cellsOf=some [pv]∧up pv = .v pv:=by
 rcases h with⟨rfl,_⟩|⟨rest,rfl⟩<;>exact⟨rfl,rfl,rfl⟩
structure Pend where
 pv:IVal
 t:Tree
 parent:Int
 depth:Nat
 place:Nat
def pcell (p:Pend):List IVal:=[p.pv, .p (.int .i64 p.parent), .p (.int .i64 p.depth), .p (.int .i64 p.place)]
theorem zacy (l:List Pend):(l.flatMap pcell).length=l.length*4:=by
 induction l with
 |nil=>rfl
 |cons a l ih=>simp only[List.flatMap_cons,List.length_append,ih,List.length_cons];simp[pcell];omega
theorem zafz {l:List Pend} {j:Nat} (h:j<l.length):((l.flatMap pcell).drop (j*4)).take 4=pcell l[j]:=by
 induction l generalizing j with
 |nil=>simp at h
 |cons a l ih =>
  cases j with
  |zero=>simp[List.flatMap_cons,pcell]
  |succ j =>
   simp only[List.flatMap_cons]
   rw[show(j+1)*4=(pcell a).length+j*4 by simp[pcell];omega,List.drop_append,List.drop_of_length_le (by omega),Nat.add_sub_cancel_left,List.nil_append]
   have:=ih (j:=j) (by simpa using h)
   simpa using this
def kidPend (k:Option (List Tree)) (id depth:Nat) (j:Nat) (t:Tree):Pend:=⟨.p (.ptr (t.cells++(kcells (klist k)).drop (j*5+5))),t,id,depth+1,j⟩
def kidsDown (k:Option (List Tree)) (id depth:Nat):Nat→List Pend
 |0=>[]
 |j+1=>match(klist k)[j]? with
  |some t=>kidPend k id depth j t::kidsDown k id depth j
  |none=>kidsDown k id depth j
theorem zgu {k:Option (List Tree)} {id depth j:Nat} (h:j<(klist k).length):kidsDown k id depth (j+1)=kidPend k id depth j (klist k)[j]::kidsDown k id depth j:=by
 simp only[kidsDown,List.getElem?_eq_getElem h]
theorem zaga (fv pv:IVal) (t:Tree) (r k0:Nat) (t0:Tree) (id depth:Nat) (par pl:Int) (H0:List IBlk) (hp:PtrOK r t0 pv t) (hrk:r≠k0) (hfv:up fv = .v fv)
 (hr:H0[r]? = some (.cells (pcells t0.cells) 5 0 false)) (_:id<1000000000000) (hdep:depth<1000000000000) (hkl:(klist t.kids).length<1000000) (S:List Pend) (hS:S.length<1000000) (sv:IVal) (hsv:HS H0 k0 4 S.length sv (S.flatMap pcell)) (Q:IExit→Env→KM→Prop)
 (h1:∀sv' H',HS H' k0 4 (S.length+(klist t.kids).length) sv' ((S++kidsDown t.kids id depth (klist t.kids).length).flatMap pcell)→Keep (· = k0) H0 H'→Q .normal [(1,up fv),(4, .v sv'),(5, .int .i64 id)] ⟨[],H'⟩) :
 wpLoop (CW tr.look) 59 m_Q62_0 l_Q62_0 (blkK 2 b_Q62_2 Q) [(1,up fv),(4, .v sv),(5, .int .i64 id),(6, .box 6 0),(7, .int .i64 ((klist t.kids).length-1))] ⟨[(6,some ⟨[.v pv, .int .i64 par, .int .i64 depth, .int .i64 pl],4⟩)],H0⟩:=by
 refine zac (α:=Nat×IVal×List IBlk×List Pend) (fun a=>[(1,up fv),(4, .v a.2.1),(5, .int .i64 id),(6, .box 6 0),(7, .int .i64 (a.1-1))]) (fun a=>⟨[(6,some ⟨[.v pv, .int .i64 par, .int .i64 depth, .int .i64 pl],4⟩)],a.2.2.1⟩)
  (fun a=>a.1≤(klist t.kids).length∧HS a.2.2.1 k0 4 a.2.2.2.length a.2.1 (a.2.2.2.flatMap pcell)∧Keep (· = k0) H0 a.2.2.1∧a.2.2.2.length+a.1=S.length+(klist t.kids).length∧a.2.2.2++kidsDown t.kids id depth a.1=S++kidsDown t.kids id depth (klist t.kids).length)
  (fun a=>a.1) ?_ ((klist t.kids).length,sv,H0,S) ⟨Nat.le_refl _,hsv,Keep.refl,rfl,rfl⟩
 rintro⟨j,sv,H,S'⟩ ⟨hj,hs,hk,hn,he⟩ L hL
 dsimp only at hj hs hk hn he hL ⊢
 dsimp only[l_Q62_0]
 cases j with
 |zero =>
  simp only[kidsDown,List.append_nil]at he
  simp(disch:=omega) [hfv]
  rw[hfv]at h1
  refine h1 sv H ?_ hk
  rw[← he,←hn]
  exact hs
 |succ j =>
  have hjl:j<(klist t.kids).length:=by omega
  have hr':H[r]? = some (.cells (pcells t0.cells) 5 0 false):=by rw[hk.2 r (List.getElem?_eq_some_iff.1 hr).1 hrk];exact hr
  have hnc:evalOp (CW tr.look) (fun _=>pv) ⟨[],H⟩ (.nilCheck (t_ 0))=some (pv,⟨[],H⟩):=by
   rcases hp with⟨rfl,_⟩|⟨rest,rfl⟩<;>rfl
  simp only[evalOp]at hnc
  obtain⟨q,hq1,hq2,hq3⟩:∃q,fieldF 4 pv=some q∧loadVal ⟨[],H⟩ none q=some (.p (kval t.kids))∧up q = .v q:=by
   rcases hp with⟨rfl,rfl⟩|⟨rest,rfl⟩
   ·exact⟨_,rfl,zab hr' (by rw[Tree.zav];rfl),rfl⟩
   ·rw[Tree.zav]
    exact⟨_,rfl,rfl,rfl⟩
  have hlen:((j+1:Nat):Int)-1=j:=by omega
  obtain⟨ver,cs,op,rfl,hkk,hnn,hxs⟩:=hs
  have hk0:=(List.getElem?_eq_some_iff.1 hkk).1
  simp only[hlen]
  have happ:∀ys:List IVal,ys.length=4→evalAppend ⟨[],H++[IBlk.cells ys 4 0 false]⟩ 4 (.slice k0 ver 0 S'.length) (.slice H.length 0 0 1)=some (.slice k0 (appVer cs 4 S'.length 1 ver) 0 (S'.length+1),⟨[],(H++[IBlk.cells ys 4 0 false]).set k0 (appBlk cs ys 4 S'.length 1 ver op)⟩):=by
   intro ys hy
   refine zbx (by rw[List.getElem?_append_left hk0];exact hkk) hnn (zcl (cs:=ys) (op:=false) (ver:=0) (n:=1) zbh (by omega)) rfl (by omega) ?_
   omega
  have happ':=happ (pcell (kidPend t.kids id depth j (klist t.kids)[j])) rfl
  have hcells:pcell (kidPend t.kids id depth j (klist t.kids)[j])=[.p (.ptr (.int .i64 (klist t.kids)[j].kind :: .str (klist t.kids)[j].name :: .str (klist t.kids)[j].text::aval (klist t.kids)[j].attrs::kval (klist t.kids)[j].kids::(kcells (klist t.kids)).drop (j*5+5))), .p (.int .i64 id), .p (.int .i64 (depth+1)), .p (.int .i64 j)]:=by
   simp only[pcell,kidPend,Tree.zav];rfl
  simp only[hcells]at happ'
  simp(disch:=omega) [hfv,hp.cell.2.2,hnc,hq1,hq2,hq3,zck,zaa,happ']
  have hnew:=zlm (H:=H++[IBlk.cells (pcell (kidPend t.kids id depth j (klist t.kids)[j])) 4 0 false]) (ver:=ver) (op:=op) (ys:=pcell (kidPend t.kids id depth j (klist t.kids)[j])) (ny:=1) (k:=k0) (by simp;omega) hnn rfl
  rw[hxs]at hnew
  have:=hL (j, .slice k0 (appVer cs 4 S'.length 1 ver) 0 (S'.length+1),(H++[IBlk.cells (pcell (kidPend t.kids id depth j (klist t.kids)[j])) 4 0 false]).set k0 (appBlk cs (pcell (kidPend t.kids id depth j (klist t.kids)[j])) 4 S'.length 1 ver op),S'++[kidPend t.kids id depth j (klist t.kids)[j]]) ⟨by dsimp only;omega,?_,?_,?_,?_⟩ (by dsimp only;omega)
  ·simp only[hfv,hcells,List.set_append_left _ _ hk0]at this
   exact this
  ·simp only[List.length_append,List.length_singleton,List.flatMap_append,List.flatMap_cons,List.flatMap_nil,List.append_nil]
   exact hnew
  ·exact(hk.trans Keep.new).trans (Keep.set (.inl rfl))
  ·simp only[List.length_append,List.length_singleton];omega
  ·rw[← he,zgu hjl];simp
def restV:List Pend→Nat→List Vis
 | [],_=>[]
 |p::r,id=>visT p.t id p.parent p.depth p.place++restV r (id+p.t.size)
def sizes (l:List Pend):Nat:=(l.map fun p=>p.t.size).sum
theorem zfm (a b:List Pend):sizes (a++b)=sizes a+sizes b:=by simp[sizes]
theorem zib:∀(a b:List Pend) (id:Nat),restV (a++b) id=restV a id++restV b (id+sizes a)
 | [],b,id=>by simp[restV,sizes]
 |p::a,b,id=>by
  simp only[List.cons_append,restV,zib a b]
  simp[sizes,Nat.add_assoc]
theorem zwr (k:Option (List Tree)) (id d:Nat):∀n,n≤(klist k).length→∀i,restV (kidsDown k id d n).reverse i=visL ((klist k).take n) i id (d+1) 0∧sizes (kidsDown k id d n)=lsize ((klist k).take n):=by
 have hv:∀(l m:List Tree) (i p d pl:Nat),visL (l++m) i p d pl=visL l i p d pl++visL m (i+lsize l) p d (pl+l.length):=by
  intro l
  induction l with
  |nil=>intro m i p d pl;simp[visL,lsize]
  |cons t l ih =>
   intro m i p d pl
   simp only[List.cons_append,visL,lsize,List.length_cons,ih,List.append_assoc]
   congr 3<;>omega
 have hls:∀(l m:List Tree),lsize (l++m)=lsize l+lsize m:=by
  intro l
  induction l with
  |nil=>intro m;simp[lsize]
  |cons t l ih=>intro m;simp only[List.cons_append,lsize,ih];omega
 intro n
 induction n with
 |zero=>intro _ i;simp[kidsDown,restV,visL,sizes,lsize]
 |succ n ih =>
  intro hn i
  obtain⟨h1,h2⟩:=ih (by omega) i
  rw[zgu (by omega),List.reverse_cons,zib,h1,List.take_add_one,List.getElem?_eq_getElem (by omega),Option.toList_some,hv,hls]
  have hsz:sizes (kidsDown k id d n).reverse=sizes (kidsDown k id d n):=by simp[sizes,List.sum_reverse]
  refine⟨?_,?_⟩
  ·rw[hsz,h2]
   simp only[restV,visL,kidPend,List.append_nil,List.length_take,Nat.min_eq_left (show n≤(klist k).length by omega),Nat.zero_add]
  ·have:sizes (kidPend k id d n (klist k)[n]::kidsDown k id d n)=(klist k)[n].size+sizes (kidsDown k id d n):=by simp[sizes,kidPend]
   rw[this,h2]
   simp only[lsize]
   omega
theorem zzf {k:Option (List Tree)} {id d r:Nat} {t0:Tree}:∀n,∀p∈kidsDown k id d n,PtrOK r t0 p.pv p.t∧p.depth=d+1:=by
 intro n
 induction n with
 |zero=>intro p hp;simp[kidsDown]at hp
 |succ n ih =>
  intro p hp
  simp only[kidsDown]at hp
  split at hp
  ·rcases List.mem_cons.1 hp with rfl|hp
   ·exact⟨.inr ⟨_,rfl⟩,rfl⟩
   ·exact ih p hp
  ·exact ih p hp
def Looks (g:FuncId) (cap:List IVal) (t0:Tree) (r k0:Nat) (I:Nat→List IBlk→Prop) (b:Nat→Bool):Prop :=
 ∀i (v:Vis) H pv,(visT t0 0 (-1) 0 0)[i]? = some v→I i H→k0<H.length→H[r]? = some (.cells (pcells t0.cells) 5 0 false)→PtrOK r t0 pv v.t →
    ∃H',CW tr.look g ([.p (.int .i64 i), .agg [pv, .p (.int .i64 v.parent), .p (.int .i64 v.depth), .p (.int .i64 v.place)]]++cap) H=some (.p (.bool (b i)),H')∧Keep (fun x=>x≠r∧x≠k0) H H'∧I (i+1) H'
theorem zagb (g:FuncId) (cap:List IVal) (t0:Tree) (r k0:Nat) (hrk:r≠k0) (hs:t0.size<1000000)
 (I:Nat→List IBlk→Prop) (b:Nat→Bool)
 (hIk:∀i H H',I i H→Keep (· = k0) H H'→I i H') (hstep:Looks g cap t0 r k0 I b) (H1:List IBlk) (hr:H1[r]? = some (.cells (pcells t0.cells) 5 0 false)) (sv:IVal) (hsv:HS H1 k0 4 1 sv (pcell ⟨.ptr (.heap r) 0 0,t0, -1,0,0⟩)) (hI:I 0 H1) (Q:IExit→Env→KM→Prop)
 (h1:∀H' n,I n H'→n≤t0.size→(n=t0.size∨∃m,n=m+1∧b m=false)→(∀ i,i+1<n→b i=true)→Q .normal [] ⟨[],H'⟩) :
 wpLoop (CW tr.look) 59 m_Q62_1 l_Q62_1 (blkK 0 b_Q62_0 Q) [(1, .v (.func g cap)),(4, .v sv),(5, .int .i64 0)] ⟨[],H1⟩:=by
 refine zac (α:=Nat×IVal×List IBlk×List Pend) (fun a=>[(1, .v (.func g cap)),(4, .v a.2.1),(5, .int .i64 a.1)]) (fun a=>⟨[],a.2.2.1⟩)
  (fun a=>HS a.2.2.1 k0 4 a.2.2.2.length a.2.1 (a.2.2.2.flatMap pcell)∧a.2.2.1[r]? = some (.cells (pcells t0.cells) 5 0 false)∧I a.1 a.2.2.1∧a.1+sizes a.2.2.2=t0.size∧restV a.2.2.2.reverse a.1=(visT t0 0 (-1) 0 0).drop a.1∧(∀ p∈a.2.2.2,PtrOK r t0 p.pv p.t∧p.depth≤a.1)∧∀i,i<a.1→b i=true)
  (fun a=>sizes a.2.2.2) ?_ (0,sv,H1,[⟨.ptr (.heap r) 0 0,t0, -1,0,0⟩]) ⟨by simpa using hsv,hr,hI,by simp[sizes],by simp[restV],by simp;exact .inl ⟨rfl,rfl⟩,by simp⟩
 rintro⟨id,sv,H,S⟩ ⟨hS,hr,hI,hsz,hrest,hP,hb⟩ L hL
 dsimp only at hS hr hI hsz hrest hP hb hL ⊢
 dsimp only[l_Q62_1]
 have hlenS:S.length≤sizes S:=by
  clear hS hsz hrest hP hL
  induction S with
  |nil=>simp
  |cons p S ih=>have:=zaf p.t;simp only[sizes,List.map_cons,List.sum_cons,List.length_cons]at ih ⊢;omega
 rcases List.eq_nil_or_concat S with rfl|⟨S',p,rfl⟩
 ·obtain⟨ver,cs,op,rfl,hkk,hnn,hxs⟩:=hS
  simp[sizes]at hsz
  simp(disch:=omega) []
  refine h1 H id hI (by omega) (.inl hsz) (fun i hi=>hb i (by omega))
 ·rw[List.concat_eq_append]at *
  have hpp:=hP p (by simp)
  have hS0:=hS
  obtain⟨ver,cs,op,rfl,hkk,hnn,hxs⟩:=hS
  have hk0:=(List.getElem?_eq_some_iff.1 hkk).1
  simp only[List.length_append,List.length_singleton]at hnn hlenS hS0 hxs
  obtain⟨ver',hi1,hi2⟩:=HS.load (bx:=[]) hS0 (j:=S'.length) (by omega)
  have hpc:((List.flatMap pcell (S'++[p])).drop (S'.length*4)).take 4=pcell p:=by
   have:=zafz (l:=S'++[p]) (j:=S'.length) (by simp)
   rw[this];simp
  rw[hpc]at hi2
  simp only[pcell]at hi2
  have hl1:((S'.length+1:Nat):Int)-1=(S'.length:Nat):=by omega
  have hvis:(visT t0 0 (-1) 0 0)[id]? = some ⟨p.t,p.parent,p.depth,p.place⟩:=by
   have h0:=congrArg (fun l=>l[0]?) hrest
   simp only[List.getElem?_drop,Nat.add_zero]at h0
   rw[← h0,List.reverse_append]
   simp only[List.reverse_singleton,restV,zbp,List.cons_append,List.getElem?_cons_zero]
  obtain⟨H',hg1,hg2,hg3⟩:=hstep id _ H p.pv hvis hI hk0 hr hpp.1
  simp only[List.cons_append,List.nil_append]at hg1
  have hr':H'[r]? = some (.cells (pcells t0.cells) 5 0 false):=by
   rw[hg2.2 r (List.getElem?_eq_some_iff.1 hr).1 (by simp)];exact hr
  have hkk':H'[k0]? = some (.cells cs 4 ver op):=by
   rw[hg2.2 k0 hk0 (by simp)];exact hkk
  have hid:id<1000000:=by have:=zaf p.t;simp[sizes]at hsz;omega
  have hle:((S'.length:Nat):Int)≤(S'.length:Nat)+1:=by omega
  cases hbi:b id
  ·rw[hbi]at hg1
   simp(disch:=omega) [hi1,hi2,zaa,hg1,boundHi,boundLo,asBound,hpp.1.cell.2.2,hle,Mem.get,hkk]
   have h0:=zaf p.t
   exact h1 H' (id+1) hg3 (by simp[sizes]at hsz;omega) (.inr ⟨id,rfl,hbi⟩) (fun i hi=>hb i (by omega))
  ·rw[hbi]at hg1
   have hnc:evalOp (CW tr.look) (fun _=>p.pv) ⟨[],H'⟩ (.nilCheck (t_ 0))=some (p.pv,⟨[],H'⟩):=by
    rcases hpp.1 with⟨h,_⟩|⟨rest,h⟩<;>rw[h]<;>rfl
   simp only[evalOp]at hnc
   obtain⟨q,hq1,hq2,hq3⟩:∃q,fieldF 4 p.pv=some q∧loadVal ⟨[],H'⟩ none q=some (.p (kval p.t.kids))∧up q = .v q:=by
    rcases hpp.1 with⟨h,h2⟩|⟨rest,h⟩
    ·rw[h,h2];exact⟨_,rfl,zab hr' (by rw[Tree.zav];rfl),rfl⟩
    ·rw[h,Tree.zav]
     exact⟨_,rfl,rfl,rfl⟩
   have ht:=zag p.t
   have hkl:=zal (klist p.t.kids)
   have hps:p.t.size≤t0.size:=by simp[sizes]at hsz;omega
   have hSl:S'.length≤t0.size:=by simp[sizes]at hsz hlenS;omega
   simp(disch:=omega) [hi1,hi2,zaa,hg1,boundHi,boundLo,asBound,hpp.1.cell.2.2,hle,Mem.get,hkk,hnc,hq1,hq2,hq3]
   refine zaga (.func g cap) p.pv p.t r k0 t0 id p.depth p.parent p.place H' hpp.1 hrk rfl hr' (by omega) (by have:=hpp.2;omega) (by omega) S' (by omega) _ ⟨ver,cs,op,rfl,hkk',by omega,?_⟩ _ ?_
   ·rw[List.flatMap_append]at hxs
    have h3:(S'.flatMap pcell).length=S'.length*4:=zacy _
    have h4:=congrArg (List.take (S'.length*4)) hxs
    rw[List.take_take,Nat.min_eq_left (by omega),List.take_append_of_le_length (by omega),List.take_of_length_le (l:=S'.flatMap pcell) (by omega)]at h4
    exact h4
   ·intro sv' H2 hs2 hk2
    simp(disch:=omega) [zaa]
    obtain⟨hr1,hr2⟩:=zwr p.t.kids id p.depth (klist p.t.kids).length (Nat.le_refl _) (id+1)
    rw[List.take_length]at hr1 hr2
    refine hL (id+1,sv',H2,S'++kidsDown p.t.kids id p.depth (klist p.t.kids).length) ⟨?_,?_,?_,?_,?_,?_,?_⟩ ?_
    ·have:(kidsDown p.t.kids id p.depth (klist p.t.kids).length).length=(klist p.t.kids).length:=by
      have key:∀n,n≤(klist p.t.kids).length→(kidsDown p.t.kids id p.depth n).length=n:=by
       intro n
       induction n with
       |zero=>intro _;rfl
       |succ n ih=>intro hn;rw[zgu (by omega),List.length_cons,ih (by omega)]
      exact key _ (Nat.le_refl _)
     simp only[List.length_append,this]
     exact hs2
    ·dsimp only
     rw[hk2.2 r (List.getElem?_eq_some_iff.1 hr').1 hrk];exact hr'
    ·exact hIk _ _ _ hg3 hk2
    ·dsimp only
     rw[zfm,hr2]
     simp only[zfm]at hsz
     simp[sizes]at hsz ⊢
     omega
    ·dsimp only
     rw[List.reverse_append,zib,hr1]
     rw[List.reverse_append]at hrest
     simp only[List.reverse_singleton,restV,zbp p.t,List.cons_append]at hrest
     have:=congrArg (List.drop 1) hrest
     rw[List.drop_drop]at this
     rw[← this]
     simp only[List.drop_one,List.tail_cons]
     congr 2
     have:sizes (kidsDown p.t.kids id p.depth (klist p.t.kids).length).reverse=sizes (kidsDown p.t.kids id p.depth (klist p.t.kids).length):=by simp[sizes,List.sum_reverse]
     rw[this,hr2,ht]
     omega
    ·intro x hx
     rcases List.mem_append.1 hx with hx|hx
     ·have:=hP x (by simp[hx])
      exact⟨this.1,by dsimp only;omega⟩
     ·have:=zzf (r:=r) (t0:=t0) _ x hx
      exact⟨this.1,by have:=hpp.2;dsimp only;omega⟩
    ·intro i hi
     dsimp only at hi
     by_cases e:i=id
     ·rw[e];exact hbi
     ·exact hb i (by omega)
    ·dsimp only
     rw[zfm,hr2,zfm]
     simp[sizes]
     omega
theorem zagc (g:FuncId) (cap:List IVal) (t0:Tree) (r:Nat) (H0:List IBlk) (hr:H0[r]? = some (.cells (pcells t0.cells) 5 0 false)) (hs:t0.size<1000000)
 (I:Nat→List IBlk→Prop) (b:Nat→Bool) (hI0:∀H,Keep (fun _=>False) H0 H→I 0 H) (hIk:∀i H H',I i H→Keep (· = H0.length) H H'→I i H') (hstep:Looks g cap t0 r H0.length I b) :
 ∃H',CW tr.look F_Q62 [.ptr (.heap r) 0 0, .func g cap] H0=some (.tup [],H')∧∃n,I n H'∧n≤t0.size∧(n=t0.size∨∃m,n=m+1∧b m=false)∧∀i,i+1<n→b i=true:=by
 have hrl:=(List.getElem?_eq_some_iff.1 hr).1
 obtain⟨rr,H',h1,h2,h3⟩:=zaw (args:=[.ptr (.heap r) 0 0, .func g cap]) (H:=H0) (Q:=fun rv H'=>rv = .tup []∧∃n,I n H'∧n≤t0.size∧(n=t0.size∨∃m,n=m+1∧b m=false)∧∀i,i+1<n→b i=true) look_Q62 rfl rfl (by
  dsimp only[i_Q62,c_Q62]
  simp(disch:=omega) []
  refine zagb g cap t0 r H0.length (by omega) hs I b hIk hstep _ ?_ _ ⟨0,pcell ⟨.ptr (.heap r) 0 0,t0, -1,0,0⟩,false,rfl,zbh,by simp[pcell],by simp[pcell]⟩ (hI0 _ Keep.new) _ ?_
  ·rw[List.getElem?_append_left hrl];exact hr
  ·intro H' n hn h4 h5 h6
   simp(disch:=omega) []
   exact⟨n,hn,h4,h5,h6⟩)
 exact⟨H',by rw[h1,h2],h3⟩
end Go.Ideal

namespace Go.Ideal
open Go
set_option maxHeartbeats 4000000
set_option maxRecDepth 20000
attribute [-simp] getElem?_pos
theorem zns (a:Option Attrs) (ha:(alist a).length<1000000) (H:List IBlk):CW tr.look F_Q64 [.p (aval a)] H=some (.p (aval a),H):=by
 refine zai look_Q64 rfl (by simp) rfl ?_
 dsimp only[i_Q64,c_Q64]
 cases a with
 |none =>
  have h1:evalNilSl (.p (aval none)) (.p .nilslice)=some true:=rfl
  simp(disch:=omega) [h1]
  rfl
 |some l =>
  have h1:evalNilSl (.p (aval (some l))) (.p .nilslice)=some false:=rfl
  simp only[alist,Option.getD_some]at ha
  cases l with
  |nil =>
   have h2:evalAppend ⟨[],[.cells [] 2 0 false]⟩ 2 (.slice 0 0 0 0) (.p (aval (some [])))=some (.slice 0 0 0 0,⟨[],[.cells [] 2 0 false]⟩):=rfl
   simp(disch:=omega) [h1,h2]
   rfl
  |cons p l =>
   have hlen:=zeh (p::l)
   have h2:=zbx (bx:=[]) (H:=[.cells [] 2 0 false]) (k:=0) (n:=0) (ver:=0) (op:=false) (cs:=[]) (esz:=2) (y := .p (aval (some (p::l)))) (ys:=pcells (acells (p::l))) (ny:=(p::l).length) rfl (by simp) rfl rfl (by simp) (by omega)
   rw[Nat.zero_add]at h2
   have hs:=zlm (H:=[.cells [] 2 0 false]) (k:=0) (n:=0) (ver:=0) (op:=false) (cs:=[]) (esz:=2) (ys:=pcells (acells (p::l))) (ny:=(p::l).length) (by simp) (by simp) (by simp only[pcells,List.length_map];exact hlen)
   simp only[List.take_nil,List.nil_append,Nat.zero_add]at hs
   have hz:=zdx hs
   simp(disch:=omega) [h1,h2]
   exact hz
def rawItems (t:Tree):List Item:=(visT t 0 (-1) 0 0).map rawOf
def FlatI (t0:Tree) (lb r k0:Nat) (i:Nat) (H:List IBlk):Prop:=∃lv,H[lb]? = some (.cells [lv] 1 0 false) ∧
 ((lv = .p .nilslice∧i=0)∨∃kl,kl≠lb∧kl≠r∧kl≠k0∧HS H kl 10 i lv (pcells (icells ((rawItems t0).take i))))
theorem zzg (t0:Tree) (lb r k0:Nat) (hf:Fine t0) (h1:lb≠r) (h2:lb≠k0) (_:r<k0):Looks F_Q63 [.ptr (.heap lb) 0 0] t0 r k0 (FlatI t0 lb r k0) (fun _=>true):=by
 intro i v H pv hv hI hk0 hr hp
 obtain⟨lv,hlb,hl⟩:=hI
 have hlbl:=(List.getElem?_eq_some_iff.1 hlb).1
 have hvt:v.t∈t0.nodes:=by rw[← zbj t0 0 (-1) 0 0];exact List.mem_map.2 ⟨v,List.mem_of_getElem? hv,rfl⟩
 have hcl:=zns v.t.attrs (hf.2 _ hvt)
 have hi:i<(visT t0 0 (-1) 0 0).length:=(List.getElem?_eq_some_iff.1 hv).1
 rw[zae]at hi
 have hs6:=hf.1
 have hnc:evalOp (CW tr.look) (fun _=>pv) ⟨[],H⟩ (.nilCheck (t_ 0))=some (pv,⟨[],H⟩):=by
  rcases hp with⟨h,_⟩|⟨rest,h⟩<;>rw[h]<;>rfl
 simp only[evalOp]at hnc
 have hld:loadVal ⟨[],H⟩ (some 5) pv=some (tagg v.t):=by
  rcases hp with⟨h,h2⟩|⟨rest,h⟩
  ·rw[h,h2,zdc (off:=0) (n:=5) hr (by simp[pcells,Tree.zax])]
   simp[tagg,Tree.zav]
  ·rw[h]
   simp[Tree.zax,tagg]
 have hlb1:=zab (bx:=[]) (off:=0) hlb rfl
 have hwr:∀(T:List IBlk) (x:IVal),writeCells ⟨[],H++T⟩ (.ptr (.heap lb) 0 0) [x]=some ⟨[],(H++T).set lb (.cells [x] 1 0 false)⟩:=by
  intro T x
  rw[zan (by rw[List.getElem?_append_left hlbl];exact hlb) (by simp)]
  rfl
 have hraw:(rawItems t0)[i]? = some (rawOf v):=by simp[rawItems,hv]
 have hcell:icell (rawOf v)=[.int .i64 v.parent, .int .i64 1, .int .i64 v.depth, .int .i64 1, .int .i64 v.place, .int .i64 v.t.kind, .str v.t.name, .str v.t.text,aval v.t.attrs, .nilslice]:=rfl
 have fin:∀H',(∃ rr,CW tr.look F_Q63 [.p (.int .i64 i), .agg [pv, .p (.int .i64 v.parent), .p (.int .i64 v.depth), .p (.int .i64 v.place)], .ptr (.heap lb) 0 0] H=some (rr,H')∧rr = .p (.bool true)∧Keep (fun x=>x≠r∧x≠k0) H H'∧FlatI t0 lb r k0 (i+1) H') →
  CW tr.look F_Q63 ([.p (.int .i64 i), .agg [pv, .p (.int .i64 v.parent), .p (.int .i64 v.depth), .p (.int .i64 v.place)]]++[.ptr (.heap lb) 0 0]) H=some (.p (.bool true),H')∧Keep (fun x=>x≠r∧x≠k0) H H'∧FlatI t0 lb r k0 (i+1) H':=by
  rintro H' ⟨rr,e1,rfl,e2,e3⟩
  exact⟨e1,e2,e3⟩
 have htake:(rawItems t0).take (i+1)=(rawItems t0).take i++[rawOf v]:=by
  rw[List.take_add_one,hraw];rfl
 obtain⟨Y,hY⟩:∃Y,[IVal.p (.int .i64 v.parent), .p (.int .i64 1), .p (.int .i64 v.depth), .p (.int .i64 1), .p (.int .i64 v.place), .p (.int .i64 v.t.kind), .p (.str v.t.name), .p (.str v.t.text), .p (aval v.t.attrs), .p .nilslice]=Y:=⟨_,rfl⟩
 have hYl:Y.length=10:=by rw[← hY];rfl
 have hYc:pcells (icell (rawOf v))=Y:=by rw[← hY];rfl
 have hrl:=(List.getElem?_eq_some_iff.1 hr).1
 rcases hl with⟨rfl,rfl⟩|⟨kl,hkl1,hkl2,hkl3,hkl⟩
 ·have happ:=append_nil (bx:=[]) (H:=H++[IBlk.cells Y 10 0 false]) (esz:=10) (ny:=1) (y := .slice H.length 0 0 1) (zcl (op:=false) zbh (by simp[hYl])) rfl (by omega) (by omega)
  obtain⟨rr,H',e1,e2⟩:=zaw (args:=[.p (.int .i64 (0:Nat)), .agg [pv, .p (.int .i64 v.parent), .p (.int .i64 v.depth), .p (.int .i64 v.place)], .ptr (.heap lb) 0 0]) (H:=H)
   (Q:=fun rv H'=>rv = .p (.bool true)∧Keep (fun x=>x≠r∧x≠k0) H H'∧FlatI t0 lb r k0 (0+1) H') look_Q63 rfl rfl (by
   dsimp only[i_Q63,c_Q63]
   simp(disch:=omega) [hp.cell.2.2,hnc,hld,hcl,hlb1,hY,happ,hwr]
   refine⟨(Keep.set (.inl ⟨h1,h2⟩)).trans Keep.new,_,by rw[List.getElem?_append_left (by simpa using hlbl)];exact zap hlbl, .inr ⟨H.length+1,by omega,by omega,by omega,0,Y,true,rfl,?_,?_,?_⟩⟩
   ·rw[List.getElem?_append_right (by simp),List.length_set,Nat.add_sub_cancel_left];rfl
   ·simp[hYl]
   ·rw[show(1:Nat)=0+1 from rfl,htake,List.take_of_length_le (by omega),←hYc];simp[icells,pcells])
  exact⟨H',fin H' ⟨rr,e1,e2⟩⟩
 ·obtain⟨ver,cs,op,rfl,hkk,hnn,hxs⟩:=hkl
  have hkll:=(List.getElem?_eq_some_iff.1 hkk).1
  have happ:=zbx (bx:=[]) (H:=H++[IBlk.cells Y 10 0 false]) (y := .slice H.length 0 0 1) (ny:=1) (by rw[List.getElem?_append_left hkll];exact hkk) hnn (zcl (op:=false) (ver:=0) (n:=1) zbh (by simp[hYl])) rfl (by omega) (by omega)
  have hnew:=zlm (H:=H) (ver:=ver) (op:=op) (ys:=Y) (ny:=1) (k:=kl) hkll hnn (by simp[hYl])
  rw[hxs]at hnew
  rw[List.set_append_left _ _ hkll]at happ
  generalize appBlk cs Y 10 i 1 ver op=BB at happ hnew
  generalize appVer cs 10 i 1 ver=vv at happ hnew
  have hwr2:∀(T:List IBlk) (x:IVal),writeCells ⟨[],H.set kl BB++T⟩ (.ptr (.heap lb) 0 0) [x]=some ⟨[],(H.set kl BB++T).set lb (.cells [x] 1 0 false)⟩:=by
   intro T x
   rw[zan (by rw[List.getElem?_append_left (by simpa using hlbl),List.getElem?_set_ne hkl1];exact hlb) (by simp)]
   rfl
  obtain⟨rr,H',e1,e2⟩:=zaw (args:=[.p (.int .i64 i), .agg [pv, .p (.int .i64 v.parent), .p (.int .i64 v.depth), .p (.int .i64 v.place)], .ptr (.heap lb) 0 0]) (H:=H)
   (Q:=fun rv H'=>rv = .p (.bool true)∧Keep (fun x=>x≠r∧x≠k0) H H'∧FlatI t0 lb r k0 (i+1) H') look_Q63 rfl rfl (by
   dsimp only[i_Q63,c_Q63]
   simp(disch:=omega) [hp.cell.2.2,hnc,hld,hcl,hlb1,hY,happ,hwr2]
   refine⟨((Keep.set (.inl ⟨hkl2,hkl3⟩)).trans Keep.new).trans (Keep.set (.inl ⟨h1,h2⟩)),_,zap (by simp;omega), .inr ⟨kl,hkl1,hkl2,hkl3,?_⟩⟩
   rw[htake]
   have h3:pcells (icells ((rawItems t0).take i++[rawOf v]))=pcells (icells ((rawItems t0).take i))++Y:=by
    rw[← hYc];simp[icells,pcells]
   rw[h3]
   refine hnew.keep ?_
   rw[List.getElem?_set_ne (Ne.symm hkl1),List.getElem?_append_left (by simpa using hkll)])
  exact⟨H',fin H' ⟨rr,e1,e2⟩⟩
end Go.Ideal

namespace Go.Ideal
open Go
set_option maxHeartbeats 4000000
set_option maxRecDepth 20000
attribute [-simp] getElem?_pos
theorem zzh {a b:Int}:evalExt a true [.p (.int .i64 b)]=some (max a b):=by
 simp only[evalExt,if_true]
 congr 1
 by_cases h:b>a
 ·rw[if_pos h];omega
 ·rw[if_neg h];omega
theorem zsb (t:Tree):∀(id:Nat) (p:Int) (d pl:Nat) (i:Nat) (v:Vis),(visT t id p d pl)[i]? = some v→(i=0∧v.parent=p)∨(id≤v.parent∧v.parent<id+i):=by
 have key:∀(n:Nat) (t:Tree),t.size<n→∀(id:Nat) (p:Int) (d pl:Nat) (i:Nat) (v:Vis),(visT t id p d pl)[i]? = some v→(i=0∧v.parent=p)∨(id≤v.parent∧v.parent<id+i):=by
  intro n
  induction n with
  |zero=>intro t h;omega
  |succ n ih =>
   intro t h id p d pl i v hv
   have ht:=zag t
   have hl:∀(l:List Tree) (id p d pl:Nat),lsize l<n→p<id→∀(i:Nat) (v:Vis),(visL l id p d pl)[i]? = some v→(p:Int)≤v.parent∧v.parent<id+i:=by
    intro l
    induction l with
    |nil=>intro id p d pl _ _ i v hv;simp[visL]at hv
    |cons u l ih2 =>
     intro id p d pl hl hp i v hv
     simp only[lsize]at hl
     simp only[visL]at hv
     by_cases hi:i<(visT u id p d pl).length
     ·rw[List.getElem?_append_left hi]at hv
      rcases ih u (by omega) id p d pl i v hv with⟨h1,h2⟩|h1<;>omega
     ·rw[List.getElem?_append_right (by omega),zae]at hv
      rw[zae]at hi
      have:=ih2 (id+u.size) p d (pl+1) (by omega) (by omega) _ v hv
      omega
   rw[zbp]at hv
   cases i with
   |zero =>
    simp only[List.getElem?_cons_zero,Option.some.injEq]at hv
    subst hv;exact .inl ⟨rfl,rfl⟩
   |succ i =>
    have:=hl (klist t.kids) (id+1) id (d+1) 0 (by omega) (by omega) i v (by rw[List.getElem?_cons_succ]at hv;exact hv)
    right
    omega
 exact key _ t (Nat.lt_succ_self _)
theorem zzi (L:List Item) (i:Nat):(up1 L i).map (·.parent)=L.map (·.parent):=by
 unfold up1
 split
 ·rfl
 ·rename_i x hx
  split
  ·rfl
  ·rename_i q hq
   rw[List.map_set]
   obtain⟨h1,h2⟩:=List.getElem?_eq_some_iff.1 hq
   apply List.ext_getElem?
   intro j
   rw[List.getElem?_set]
   split
   ·rename_i e
    subst e
    simp only[List.length_map,h1,if_true,List.getElem?_map,hq,Option.map_some,bump]
   ·rfl
theorem zakx (L:List Item) (i j:Nat) (x:Item) (h:L[j]? = some x):∃y,(up1 L i)[j]? = some y∧x.size≤y.size∧x.height≤y.height:=by
 unfold up1
 split
 ·exact⟨x,h,Nat.le_refl _,Nat.le_refl _⟩
 ·rename_i z hz
  split
  ·exact⟨x,h,Nat.le_refl _,Nat.le_refl _⟩
  ·rename_i q hq
   by_cases e:z.parent.toNat=j
   ·subst e
    rw[h]at hq
    injection hq with hq
    subst hq
    refine⟨_,by rw[List.getElem?_set_self (List.getElem?_eq_some_iff.1 h).1],?_,?_⟩
    ·simp[bump]
    ·simp only[bump];omega
   ·exact⟨x,by rw[List.getElem?_set_ne e];exact h,Nat.le_refl _,Nat.le_refl _⟩
theorem zmn (lo:Nat):∀(n:Nat) (L:List Item) (j:Nat) (x:Item),L[j]? = some x→∃y,(backN L lo n)[j]? = some y∧x.size≤y.size∧x.height≤y.height
 |0,L,j,x,h=>⟨x,h,Nat.le_refl _,Nat.le_refl _⟩
 |n+1,L,j,x,h=>by
  obtain⟨y,h1,h2,h3⟩:=zakx L (lo+n) j x h
  obtain⟨z,h4,h5,h6⟩:=zmn lo n _ j y h1
  exact⟨z,h4,by omega,by omega⟩
theorem zagd:∀(n:Nat) (t:Tree),t.size<n→t.height≤t.size:=by
 intro n
 induction n with
 |zero=>intro t h;omega
 |succ n ih =>
  intro t h
  have ht:=zag t
  have hh:=zfc t
  have hl:∀l:List Tree,lsize l<n→lheight l≤lsize l:=by
   intro l
   induction l with
   |nil=>intro _;exact Nat.le_refl _
   |cons u l ih2 =>
    intro hl
    simp only[lsize]at hl
    have h1:=ih u (by omega)
    have h2:=ih2 (by omega)
    simp only[lheight,lsize]
    omega
  have:=hl (klist t.kids) (by omega)
  omega
theorem zmo (t:Tree):∀(id:Nat) (p:Int) (d pl:Nat) (x:Item),x∈flatT t id p d pl→x.size≤t.size∧x.height≤t.size:=by
 have key:∀(n:Nat) (t:Tree),t.size<n→∀(id:Nat) (p:Int) (d pl:Nat) (x:Item),x∈flatT t id p d pl→x.size≤t.size∧x.height≤t.size:=by
  intro n
  induction n with
  |zero=>intro t h;omega
  |succ n ih =>
   intro t h id p d pl x hx
   have ht:=zag t
   have hl:∀(l:List Tree) (id p d pl:Nat),lsize l<n→∀x∈flatL l id p d pl,x.size≤lsize l∧x.height≤lsize l:=by
    intro l
    induction l with
    |nil=>intro id p d pl _ x hx;simp[flatL]at hx
    |cons u l ih2 =>
     intro id p d pl hl x hx
     simp only[lsize]at hl ⊢
     simp only[flatL,List.mem_append]at hx
     rcases hx with hx|hx
     ·have:=ih u (by omega) _ _ _ _ x hx;omega
     ·have:=ih2 _ _ _ _ (by omega) x hx;omega
   rw[zlo]at hx
   rcases List.mem_cons.1 hx with rfl|hx
   ·exact⟨Nat.le_refl _,zagd _ t (Nat.lt_succ_self _)⟩
   ·have:=hl _ _ _ _ _ (by omega) x hx;omega
 exact key _ t (Nat.lt_succ_self _)
theorem zage (t:Tree) (hs:t.size<1000000) (lb kl:Nat) (lv:IVal) (hne:kl≠lb) (H0:List IBlk) (hlb:H0[lb]? = some (.cells [lv] 1 0 false)) (hh:HS H0 kl 10 t.size lv (pcells (icells (rawItems t)))) (Q:IExit→Env→KM→Prop)
 (h1:∀H',H'[lb]? = some (.cells [lv] 1 0 false)→HS H' kl 10 t.size lv (pcells (icells (flatT t 0 (-1) 0 0)))→Q .normal [(3, .v (.ptr (.heap lb) 0 0))] ⟨[],H'⟩) :
 wpLoop (CW tr.look) 49 m_Q30_0 l_Q30_0 (blkK 0 b_Q30_0 Q) [(3, .v (.ptr (.heap lb) 0 0)),(4, .int .i64 (t.size-1))] ⟨[],H0⟩:=by
 have hraw:(rawItems t).length=t.size:=by simp[rawItems,zae]
 have hsz:=zag t
 have hsz1:=zaf t
 refine zac (α:=Nat×List IBlk×List Item) (fun a=>[(3, .v (.ptr (.heap lb) 0 0)),(4, .int .i64 a.1)]) (fun a=>⟨[],a.2.1⟩)
  (fun a=>a.1<t.size∧a.2.1[lb]? = some (.cells [lv] 1 0 false)∧HS a.2.1 kl 10 t.size lv (pcells (icells a.2.2))∧a.2.2.length=t.size∧backN a.2.2 1 a.1=flatT t 0 (-1) 0 0∧a.2.2.map (·.parent)=(rawItems t).map (·.parent)) (fun a=>a.1) ?_ (t.size-1,H0,rawItems t) ?_ |> (fun h=>by
   have e:((t.size-1:Nat):Int)=(t.size:Int)-1:=by omega
   simpa only[e]using h)
 ·rintro⟨n,H,L⟩ ⟨hn,hlb,hH,hL1,hL2,hL3⟩ LL hLL
  dsimp only at hn hlb hH hL1 hL2 hL3 hLL ⊢
  dsimp only[l_Q30_0]
  have hld:=zab (bx:=[]) (off:=0) hlb rfl
  cases n with
  |zero =>
   simp(disch:=omega) []
   exact h1 H hlb (by rw[← hL2];exact hH)
  |succ n =>
   obtain⟨x,hx⟩:∃x,L[n+1]? = some x:=⟨_,List.getElem?_eq_getElem (by omega)⟩
   have hpar:∃p:Nat,x.parent=p∧p<n+1:=by
    have h2:=congrArg (fun l=>l[n+1]?) hL3
    simp only[List.getElem?_map,hx,Option.map_some]at h2
    cases hv:(visT t 0 (-1) 0 0)[n+1]? with
    |none=>simp[rawItems,hv]at h2
    |some v =>
     simp only[rawItems,List.getElem?_map,hv,Option.map_some,rawOf,Option.some.injEq]at h2
     rcases zsb t 0 (-1) 0 0 _ v hv with⟨h3,_⟩|h3
     ·omega
     ·exact⟨v.parent.toNat,by omega,by omega⟩
   obtain⟨p,hp1,hp2⟩:=hpar
   obtain⟨q,hq⟩:∃q,L[p]? = some q:=⟨_,List.getElem?_eq_getElem (by omega)⟩
   have hup:up1 L (n+1)=L.set p (bump q x.size x.height):=by
    unfold up1
    simp only[hx,hp1,Int.toNat_natCast,hq]
   obtain⟨ver,cs0,op0,rfl,hkk0,hnn0,hxs0⟩:=hH
   have hH:HS H kl 10 t.size (.slice kl ver 0 t.size) (pcells (icells L)):=⟨ver,cs0,op0,rfl,hkk0,hnn0,hxs0⟩
   have hkll:=hH.lt
   have hlbl:=(List.getElem?_eq_some_iff.1 hlb).1
   have hn1:((n+1:Nat):Int)=(n:Int)+1:=rfl
   have i1:idxS 10 (.slice kl ver 0 t.size) (.p (.int .i64 ((n:Int)+1)))=some (.ptr (.heap kl) ver ((n+1)*10)):=by rw[← hn1,zau (by omega),Nat.zero_add]
   have i2:idxS 10 (.slice kl ver 0 t.size) (.p (.int .i64 p))=some (.ptr (.heap kl) ver (p*10)):=by rw[zau (by omega),Nat.zero_add]
   have fld:∀(H:List IBlk) (L:List Item) (j f:Nat) (y:Item) (v:PVal),HS H kl 10 t.size (.slice kl ver 0 t.size) (pcells (icells L))→L[j]? = some y→f<10→(icell y)[f]? = some v→loadVal ⟨[],H⟩ none (.ptr (.heap kl) ver (j*10+f))=some (.p v):=by
    intro H L j f y v hH hy hf hv
    obtain⟨hj,hy⟩:=List.getElem?_eq_some_iff.1 hy
    refine hH.field (x := .p v) ?_
    rw[pcells,List.getElem?_map,zafu hj hf,hy,hv];rfl
   have sto:∀(H:List IBlk) (L:List Item) (j f:Nat) (y z:Item) (v:PVal),HS H kl 10 t.size (.slice kl ver 0 t.size) (pcells (icells L))→L.length=t.size→L[j]? = some y→f<10→icell z=(icell y).set f v→∃b,writeCells ⟨[],H⟩ (.ptr (.heap kl) ver (j*10+f)) [.p v]=some ⟨[],H.set kl b⟩∧HS (H.set kl b) kl 10 t.size (.slice kl ver 0 t.size) (pcells (icells (L.set j z))):=by
    intro H L j f y z v hH hl hy hf hz
    obtain⟨hj,hy⟩:=List.getElem?_eq_some_iff.1 hy
    obtain⟨b,hb1,hb2⟩:=hH.store (bx:=[]) (off:=j*10+f) (new:=[.p v]) (by simp;omega)
    refine⟨b,hb1,?_⟩
    rw[zacv hj hf (by rw[hy];exact hz),zacw]
    rw[zgf (by simp[pcells,zln];omega)]at hb2
    exact hb2
   have g0:=fld H L (n+1) 0 x (.int .i64 p) hH hx (by omega) (by rw[icell,hp1];rfl)
   have g1:=fld H L (n+1) 1 x (.int .i64 x.size) hH hx (by omega) rfl
   have g2:=fld H L p 1 q (.int .i64 q.size) hH hq (by omega) rfl
   obtain⟨y,hy1,hy2,hy3⟩:=zmn 1 (n+1) L (n+1) x hx
   obtain⟨w,hw1,hw2,hw3⟩:=zmn 1 (n+1) L p q hq
   rw[hL2]at hy1 hw1
   have hym:=zmo t _ _ _ _ y (List.mem_of_getElem? hy1)
   have hwm:=zmo t _ _ _ _ w (List.mem_of_getElem? hw1)
   obtain⟨b1,s1,s2⟩:=sto H L p 1 q { q with size:=q.size+x.size } (.int .i64 (q.size+x.size:Nat)) hH hL1 hq (by omega) rfl
   have hne2:p≠n+1:=by omega
   have g3:=fld _ _ (n+1) 3 x (.int .i64 x.height) s2 (by rw[List.getElem?_set_ne hne2];exact hx) (by omega) rfl
   have g4:=fld _ _ p 3 { q with size:=q.size+x.size } (.int .i64 q.height) s2 (List.getElem?_set_self (by omega)) (by omega) rfl
   obtain⟨b2,s3,s4⟩:=sto _ _ p 3 { q with size:=q.size+x.size } (bump q x.size x.height) (.int .i64 (max q.height (x.height+1):Nat)) s2 (by simp[hL1]) (List.getElem?_set_self (by omega)) (by omega) rfl
   have hlb2:(H.set kl b1)[lb]? = some (.cells [.slice kl ver 0 t.size] 1 0 false):=by rw[List.getElem?_set_ne hne];exact hlb
   have hld2:=zab (bx:=[]) (off:=0) hlb2 rfl
   rw[List.set_set]at s3 s4
   rw[List.set_set,←hup]at s4
   have hm:max (q.height:Int) ((x.height:Int)+1)=((max q.height (x.height+1):Nat):Int):=by omega
   rw[Nat.add_zero]at g0
   simp only[Int.natCast_add]at s1
   simp(disch:=omega) [hld,hld2,i1,i2,g0,g1,g2,g3,g4,zaa,s1,s3,zzh,hm]
   refine hLL (n,H.set kl b2,up1 L (n+1)) ⟨by dsimp only;omega,?_,s4,by dsimp only;rw[zacx];exact hL1,?_,?_⟩ (by dsimp only;omega)
   ·dsimp only;rw[List.getElem?_set_ne hne];exact hlb
   ·rw[← hL2,backN,Nat.add_comm 1 n]
   ·dsimp only;rw[zzi,hL3]
 ·exact⟨by dsimp only;omega,hlb,hh,hraw,by rw[← zafw,show t.size-1=lsize (klist t.kids)by omega];rfl,rfl⟩
end Go.Ideal

namespace Go.Ideal
open Go
set_option maxHeartbeats 4000000
set_option maxRecDepth 20000
attribute [-simp] getElem?_pos
theorem zby (t:Tree) (hf:Fine t) (H:List IBlk):CW tr.look F_Q30 [tagg t] H=some (.p (ival t),H):=by
 refine zai look_Q30 rfl (by simp) rfl ?_
 dsimp only[i_Q30,c_Q30]
 have hsz1:=zaf t
 obtain⟨H',h1,n,hI,hn,hor,_⟩:=zagc F_Q63 [.ptr (.heap 1) 0 0] t 0 [.cells (pcells t.cells) 5 0 false, .cells [.p .nilslice] 1 0 false] rfl hf.1 (FlatI t 1 0 2) (fun _=>true)
  (fun H hk=>⟨.p .nilslice,by rw[hk.2 1 (by simp) (by simp)];rfl, .inl ⟨rfl,rfl⟩⟩)
  (by
   rintro i H H' ⟨lv,h1,h2⟩ hk
   have hl:=(List.getElem?_eq_some_iff.1 h1).1
   refine⟨lv,by rw[hk.2 1 hl (by simp)];exact h1,?_⟩
   rcases h2 with h2|⟨kl,a,b,c,h2⟩
   ·exact .inl h2
   ·exact .inr ⟨kl,a,b,c,h2.keep (hk.2 kl h2.lt (by simpa using c))⟩)
  (zzg t 1 0 2 hf (by simp) (by simp) (by simp))
 obtain rfl:n=t.size:=by
  rcases hor with h|⟨m,_,h⟩
  ·exact h
  ·cases h
 obtain⟨lv,hlb,hl⟩:=hI
 rcases hl with⟨_,h⟩|⟨kl,hk1,hk2,hk3,hl⟩
 ·omega
 have hraw:(rawItems t).length=t.size:=by simp[rawItems,zae]
 rw[List.take_of_length_le (by omega)]at hl
 have hld:=zab (bx:=[]) (off:=0) hlb rfl
 have hpc:(pcells t.cells)=[.p (.int .i64 t.kind), .p (.str t.name), .p (.str t.text), .p (aval t.attrs), .p (kval t.kids)]:=by rw[Tree.zav];rfl
 rw[hpc]at h1
 have hlen:=hl.len
 have hs6:=hf.1
 obtain⟨ver,cs,op,rfl,hr⟩:=hl
 simp(disch:=omega) [h1,hld,hlen,zaa]
 refine zage t hf.1 1 kl _ hk1 H' hlb ⟨ver,cs,op,rfl,hr⟩ _ ?_
 intro H2 h3 h4
 have hld2:=zab (bx:=[]) (off:=0) h3 rfl
 have hz:=zdx h4
 simp(disch:=omega) [hld2,hz]
 rfl
end Go.Ideal

namespace Go.Ideal
open Go
set_option maxHeartbeats 4000000
set_option maxRecDepth 20000
attribute [-simp] getElem?_pos
theorem zaky {l:List Nat} {j n:Nat} (h:l[j]? = some n):(pcells (nints l))[j]? = some (.p (.int .i64 n)):=by
 simp[pcells,nints,h]
theorem zacz (t:Tree) (i:Nat) (ctr N:SV) (hi:i≤t.size) (hs:t.size<1000000) (l0 R0:List Nat) (hR:∀o∈R0,o<t.size) (H0:List IBlk) (o1 o2:Option Nat) (lv ov:IVal)
 (hl:VS H0 o1 1 l0.length lv (pcells (nints l0))) (ho:VS H0 o2 1 R0.length ov (pcells (nints R0.reverse))) (hne:∀k,o1=some k→o2≠some k) (hlen:l0.length+R0.length≤t.size) (Q:IExit→Env→KM→Prop)
 (h1:∀H' o1' lv' ov',VS H' o1' 1 (l0++(popR (endOf t) i R0).1).length lv' (pcells (nints (l0++(popR (endOf t) i R0).1)))→VS H' o2 1 (popR (endOf t) i R0).2.length ov' (pcells (nints (popR (endOf t) i R0).2.reverse))→(∀ k,o1'=some k→o2≠some k) →
  Q .normal [(3, .v (.p (ival t))),(4, .v lv'),(5, .v ov'),(6, .int .i64 i),(12,N),(13,ctr)] ⟨[],H'⟩) :
 wpLoop (CW tr.look) 49 m_Q32_0 l_Q32_0 (blkK 2 b_Q32_2 Q) [(3, .v (.p (ival t))),(4, .v lv),(5, .v ov),(6, .int .i64 i),(12,N),(13,ctr)] ⟨[],H0⟩:=by
 refine zac (α:=List Nat×List Nat×IVal×IVal×List IBlk×Option Nat) (fun a=>[(3, .v (.p (ival t))),(4, .v a.2.2.1),(5, .v a.2.2.2.1),(6, .int .i64 i),(12,N),(13,ctr)]) (fun a=>⟨[],a.2.2.2.2.1⟩)
  (fun a=>VS a.2.2.2.2.1 a.2.2.2.2.2 1 a.1.length a.2.2.1 (pcells (nints a.1))∧VS a.2.2.2.2.1 o2 1 a.2.1.length a.2.2.2.1 (pcells (nints a.2.1.reverse))∧(∀ k,a.2.2.2.2.2=some k→o2≠some k)∧(∀ o∈a.2.1,o<t.size)∧a.1.length+a.2.1.length≤t.size ∧
   a.1++(popR (endOf t) i a.2.1).1=l0++(popR (endOf t) i R0).1∧(popR (endOf t) i a.2.1).2=(popR (endOf t) i R0).2) (fun a=>a.2.1.length) ?_ (l0,R0,lv,ov,H0,o1) ⟨hl,ho,hne,hR,hlen,rfl,rfl⟩
 rintro⟨l,R,lv,ov,H,o1⟩ ⟨hl,ho,hne,hR,hlen,e1,e2⟩ L hL
 dsimp only at hl ho hne hR hlen e1 e2 hL ⊢
 dsimp only[l_Q32_0]
 cases R with
 |nil =>
  have hol:=ho.len
  simp only[popR,List.append_nil]at e1 e2
  simp(disch:=omega) [hol]
  refine h1 H o1 lv ov ?_ ?_ hne
  ·rw[← e1];exact hl
  ·rw[← e2];exact ho
 |cons o R =>
  obtain⟨k2,rfl⟩:∃k,o2=some k:=by
   cases o2 with
   |none=>have:=ho.2.1;simp at this
   |some k=>exact⟨k,rfl⟩
  have ho0:=hR o (by simp)
  have hol:=ho.len
  obtain⟨x,hx⟩:∃x,t.items[o]? = some x:=⟨_,List.getElem?_eq_getElem (by rw[znh];exact ho0)⟩
  have hxs:=zmo t _ _ _ _ x (List.mem_of_getElem? hx)
  have hend:endOf t o=o+x.size:=by simp only[endOf,hx]
  obtain⟨ver,hi1,hi2⟩:=ho.at1 (j:=R.length) (by simp)
  have hi3:=hi2 _ (zaky (n:=o) (by simp[List.getElem?_append_right];rfl))
  have hl1:(((o::R).length:Nat):Int)-1=(R.length:Nat):=by simp
  simp only[List.length_cons]at hol hlen hl1
  simp only[popR,hend]at e1 e2
  by_cases hc:o+x.size≤i
  ·rw[if_pos hc]at e1 e2
   obtain⟨lv',H',o1',ha1,ha2,ha3,ha4,ha5,ha6⟩:=hl.append1 (ys:=[.p (.int .i64 o)]) rfl (by omega)
   obtain⟨ver2,hv2,hcut,cs,op,hcs⟩:=ho.cut (m:=R.length) (by simp)
   subst hv2
   simp only[List.length_cons]at hi1
   have hkl:=ho.lt
   have hcs':H'[k2]? = some (.cells cs 1 ver2 op):=by rw[ha3.2 k2 hkl (fun e=>hne k2 e rfl)];exact hcs
   have hle:((R.length:Nat):Int)≤(R.length:Nat)+1:=by omega
   simp(disch:=omega) [hi1,hi3,zbc hx,zaa,ha1,ha2.up,boundHi,boundLo,asBound,Mem.get,hcs',hle]
   refine hL (l++[o],R,lv', .slice k2 ver2 0 R.length,H',o1') ⟨?_,?_,?_,?_,?_,?_,e2⟩ (by simp)
   ·have:pcells (nints (l++[o]))=pcells (nints l)++[.p (.int .i64 o)]:=by simp[pcells,nints]
    simp only[List.length_append,List.length_singleton,this]
    exact ha2
   ·have h3:(pcells (nints (o::R).reverse)).take (R.length*1)=pcells (nints R.reverse):=by
     simp only[List.reverse_cons,nints,pcells,List.map_append,Nat.mul_one]
     rw[List.take_left' (by simp)]
    rw[h3]at hcut
    exact hcut.keep ha3 (fun k hk=>by injection hk with hk;subst hk;exact fun e=>hne _ e rfl)
   ·intro k hk
    rcases ha5 with e|⟨k',e,hk'⟩
    ·rw[e]at hk;exact hne k hk
    ·rw[e]at hk;injection hk with hk;subst hk
     intro e2;injection e2 with e2;omega
   ·intro a ha;exact hR a (by simp[ha])
   ·simp only[List.length_append,List.length_singleton];omega
   ·rw[← e1];simp
  ·rw[if_neg hc]at e1 e2
   simp(disch:=omega) [hol,hi1,hi3,zbc hx,zaa]
   simp only[List.append_nil]at e1
   refine h1 H o1 lv ov ?_ ?_ hne
   ·rw[← e1];exact hl
   ·rw[← e2];exact ho
end Go.Ideal

namespace Go.Ideal
open Go
set_option maxHeartbeats 4000000
set_option maxRecDepth 20000
attribute [-simp] getElem?_pos
theorem ztw (e:Nat→Nat) (i:Nat):∀R:List Nat,(popR e i R).1.length+(popR e i R).2.length=R.length
 | []=>rfl
 |o::r=>by
  rw[popR]
  split
  ·have:=ztw e i r;simp only[List.length_cons];omega
  ·simp
theorem zabd (e:Nat→Nat) (i:Nat):∀(R:List Nat) (o:Nat),o∈(popR e i R).2→o∈R
 | [],o,h=>h
 |a::r,o,h=>by
  rw[popR]at h
  split at h
  ·exact List.mem_cons_of_mem _ (zabd e i r o h)
  ·exact h
theorem zada (t:Tree) (hs:t.size<1000000) (Q:IExit→Env→KM→Prop)
 (h1:∀H' o lv,VS H' o 1 t.size lv (pcells (nints (postT t 0)))→Q .normal [(4, .v lv)] ⟨[],H'⟩) :
 wpLoop (CW tr.look) 49 m_Q32_1 l_Q32_1 (blkK 0 b_Q32_0 Q) [(3, .v (.p (ival t))),(4, .v (.p .nilslice)),(5, .v (.p .nilslice)),(12, .int .i64 (t.size+1)),(13, .int .i64 0)] ⟨[],[]⟩:=by
 refine zac (α:=Nat×List Nat×List Nat×IVal×IVal×List IBlk×Option Nat×Option Nat) (fun a=>[(3, .v (.p (ival t))),(4, .v a.2.2.2.1),(5, .v a.2.2.2.2.1),(12, .int .i64 (t.size+1)),(13, .int .i64 a.1)]) (fun a=>⟨[],a.2.2.2.2.2.1⟩)
  (fun a=>VS a.2.2.2.2.2.1 a.2.2.2.2.2.2.1 1 a.2.1.length a.2.2.2.1 (pcells (nints a.2.1))∧VS a.2.2.2.2.2.1 a.2.2.2.2.2.2.2 1 a.2.2.1.length a.2.2.2.2.1 (pcells (nints a.2.2.1.reverse))∧(∀ k,a.2.2.2.2.2.2.1=some k→a.2.2.2.2.2.2.2≠some k)∧(∀ o∈a.2.2.1,o<a.1)∧a.2.1.length+a.2.2.1.length=a.1 ∧
   a.1≤t.size+1∧runP (endOf t) a.1 (t.size+1-a.1) (a.2.1,a.2.2.1)=(postT t 0,[t.size])) (fun a=>t.size+1-a.1) ?_ (0,[],[], .p .nilslice, .p .nilslice,[],none,none) ⟨VS.nil,VS.nil,by simp,by simp,rfl,by simp,zafy _ t (zakv t)⟩
 rintro⟨i,l,R,lv,ov,H,o1,o2⟩ ⟨hl,ho,hne,hR,hlen,hi,hrun⟩ L hL
 dsimp only at hl ho hne hR hlen hi hrun hL ⊢
 dsimp only[l_Q32_1]
 by_cases hc:i<t.size+1
 ·simp(disch:=omega) []
  refine zacz t i _ _ (by omega) hs l R (fun o h=>by have:=hR o h;omega) H o1 o2 lv ov hl ho hne (by omega) _ ?_
  intro H2 o1' lv' ov' g1 g2 g3
  obtain⟨ov2,H3,o2',a1,a2,a3,a4,a5,a6⟩:=g2.append1 (ys:=[.p (.int .i64 i)]) rfl (by have:=ztw (endOf t) i R;omega)
  simp(disch:=omega) [a1,a2.up,zaa]
  refine hL (i+1,l++(popR (endOf t) i R).1,i::(popR (endOf t) i R).2,lv',ov2,H3,o1',o2') ⟨?_,?_,?_,?_,?_,by dsimp only;omega,?_⟩ (by dsimp only;omega)
  ·exact g1.keep a3 (fun k hk e=>g3 k hk e)
  ·have:pcells (nints (i::(popR (endOf t) i R).2).reverse)=pcells (nints (popR (endOf t) i R).2.reverse)++[.p (.int .i64 i)]:=by simp[pcells,nints]
   simp only[List.length_cons,this]
   exact a2
  ·intro k hk e
   rcases a5 with e2|⟨k',e2,hk'⟩
   ·rw[e2]at e;exact g3 k hk e
   ·rw[e2]at e
    injection e with e
    subst hk
    have:=VS.lt g1
    omega
  ·intro o ho
   rcases List.mem_cons.1 ho with rfl|ho
   ·dsimp only;omega
   ·have:=hR o (zabd _ _ _ _ ho);dsimp only;omega
  ·have:=ztw (endOf t) i R
   simp only[List.length_append,List.length_cons];omega
  ·rw[show t.size+1-i=(t.size+1-(i+1))+1 by omega,runP]at hrun
   exact hrun
 ·obtain rfl:i=t.size+1:=by omega
  rw[Nat.sub_self,runP]at hrun
  injection hrun with e1 e2
  subst e1
  simp(disch:=omega) []
  rw[zay]at hl
  exact h1 H o1 lv hl
def nval (l:List Nat):PVal := .slice 1 l.length (nints l)
theorem zkf (t:Tree) (hf:Fine t) (H:List IBlk):CW tr.look F_Q32 [tagg t] H=some (.p (nval (postT t 0)),H):=by
 refine zai look_Q32 rfl (by simp) rfl ?_
 dsimp only[i_Q32,c_Q32]
 have hsz1:=zaf t
 have hs:=hf.1
 simp(disch:=omega) [zad,zby t hf,zaa]
 refine zada t hf.1 _ ?_
 intro H' o lv hv
 have hz:=zia hv
 simp(disch:=omega) [hv.pass]
 cases o with
 |none=>have:=hv.2.1;omega
 |some k =>
  obtain⟨ver,cs,op,rfl,hr⟩:=hv
  simp only[zez,zfa,hz,Option.map_some,nval,zay]
end Go.Ideal

namespace Go.Ideal
open Go
set_option maxHeartbeats 4000000
set_option maxRecDepth 20000
attribute [-simp] getElem?_pos
def fv (f:Int×Int):IVal := .agg [.p (.int .i64 f.1), .p (.int .i64 f.2)]
def someF (a b:Int):Int×Int:=if b<a then(0, -1)else(a,b)
theorem zeb (H:List IBlk):CW tr.look F_Q190 [] H=some (fv (0, -1),H):=by
 refine zai look_Q190 rfl (by simp) rfl ?_
 dsimp only[i_Q190,c_Q190]
 simp(disch:=omega) [fv,freezeOne,freezeList]
theorem ztx (a b:Int) (H:List IBlk):CW tr.look F_Q189 [.p (.int .i64 a), .p (.int .i64 b)] H=some (fv (someF a b),H):=by
 refine zai look_Q189 rfl (by simp) rfl ?_
 dsimp only[i_Q189,c_Q189]
 by_cases h:b<a
 ·simp(disch:=omega) [zeb,fv,someF,h,freezeOne,freezeList]
 ·simp(disch:=omega) [fv,someF,h,freezeOne,freezeList]
theorem zty (f:Int×Int) (h0:0≤f.2) (h1:f.2<1000000) (H:List IBlk):CW tr.look F_Q196 [fv f] H=some (fv (someF f.1 (f.2-1)),H):=by
 have h2:plainArgs [fv f]=true:=rfl
 refine zai look_Q196 rfl h2 rfl ?_
 dsimp only[i_Q196,c_Q196]
 simp(disch:=omega) [ztx,fv,zaa,freezeOne,freezeList]
def nodecell (u:Tree):List PVal:=[.int .i64 u.kind, .str u.name, .str u.text,aval u.attrs, .nilslice]
structure SideAt (H:List IBlk) (k m:Nat) (N:List Tree) (ids:List Nat) (fs:List Nat):Prop where
 blk:∃nv fvv o1 o2,H[k]? = some (.cells [nv, .p (nval ids),fvv] 3 0 false)∧VS H o1 5 N.length nv (pcells (N.flatMap nodecell))∧VS H o2 1 fs.length fvv (pcells (nints fs))∧k<m∧(∀ j,o1=some j→k<j∧j<m∧o2≠some j)∧(∀ j,o2=some j→k<j∧j<m)
theorem SideAt.first {H:List IBlk} {k m:Nat} {N:List Tree} {ids fs:List Nat} (h:SideAt H k m N ids fs) {j n:Nat} (hj:fs[j]? = some n):∃v q,loadVal ⟨[],H⟩ none (.ptr (.heap k) 0 2)=some v∧up v = .v v∧idxS 1 v (.p (.int .i64 j))=some q∧up q = .v q∧loadVal ⟨[],H⟩ none q=some (.p (.int .i64 n)):=by
 obtain⟨nv,fvv,o1,o2,h1,h2,h3⟩:=h.blk
 have hjl:=(List.getElem?_eq_some_iff.1 hj).1
 cases o2 with
 |none=>have:=h3.1.2.1;omega
 |some k2 =>
  obtain⟨ver,e1,e2⟩:=h3.1.at1 hjl
  exact⟨fvv,_,zab h1 rfl,h3.1.up,e1,rfl,e2 _ (by simp[pcells,nints,hj])⟩
theorem SideAt.keep {H H':List IBlk} {k m:Nat} {N:List Tree} {ids fs:List Nat} (h:SideAt H k m N ids fs) {S:Nat→Prop} (hk:Keep S H H') (hS:∀x,S x→x<k∨m≤x):SideAt H' k m N ids fs:=by
 obtain⟨nv,fvv,o1,o2,h1,h2,h3,h4,h5,h6⟩:=h.blk
 refine⟨nv,fvv,o1,o2,?_,h2.keep hk ?_,h3.keep hk ?_,h4,h5,h6⟩
 ·rw[hk.2 k (List.getElem?_eq_some_iff.1 h1).1 (fun e=>by have:=hS k e;omega)];exact h1
 ·intro x hx e;have:=hS x e;have:=h5 x hx;omega
 ·intro x hx e;have:=hS x e;have:=h6 x hx;omega
theorem ztz (H:List IBlk) (k m:Nat) (N:List Tree) (ids fs:List Nat) (hS:SideAt H k m N ids fs) (f0:Int) (j n:Nat) (hj:fs[j]? = some n) (hb:fs.length<1000000):CW tr.look F_Q193 [.ptr (.heap k) 0 0,fv (f0,j)] H=some (fv (someF n (j-1)),H):=by
 obtain⟨v,q,e1,e2,e3,e4,e5⟩:=hS.first hj
 have hjl:=(List.getElem?_eq_some_iff.1 hj).1
 obtain⟨r,H',h1,h2,h3⟩:=zaw (args:=[.ptr (.heap k) 0 0,fv (f0,j)]) (H:=H) (Q:=fun r H'=>r=fv (someF n (j-1))∧H'=H) look_Q193 rfl rfl (by
  dsimp only[i_Q193,c_Q193]
  simp(disch:=omega) [ztx,fv,zaa,e1,e2,e3,e4,e5])
 rw[h1,h2,h3]
theorem zjb (H:List IBlk) (k m:Nat) (N:List Tree) (ids fs:List Nat) (hS:SideAt H k m N ids fs) (f0:Int) (j n:Nat) (hj:fs[j]? = some n) (_:fs.length<1000000) (hn:n<1000000):CW tr.look F_Q194 [.ptr (.heap k) 0 0,fv (f0,j)] H=some (fv (someF f0 (n-1)),H):=by
 obtain⟨v,q,e1,e2,e3,e4,e5⟩:=hS.first hj
 have hjl:=(List.getElem?_eq_some_iff.1 hj).1
 obtain⟨r,H',h1,h2,h3⟩:=zaw (args:=[.ptr (.heap k) 0 0,fv (f0,j)]) (H:=H) (Q:=fun r H'=>r=fv (someF f0 (n-1))∧H'=H) look_Q194 rfl rfl (by
  dsimp only[i_Q194,c_Q194]
  simp(disch:=omega) [ztx,fv,zaa,e1,e2,e3,e4,e5])
 rw[h1,h2,h3]
end Go.Ideal
