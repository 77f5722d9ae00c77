/-
  IDEAL SEMANTICS: slices.SortFunc AT WHATEVER LENGTH, over rows of scalars: its contract comes from the library's shelf.
-/
import Derived.Test.YtbhblbkehmlcfaaGreatW1
import Derived.Shelf.SlSortCmp.Insertion
import Derived.Sort.AssemblyPlain
import Derived.Shelf.Spec.SlicesInsertGrow
import Derived.Test.YtbhblbkehmlcfaaGreatW4
import Derived.Test.YtbhblbkehmlcfaaGreatChecked
import Derived.Shelf.SlSortCmp.NoneTotal
import Derived.Test.YtbhblbkehmlcfaaGreatW2
namespace Go.Ideal
open Go
set_option linter.unusedSectionVars false
variable [Tabs]
def scalP:PVal→Bool
 | .bool _ | .int _ _ | .str _=>true
 |_=>false
def sv:PVal→Value
 | .bool b=>.bool b
 | .int k n=>.int k n
 | .str s=>.string ⟨s.toArray⟩
 |_=>.bool false
theorem zaqq {z:Cells}:∀ {v:PVal},scalP v=true→∀ {r:Value},PRel z v r↔r=sv v
 | .bool b,_,r=>by simp[PRel,sv]
 | .int k n,_,r=>by simp[PRel,sv]
 | .str s,_,r=>by simp[PRel,sv]
 | .slice ..,h,_ | .ptr ..,h,_ | .func ..,h,_ | .nilptr,h,_ | .nilslice,h,_ | .nilmap,h,_ | .nilfunc,h,_ | .niliface,h,_=>by simp[scalP]at h
theorem zbht:∀ {v:PVal},(sv v).oneCell'=true:=by intro v;cases v<;>rfl
structure SortKit (α:Type) where
 k:Nat
 enc:α→List PVal
 cf:α→α→Int
 len:∀x,(enc x).length=k
 scal:∀x,∀v∈enc x,scalP v=true
 swo:Sort.SWO (Go.Proofs.ltOf cf)
 inj:∀x y,enc x=enc y→x=y
section
variable {α:Type} [Inhabited α]
def SortKit.sort (K:SortKit α) (d:Array α):Array α:=Sort.pdq (Go.Proofs.ltOf K.cf) d 0 d.size (Lib.bitLen d.size) true true
def SortKit.row (K:SortKit α) (d:Array α):List PVal:=d.toList.flatMap K.enc
inductive SortRel (K:SortKit α) (g:FuncId):List IVal→List IBlk→IVal×List IBlk→Prop
 |nil {H:List IBlk}:SortRel K g [.p .nilslice, .p (.func g)] H (.tup [],H)
 |empty {H:List IBlk} {i ver off:Nat}:SortRel K g [.slice i ver off 0, .p (.func g)] H (.tup [],H)
 |row {H:List IBlk} {i ver off e:Nat} {cs:List IVal} {op:Bool} (d:Array α) (hb:H[i]? = some (.cells cs e ver op)) (hn:0<d.size) (hm:d.size<4611686018427387904)
  (hl:off+d.size*K.k≤cs.length) (hcs:(cs.drop off).take (d.size*K.k)=pcells (K.row d)) :
  SortRel K g [.slice i ver off d.size, .p (.func g)] H (.tup [],H.set i (.cells (splice cs off (pcells (K.row (K.sort d)))) e ver op))
noncomputable def sortSpec (K:SortKit α) (g:FuncId):Spec:=fun args H=>open Classical in if h:∃r,SortRel K g args H r then some h.choose else none
omit [Inhabited α] in
theorem zals (K:SortKit α):∀ {l m:List α},l.length=m.length→l.flatMap K.enc=m.flatMap K.enc→l=m
 | [],[],_,_=>rfl
 | [],_::_,h,_=>by simp at h
 |_::_,[],h,_=>by simp at h
 |x::l,y::m,h,e=>by
  rw[List.flatMap_cons,List.flatMap_cons]at e
  obtain⟨e1,e2⟩:=List.append_inj e (by rw[K.len,K.len])
  rw[K.inj _ _ e1,zals K (by simpa using h) e2]
theorem zsp (K:SortKit α) (g:FuncId) (H:List IBlk):sortSpec K g [.p .nilslice, .p (.func g)] H=some (.tup [],H):=by
 have hx:∃r,SortRel K g [.p .nilslice, .p (.func g)] H r:=⟨_, .nil⟩
 unfold sortSpec
 rw[dif_pos hx]
 have h:=hx.choose_spec
 generalize hx.choose=r at h
 cases h
 rfl
theorem zys (K:SortKit α) (g:FuncId) (H:List IBlk) (i ver off:Nat):sortSpec K g [.slice i ver off 0, .p (.func g)] H=some (.tup [],H):=by
 have hx:∃r,SortRel K g [.slice i ver off 0, .p (.func g)] H r:=⟨_, .empty⟩
 unfold sortSpec
 rw[dif_pos hx]
 have h:=hx.choose_spec
 generalize hx.choose=r at h
 generalize hs:0=z at h hx
 cases h with
 |empty=>rfl
 |row d _ hn=>omega
theorem zsq (K:SortKit α) (g:FuncId) {H:List IBlk} {i ver off e:Nat} {cs:List IVal} {op:Bool} (d:Array α) (hb:H[i]? = some (.cells cs e ver op)) (hn:0<d.size) (hm:d.size<4611686018427387904)
 (hl:off+d.size*K.k≤cs.length) (hcs:(cs.drop off).take (d.size*K.k)=pcells (K.row d)) :
 sortSpec K g [.slice i ver off d.size, .p (.func g)] H=some (.tup [],H.set i (.cells (splice cs off (pcells (K.row (K.sort d)))) e ver op)):=by
 have hx:∃r,SortRel K g [.slice i ver off d.size, .p (.func g)] H r:=⟨_, .row d hb hn hm hl hcs⟩
 unfold sortSpec
 rw[dif_pos hx]
 have h:=hx.choose_spec
 generalize hx.choose=r at h
 generalize hs:d.size=sz at h hx
 cases h with
 |empty=>omega
 |row d' hb' hn' hm' hl' hcs' =>
  rw[hb]at hb'
  cases hb'
  rw[← hs,hcs]at hcs'
  have:=zals K (by simpa using hs) (zaag hcs')
  have:d=d':=by rw[← Array.toList_inj];exact this
  subst this
  rfl
omit [Inhabited α] in
theorem SortKit.zbbd (K:SortKit α) (d:Array α):(K.row d).length=d.size*K.k:=by
 unfold SortKit.row
 have key:∀l:List α,(l.flatMap K.enc).length=l.length*K.k:=by
  intro l
  induction l with
  |nil=>simp
  |cons x l ih=>rw[List.flatMap_cons,List.length_append,K.len,ih,List.length_cons,Nat.add_mul,Nat.one_mul,Nat.add_comm]
 rw[key];rfl
theorem SortKit.perm (K:SortKit α) (d:Array α):Sort.PermIn 0 d.size d (K.sort d)∧Sort.SortedIn (Go.Proofs.ltOf K.cf) 0 d.size (K.sort d) :=
 Go.Sort.pdq_sorts (Go.Proofs.ltOf K.cf) K.swo d 0 d.size (Lib.bitLen d.size) true true (Nat.zero_le _) (Nat.le_refl _) (Or.inl rfl)
end
end Go.Ideal

/-
  PAIRS OF NUMBERS, SORTED BY THE FIRST ONE.
-/
namespace Go.Ideal
open Go
set_option linter.unusedSectionVars false
variable [Tabs]
def pairEnc (p:Int×Int):List PVal:=[.int .i64 p.1, .int .i64 p.2]
def cmpI (a b:Int):Int:=if a<b then -1 else if b<a then 1 else 0
theorem zack (a b:Int×Int):Go.Proofs.ltOf (fun x y:Int×Int=>cmpI x.1 y.1) a b=decide (a.1<b.1):=by
 unfold Go.Proofs.ltOf cmpI
 by_cases h1:a.1<b.1
 ·simp[h1]
 ·by_cases h2:b.1<a.1<;>simp[h1,h2]
def pairKit:SortKit (Int×Int) where
 k:=2
 enc:=pairEnc
 cf x y:=cmpI x.1 y.1
 len _:=rfl
 scal x v hv:=by simp[pairEnc]at hv;rcases hv with rfl|rfl<;>rfl
 swo:={
  irrefl x:=by rw[zack];simp
  trans x y z h1 h2:=by rw[zack]at *;simp at *;omega
  ntrans x y z h1 h2:=by rw[zack]at *;simp at *;omega }
 inj x y h:=by
  simp[pairEnc]at h
  exact Prod.ext h.1 h.2
def prc (L:List (Nat×Nat)):List PVal:=L.flatMap fun p=>[.int .i64 p.1, .int .i64 p.2]
def toI (p:Nat×Nat):Int×Int:=(p.1,p.2)
theorem zacl (L:List (Nat×Nat)):pairKit.row (L.map toI).toArray=prc L:=by
 show(L.map toI).flatMap pairEnc=_
 rw[prc,List.flatMap_map]
 rfl
def sortP (l:List (Nat×Nat)):List (Nat×Nat):=l.mergeSort fun p q=>decide (p.1≤q.1)
theorem zhf (l:List (Nat×Nat)):(sortP l).Perm l:=List.mergeSort_perm l _
theorem zsr (l:List (Nat×Nat)):(sortP l).Pairwise fun p q=>p.1≤q.1:=by
 have h:=List.pairwise_mergeSort (le:=fun p q:Nat×Nat=>decide (p.1≤q.1)) (by intro a b c;simp;omega) (by intro a b;simp;omega) l
 exact h.imp fun h=>by simpa using h
theorem zbbe {l:List (Nat×Nat)} (hn:(l.map (·.1)).Nodup) {p q:Nat×Nat} (hp:p∈l) (hq:q∈l) (e:p.1=q.1):p=q:=by
 induction l with
 |nil=>cases hp
 |cons x l ih =>
  rw[List.map_cons,List.nodup_cons]at hn
  rcases List.mem_cons.1 hp with rfl|hp'<;>rcases List.mem_cons.1 hq with rfl|hq'
  ·rfl
  ·exact absurd (List.mem_map_of_mem hq') (e ▸ hn.1)
  ·exact absurd (List.mem_map_of_mem hp') (e ▸ hn.1)
  ·exact ih hn.2 hp' hq'
theorem zkk {l m:List (Nat×Nat)} (hn:(l.map (·.1)).Nodup) (hp:m.Perm l) (hs:m.Pairwise fun p q=>p.1≤q.1):m=sortP l:=by
 refine List.Perm.eq_of_pairwise (le:=fun p q:Nat×Nat=>p.1≤q.1) (fun p q h1 h2 h3 h4=>?_) hs (zsr l) (hp.trans (zhf l).symm)
 exact zbbe hn (hp.mem_iff.1 h1) ((zhf l).mem_iff.1 h2) (Nat.le_antisymm h3 h4)
theorem zss {l:List (Nat×Nat)} (hn:(l.map (·.1)).Nodup):pairKit.sort (l.map toI).toArray=((sortP l).map toI).toArray:=by
 obtain⟨⟨h1,_,h2⟩,h3⟩:=pairKit.perm (l.map toI).toArray
 rw[← h1]at h3
 generalize pairKit.sort (l.map toI).toArray=d at *
 have hsz:(l.map toI).toArray.size=l.length:=by simp
 have hp:d.toList.Perm (l.map toI):=by
  rw[show(l.map toI).toArray.extract 0 (l.map toI).toArray.size=(l.map toI).toArray from Array.extract_size,show d.extract 0 (l.map toI).toArray.size=d by rw[← h1];exact Array.extract_size]at h2
  exact h2
 obtain⟨m,hm⟩:∃m:List (Nat×Nat),d.toList=m.map toI:=by
  have:∀L:List (Int×Int),(∀ x∈L,∃p:Nat×Nat,x=toI p)→∃m:List (Nat×Nat),L=m.map toI:=by
   intro L
   induction L with
   |nil=>intro _;exact⟨[],rfl⟩
   |cons x L ih =>
    intro h
    obtain⟨p,rfl⟩:=h x (by simp)
    obtain⟨m,rfl⟩:=ih fun x hx=>h x (by simp[hx])
    exact⟨p::m,rfl⟩
  refine this _ fun x hx=>?_
  have:=hp.mem_iff.1 hx
  obtain⟨p,_,rfl⟩:=List.mem_map.1 this
  exact⟨p,rfl⟩
 have inj:∀p q:Nat×Nat,toI p=toI q→p=q:=fun p q h=>by
  simp only[toI,Prod.mk.injEq]at h
  exact Prod.ext (by omega) (by omega)
 have key:∀L M:List (Nat×Nat),L.map toI=M.map toI→L=M:=by
  intro L
  induction L with
  |nil=>intro M h;cases M with|nil=>rfl|cons _ _=>simp at h
  |cons x L ih =>
   intro M h
   cases M with
   |nil=>simp at h
   |cons y M =>
    simp only[List.map_cons,List.cons.injEq]at h
    rw[inj _ _ h.1,ih M h.2]
 have hpm:m.Perm l:=by
  have h5:=(hm ▸ hp).map fun x:Int×Int=>(x.1.toNat,x.2.toNat)
  rw[List.map_map,List.map_map]at h5
  have e:((fun x:Int×Int=>(x.1.toNat,x.2.toNat)) ∘ toI)=id:=by
   funext p;simp[toI]
  rw[e,List.map_id,List.map_id]at h5
  exact h5
 have hsm:m.Pairwise fun p q=>p.1≤q.1:=by
  rw[List.pairwise_iff_getElem]
  intro i j hi hj hij
  have hlen:d.size=m.length:=by rw[← Array.length_toList,hm];simp
  have:=h3 i j (Nat.zero_le _) hij (by omega)
  rw[show pairKit.cf=fun x y=>cmpI x.1 y.1 from rfl,zack]at this
  have e1:d[i]! = toI m[i]:=by
   rw[getElem!_pos d i (by omega)]
   have:d.toList[i]'(by rw[Array.length_toList];omega)=toI m[i]:=by simp only[hm,List.getElem_map]
   simpa using this
  have e2:d[j]! = toI m[j]:=by
   rw[getElem!_pos d j (by omega)]
   have:d.toList[j]'(by rw[Array.length_toList];omega)=toI m[j]:=by simp only[hm,List.getElem_map]
   simpa using this
  rw[e1,e2]at this
  simp[toI]at this
  omega
 rw[← Array.toList_inj,hm,zkk hn hpm hsm]
end Go.Ideal

/-
  IDEAL SEMANTICS: slices.Insert OF ONE NUMBER INTO A ROW OF NUMBERS: what the library's shelf proves of it, in the ideal semantics' own terms.
-/
namespace Go.Ideal
open Go Go.Proofs
set_option linter.unusedSectionVars false
variable [Tabs]
theorem zcr {b:Nat} {T:TypeId}:∀(vs:List Value) (o:Nat) (w:World) (C:Array Value),w.heap[b]? = some (.cells C T (0,0))→∃C',(w.setCells b o vs).heap[b]? = some (.cells C' T (0,0))∧C'.size=C.size ∧
 (∀ j,C'[j]? = if o≤j∧j<o+vs.length∧j<C.size then vs[j-o]? else C[j]?)∧(w.setCells b o vs).heap.size=w.heap.size∧(∀ i,i≠b→(w.setCells b o vs).heap[i]? = w.heap[i]?)∧Beside w (w.setCells b o vs)
 | [],o,w,C,h=>⟨C,h,rfl,fun j=>by rw[if_neg (by simp;omega)],rfl,fun _ _=>rfl,rfl,rfl,rfl,Nat.le_refl _⟩
 |v::vs,o,w,C,h=>by
  have hb:b<w.heap.size:=by
   rcases Nat.lt_or_ge b w.heap.size with h'|h'
   ·exact h'
   ·rw[Array.getElem?_eq_none h']at h;cases h
  have h1:(w.setCell ⟨b,o,none⟩ v).heap[b]? = some (.cells (C.setIfInBounds o v) T (0,0)):=by
   simp only[World.setCell,Array.getElem?_modify,if_true,h]
   simp
  obtain⟨C',g1,g2,g3,g4,g5,g6⟩:=zcr vs (o+1) (w.setCell ⟨b,o,none⟩ v) _ h1
  refine⟨C',g1,by rw[g2];simp,fun j=>?_,?_,fun i hi=>?_,?_⟩
  ·rw[g3 j]
   simp only[Array.size_setIfInBounds,List.length_cons]
   by_cases e:j=o
   ·subst e
    rw[if_neg (by omega)]
    by_cases hs:j<C.size
    ·rw[if_pos (by omega)];simp[hs]
    ·rw[if_neg (by omega)];simp[hs]
   ·by_cases hc:o+1≤j∧j<o+1+vs.length∧j<C.size
    ·rw[if_pos hc,if_pos (by omega)]
     rw[show j-o=(j-(o+1))+1 by omega,List.getElem?_cons_succ]
    ·rw[if_neg hc,if_neg (by omega),Array.getElem?_setIfInBounds_ne (by omega)]
  ·show((w.setCell ⟨b,o,none⟩ v).setCells b (o+1) vs).heap.size=_
   rw[g4];simp[World.setCell]
  ·show((w.setCell ⟨b,o,none⟩ v).setCells b (o+1) vs).heap[i]? = _
   rw[g5 i hi];simp[World.setCell,Array.getElem?_modify,Ne.symm hi]
  ·obtain⟨a1,a2,a3,a4⟩:=g6
   exact⟨a1,a2,a3,a4⟩
section
variable {P:Program} {ρ:Go.Shelf.Ren}
open Go.Shelf Go.RowKit Go.Lib
set_option maxHeartbeats 4000000 in
set_option maxRecDepth 100000 in
theorem zaqr (L:Lays2.n21 P ρ) (b off n c i vb voff vc:Nat) (cs:List Value) (u:Value) (w:World) (hi:i<n) (hroom:n+1≤c) (hn:n≤4294967296) (hvb:vb≠b)
 (hcl:cs.length=n) (hcs:∀j v,cs[j]? = some v→w.cell? ⟨b,off+j,none⟩=some v) (hsp:∀j,j<n+1→(w.cell? ⟨b,off+j,none⟩).isSome=true) (hfz:∀j,j<n+1→w.frozen? ⟨b,off+j,none⟩=false)
 (hvs:∀j v,[u][j]? = some v→w.cell? ⟨vb,voff+j,none⟩=some v) (h1c:∀v∈cs,v.oneCell'=true) (h1v:∀v∈[u],v.oneCell'=true)
 (tA tB:TypeId) (kA kB:Nat) (hsa:w.shape? vb=some (tA,kA)) (hsb:w.shape? b=some (tB,kB)) (hkB:kB≠0) (hfa:w.frozen? ⟨vb,voff,none⟩=false) (hfe:w.frozen? ⟨vb,kA,none⟩=false) :
 Calls P (ρ.f 21) #[.slice (some ⟨b,off,none⟩) n c, .int .i64 i, .slice (some ⟨vb,voff,none⟩) 1 vc] w fun e w' =>
  e = .returned (.slice (some ⟨b,off,none⟩) (n+1) c)∧w'=(w.drew.setCells b (off+(i+1)) (cs.drop i)).setCells b (off+i) [u]:=by
 have t0:=L.t0;have a0:=L.a0;have z0:=L.z0;have v0:=L.v0;have t3:=L.t3;have a3:=L.a3;have z3:=L.z3;have v3:=L.v3
 have t4:=L.t4;have a4:=L.a4;have z4:=L.z4;have v4:=L.v4;have t22:=L.t22;have a22:=L.a22;have z22:=L.z22;have v22:=L.v22
 have u0:=run_underlying L.t0;have u3:=run_underlying L.t3;have u4:=run_underlying L.t4;have u22:=run_underlying L.t22
 have hz2:¬((i:Int)=(n:Int)):=by omega
 have hsz:(P.info? (ρ.t 3)).map (·.size)=some 1:=by
  obtain⟨i0,hi0,h0,h1,h2⟩:=info_parts L.i3
  rw[hi0];simp[h1]
 have hov:∀lb cb,(callFunc (ρ.f 27) #[.slice (some ⟨vb,voff,none⟩) 1 vc, .slice (some ⟨b,off+(i+1),none⟩) lb cb]).run P w = .ok (.value (.bool false)) w:=fun lb cb=>by
  rw[run_callFunc_extern L.f27 (by kernel_rfl) (by kernel_rfl) (by kernel_rfl) (e:=Extern.SlicesOverlaps.overlaps #[(ρ.t 22),(ρ.t 22)] #[(ρ.t 4)]) (by kernel_rfl),
   Lib.run_overlaps_apart w (ρ.t 22) (ρ.t 4) (ρ.t 3) L.t22 1 L.z3 ⟨vb,voff,none⟩ ⟨b,off+(i+1),none⟩ 1 vc lb cb hvb tA tB kA kB hsa hsb hkB hfa hfe]
  rfl
 have hdl:(cs.drop i).length=n-i:=by rw[List.length_drop,hcl]
 have mixed:=L.mixed
 have hw1:IntKind.i64.wrap ((i:Int)+1)=(i:Int)+1:=by rw[IntKind.wrap_i64];omega
 have hw2:IntKind.i64.wrap ((n:Int)+1)=(n:Int)+1:=by rw[IntKind.wrap_i64];omega
 have hb1:(0:Int)≤(i:Int)+1:=by omega
 have hin:i≤n:=by omega
 have htn:((i:Int)+1).toNat=i+1:=by omega
 have hb2:¬(c=i+1):=by omega
 have hb3:(i:Int)≤(n:Int)+1:=by omega
 have hb4:¬(c=i):=by omega
 have hcp1:∀ty dc sc,(Builtin.copy_ #[(ρ.t 22),(ρ.t 22)] ty #[.slice (some ⟨b,off+(i+1),none⟩) (n-i) dc, .slice (some ⟨b,off+i,none⟩) (n+1-i) sc]).run P w.drew = .ok (goInt (cs.drop i).length) (w.drew.setCells b (off+(i+1)) (cs.drop i)):=fun ty dc sc =>
  run_copy_cells w.drew _ _ ty (ρ.t 3) b (off+(i+1)) (n-i) dc ⟨b,off+i,none⟩ (n+1-i) sc (cs.drop i) L.t22 hsz (by rw[hdl];simp only[Nat.min_def];split<;>omega)
   (fun j v hj=>by rw[Addr.add_lit,Nat.add_assoc];exact hcs (i+j) v (by rwa [List.getElem?_drop]at hj))
   (fun j hj=>by rw[Nat.add_assoc];exact hsp _ (by omega)) (fun j hj=>by rw[Nat.add_assoc];exact hfz _ (by omega)) (fun v hv=>h1c v (List.mem_of_mem_drop hv))
 obtain⟨W1,hW1⟩:∃W1,W1=w.drew.setCells b (off+(i+1)) (cs.drop i):=⟨_,rfl⟩
 have hsp1:∀k,k<n+1→(W1.cell? ⟨b,off+k,none⟩).isSome=true:=fun k hk=>by
  rw[hW1]
  exact isSome_setCells b _ _ _ (fun j hj=>by rw[Nat.add_assoc];exact hsp _ (by omega)) _ (hsp k hk)
 have hcp2:∀(W:World),(∀ x,W.cell? x=W1.cell? x)→(∀ x,W.frozen? x=W1.frozen? x)→∀ty dc,(Builtin.copy_ #[(ρ.t 22),(ρ.t 22)] ty #[.slice (some ⟨b,off+i,none⟩) (n+1-i) dc, .slice (some ⟨vb,voff,none⟩) 1 vc]).run P W = .ok (goInt [u].length) (W.setCells b (off+i) [u]):=fun W hWc hWf ty dc =>
  run_copy_cells W _ _ ty (ρ.t 3) b (off+i) (n+1-i) dc ⟨vb,voff,none⟩ 1 vc [u] L.t22 hsz (by simp only[List.length_singleton,Nat.min_def];split<;>omega)
   (fun j v hj=>by
    rw[Addr.add_lit,hWc,hW1,World.cell?_setCells_out b _ _ _ _ (fun h _=>absurd h hvb)]
    exact hvs j v hj)
   (fun j hj=>by rw[hWc,Nat.add_assoc];exact hsp1 _ (by have:j<1:=hj;omega)) (fun j hj=>by rw[hWf,hW1,World.frozen?_setCells,Nat.add_assoc];exact hfz _ (by have:j<1:=hj;omega)) h1v
 rw[← hW1]at hcp1
 go_enter L.f21,Body2.n21_ntmps ρ
 go_wp2_with (simp only[hov])
 go_region_law_o (refine step_copy_runI rfl _ _ (ρ.t 22) (ρ.t 22) rfl _ _ (by simp[Act.eval,Act.put]) (by simp[Act.eval,Act.put]) (hcp1 _ _ _) ?_)
 go_wp2_with (at_builtin;refine wpList_copy_runI _ rfl _ _ (ρ.t 22) (ρ.t 22) rfl _ _ rfl rfl (hcp2 _ (fun _=>rfl) (fun _=>rfl) _ _) ?_)
 go_ret
 first|exact⟨rfl,rfl⟩|exact⟨rfl,by rw[hW1]⟩
set_option maxHeartbeats 4000000 in
set_option maxRecDepth 100000 in
theorem zbbf (L:Lays2.n21 P ρ) (b off n c vb voff vc:Nat) (u:Value) (w:World) (hroom:n+1≤c) (hn:n≤4294967296)
 (hsp:∀j,j<1→(w.cell? ⟨b,off+n+j,none⟩).isSome=true) (hfz:∀j,j<1→w.frozen? ⟨b,off+n+j,none⟩=false)
 (hvs:∀j v,[u][j]? = some v→w.cell? ⟨vb,voff+j,none⟩=some v) (h1v:∀v∈[u],v.oneCell'=true) :
 Calls P (ρ.f 21) #[.slice (some ⟨b,off,none⟩) n c, .int .i64 n, .slice (some ⟨vb,voff,none⟩) 1 vc] w fun e w' =>
  e = .returned (.slice (some ⟨b,off,none⟩) (n+1) c)∧w'=w.setCells b (off+n) [u]:=by
 have t0:=L.t0;have a0:=L.a0;have z0:=L.z0;have v0:=L.v0;have t3:=L.t3;have a3:=L.a3;have z3:=L.z3;have v3:=L.v3
 have t4:=L.t4;have a4:=L.a4;have z4:=L.z4;have v4:=L.v4;have t22:=L.t22;have a22:=L.a22;have z22:=L.z22;have v22:=L.v22
 have u0:=run_underlying L.t0;have u3:=run_underlying L.t3;have u4:=run_underlying L.t4;have u22:=run_underlying L.t22
 have mixed:=L.mixed
 have hz1:¬(((1:Nat):Int)=0):=by omega
 have hsrc:Src P 1 (ρ.t 22) (.slice (some ⟨vb,voff,none⟩) 1 vc) 1 [u] w:=Src.ofSlice w L.t22 ⟨vb,voff,none⟩ 1 vc [u] (by simp) (fun j u hj=>by rw[Addr.add_lit];exact hvs j u hj) h1v
 go_enter L.f21,Body2.n21_ntmps ρ
 go_wp2_with (at_builtin;refine wpList_append_room1 _ rfl _ _ (ρ.t 22) (ρ.t 22) rfl (ρ.t 3) _ _ L.t22 L.i3 b off n c rfl _ rfl 1 [u] hsrc hroom hsp hfz ?_)
 go_ret
 exact⟨rfl,rfl⟩
end
def isNumI:IVal→Bool
 | .p (.int .i64 _)=>true
 |_=>false
def allNum:List IVal→Bool
 | []=>true
 |v::r=>match isNumI v with|true=>allNum r|false=>false
def insSpec (args:List IVal) (H:List IBlk):Option (IVal×List IBlk) :=
 match args with
 | [x, .p (.int .i64 i), .slice kv vv vo 1]=>match H[kv]? with
   |some (.cells vs ev wv _)=>match(Nat.beq vv wv&&Nat.beq ev 1),vs[vo]? with
    |true,some (.p (.int .i64 u))=>match x with
     | .p .nilslice=>match decide (i=0)with
       |true=>some (.slice H.length 0 0 1,H++[.cells [.p (.int .i64 u)] 1 0 true])
       |false=>none
     | .slice k ver off n=>match H[k]? with
       |some (.cells cs e w _)=>match(Nat.beq ver w&&Nat.beq e 1)&&(Nat.ble (off+n) cs.length&&!(Nat.beq k kv))&&(decide (0≤i∧i≤n∧n≤4294967296)&&allNum ((cs.drop off).take n))with
        |true=>some (.slice k (w+1) 0 (n+1),H.set k (.cells (((cs.drop off).take n).take i.toNat++(.p (.int .i64 u)::((cs.drop off).take n).drop i.toNat)) 1 (w+1) true))
        |false=>none
       |_=>none
     |_=>none
    |_,_=>none
   |_=>none
 |_=>none
theorem zaqs {P:Program} {f:FuncId} {B:Func} {c:Code} (h:P.funcs[f]? = some B) (hn:(B.name == "runtime.NumGoroutine")=false) (hb:B.body=some c):Enters P f:=Go.Proofs.enters_of h hn hb
theorem zavb {c:Ctx} {w:World} {cs:List IVal} {b p:Nat} {C:Array Value} {T:TypeId} {off n:Nat} (_:w.heap[b]? = some (.cells C T (0,0))) (hlen:off+n≤cs.length)
 (hcells:∀j x,cs[j]? = some x→∃r,C[p+j]? = some r∧x.cellOK=true∧VRel c x r) :
 ∃L:List Value,L.length=n∧(∀ j v,L[j]? = some v→C[p+off+j]? = some v)∧(∀ v∈L,v.oneCell'=true)∧∀(j:Nat) (x:IVal),((cs.drop off).take n)[j]? = some x→∃r,L[j]? = some r∧x.cellOK=true∧VRel c x r:=by
 have hval:∀j,j<n→∃r,C[p+off+j]? = some r∧r.oneCell'=true:=by
  intro j hj
  obtain⟨r,h1,h2,h3⟩:=hcells (off+j) cs[off+j] (List.getElem?_eq_getElem (by omega))
  exact⟨r,by rw[show p+off+j=p+(off+j)by omega];exact h1,h3.one h2⟩
 have hget:∀j,j<n→((C.toList.drop (p+off)).take n)[j]? = C[p+off+j]? := fun j hj=>by
  rw[List.getElem?_take,if_pos hj,List.getElem?_drop,Array.getElem?_toList]
 have hll:((C.toList.drop (p+off)).take n).length=n:=by
  cases n with
  |zero=>simp
  |succ n =>
   obtain⟨r,h1,_⟩:=hval n (by omega)
   have:p+off+n<C.size:=by
    rcases Nat.lt_or_ge (p+off+n) C.size with h'|h'
    ·exact h'
    ·rw[Array.getElem?_eq_none h']at h1;cases h1
   simp;omega
 refine⟨(C.toList.drop (p+off)).take n,hll,fun j v hv=>?_,fun v hv=>?_,fun j x hx=>?_⟩
 ·have hj:j<n:=by
   rcases Nat.lt_or_ge j n with h'|h'
   ·exact h'
   ·rw[List.getElem?_eq_none (by omega)]at hv;cases hv
  rw[← hget j hj];exact hv
 ·obtain⟨j,hj⟩:=List.mem_iff_getElem?.1 hv
  have hjn:j<n:=by
   rcases Nat.lt_or_ge j n with h'|h'
   ·exact h'
   ·rw[List.getElem?_eq_none (by omega)]at hj;cases hj
  rw[hget j hjn]at hj
  obtain⟨r,h1,h2⟩:=hval j hjn
  rw[h1]at hj;cases hj;exact h2
 ·have hjn:j<n:=by
   rcases Nat.lt_or_ge j n with h'|h'
   ·exact h'
   ·rw[List.getElem?_eq_none (by simp;omega)]at hx;cases hx
  rw[List.getElem?_take,if_pos hjn,List.getElem?_drop]at hx
  obtain⟨r,h1,h2,h3⟩:=hcells (off+j) x hx
  exact⟨r,by rw[hget j hjn,show p+off+j=p+(off+j)by omega];exact h1,h2,h3⟩
variable {P:Program} {ρ:Go.Shelf.Ren}
theorem zbhu (L:Lays2.n21 P ρ):OracleOK P (noOracle.set (ρ.f 21) insSpec):=by
 intro f args H v H' h
 unfold Oracle.set noOracle at h
 split at h
 case h_2=>cases h
 rename_i hf
 have:=Nat.eq_of_beq_eq_true hf
 subst this
 refine⟨zaqs L.f21 (by rfl) rfl,fun c w l hM hW hl=>?_⟩
 unfold insSpec at h
 split at h
 case h_2=>cases h
 rename_i x i kv vv vo
 split at h
 case h_2=>cases h
 rename_i vs ev wv ov hkv
 split at h
 case h_2=>cases h
 rename_i u hvchk hvo
 rw[Bool.and_eq_true]at hvchk
 have hv1:=Nat.eq_of_beq_eq_true hvchk.1
 have hv2:=Nat.eq_of_beq_eq_true hvchk.2
 subst hv1 hv2
 have hgv:c.M.get (.heap kv)=some (.cells vs 1 vv ov):=by rw[hM];exact hkv
 simp only[TsRel]at hl
 obtain⟨r1,_,rfl,_,hr1,r2,_,rfl,_,hr2,r3,_,rfl,_,hr3,rfl⟩:=hl
 simp only[VRel,PRel]at hr2
 subst hr2
 simp only[VRel]at hr3
 obtain⟨va,vcap,rfl,cs1,e1,v1,o1,hg1,_,hat⟩:=hr3
 rw[hgv]at hg1
 cases hg1
 obtain⟨vb,vq,vK,hmv,hvcap,hvblk,hvsp,hvoff,hvK⟩:=hat rfl
 have hvo':va.off=vq+vo:=hvoff.resolve_left (by omega)
 obtain⟨vb0,vao,vas⟩:=va
 dsimp only at hvblk hvsp hvo'
 subst hvblk hvsp hvo'
 obtain⟨VC,VT,hvheap,hvq,hvlc,hvop,hvcell⟩:=hW.blk _ vs 1 vv ov vb0 vq vK hgv hmv
 obtain⟨ru,hu1,_,hu3⟩:=hvcell vo _ hvo
 simp only[VRel,PRel]at hu3
 subst hu3
 have hvs:∀j v,([Value.int .i64 u]:List Value)[j]? = some v→w.cell? ⟨vb0,vq+vo+j,none⟩=some v:=by
  intro j v hj
  cases j with
  |zero=>simp at hj;subst hj;simp[World.cell?,hvheap,hu1]
  |succ j=>simp at hj
 have h1v:∀v∈([Value.int .i64 u]:List Value),v.oneCell'=true:=by intro v hv;simp at hv;subst hv;rfl
 have hnew:∀d:Ctx,VRel d (.p (.int .i64 u)) (.int .i64 u):=fun d=>by simp only[VRel,PRel]
 split at h
 case h_3=>cases h
 ·
  split at h
  case h_2=>cases h
  rename_i hi0
  have hi0:i=0:=by simpa using hi0
  injection h with h
  injection h with h1 h2
  subst h1 h2 hi0
  simp only[VRel,PRel]at hr1
  subst hr1
  have hc:=Any2.slices_Insert_int_end_grow L none 0 0 vb0 (vq+vo) 1 vcap [] [Value.int .i64 u] w (by omega) (by omega) (by omega) (by omega) rfl rfl (fun _=>rfl) (fun a ha=>by cases ha) hvs h1v
  refine Calls.mono hc ?_
  rintro e w' ⟨rfl,rfl⟩
  obtain⟨g1,g2,g3⟩:=zbs (M:=c.M) (b := .cells [.p (.int .i64 u)] 1 0 true)
  have hpush:=Step.push hW (M':={ c.M with heap:=c.M.heap++[.cells [.p (.int .i64 u)] 1 0 true] }) (fun k b hk=>by
   have:k≠.heap c.M.heap.length:=fun e=>by rw[e,g1]at hk;cases hk
   rw[g3 k this];exact hk) (fun k hk=>by
   cases hm:c.m k with
   |none=>rfl
   |some x=>have:=hW.dom k x hm;rw[hk]at this;cases this)
  have hmn:c.m (.heap c.M.heap.length)=none:=by
   cases hm:c.m (.heap c.M.heap.length)with
   |none=>rfl
   |some x=>have:=hW.dom _ x hm;rw[g1]at this;cases this
  generalize hgc:grownCap w (0+1) 0 (ρ.t 3)=gc
  have hge:0+1≤gc:=by rw[← hgc];exact grownCap_ge w _ 0 _
  have hsz:(([]++[Value.int .i64 u]:List Value).toArray++Builtin.zeroCells (Value.int .i64 0).cells (gc-(0+1))).size=gc:=by
   have:(Value.int .i64 0).cells.size=1:=rfl
   simp[size_zeroCells,this];omega
  have hfr:=Step.fresh (w':=w.drew.alloc (.cells (([]++[Value.int .i64 u]:List Value).toArray++Builtin.zeroCells (Value.int .i64 0).cells (gc-(0+1))) (ρ.t 3))) hpush.rel ⟨rfl,rfl,rfl,by first|exact Nat.le_refl _|exact Nat.le_succ _⟩ (k := .heap c.M.heap.length) (cs:=[.p (.int .i64 u)]) (e:=1) (v:=0) (o:=true) g2 (cs':=[.p (.int .i64 u)]) (v':=0) (o':=true) (K':=gc) (.inr ⟨rfl,hmn⟩) (C':=(([]++[Value.int .i64 u]:List Value).toArray++Builtin.zeroCells (Value.int .i64 0).cells (gc-(0+1)))) (T:=ρ.t 3)
   rfl (by rw[hsz];exact Nat.le_refl _) (by simpa using hge) (fun h=>by cases h) (fun d hd j xx hj=>by
    cases j with
    |zero=>simp at hj;subst hj;exact⟨.int .i64 u,by rw[List.nil_append,Array.getElem?_append_left (by simp)];rfl,rfl,hnew d⟩
    |succ j=>simp at hj)
  refine⟨_,_,rfl,?_,hpush.trans hfr,fun l hl1 hl2=>?_,rfl,?_⟩
  ·have e1:c.M.heap=H:=by rw[hM]
   simp only[Ctx.upd]
   rw[Mem.zhy g2]
   rw[hM]
  ·have:l≠.heap c.M.heap.length:=fun e=>by rw[e,g1]at hl1;cases hl1
   simp only[Ctx.upd,if_neg this]
   exact hl2
  ·have e1:c.M.heap.length=H.length:=by rw[hM]
   simp only[VRel]
   refine⟨⟨w.heap.size,0,none⟩,gc,by rw[← hgc],[.p (.int .i64 u)],1,0,true,by simp only[Ctx.upd];rw[Mem.zhy g2,←e1];exact g2,Nat.le_refl _,fun _=>⟨w.heap.size,0,gc,by rw[← e1];simp[Ctx.upd],by omega,rfl,rfl, .inr rfl,by omega⟩⟩
 ·rename_i k ver off n x9
  split at h
  case h_2=>cases h
  rename_i cs e wk ok hk
  split at h
  case h_2=>cases h
  rename_i hchk
  simp only[Bool.and_eq_true,Bool.not_eq_true',decide_eq_true_eq]at hchk
  obtain⟨⟨⟨hc1,hc2⟩,⟨hc3,hc4⟩⟩,⟨⟨hi1,hi2,hi3⟩,hnum⟩⟩:=hchk
  have hc1:=Nat.eq_of_beq_eq_true hc1
  have hc2:=Nat.eq_of_beq_eq_true hc2
  have hc3:=Nat.le_of_ble_eq_true hc3
  have hc4:k≠kv:=fun e=>by rw[e,Nat.beq_refl]at hc4;cases hc4
  subst hc1 hc2
  injection h with h
  injection h with h1 h2
  subst h1 h2
  have hg:c.M.get (.heap k)=some (.cells cs 1 ver ok):=by rw[hM];exact hk
  simp only[VRel]at hr1
  obtain⟨a,cap,rfl,cs2,e2,v2,o2,hg2,_,hat2⟩:=hr1
  rw[hg]at hg2
  cases hg2
  obtain⟨b,q,K,hmk,hcap,hblk,hsp,hoff,hK⟩:=hat2 rfl
  obtain⟨C,T,hheap,hq,hlc,hop,hcell⟩:=hW.blk _ cs 1 ver ok b q K hg hmk
  have hnb:vb0≠b:=fun e=>hc4 (by
   have:=hW.inj (.heap k) (.heap kv) b q K vq vK (by rw[hg];rfl) (by rw[hgv];rfl) hmk (by rw[← e];exact hmv)
   injection this)
  obtain⟨ii,rfl⟩:∃ii:Nat,i=(ii:Int):=⟨i.toNat,by omega⟩
  have hin:ii≤n:=by omega
  obtain⟨R,hRl,hRc,hR1,hRr⟩:=zavb (c:=c) (w:=w) (cs:=cs) (p:=q) (off:=off) (n:=n) hheap hc3 hcell
  have hRcell:a.off=q+off→a.block=b→a.spot=none→∀j v,R[j]? = some v→w.cell? ⟨b,q+off+j,none⟩=some v:=fun _ _ _ j v hj=>by
   simp[World.cell?,hheap,hRc j v hj]
  have hnewrow:∀(d:Ctx),c.Ext d→∀(j:Nat) (x:IVal),(((cs.drop off).take n).take ii++(.p (.int .i64 u)::((cs.drop off).take n).drop ii))[j]? = some x →
   ∃r,(R.take ii++(Value.int .i64 u::R.drop ii))[j]? = some r∧x.cellOK=true∧VRel d x r:=by
   intro d hd j x hj
   have hl1:(((cs.drop off).take n).take ii).length=ii:=by simp;omega
   have hl2:(R.take ii).length=ii:=by simp;omega
   rcases Nat.lt_trichotomy j ii with h'|h'|h'
   ·rw[List.getElem?_append_left (by omega),List.getElem?_take,if_pos h']at hj
    obtain⟨r,g1,g2,g3⟩:=hRr j x hj
    exact⟨r,by rw[List.getElem?_append_left (by omega),List.getElem?_take,if_pos h'];exact g1,g2,g3.ext hd⟩
   ·rw[List.getElem?_append_right (by omega),hl1,h',Nat.sub_self]at hj
    simp at hj
    subst hj
    exact⟨_,by rw[List.getElem?_append_right (by omega),hl2,h',Nat.sub_self];rfl,rfl,hnew d⟩
   ·rw[List.getElem?_append_right (by omega),hl1,show j-ii=(j-ii-1)+1 by omega,List.getElem?_cons_succ,List.getElem?_drop]at hj
    obtain⟨r,g1,g2,g3⟩:=hRr _ x hj
    exact⟨r,by rw[List.getElem?_append_right (by omega),hl2,show j-ii=(j-ii-1)+1 by omega,List.getElem?_cons_succ,List.getElem?_drop];exact g1,g2,g3.ext hd⟩
  have hnrl:(((cs.drop off).take n).take ii++(IVal.p (.int .i64 u)::((cs.drop off).take n).drop ii)).length=n+1:=by simp;omega
  have hRnl:(R.take ii++(Value.int .i64 u::R.drop ii)).length=n+1:=by simp;omega
  have hput:c.M.put (.heap k) (.cells (((cs.drop off).take n).take ii++(.p (.int .i64 u)::((cs.drop off).take n).drop ii)) 1 (ver+1) true)=⟨[],H.set k (.cells (((cs.drop off).take n).take ii++(.p (.int .i64 u)::((cs.drop off).take n).drop ii)) 1 (ver+1) true)⟩:=by rw[hM];rfl
  have hgs:(c.M.get (.heap k)).isSome=true:=by rw[hg];rfl
  have key:∀(w':World) (a':Addr) (cap':Nat),(∃ b' q' K' d,d.m (.heap k)=some (b',q',K')∧d.M=c.M.put (.heap k) (.cells (((cs.drop off).take n).take ii++(.p (.int .i64 u)::((cs.drop off).take n).drop ii)) 1 (ver+1) true)∧Step c w d w'∧Un c d∧a'=⟨b',q',none⟩∧n+1≤cap'∧cap'=K') →
   ∃rv d,Ending.returned (.slice (some a') (n+1) cap') = .returned rv∧d.M=⟨[],H.set k (.cells (((cs.drop off).take n).take ii++(.p (.int .i64 u)::((cs.drop off).take n).drop ii)) 1 (ver+1) true)⟩∧Step c w d w'∧Un c d∧(IVal.slice k (ver+1) 0 (n+1)).passOK=true∧VRel d (.slice k (ver+1) 0 (n+1)) rv:=by
   rintro w' a' cap' ⟨b',q',K',d,h1,h2,h3,h4,rfl,h6,rfl⟩
   refine⟨_,d,rfl,by rw[h2,hput],h3,h4,rfl,?_⟩
   simp only[VRel]
   refine⟨_,cap',rfl,_,1,ver+1,true,by rw[h2];exact Mem.zah hgs,Nat.le_refl _,fun _=>⟨b',q',cap',h1,h6,rfl,rfl, .inr rfl,by omega⟩⟩
  by_cases hroom:n+1≤cap
  ·have hoff':a.off=q+off:=hoff.resolve_left (by omega)
   obtain⟨ab,ao,asp⟩:=a
   dsimp only at hblk hsp hoff'
   subst hblk hsp hoff'
   have hrowsz:∀j,j<n+1→q+off+j<C.size:=fun j hj=>by omega
   by_cases hend:ii=n
   ·subst hend
    have hc:=zbbf L ab (q+off) ii cap vb0 (vq+vo) vcap (Value.int .i64 u) w hroom hi3 (fun j hj=>by
     have:=hrowsz (ii+j) (by omega)
     simp[World.cell?,hheap,show q+off+ii+j=q+off+(ii+j)by omega,this]) (fun j hj=>by simp[World.frozen?,hheap]) hvs h1v
    refine Calls.mono hc ?_
    rintro e w' ⟨rfl,rfl⟩
    obtain⟨C',g1,g2,g3,g4,g5,g6⟩:=zcr [Value.int .i64 u] (q+off+ii) w C hheap
    refine key _ _ _ ⟨ab,q+off,cap,_,by simp[Ctx.upd],rfl,Step.write (cs':=((cs.drop off).take ii).take ii++(.p (.int .i64 u)::((cs.drop off).take ii).drop ii)) (v':=ver+1) (o':=true) (q':=q+off) (K':=cap) hW g6 hg hmk (.inl (Nat.lt_succ_self _)) g1 g4 g5 (by omega) (by omega) (fun h=>by cases h) (fun d hd j x hj=>?_),Un.upd hmk,rfl,hroom,rfl⟩
    obtain⟨r,e1,e2,e3⟩:=hnewrow d hd j x hj
    refine⟨r,?_,e2,e3⟩
    rw[← e1,g3]
    have hjl:j<ii+1:=by
     rcases Nat.lt_or_ge j (ii+1)with h'|h'
     ·exact h'
     ·rw[List.getElem?_eq_none (by omega)]at hj;cases hj
    have hl2:(R.take ii).length=ii:=by simp;omega
    by_cases hj2:j<ii
    ·rw[if_neg (by omega),List.getElem?_append_left (by omega),List.getElem?_take,if_pos hj2]
     have:R[j]? = some R[j]:=List.getElem?_eq_getElem (by omega)
     rw[this];exact hRc j _ this
    ·have:j=ii:=by omega
     subst this
     rw[if_pos ⟨by omega,by simp,hrowsz j (by omega)⟩,List.getElem?_append_right (by omega),hl2]
     simp
   ·have hlt:ii<n:=by omega
    have hc:=zaqr L ab (q+off) n cap ii vb0 (vq+vo) vcap R (Value.int .i64 u) w hlt hroom hi3 hnb hRl (hRcell rfl rfl rfl) (fun j hj=>by
     have:=hrowsz j hj
     simp[World.cell?,hheap,this]) (fun j hj=>by simp[World.frozen?,hheap]) hvs hR1 h1v VT T VC.size C.size (by simp[World.shape?,hvheap]) (by simp[World.shape?,hheap]) (by have:=hrowsz 0 (by omega);omega) (by simp[World.frozen?,hvheap]) (by simp[World.frozen?,hvheap])
    refine Calls.mono hc ?_
    rintro e w' ⟨rfl,rfl⟩
    have hheap':w.drew.heap[ab]? = some (.cells C T (0,0)):=hheap
    obtain⟨C1,g1,g2,g3,g4,g5,g6⟩:=zcr (R.drop ii) (q+off+(ii+1)) w.drew C hheap'
    obtain⟨C2,k1,k2,k3,k4,k5,k6⟩:=zcr [Value.int .i64 u] (q+off+ii) _ C1 g1
    have hbes:Beside w ((w.drew.setCells ab (q+off+(ii+1)) (R.drop ii)).setCells ab (q+off+ii) [Value.int .i64 u]):=by
     obtain⟨x1,x2,x3,x4⟩:=g6
     obtain⟨y1,y2,y3,y4⟩:=k6
     exact⟨y1.trans x1,y2.trans x2,y3.trans x3,Nat.le_trans (Nat.le_trans (Nat.le_succ _) x4) y4⟩
    refine key _ _ _ ⟨ab,q+off,cap,_,by simp[Ctx.upd],rfl,Step.write (cs':=((cs.drop off).take n).take ii++(.p (.int .i64 u)::((cs.drop off).take n).drop ii)) (v':=ver+1) (o':=true) (q':=q+off) (K':=cap) hW hbes hg hmk (.inl (Nat.lt_succ_self _)) k1 (k4.trans g4) (fun i hi=>(k5 i hi).trans (g5 i hi)) (by omega) (by omega) (fun h=>by cases h) (fun d hd j x hj=>?_),Un.upd hmk,rfl,hroom,rfl⟩
    obtain⟨r,e1,e2,e3⟩:=hnewrow d hd j x hj
    refine⟨r,?_,e2,e3⟩
    rw[← e1,k3,g3]
    have hjl:j<n+1:=by
     rcases Nat.lt_or_ge j (n+1)with h'|h'
     ·exact h'
     ·rw[List.getElem?_eq_none (by omega)]at hj;cases hj
    have hl2:(R.take ii).length=ii:=by simp;omega
    have hsz:=hrowsz j hjl
    simp only[List.length_drop,List.length_singleton]
    rcases Nat.lt_trichotomy j ii with h'|h'|h'
    ·rw[if_neg (by omega),if_neg (by omega),List.getElem?_append_left (by omega),List.getElem?_take,if_pos h']
     have:R[j]? = some R[j]:=List.getElem?_eq_getElem (by omega)
     rw[this];exact hRc j _ this
    ·subst h'
     rw[if_pos ⟨by omega,by omega,by omega⟩,List.getElem?_append_right (by omega),hl2]
     simp
    ·rw[if_neg (by omega),if_pos ⟨by omega,by omega,hsz⟩,List.getElem?_append_right (by omega),hl2,show j-ii=(j-ii-1)+1 by omega,List.getElem?_cons_succ]
     rw[List.getElem?_drop,List.getElem?_drop]
     congr 1
     omega
  ·
   have hfin:∀(w':World) (gc:Nat) (C':Array Value),w'.heap=w.heap.push (.cells C' (ρ.t 3) (0,0))→Beside w w'→n+1≤gc→gc≤C'.size→(∀ j,j<n+1→C'[j]? = (R.take ii++(Value.int .i64 u::R.drop ii))[j]?) →
    ∃rv d,Ending.returned (.slice (some ⟨w.heap.size,0,none⟩) (n+1) gc) = .returned rv∧d.M=⟨[],H.set k (.cells (((cs.drop off).take n).take ii++(.p (.int .i64 u)::((cs.drop off).take n).drop ii)) 1 (ver+1) true)⟩∧Step c w d w'∧Un c d∧(IVal.slice k (ver+1) 0 (n+1)).passOK=true∧VRel d (.slice k (ver+1) 0 (n+1)) rv:=by
    intro w' gc C' h1 h2 h3 h4 h5
    refine key w' ⟨w.heap.size,0,none⟩ gc ⟨w.heap.size,0,gc,_,by simp[Ctx.upd],rfl,Step.fresh (cs':=((cs.drop off).take n).take ii++(.p (.int .i64 u)::((cs.drop off).take n).drop ii)) (v':=ver+1) (o':=true) (K':=gc) hW h2 hg (.inl (Nat.lt_succ_self _)) h1 h4 (by omega) (fun h=>by cases h) (fun d hd j x hj=>?_),Un.upd hmk,rfl,h3,rfl⟩
    have hjl:j<n+1:=by
     rcases Nat.lt_or_ge j (n+1)with h'|h'
     ·exact h'
     ·rw[List.getElem?_eq_none (by omega)]at hj;cases hj
    obtain⟨r,e1,e2,e3⟩:=hnewrow d hd j x hj
    exact⟨r,by rw[h5 j hjl];exact e1,e2,e3⟩
   have hz1:(Value.int .i64 0).cells.size=1:=rfl
   by_cases hend:ii=n
   ·subst hend
    have hc:=Any2.slices_Insert_int_end_grow L (some a) ii cap vb0 (vq+vo) 1 vcap R [Value.int .i64 u] w (by omega) hcap (by omega) (by omega) hRl rfl (fun e=>by cases e) (fun a' ha j v hj=>by
     cases ha
     have hj':j<ii:=by
      rcases Nat.lt_or_ge j ii with h'|h'
      ·exact h'
      ·rw[List.getElem?_eq_none (by omega)]at hj;cases hj
     have:=hRcell (hoff.resolve_left (by omega)) hblk hsp j v hj
     obtain⟨ab,ao,asp⟩:=a
     dsimp only at hblk hsp hoff
     rw[hblk,hsp,hoff.resolve_left (by omega)]
     rw[Addr.add_lit]
     exact this) hvs h1v
    refine Calls.mono hc ?_
    rintro e w' ⟨rfl,rfl⟩
    generalize hgc:grownCap w (ii+1) cap (ρ.t 3)=gc
    have hge:ii+1≤gc:=by rw[← hgc];exact grownCap_ge w _ cap _
    have htd:R.take ii++(Value.int .i64 u::R.drop ii)=R++[Value.int .i64 u]:=by
     rw[← hRl,List.take_length,List.drop_length]
    refine hfin _ gc _ rfl ⟨rfl,rfl,rfl,Nat.le_succ _⟩ hge ?_ (fun j hj=>?_)
    ·simp[size_zeroCells,hz1];omega
    ·rw[htd,Array.getElem?_append_left (by simp;omega),List.getElem?_toArray]
   ·have hlt:ii<n:=by omega
    have hoff':a.off=q+off:=hoff.resolve_left (by omega)
    obtain⟨ab,ao,asp⟩:=a
    dsimp only at hblk hsp hoff'
    subst hblk hsp hoff'
    have hc:=Any2.slices_Insert_int_grow L ab (q+off) n cap ii vb0 (vq+vo) 1 vcap R [Value.int .i64 u] w hlt (by omega) hcap (by omega) (by omega) hRl rfl (hRcell rfl rfl rfl) hvs hR1 h1v
    refine Calls.mono hc ?_
    rintro e w' ⟨rfl,rfl⟩
    generalize hgc:grownCap w (n+1) cap (ρ.t 3)=gc
    have hge:n+1≤gc:=by rw[← hgc];exact grownCap_ge w _ cap _
    obtain⟨ROW,hROW⟩:∃ROW:Array Value,ROW=(R.take ii).toArray++Builtin.zeroCells (Value.int .i64 0).cells (n+1-ii)++Builtin.zeroCells (Value.int .i64 0).cells (gc-(n+1)):=⟨_,rfl⟩
    have hRs:ROW.size=gc:=by rw[hROW];simp[size_zeroCells,hz1];omega
    rw[← hROW]
    have h0:((w.alloc (.cells ROW (ρ.t 3))).drew).heap[w.heap.size]? = some (.cells ROW (ρ.t 3) (0,0)):=by
     show(w.heap.push _)[w.heap.size]? = _
     simp
    obtain⟨C1,g1,g2,g3,g4,g5,g6⟩:=zcr [Value.int .i64 u] ii ((w.alloc (.cells ROW (ρ.t 3))).drew) ROW h0
    have g1':(((w.alloc (.cells ROW (ρ.t 3))).drew.setCells w.heap.size ii [Value.int .i64 u]).drew).heap[w.heap.size]? = some (.cells C1 (ρ.t 3) (0,0)):=g1
    obtain⟨C2,k1,k2,k3,k4,k5,k6⟩:=zcr (R.drop ii) (ii+1) _ C1 g1'
    refine hfin _ gc C2 ?_ ?_ hge (by omega) (fun j hj=>?_)
    ·apply Array.ext'
     apply List.ext_getElem?
     intro t
     rw[Array.getElem?_toList,Array.getElem?_toList]
     by_cases ht:t=w.heap.size
     ·subst ht;rw[k1];simp
     ·rw[k5 t ht]
      show((w.alloc (.cells ROW (ρ.t 3))).drew.setCells w.heap.size ii [Value.int .i64 u]).heap[t]? = _
      rw[g5 t ht]
      show(w.heap.push _)[t]? = (w.heap.push _)[t]?
      rw[Array.getElem?_push,Array.getElem?_push,if_neg ht,if_neg ht]
    ·obtain⟨x1,x2,x3,x4⟩:=g6
     obtain⟨y1,y2,y3,y4⟩:=k6
     exact⟨y1.trans x1,y2.trans x2,y3.trans x3,Nat.le_trans (Nat.le_trans (Nat.le_succ _) x4) (Nat.le_trans (Nat.le_succ _) y4)⟩
    ·have hl2:(R.take ii).length=ii:=by simp;omega
     rw[k3,g3]
     simp only[List.length_drop,List.length_singleton]
     rcases Nat.lt_trichotomy j ii with h'|h'|h'
     ·rw[if_neg (by omega),if_neg (by omega),List.getElem?_append_left (by omega),hROW,Array.getElem?_append_left (by simp;omega),Array.getElem?_append_left (by simp;omega),List.getElem?_toArray]
     ·subst h'
      rw[if_neg (by omega),if_pos ⟨by omega,by omega,by omega⟩,List.getElem?_append_right (by omega),hl2]
      simp
     ·rw[if_pos ⟨by omega,by omega,by omega⟩,List.getElem?_append_right (by omega),hl2,show j-ii=(j-ii-1)+1 by omega,List.getElem?_cons_succ]
      congr 1
end Go.Ideal

namespace Go.Ideal
open Go
noncomputable def sortAny (l:List FuncId):Spec:=match l with
 | []=>fun _ _=>none
 |g::r=>fun args H=>match sortSpec pairKit g args H with
  |some x=>some x
  |none=>sortAny r args H
noncomputable def sortOracle:Oracle:=(noOracle.set F_Q38 (sortAny [F_Q91,F_Q39,F_Q63,F_Q135])).set F_Q157 insSpec
noncomputable instance seatBase:Base where
 b:=sortOracle
 m C f a H r:=f=F_Q29∧RangePure C i_Q29 a H r
 mono h g:=⟨g.1,g.2.mono h⟩
 det h g:=h.2.det g.2
 off h:=by rw[h.1];rfl
theorem zyt {g g':FuncId} (hne:g≠g') (v:IVal) (H:List IBlk):sortSpec pairKit g' [v, .p (.func g)] H=none:=by
 unfold sortSpec
 refine dif_neg ?_
 rintro⟨r,h⟩
 generalize hl:[v,IVal.p (.func g)]=l at h
 cases h with
 |nil=>injection hl with _ hl;injection hl with hl _;injection hl with hl;injection hl with hl;exact hne hl
 |empty=>injection hl with _ hl;injection hl with hl _;injection hl with hl;injection hl with hl;exact hne hl
 |row=>injection hl with _ hl;injection hl with hl _;injection hl with hl;injection hl with hl;exact hne hl
theorem zaar {g:FuncId} {v:IVal} {H:List IBlk} {r:IVal×List IBlk} (h:sortSpec pairKit g [v, .p (.func g)] H=some r):∀l:List FuncId,g∈l→sortAny l [v, .p (.func g)] H=some r
 | [],hm=>by simp at hm
 |x::l,hm=>by
  by_cases e:x=g
  ·subst e
   simp only[sortAny,h]
  ·have hm':g∈l:=by
    rcases List.mem_cons.1 hm with h'|h'
    ·exact absurd h'.symm e
    ·exact h'
   simp only[sortAny,zyt (fun e'=>e e'.symm)]
   exact zaar h l hm'
theorem zkl {g:FuncId} (hg:g∈[F_Q91,F_Q39,F_Q63,F_Q135]) {v:IVal} {H:List IBlk} {r:IVal×List IBlk} (h:sortSpec pairKit g [v, .p (.func g)] H=some r):seatBase.b F_Q38 [v, .p (.func g)] H=some r:=by
 have e:seatBase.b F_Q38=sortAny [F_Q91,F_Q39,F_Q63,F_Q135]:=by
  show sortOracle _=_
  unfold sortOracle
  exact(Oracle.zapn rfl).trans Oracle.zalb
 rw[e]
 exact zaar h _ hg
theorem zavc {args:List IVal} {H:List IBlk} {r:IVal×List IBlk} (h:insSpec args H=some r):seatBase.b F_Q157 args H=some r:=by
 have e:seatBase.b F_Q157=insSpec:=by
  show sortOracle _=_
  unfold sortOracle
  exact Oracle.zalb
 rw[e];exact h
end Go.Ideal

/-
  slices.SortFunc of the library, where this program bears it.
-/
namespace Go.Proofs
open Go.Shelf
def Tryz.zagd:Go.Shelf.Ren:=⟨fun|6=>38|15=>68|14=>77|28=>108|29=>109|20=>113|21=>114|22=>115|23=>116|24=>117|25=>118|26=>119|27=>120|46=>149|47=>137|48=>138|49=>150|50=>151|57=>178|n=>n,fun|22=>59|24=>82|25=>98|3=>3|39=>128|0=>0|53=>183|55=>163|4=>4|46=>176|45=>175|50=>122|5=>5|9=>9|66=>210|70=>214|76=>245|77=>246|n=>n,fun|n=>n⟩
theorem Tryz.sortPair:SlLaysF0.n6 Tryz.prog Tryz.zagd where
 mixed:=by kernel_rfl
 f6:=⟨Tryz.f38.name,by kernel_rfl,Tryz.func38.trans (congrArg some (by kernel_rfl))⟩
 f14:=⟨Tryz.f77.name,by kernel_rfl,Tryz.func77.trans (congrArg some (by kernel_rfl))⟩
 f15:=Tryz.func68.trans (congrArg some (by kernel_rfl))
 f20:=⟨Tryz.f113.name,by kernel_rfl,Tryz.func113.trans (congrArg some (by kernel_rfl))⟩
 f21:=⟨Tryz.f114.name,by kernel_rfl,Tryz.func114.trans (congrArg some (by kernel_rfl))⟩
 f22:=⟨Tryz.f115.name,by kernel_rfl,Tryz.func115.trans (congrArg some (by kernel_rfl))⟩
 f23:=⟨Tryz.f116.name,by kernel_rfl,Tryz.func116.trans (congrArg some (by kernel_rfl))⟩
 f24:=⟨Tryz.f117.name,by kernel_rfl,Tryz.func117.trans (congrArg some (by kernel_rfl))⟩
 f25:=⟨Tryz.f118.name,by kernel_rfl,Tryz.func118.trans (congrArg some (by kernel_rfl))⟩
 f26:=⟨Tryz.f119.name,by kernel_rfl,Tryz.func119.trans (congrArg some (by kernel_rfl))⟩
 f27:=⟨Tryz.f120.name,by kernel_rfl,Tryz.func120.trans (congrArg some (by kernel_rfl))⟩
 f28:=Tryz.func108.trans (congrArg some (by kernel_rfl))
 f29:=Tryz.func109.trans (congrArg some (by kernel_rfl))
 f46:=⟨Tryz.f149.name,by kernel_rfl,Tryz.func149.trans (congrArg some (by kernel_rfl))⟩
 f47:=Tryz.func137.trans (congrArg some (by kernel_rfl))
 f48:=Tryz.func138.trans (congrArg some (by kernel_rfl))
 f49:=⟨Tryz.f150.name,by kernel_rfl,Tryz.func150.trans (congrArg some (by kernel_rfl))⟩
 f50:=⟨Tryz.f151.name,by kernel_rfl,Tryz.func151.trans (congrArg some (by kernel_rfl))⟩
 f57:=⟨Tryz.f178.name,by kernel_rfl,Tryz.func178.trans (congrArg some (by kernel_rfl))⟩
 t0:=Tryz.underlying0
 a0:=Tryz.isAgg0
 z0:=Tryz.sizeOf0
 v0:=Tryz.zeroValue0
 t3:=Tryz.underlying3
 a3:=Tryz.isAgg3
 z3:=Tryz.sizeOf3
 v3:=Tryz.zeroValue3
 t4:=Tryz.underlying4
 a4:=Tryz.isAgg4
 z4:=Tryz.sizeOf4
 v4:=Tryz.zeroValue4
 t5:=Tryz.underlying5
 a5:=Tryz.isAgg5
 z5:=Tryz.sizeOf5
 v5:=Tryz.zeroValue5
 t9:=Tryz.underlying9
 a9:=Tryz.isAgg9
 z9:=Tryz.sizeOf9
 v9:=Tryz.zeroValue9
 t22:=Tryz.underlying59
 a22:=Tryz.isAgg59
 z22:=Tryz.sizeOf59
 v22:=Tryz.zeroValue59
 t25:=Tryz.underlying98
 a25:=Tryz.isAgg98
 z25:=Tryz.sizeOf98
 v25:=Tryz.zeroValue98
 t39:=Tryz.underlying128
 a39:=Tryz.isAgg128
 z39:=Tryz.sizeOf128
 v39:=Tryz.zeroValue128
 t45:=Tryz.underlying175
 a45:=Tryz.isAgg175
 z45:=Tryz.sizeOf175
 v45:=Tryz.zeroValue175
 t46:=Tryz.underlying176
 a46:=Tryz.isAgg176
 z46:=Tryz.sizeOf176
 v46:=Tryz.zeroValue176
 t50:=Tryz.underlying122
 a50:=Tryz.isAgg122
 z50:=Tryz.sizeOf122
 v50:=Tryz.zeroValue122
 t53:=Tryz.underlying183
 a53:=Tryz.isAgg183
 z53:=Tryz.sizeOf183
 v53:=Tryz.zeroValue183
 t55:=Tryz.underlying163
 a55:=Tryz.isAgg163
 z55:=Tryz.sizeOf163
 v55:=Tryz.zeroValue163
 t66:=Tryz.underlying210
 a66:=Tryz.isAgg210
 z66:=Tryz.sizeOf210
 v66:=Tryz.zeroValue210
 t70:=Tryz.underlying214
 a70:=Tryz.isAgg214
 z70:=Tryz.sizeOf214
 v70:=Tryz.zeroValue214
 t76:=Tryz.underlying245
 a76:=Tryz.isAgg245
 z76:=Tryz.sizeOf245
 v76:=Tryz.zeroValue245
 t77:=Tryz.underlying246
 a77:=Tryz.isAgg246
 z77:=Tryz.sizeOf246
 v77:=Tryz.zeroValue246
end Go.Proofs

/-
  slices.Insert at numbers, of the library, where this program bears it.
-/
namespace Go.Proofs
open Go.Shelf
def Tryz.zanq:Go.Shelf.Ren:=⟨fun|21=>157|27=>179|28=>180|35=>192|39=>197|n=>n,fun|22=>58|3=>3|4=>4|0=>0|n=>n,fun|n=>n⟩
theorem Tryz.insInt:Lays2.n21 Tryz.prog Tryz.zanq where
 mixed:=by kernel_rfl
 f21:=Tryz.func157.trans (congrArg some (by kernel_rfl))
 f27:=Tryz.func179.trans (congrArg some (by kernel_rfl))
 f28:=Tryz.func180.trans (congrArg some (by kernel_rfl))
 f35:=Tryz.func192.trans (congrArg some (by kernel_rfl))
 f39:=Tryz.func197.trans (congrArg some (by kernel_rfl))
 t0:=Tryz.underlying0
 a0:=Tryz.isAgg0
 z0:=Tryz.sizeOf0
 v0:=Tryz.zeroValue0
 t3:=Tryz.underlying3
 a3:=Tryz.isAgg3
 z3:=Tryz.sizeOf3
 v3:=Tryz.zeroValue3
 t4:=Tryz.underlying4
 a4:=Tryz.isAgg4
 z4:=Tryz.sizeOf4
 v4:=Tryz.zeroValue4
 t22:=Tryz.underlying58
 a22:=Tryz.isAgg58
 z22:=Tryz.sizeOf58
 v22:=Tryz.zeroValue58
 i3:=by kernel_rfl
end Go.Proofs

namespace Go.Ideal
open Go
set_option linter.unusedSectionVars false
variable [Tabs]
set_option maxHeartbeats 1000000
theorem Step.growW {c d:Ctx} {w w1:World} (h:Step c w d w1) (os:Array Obj):Step c w d (Sort.grow w1 os):=by
 refine⟨h.ext,⟨fun b o v hz=>?_,fun k cs e v op b q K h1 h2=>?_,fun k es ck b q K h1 h2=>?_,h.rel.inj,h.rel.zdis,h.rel.dom⟩,?_,fun b hb ho=>?_,h.own,h.zz,h.also.trans ⟨rfl,rfl,fun a ha=>Sort.frozen?_grow _ _ _ ha,by simp,rfl,Nat.le_refl _⟩⟩
 ·have:=h.rel.z b o v hz
  rw[Sort.cell?_grow _ _ _ (zat this)];exact this
 ·obtain⟨C,T,h3,h4⟩:=h.rel.blk k cs e v op b q K h1 h2
  exact⟨C,T,by rw[Sort.heap_grow_old _ _ (Array.getElem?_eq_some_iff.1 h3).1];exact h3,h4⟩
 ·obtain⟨ents,h3,h4⟩:=h.rel.mp k es ck b q K h1 h2
  exact⟨ents,by rw[Sort.heap_grow_old _ _ (Array.getElem?_eq_some_iff.1 h3).1];exact h3,h4⟩
 ·have:=h.size;simp;omega
 ·rw[Sort.heap_grow_old _ _ (Nat.lt_of_lt_of_le hb h.size)];exact h.same b hb ho
theorem Step.drewW {c d:Ctx} {w w1:World} (h:Step c w d w1) (n:Nat):Step c w d (w1.drewN n) :=
 ⟨h.ext,⟨h.rel.z,h.rel.blk,h.rel.mp,h.rel.inj,h.rel.zdis,h.rel.dom⟩,h.size,h.same,h.own,h.zz,h.also.trans ⟨rfl,rfl,fun _ _=>rfl,Nat.le_refl _,rfl,Nat.le_add_right _ _⟩⟩
theorem Step.zki {c d:Ctx} {w w':World} (h:Step c w d w') (hc:∀b,¬c.Own b):∃q os',w'=Sort.grow (w.drewN q) os':=by
 refine⟨w'.drawn-w.drawn,w'.heap.extract w.heap.size w'.heap.size,?_⟩
 have hd:=h.also.dr
 have ht:=h.also.tp
 have ho:=h.also.os
 have hu:=h.also.out
 have hh:w'.heap=w.heap++w'.heap.extract w.heap.size w'.heap.size:=by
  apply Array.ext_getElem?
  intro i
  rw[Array.getElem?_append]
  split
  ·rename_i hi
   exact h.same i hi (hc i)
  ·rename_i hi
   rw[Array.getElem?_extract]
   have hs:=h.size
   by_cases h2:i<w'.heap.size
   ·rw[if_pos (by omega)];congr 1;omega
   ·rw[if_neg (by omega),Array.getElem?_eq_none (by omega)]
 cases w with
 |mk hp tp dr os out =>
  cases w' with
  |mk hp' tp' dr' os' out' =>
   simp only[Sort.grow,World.drewN]at hd ht ho hu hh ⊢
   simp only[World.mk.injEq]
   exact⟨hh,ht,by omega,ho,hu⟩
section
variable {α:Type} [Inhabited α]
def encV (K:SortKit α) (x:α):List Value:=(K.enc x).map sv
omit [Inhabited α] in
theorem zavd (K:SortKit α) (x:α):(encV K x).length=K.k:=by simp[encV,K.len]
theorem zalt (K:SortKit α):∀(l:List α) (j:Nat),j<l.length*K.k→(l.flatMap K.enc)[j]? = (K.enc (l[j / K.k]!))[j % K.k]?
 | [],j,h=>by simp at h
 |x::l,j,h=>by
  have hl:=K.len x
  have hk:0<K.k:=by
   rcases Nat.eq_zero_or_pos K.k with h0|h0
   ·rw[h0]at h;simp at h
   ·exact h0
  rw[List.flatMap_cons]
  by_cases hj:j<K.k
  ·rw[List.getElem?_append_left (by omega),Nat.div_eq_of_lt hj,Nat.mod_eq_of_lt hj]
   rfl
  ·have h1:(j-K.k)<l.length*K.k:=by
    simp only[List.length_cons,Nat.add_mul,Nat.one_mul]at h;omega
   have h2:j / K.k=(j-K.k) / K.k+1:=by
    rw[Nat.div_eq_sub_div hk (by omega)]
   rw[List.getElem?_append_right (by omega),hl,zalt K l _ h1,h2,←Nat.mod_eq_sub_mod (by omega)]
   simp
theorem zage (K:SortKit α) (d:Array α) (j:Nat) (hj:j<d.size*K.k):∃v,(K.row d)[j]? = some v∧scalP v=true∧(Sort.flatK (encV K) K.k d)[j]! = sv v:=by
 have h1:(K.row d)[j]? = _:=zalt K d.toList j (by simpa using hj)
 have hk:0<K.k:=by
  rcases Nat.eq_zero_or_pos K.k with h0|h0
  ·rw[h0]at hj;simp at hj
  ·exact h0
 have hm:j % K.k<(K.enc (d.toList[j / K.k]!)).length:=by rw[K.len];exact Nat.mod_lt _ hk
 rw[List.getElem?_eq_getElem hm]at h1
 refine⟨_,h1,K.scal _ _ (List.getElem_mem hm),?_⟩
 rw[Sort.get_flatK _ _ _ _ hj]
 have e:d[j / K.k]! = d.toList[j / K.k]! := by
  have hlt:j / K.k<d.size:=by rw[Nat.div_lt_iff_lt_mul hk];exact hj
  rw[getElem!_pos d _ hlt,getElem!_pos d.toList _ (by simpa using hlt)];simp
 rw[e]
 unfold encV
 rw[getElem!_pos _ _ (by simpa using hm),List.getElem_map]
def emptyC (ht:∀g,Tabs.t g=none):Ctx:={ M:=⟨[],[]⟩,m:=fun _=>none,z:=fun _ _=>none,tab:=fun g cs h=>by rw[ht g]at h;cases h }
theorem zanr (ht:∀g,Tabs.t g=none) (w:World):WRel (emptyC ht) w :=
 ⟨fun _ _ _ h=>(by cases h),fun k cs e v op b q K _ h2=>(by cases h2),fun k es ck b q K _ h2=>(by cases h2),fun k l b q K q' K' _ _ h3 _=>(by cases h3),fun k b q K _ h2=>(by cases h2),fun k x h2=>(by cases h2)⟩
theorem zqy {c:Ctx}:∀ {l:List PVal},(∀ v∈l,scalP v=true)→VsRel c (pcells l) (l.map sv)
 | [],_=>by simp[pcells,VsRel]
 |v::l,h=>by
  have hv:=h v (by simp)
  simp only[pcells,List.map_cons,VsRel]
  exact⟨_,_,rfl,rfl,by simp only[VRel];exact(zaqq hv).2 rfl,zqy fun x hx=>h x (by simp[hx])⟩
omit [Inhabited α] in
theorem zave (ht:∀g,Tabs.t g=none) {P:Program} {C:Oracle} (hC:OracleOK P C) (K:SortKit α) (g:FuncId) (hcmp:∀x y,C g [.agg (pcells (K.enc x)), .agg (pcells (K.enc y))] []=some (.p (.int .i64 (K.cf x y)),[])) (w:World) (x y:α) :
 Calls P g (#[.agg (encV K x).toArray, .agg (encV K y).toArray] ++ #[]) w fun e w'=>e = .returned (.int .i64 (K.cf x y))∧∃q os',w'=Sort.grow (w.drewN q) os':=by
 have h:=(hC g _ _ _ _ (hcmp x y)).2 (emptyC ht) w [.agg (encV K x).toArray, .agg (encV K y).toArray] rfl (zanr ht w)
  ⟨_,_,rfl,rfl,⟨_,rfl,zqy (K.scal x)⟩,_,_,rfl,rfl,⟨_,rfl,zqy (K.scal y)⟩,rfl⟩
 refine Calls.mono h ?_
 rintro e w' ⟨rv,d,rfl,_,hs,_,_,hv⟩
 simp only[VRel,PRel]at hv
 rw[hv]
 exact⟨rfl,hs.zki fun b ⟨k,q,K,hk⟩=>(by cases hk)⟩
theorem zbbg (ht:∀g,Tabs.t g=none) {P:Program} {ρ:Go.Shelf.Ren} (L:Go.Proofs.SlLaysF0.n6 P ρ) (K:SortKit α) (aE:∀w,(isAgg (ρ.t 24)).run P w = .ok true w) (zE:∀w,(Go.sizeOf (ρ.t 24)).run P w = .ok K.k w)
 {C:Oracle} (hC:OracleOK P C) (g:FuncId) (hcmp:∀x y,C g [.agg (pcells (K.enc x)), .agg (pcells (K.enc y))] []=some (.p (.int .i64 (K.cf x y)),[])) :
 OracleOK P (noOracle.set (ρ.f 6) (sortSpec K g)):=by
 intro f args H v H' h
 unfold Oracle.set noOracle at h
 split at h
 case h_2=>cases h
 rename_i hf
 have:=Nat.eq_of_beq_eq_true hf
 subst this
 obtain⟨body,hbody⟩:∃c,(Go.Proofs.SlBodyF.n6 ρ).body=some c:=⟨_,rfl⟩
 refine⟨L.f6.enters hbody,fun c w l hM hW hl=>?_⟩
 have hrel:SortRel K g args H (v,H'):=by
  unfold sortSpec at h
  split at h
  ·rename_i hx
   injection h with h
   rw[← h];exact hx.choose_spec
  ·cases h
 have eg:=(hC g _ _ _ _ (hcmp default default)).1
 generalize hr:(v,H')=r at hrel
 cases hrel with
 |nil =>
  injection hr with e1 e2
  subst e1 e2
  simp only[TsRel,VRel,PRel]at hl
  obtain⟨_,_,rfl,_,rfl,_,_,rfl,_,rfl,rfl⟩:=hl
  refine Calls.mono (Go.Proofs.AnyF.slices_SortFunc_none { L with } none 0 _ w) ?_
  rintro e w' ⟨rfl,rfl⟩
  exact⟨_,c,rfl,hM,Step.refl hW,Un.refl c,rfl,by simp only[VRel];exact⟨[],rfl,by simp only[TsRel]⟩⟩
 |empty =>
  injection hr with e1 e2
  subst e1 e2
  simp only[TsRel,VRel,PRel]at hl
  obtain⟨_,_,rfl,_,⟨a,cap,rfl,_⟩,_,_,rfl,_,rfl,rfl⟩:=hl
  refine Calls.mono (Go.Proofs.AnyF.slices_SortFunc_none { L with } (some a) cap _ w) ?_
  rintro e w' ⟨rfl,rfl⟩
  exact⟨_,c,rfl,hM,Step.refl hW,Un.refl c,rfl,by simp only[VRel];exact⟨[],rfl,by simp only[TsRel]⟩⟩
 | @row _ i ver off es cs op d hb hn hm hlen hcs =>
   injection hr with e1 e2
   subst e1 e2
   have hg:c.M.get (.heap i)=some (.cells cs es ver op):=by rw[hM];exact hb
   simp only[TsRel,VRel,PRel]at hl
   obtain⟨_,_,rfl,_,⟨a,cap,rfl,cs1,e1,v1,o1,hg1,_,hat⟩,_,_,rfl,_,rfl,rfl⟩:=hl
   rw[hg]at hg1
   cases hg1
   obtain⟨b,q,KK,hmk,hcap,rfl,hsp,hoff,hKK⟩:=hat rfl
   have hof2:a.off=q+off:=by
    rcases hoff with h0|h0
    ·omega
    ·exact h0
   clear hoff
   obtain⟨ab,ao,asp⟩:=a
   dsimp only at hmk hsp hof2
   subst hsp
   subst hof2
   obtain⟨CC,T,hheap,hq,hlc,hop,hcell⟩:=hW.blk _ cs es ver op ab q KK hg hmk
   have hbl:ab<w.heap.size:=(Array.getElem?_eq_some_iff.1 hheap).1
   have hcsj:∀j,j<d.size*K.k→∃x,(K.row d)[j]? = some x∧scalP x=true∧(Sort.flatK (encV K) K.k d)[j]! = sv x∧cs[off+j]? = some (.p x):=by
    intro j hj
    obtain⟨x,h1,h2,h3⟩:=zage K d j hj
    refine⟨x,h1,h2,h3,?_⟩
    have h4:((cs.drop off).take (d.size*K.k))[j]? = (pcells (K.row d))[j]? := by rw[hcs]
    rw[List.getElem?_take,if_pos hj,List.getElem?_drop,pcells,List.getElem?_map,h1]at h4
    exact h4
   have hH:Sort.HoldsK (encV K) K.k w ab (q+off) d:=by
    intro j hj
    rw[Sort.size_flatK]at hj
    obtain⟨x,_,h2,h3,h4⟩:=hcsj j hj
    obtain⟨r,g1,_,g3⟩:=hcell _ _ h4
    simp only[VRel]at g3
    rw[(zaqq h2).1 g3]at g1
    refine⟨?_,?_⟩
    ·simp only[World.cell?,hheap,id,h3]
     rw[← g1]
     simp[Nat.add_assoc]
    ·simp[World.frozen?,hheap]
   have hsort:=Go.Proofs.AnyQ.slices_SortFunc_eq L K.k aE zE (encV K) (zavd K) (fun x v hv=>by
    unfold encV at hv
    rw[List.mem_map]at hv
    obtain⟨y,_,rfl⟩:=hv
    exact zbht) K.cf K.swo g #[] ab (q+off) cap d w eg (fun m os dk _ x y=>zave ht hC K g hcmp _ x y) hH hbl hm
   refine Calls.mono hsort ?_
   rintro e w' ⟨rfl,n,os,rfl⟩
   have hsize:(K.sort d).size=d.size:=(K.perm d).1.1
   have hrlen:(K.row (K.sort d)).length=d.size*K.k:=by rw[K.zbbd,hsize]
   have hstep:=Step.write (w':=Sort.putRowK (encV K) K.k w ab (q+off) (K.sort d)) hW ⟨rfl,rfl,rfl,Nat.le_refl _⟩ hg hmk (cs':=splice cs off (pcells (K.row (K.sort d)))) (v':=ver) (o':=op) (q':=q) (K':=KK) (.inr ⟨rfl,rfl,rfl⟩)
    (C':=Sort.putCells id (q+off) (Sort.flatK (encV K) K.k (K.sort d)) CC) (T:=T)
    (by simp[Sort.putRowK,Sort.putRow,Sort.mapBlock,Array.getElem?_modify,hheap,Sort.onCells])
    (by simp[Sort.putRowK])
    (fun i hi=>by simp only[Sort.putRowK,Sort.putRow,Sort.mapBlock,Array.getElem?_modify];rw[if_neg (Ne.symm hi)])
    (by simp[Sort.putCells];exact hq) (by simp[splice,pcells];omega) (fun h=>by have:=hop h;simp[splice,pcells];omega)
    (fun dx hx j x hj=>by
     have hj':(splice cs off (pcells (K.row (K.sort d))))[j]? = some x:=hj
     have hpl:(pcells (K.row (K.sort d))).length=d.size*K.k:=by simp[pcells,hrlen]
     unfold splice at hj'
     by_cases h1:j<off
     ·rw[List.getElem?_append_left (by simp;omega),List.getElem?_take,if_pos h1]at hj'
      obtain⟨r,g1,g2,g3⟩:=hcell j x hj'
      refine⟨r,?_,g2,g3.ext hx⟩
      simp only[Sort.putCells,Array.getElem?_mapIdx,g1,Option.map_some]
      rw[if_neg (by omega)]
     ·rw[List.getElem?_append_right (by simp;omega),List.length_take,Nat.min_eq_left (by omega)]at hj'
      by_cases h2:j-off<d.size*K.k
      ·rw[List.getElem?_append_left (by omega)]at hj'
       obtain⟨y,g1,g2,g3⟩:=zage K (K.sort d) (j-off) (by rw[hsize];exact h2)
       rw[pcells,List.getElem?_map,g1]at hj'
       cases hj'
       have hjc:j<cs.length:=by omega
       have hqj:q+j<CC.size:=by omega
       refine⟨sv y,?_,rfl,by simp only[VRel];exact(zaqq g2).2 rfl⟩
       simp only[Sort.putCells,Array.getElem?_mapIdx,Array.getElem?_eq_getElem hqj,Option.map_some]
       rw[if_pos (by rw[Sort.size_flatK,hsize];omega),show q+j-(q+off)=j-off by omega,g3]
       rfl
      ·rw[List.getElem?_append_right (by omega),List.getElem?_drop]at hj'
       have he:off+(pcells (K.row (K.sort d))).length+(j-off-(pcells (K.row (K.sort d))).length)=j:=by omega
       rw[he]at hj'
       obtain⟨r,g1,g2,g3⟩:=hcell j x hj'
       refine⟨r,?_,g2,g3.ext hx⟩
       simp only[Sort.putCells,Array.getElem?_mapIdx,g1,Option.map_some]
       rw[if_neg (by rw[Sort.size_flatK,hsize];omega)])
   refine⟨_,_,rfl,?_,(hstep.drewW n).growW os,Un.upd hmk,rfl,by simp only[VRel];exact⟨[],rfl,by simp only[TsRel]⟩⟩
   simp only[Ctx.upd,hM,Mem.put]
end
end Go.Ideal

namespace Go.Ideal
open Go Go.Proofs
set_option maxHeartbeats 1000000
set_option maxRecDepth 100000
section
variable [B:Base]
theorem zalu (a:Int) (H:List IBlk):CW tr.look F_Q78 [.p (.int .i64 a)] H=some (.p (.bool false),H):=by
 refine znk look_Q78 rfl (by simp) rfl ?_
 dsimp only[i_Q78,c_Q78]
 simp(disch:=omega) []
theorem zpd (a b:Int) (H:List IBlk):CW tr.look F_Q40 [.p (.int .i64 a), .p (.int .i64 b)] H=some (.p (.int .i64 (cmpI a b)),H):=by
 have n1:=zalu a
 have n2:=zalu b
 refine znk look_Q40 rfl (by simp) rfl ?_
 dsimp only[i_Q40,c_Q40]
 unfold cmpI
 by_cases h1:a<b
 ·simp(disch:=omega) [h1,n1,n2]
 ·by_cases h2:b<a
  ·simp(disch:=omega) [h1,h2,n1,n2]
  ·simp(disch:=omega) [h1,h2,n1,n2]
theorem zans (x y:Int×Int) (H:List IBlk):CW tr.look F_Q91 [.agg (pcells (pairEnc x)), .agg (pcells (pairEnc y))] H=some (.p (.int .i64 (cmpI x.1 y.1)),H):=by
 have h:=zpd x.1 y.1
 refine znk look_Q91 rfl (by simp[pairEnc,pcells,plainArgs,plainArg,cellsPlain]) rfl ?_
 dsimp only[i_Q91,c_Q91]
 simp(disch:=omega) [pairEnc,pcells,h]
theorem zajk (x y:Int×Int) (H:List IBlk):CW tr.look F_Q39 [.agg (pcells (pairEnc x)), .agg (pcells (pairEnc y))] H=some (.p (.int .i64 (cmpI x.1 y.1)),H):=by
 have h:=zpd x.1 y.1
 refine znk look_Q39 rfl (by simp[pairEnc,pcells,plainArgs,plainArg,cellsPlain]) rfl ?_
 dsimp only[i_Q39,c_Q39]
 simp(disch:=omega) [pairEnc,pcells,h]
theorem zajl (x y:Int×Int) (H:List IBlk):CW tr.look F_Q63 [.agg (pcells (pairEnc x)), .agg (pcells (pairEnc y))] H=some (.p (.int .i64 (cmpI x.1 y.1)),H):=by
 have h:=zpd x.1 y.1
 refine znk look_Q63 rfl (by simp[pairEnc,pcells,plainArgs,plainArg,cellsPlain]) rfl ?_
 dsimp only[i_Q63,c_Q63]
 simp(disch:=omega) [pairEnc,pcells,h]
theorem zajm (x y:Int×Int) (H:List IBlk):CW tr.look F_Q135 [.agg (pcells (pairEnc x)), .agg (pcells (pairEnc y))] H=some (.p (.int .i64 (cmpI x.1 y.1)),H):=by
 have h:=zpd x.1 y.1
 refine znk look_Q135 rfl (by simp[pairEnc,pcells,plainArgs,plainArg,cellsPlain]) rfl ?_
 dsimp only[i_Q135,c_Q135]
 simp(disch:=omega) [pairEnc,pcells,h]
end
@[reducible] def noBase:Base:=Base.of noOracle
theorem zaqt (P:Program) : @BaseOK noTabs noBase P := @BaseOK.mk noTabs noBase P zain fun _ _ _ h f a H v H' e=>(h f a H (v,H') e).elim
theorem zavf {g:FuncId} (hg:∀x y:Int×Int,@CW noBase tr.look g [.agg (pcells (pairEnc x)), .agg (pcells (pairEnc y))] []=some (.p (.int .i64 (cmpI x.1 y.1)),[])):OracleOK Tryz.prog (noOracle.set F_Q38 (sortSpec pairKit g)) :=
 zbbg (fun _=>rfl) Go.Proofs.Tryz.sortPair pairKit Go.Proofs.Tryz.isAgg28 Go.Proofs.Tryz.sizeOf28 (CW_ok (B:=noBase) tr_mixed tr_prog (zaqt _)) g hg
theorem zavg (l:List FuncId) (hl:∀g∈l,∀x y:Int×Int,@CW noBase tr.look g [.agg (pcells (pairEnc x)), .agg (pcells (pairEnc y))] []=some (.p (.int .i64 (cmpI x.1 y.1)),[])):OracleOK Tryz.prog (noOracle.set F_Q38 (sortAny l)):=by
 induction l with
 |nil =>
  intro f args H v H' h
  unfold Oracle.set noOracle at h
  split at h<;>simp[sortAny]at h
 |cons g l ih =>
  intro f args H v H' h
  have h1:=zavf (hl g (by simp)) f args H v H'
  have h2:=ih (fun g hg=>hl g (List.mem_cons_of_mem _ hg)) f args H v H'
  unfold Oracle.set noOracle at h h1 h2
  split at h
  ·rename_i hf
   simp only[sortAny]at h
   split at h
   ·rename_i x hx
    injection h with h
    exact h1 (by simp only[hf,hx,h])
   ·exact h2 (by simp only[hf];exact h)
  ·cases h
theorem zbbh:BaseOK Tryz.prog where
 b:=by
  intro f args H v H' h
  have h:(match Nat.beq f F_Q157 with|true=>insSpec args H|false=>(noOracle.set F_Q38 (sortAny [F_Q91,F_Q39,F_Q63,F_Q135])) f args H)=some (v,H'):=h
  cases hb:Nat.beq f F_Q157 with
  |true =>
   rw[hb]at h
   have:=Nat.eq_of_beq_eq_true hb
   subst this
   refine zbhu Go.Proofs.Tryz.insInt _ args H v H' ?_
   show(match Nat.beq F_Q157 F_Q157 with|true=>insSpec args H|false=>none)=_
   exact h
  |false =>
   rw[hb]at h
   refine zavg _ (fun g hg x y=>?_) f args H v H' h
   simp only[List.mem_cons,List.not_mem_nil,or_false]at hg
   rcases hg with rfl|rfl|rfl|rfl
   ·exact zans (B:=noBase) x y []
   ·exact zajk (B:=noBase) x y []
   ·exact zajl (B:=noBase) x y []
   ·exact zajm (B:=noBase) x y []
 m C hC D hD f args H v H' e:=by
   obtain⟨rfl,h⟩:=hD f args H (v,H') e
   exact zafv tr_mixed hC ok_Q29 h
end Go.Ideal

/-
  IDEAL SEMANTICS, 40: STRINGS IN ORDER.
-/
namespace Go.Ideal
open Go
set_option linter.unusedSectionVars false
variable [Tabs]
theorem zwc:∀s:Bytes,bytesLess s s=false
 | []=>rfl
 |a::s=>by simp[bytesLess,zwc s]
theorem zqz:∀ {s t:Bytes},bytesLess s t=true→bytesLess t s=false
 | [],[],h=>by simp[bytesLess]at h
 | [],_::_,_=>rfl
 |_::_,[],h=>by simp[bytesLess]at h
 |a::s,b::t,h=>by
  simp only[bytesLess,Bool.or_eq_true,decide_eq_true_eq,Bool.and_eq_true,beq_iff_eq]at h
  simp only[bytesLess,Bool.or_eq_false_iff,decide_eq_false_iff_not,Bool.and_eq_false_iff]
  rcases h with h|⟨rfl,h⟩
  ·refine⟨by rw[UInt8.not_lt];exact UInt8.le_of_lt h, .inl ?_⟩
   simp only[beq_eq_false_iff_ne]
   rintro rfl
   exact absurd h (UInt8.lt_irrefl _)
  ·exact⟨UInt8.lt_irrefl _, .inr (zqz h)⟩
theorem zra:∀ {s t:Bytes},bytesLess s t=false→bytesLess t s=false→s=t
 | [],[],_,_=>rfl
 | [],_::_,h,_=>by simp[bytesLess]at h
 |_::_,[],_,h=>by simp[bytesLess]at h
 |a::s,b::t,h,g=>by
  simp only[bytesLess,Bool.or_eq_false_iff,decide_eq_false_iff_not,Bool.and_eq_false_iff,beq_eq_false_iff_ne]at h g
  have hab:a=b:=UInt8.le_antisymm (UInt8.not_lt.1 g.1) (UInt8.not_lt.1 h.1)
  subst hab
  rcases h.2 with h2|h2
  ·exact absurd rfl h2
  ·rcases g.2 with g2|g2
   ·exact absurd rfl g2
   ·rw[zra h2 g2]
theorem zaqu {s t:Bytes} (h:bytesLess s t=true):s≠t:=by
 rintro rfl;rw[zwc]at h;cases h
section
variable {s t:Bytes} {k:SV→Prop}
@[simp ↓ high] theorem zaxn:strBinK .lss s t k=k (.bool (bytesLess s t)):=by simp[strBin]
@[simp ↓ high] theorem zaxo:strBinK .gtr s t k=k (.bool (bytesLess t s)):=by
 have:(!(bytesLess s t||s==t))=bytesLess t s:=by
  cases h:bytesLess s t
  ·cases h2:bytesLess t s
   ·rw[zra h h2];simp
   ·have:=zaqu h2
    simp;exact fun e=>this e.symm
  ·rw[zqz h];rfl
 rw[zaja]
 simp only[strBin,zhb,zajc,zaiw,this]
@[simp ↓ high] theorem zaxp:strBinK .leq s t k=k (.bool (!bytesLess t s)):=by
 have:(bytesLess s t||s==t)=!bytesLess t s:=by
  cases h:bytesLess s t
  ·cases h2:bytesLess t s
   ·rw[zra h h2];simp
   ·have:=zaqu h2
    simp;exact fun e=>this e.symm
  ·rw[zqz h];rfl
 rw[zaiz]
 simp only[strBin,zhb,zajc,zaiw,this]
@[simp ↓ high] theorem zaxq:strBinK .geq s t k=k (.bool (!bytesLess s t)):=by
 rw[zajb]
 simp only[strBin,zhb,zajc,zaiw]
end
def sgn (l m:Bool):Int:=if l then -1 else if m then 1 else 0
def scmp (s t:Bytes):Int:=sgn (bytesLess s t) (bytesLess t s)
def icmp (a b:Int):Int:=sgn (decide (a<b)) (decide (b<a))
def acmp (p q:Bytes×Bytes):Int:=sgn (bytesLess p.1 q.1||decide (p.1=q.1)&&bytesLess p.2 q.2) (bytesLess q.1 p.1||decide (p.1=q.1)&&bytesLess q.2 p.2)
def lcmp {α:Type} (f:α→α→Int):List α→List α→Int
 |x::l,y::m=>if f x y=0 then lcmp f l m else f x y
 |l,m=>icmp l.length m.length
end Go.Ideal

/-
  IDEAL SEMANTICS, 41: A TREE's NODES; TREES IN ORDER.
-/
namespace Go.Ideal
open Go
set_option linter.unusedSectionVars false
variable [Tabs]
mutual
def Tree.nodes:Tree→List Tree
 | .mk k n x a ks=>.mk k n x a ks::knodes ks
def knodes:Option (List Tree)→List Tree
 |none=>[]
 |some l=>lnodes l
def lnodes:List Tree→List Tree
 | []=>[]
 |t::l=>t.nodes++lnodes l
end
theorem zavh (t:Tree):t.nodes=t::lnodes (klist t.kids):=by
 obtain⟨k,n,x,a,ks⟩:=t
 cases ks<;>simp[Tree.nodes,knodes,lnodes,klist,Tree.kids]
theorem zant (t:Tree):t∈t.nodes:=by rw[zavh];simp
def Fine (t:Tree):Prop:=t.size<1000000∧∀u∈t.nodes,(alist u.attrs).length<1000000
theorem Fine.attrs {t:Tree} (h:Fine t):(alist t.attrs).length<1000000000000:=by have:=h.2 t (zant t);omega
theorem Fine.kids {t:Tree} (h:Fine t):(klist t.kids).length<1000000000000:=by
 have h1:=zauz t
 have h2:=zjw (klist t.kids)
 have:=h.1
 omega
def nodeCmp (a b:Tree):Int:=if icmp a.kind b.kind=0 then(if scmp a.name b.name=0 then(if scmp a.text b.text=0 then lcmp acmp (alist a.attrs) (alist b.attrs)else scmp a.text b.text)else scmp a.name b.name)else icmp a.kind b.kind
mutual
def cmpT:Tree→Tree→Int
 | .mk k n x a ks,u=>if nodeCmp (.mk k n x a ks) u=0 then cmpK ks (klist u.kids)else nodeCmp (.mk k n x a ks) u
def cmpK:Option (List Tree)→List Tree→Int
 |none,m=>icmp 0 m.length
 |some l,m=>cmpL l m
def cmpL:List Tree→List Tree→Int
 | [],m=>icmp 0 m.length
 |t::l,[]=>icmp (t::l).length 0
 |t::l,u::m=>if cmpT t u=0 then cmpL l m else cmpT t u
end
def SameT (t u:Tree):Prop:=cmpT t u=0
instance (t u:Tree):Decidable (SameT t u):=by unfold SameT;infer_instance
end Go.Ideal

/-
  IDEAL SEMANTICS, 42: SLICES IN THE HEAP.
-/
namespace Go.Ideal
open Go
set_option linter.unusedSectionVars false
variable [Tabs]
theorem zaqv {H:List IBlk} {b:IBlk}:(H++[b])[H.length]? = some b:=by simp
def HS (H:List IBlk) (k esz n:Nat) (v:IVal) (xs:List IVal):Prop:=∃ver cs op,v = .slice k ver 0 n∧H[k]? = some (.cells cs esz ver op)∧n*esz≤cs.length∧cs.take (n*esz)=xs
def appBlk (cs ys:List IVal) (esz n ny ver:Nat) (op:Bool):IBlk:=if(n+ny)*esz≤cs.length then .cells (splice cs (n*esz) ys) esz ver op else .cells (cs.take (n*esz)++ys) esz (ver+1) true
def appVer (cs:List IVal) (esz n ny ver:Nat):Nat:=if(n+ny)*esz≤cs.length then ver else ver+1
theorem zwd {bx:List (Nat×IBlk)} {H:List IBlk} {esz k n ny ver:Nat} {op:Bool} {cs ys:List IVal} {y:IVal} (hk:H[k]? = some (.cells cs esz ver op)) (hn:n*esz≤cs.length) (hy:srcCells ⟨bx,H⟩ esz y=some ys) (hl:srcLen y=some ny) (hpos:0<ny) (hb:n+ny≤4294967296) :
 evalAppend ⟨bx,H⟩ esz (.slice k ver 0 n) y=some (.slice k (appVer cs esz n ny ver) 0 (n+ny),⟨bx,H.set k (appBlk cs ys esz n ny ver op)⟩):=by
 have h1:Nat.ble (n+ny) maxAppend=true:=Nat.ble_eq_true_of_le hb
 have h2:(Nat.beq ver ver&&Nat.beq esz esz&&Nat.ble (0+n*esz) cs.length)=true:=by
  rw[Nat.beq_refl,Nat.beq_refl,Nat.zero_add,Bool.true_and,Bool.true_and]
  exact Nat.ble_eq_true_of_le hn
 have h3:Nat.beq ny 0=false:=by rw[zih];exact decide_eq_false (by omega)
 simp only[evalAppend,evalAppend0,hy,hl,sliceLen,h1,Mem.get,hk,h2,h3]
 by_cases h:(n+ny)*esz≤cs.length
 ·have h4:Nat.ble ((n+ny)*esz) cs.length=true:=Nat.ble_eq_true_of_le h
  simp only[Nat.zero_add,h4,appVer,appBlk,if_pos h,Mem.put]
 ·have h4:Nat.ble ((n+ny)*esz) cs.length=false:=by
   cases e:Nat.ble ((n+ny)*esz) cs.length with
   |false=>rfl
   |true=>exact absurd (Nat.le_of_ble_eq_true e) h
  simp only[Nat.zero_add,h4,appVer,appBlk,if_neg h,Mem.put,List.drop_zero]
theorem zaxr {H:List IBlk} {esz k n ny ver:Nat} {op:Bool} {cs ys:List IVal} (hk:k<H.length) (hn:n*esz≤cs.length) (hy:ys.length=ny*esz) :
 HS (H.set k (appBlk cs ys esz n ny ver op)) k esz (n+ny) (.slice k (appVer cs esz n ny ver) 0 (n+ny)) (cs.take (n*esz)++ys):=by
 unfold appBlk appVer
 by_cases h:(n+ny)*esz≤cs.length
 ·rw[if_pos h,if_pos h]
  refine⟨ver,_,op,rfl,by rw[zkh hk],?_,?_⟩
  ·simp only[splice,List.length_append,List.length_take,List.length_drop]
   rw[Nat.add_mul]at h ⊢
   omega
  ·unfold splice
   rw[← List.append_assoc,List.take_append_of_le_length (by simp only[List.length_append,List.length_take];rw[Nat.add_mul];rw[Nat.add_mul]at h;omega)]
   rw[List.take_of_length_le (by simp only[List.length_append,List.length_take];rw[Nat.add_mul];omega)]
 ·rw[if_neg h,if_neg h]
  refine⟨_,_,_,rfl,by rw[zkh hk],?_,?_⟩
  ·simp only[List.length_append,List.length_take]
   rw[Nat.add_mul];omega
  ·rw[List.take_of_length_le (by simp only[List.length_append,List.length_take];rw[Nat.add_mul];omega)]
theorem append_nil {bx:List (Nat×IBlk)} {H:List IBlk} {esz ny:Nat} {ys:List IVal} {y:IVal} (hy:srcCells ⟨bx,H⟩ esz y=some ys) (hl:srcLen y=some ny) (hpos:0<ny) (hb:ny≤4294967296) :
 evalAppend ⟨bx,H⟩ esz (.p .nilslice) y=some (.slice H.length 0 0 ny,⟨bx,H++[.cells ys esz 0 true]⟩):=by
 have h1:Nat.ble (0+ny) maxAppend=true:=Nat.ble_eq_true_of_le (by unfold maxAppend;omega)
 have h3:Nat.beq ny 0=false:=by rw[zih];exact decide_eq_false (by omega)
 simp only[evalAppend,evalAppend0,hy,hl,sliceLen,h1,h3]
theorem zacm {bx:List (Nat×IBlk)} {H:List IBlk} {esz k n ver:Nat} {op:Bool} {cs:List IVal} (hk:H[k]? = some (.cells cs esz ver op)) (hn:cs.length=n*esz):srcCells ⟨bx,H⟩ esz (.slice k ver 0 n)=some cs:=by
 have h2:((Nat.beq ver ver&&Nat.beq esz esz)&&Nat.ble (0+n*esz) cs.length)=true:=by
  rw[Nat.beq_refl,Nat.beq_refl,Nat.zero_add,Bool.true_and,Bool.true_and]
  exact Nat.ble_eq_true_of_le (by omega)
 simp only[srcCells,Mem.get,hk,h2,List.drop_zero]
 rw[List.take_of_length_le (by omega)]
@[simp] theorem zbbi {k v o n:Nat}:srcLen (.slice k v o n)=some n:=rfl
theorem HS.load {bx:List (Nat×IBlk)} {H:List IBlk} {k esz n j:Nat} {v:IVal} {xs:List IVal} (h:HS H k esz n v xs) (hj:j<n) :
 ∃ver,idxS esz v (.p (.int .i64 j))=some (.ptr (.heap k) ver (j*esz))∧loadVal ⟨bx,H⟩ (some esz) (.ptr (.heap k) ver (j*esz))=some (.agg ((xs.drop (j*esz)).take esz)):=by
 obtain⟨ver,cs,op,rfl,hk,hn,hx⟩:=h
 refine⟨ver,by rw[zapx hj,Nat.zero_add],?_⟩
 have hle:j*esz+esz≤n*esz:=by
  have:(j+1)*esz≤n*esz:=Nat.mul_le_mul_right _ hj
  rw[Nat.succ_mul]at this;exact this
 rw[zapz hk (by omega),←hx]
 congr 2
 rw[List.drop_take,List.take_take,Nat.min_eq_left (by omega)]
theorem HS.len {H:List IBlk} {k esz n:Nat} {v:IVal} {xs:List IVal} (h:HS H k esz n v xs):sliceLen v=some n:=by
 obtain⟨ver,cs,op,rfl,hk,hn,hx⟩:=h
 rfl
theorem HS.keep {H H':List IBlk} {k esz n:Nat} {v:IVal} {xs:List IVal} (h:HS H k esz n v xs) (hk:H'[k]? = H[k]?):HS H' k esz n v xs:=by
 obtain⟨ver,cs,op,e,h1,h2,h3⟩:=h
 exact⟨ver,cs,op,e,by rw[hk];exact h1,h2,h3⟩
theorem HS.lt {H:List IBlk} {k esz n:Nat} {v:IVal} {xs:List IVal} (h:HS H k esz n v xs):k<H.length:=by
 obtain⟨ver,cs,op,rfl,hk,hn,hx⟩:=h
 exact(List.getElem?_eq_some_iff.1 hk).1
def Keep (S:Nat→Prop) (H H':List IBlk):Prop:=H.length≤H'.length∧∀i,i<H.length→¬S i→H'[i]? = H[i]?
theorem Keep.refl {S:Nat→Prop} {H:List IBlk}:Keep S H H:=⟨Nat.le_refl _,fun _ _ _=>rfl⟩
theorem Keep.trans {S:Nat→Prop} {H H' H2:List IBlk} (h:Keep S H H') (g:Keep S H' H2):Keep S H H2 :=
 ⟨Nat.le_trans h.1 g.1,fun i hi hs=>by rw[g.2 i (Nat.lt_of_lt_of_le hi h.1) hs,h.2 i hi hs]⟩
theorem Keep.new {S:Nat→Prop} {H:List IBlk} {b:List IBlk}:Keep S H (H++b):=⟨by simp,fun i hi _=>List.getElem?_append_left hi⟩
theorem Keep.set {S:Nat→Prop} {H:List IBlk} {k:Nat} {b:IBlk} (h:S k∨H.length≤k):Keep S H (H.set k b):=by
 refine⟨by simp,fun i hi hs=>?_⟩
 rw[List.getElem?_set_ne]
 rintro rfl
 rcases h with h|h
 ·exact hs h
 ·omega
theorem Keep.mono {S S':Nat→Prop} {H H':List IBlk} (h:Keep S H H') (k:∀i,i<H.length→S i→S' i):Keep S' H H':=⟨h.1,fun i hi hs=>h.2 i hi fun x=>hs (k i hi x)⟩
end Go.Ideal

/-
  IDEAL SEMANTICS, 43: A TREE's NODES IN A LIST, WITH THEIR SIZES, HEIGHTS; SLICES THAT ARE FROZEN.
-/
namespace Go.Ideal
open Go
set_option linter.unusedSectionVars false
variable [Tabs]
theorem zst {g:IVal→Option PVal} (hg:∀x,g (.p x)=some x):∀l:List PVal,freezeList g (pcells l)=some l
 | []=>rfl
 |a::l=>by
  have:=zst hg l
  simp only[pcells,List.map_cons]at this ⊢
  simp only[freezeList,hg,this]
theorem zaqw {H:List IBlk} {k e n:Nat} {v:IVal} {xs:List PVal} (h:HS H k e n v (pcells xs)):freezeCell H 100 v=some (.slice e n xs):=by
 obtain⟨ver,cs,op,rfl,hk,hn,hx⟩:=h
 have h2:(Nat.beq ver ver&&Nat.ble (0+n*e) cs.length)=true:=by
  rw[Nat.beq_refl,Nat.zero_add,Bool.true_and];exact Nat.ble_eq_true_of_le hn
 rw[freezeCell]
 simp only[hk,h2,List.drop_zero,hx]
 rw[zst (fun x=>rfl)]
theorem HS.store {bx:List (Nat×IBlk)} {H:List IBlk} {k esz n ver off:Nat} {xs new:List IVal} (h:HS H k esz n (.slice k ver 0 n) xs) (ho:off+new.length≤n*esz) :
 ∃b,writeCells ⟨bx,H⟩ (.ptr (.heap k) ver off) new=some ⟨bx,H.set k b⟩∧HS (H.set k b) k esz n (.slice k ver 0 n) (splice xs off new):=by
 obtain⟨ver',cs,op,e,hk,hn,hx⟩:=h
 injection e with _ e2 _ _
 subst e2
 have hkl:=(List.getElem?_eq_some_iff.1 hk).1
 refine⟨_,zanl hk (by omega),ver,_,op,rfl,zkh hkl,?_,?_⟩
 ·simp only[splice,List.length_append,List.length_take,List.length_drop];omega
 ·rw[← hx]
  unfold splice
  rw[List.take_append,List.take_append]
  simp only[List.length_take,List.take_take]
  rw[Nat.min_eq_left (show off≤n*esz by omega),Nat.min_eq_left (show off≤cs.length by omega),Nat.min_eq_right (show off≤n*esz by omega)]
  congr 2
  ·rw[List.take_of_length_le (by omega)]
  ·rw[List.drop_take];congr 1;omega
theorem HS.field {bx:List (Nat×IBlk)} {H:List IBlk} {k esz n ver off:Nat} {xs:List IVal} {x:IVal} (h:HS H k esz n (.slice k ver 0 n) xs) (hx:xs[off]? = some x):loadVal ⟨bx,H⟩ none (.ptr (.heap k) ver off)=some x:=by
 obtain⟨ver',cs,op,e,hk,hn,hxs⟩:=h
 injection e with _ e2 _ _
 subst e2
 refine zauy hk ?_
 rw[← hxs,List.getElem?_take]at hx
 split at hx
 ·exact hx
 ·cases hx
mutual
def Tree.height:Tree→Nat
 | .mk _ _ _ _ ks=>kheight ks+1
def kheight:Option (List Tree)→Nat
 |none=>0
 |some l=>lheight l
def lheight:List Tree→Nat
 | []=>0
 |t::r=>max t.height (lheight r)
end
structure Item where
 parent:Int
 size:Nat
 depth:Nat
 height:Nat
 place:Nat
 node:Tree
def icell (x:Item):List PVal:=[.int .i64 x.parent, .int .i64 x.size, .int .i64 x.depth, .int .i64 x.height, .int .i64 x.place, .int .i64 x.node.kind, .str x.node.name, .str x.node.text,aval x.node.attrs, .nilslice]
def icells (l:List Item):List PVal:=l.flatMap icell
end Go.Ideal

/-
  IDEAL SEMANTICS, 44: THE NODES IN ORDER; HOW SIZES AND HEIGHTS ARE SUMMED UP FROM BEHIND.
-/
namespace Go.Ideal
open Go
set_option linter.unusedSectionVars false
variable [Tabs]
mutual
def flatT:Tree→Nat→Int→Nat→Nat→List Item
 | .mk k n x a ks,id,p,d,pl=>⟨p,ksize ks+1,d,kheight ks+1,pl, .mk k n x a none⟩::flatK ks (id+1) id (d+1)
def flatK:Option (List Tree)→Nat→Nat→Nat→List Item
 |none,_,_,_=>[]
 |some l,id,p,d=>flatL l id p d 0
def flatL:List Tree→Nat→Nat→Nat→Nat→List Item
 | [],_,_,_,_=>[]
 |t::l,id,p,d,pl=>flatT t id p d pl++flatL l (id+t.size) p d (pl+1)
end
end Go.Ideal

/-
  IDEAL SEMANTICS, 45: SLICES THAT GROW: nil, or a block of the heap.
-/
namespace Go.Ideal
open Go
set_option linter.unusedSectionVars false
variable [Tabs]
def VS (H:List IBlk) (o:Option Nat) (esz n:Nat) (v:IVal) (xs:List IVal):Prop :=
 match o with
 |none=>v = .p .nilslice∧n=0∧xs=[]
 |some k=>HS H k esz n v xs
theorem VS.nil {H:List IBlk} {esz:Nat}:VS H none esz 0 (.p .nilslice) []:=⟨rfl,rfl,rfl⟩
theorem VS.len {H:List IBlk} {o:Option Nat} {esz n:Nat} {v:IVal} {xs:List IVal} (h:VS H o esz n v xs):sliceLen v=some n:=by
 cases o with
 |none=>obtain⟨rfl,rfl,_⟩:=h;rfl
 |some k=>exact HS.len h
theorem VS.up {H:List IBlk} {o:Option Nat} {esz n:Nat} {v:IVal} {xs:List IVal} (h:VS H o esz n v xs):up v = .v v:=by
 cases o with
 |none=>obtain⟨rfl,rfl,_⟩:=h;rfl
 |some k=>obtain⟨_,_,_,rfl,_⟩:=h;rfl
theorem VS.pass {H:List IBlk} {o:Option Nat} {esz n:Nat} {v:IVal} {xs:List IVal} (h:VS H o esz n v xs):v.passOK=true:=by
 cases o with
 |none=>obtain⟨rfl,rfl,_⟩:=h;rfl
 |some k=>obtain⟨_,_,_,rfl,_⟩:=h;rfl
theorem VS.cells {H:List IBlk} {o:Option Nat} {esz n:Nat} {v:IVal} {xs:List IVal} (h:VS H o esz n v xs):v.cellsOf=some [v]:=by
 cases o with
 |none=>obtain⟨rfl,rfl,_⟩:=h;rfl
 |some k=>obtain⟨_,_,_,rfl,_⟩:=h;rfl
theorem VS.keep {H H':List IBlk} {o:Option Nat} {esz n:Nat} {v:IVal} {xs:List IVal} (h:VS H o esz n v xs) {S:Nat→Prop} (hk:Keep S H H') (hs:∀k,o=some k→¬S k):VS H' o esz n v xs:=by
 cases o with
 |none=>exact h
 |some k=>exact HS.keep h (hk.2 k (HS.lt h) (hs k rfl))
theorem VS.lt {H:List IBlk} {k esz n:Nat} {v:IVal} {xs:List IVal} (h:VS H (some k) esz n v xs):k<H.length:=HS.lt h
theorem VS.append1 {H:List IBlk} {o:Option Nat} {esz n:Nat} {v:IVal} {xs ys:List IVal} (h:VS H o esz n v xs) (hy:ys.length=esz) (hb:n<1000000000) :
 ∃v' H' o',evalAppend ⟨[],H++[.cells ys esz 0 false]⟩ esz v (.slice H.length 0 0 1)=some (v',⟨[],H'⟩)∧VS H' o' esz (n+1) v' (xs++ys)∧Keep (fun x=>o=some x) H H'∧H.length<H'.length∧(o'=o∨∃k,o'=some k∧H.length≤k)∧∃k,o'=some k:=by
 have hsrc:srcCells ⟨[],H++[.cells ys esz 0 false]⟩ esz (.slice H.length 0 0 1)=some ys:=zacm (op:=false) zaqv (by omega)
 cases o with
 |none =>
  obtain⟨rfl,rfl,rfl⟩:=h
  refine⟨_,_,some (H.length+1),append_nil hsrc rfl (by omega) (by omega),⟨0,ys,true,by simp,?_,by omega,?_⟩,Keep.new.trans Keep.new,by simp, .inr ⟨_,rfl,by omega⟩,_,rfl⟩
  ·have:(H++[IBlk.cells ys esz 0 false]++[IBlk.cells ys esz 0 true])[(H++[IBlk.cells ys esz 0 false]).length]? = some (IBlk.cells ys esz 0 true):=zaqv
   simp at this ⊢
  ·rw[List.take_of_length_le (by omega)];rfl
 |some k =>
  obtain⟨ver,cs,op,rfl,hkk,hnn,hxs⟩:=h
  have hkl:=(List.getElem?_eq_some_iff.1 hkk).1
  have happ:=zwd (bx:=[]) (H:=H++[IBlk.cells ys esz 0 false]) (ny:=1) (by rw[List.getElem?_append_left hkl];exact hkk) hnn hsrc rfl (by omega) (by omega)
  have hnew:=zaxr (H:=H++[IBlk.cells ys esz 0 false]) (ver:=ver) (op:=op) (ys:=ys) (ny:=1) (k:=k) (by simp;omega) hnn (by omega)
  rw[hxs]at hnew
  exact⟨_,_,some k,happ,hnew,Keep.new.trans (Keep.set (.inl rfl)),by simp, .inl rfl,_,rfl⟩
theorem VS.cut {H:List IBlk} {k esz n m:Nat} {v:IVal} {xs:List IVal} (h:VS H (some k) esz n v xs) (hm:m≤n):∃ver,v = .slice k ver 0 n∧VS H (some k) esz m (.slice k ver 0 m) (xs.take (m*esz))∧∃cs op,H[k]? = some (.cells cs esz ver op):=by
 obtain⟨ver,cs,op,rfl,hkk,hnn,hxs⟩:=h
 have hle:m*esz≤n*esz:=Nat.mul_le_mul_right _ hm
 refine⟨ver,rfl,⟨ver,cs,op,rfl,hkk,by omega,?_⟩,cs,op,hkk⟩
 rw[← hxs,List.take_take,Nat.min_eq_left hle]
theorem zaqx {H:List IBlk} {o:Option Nat} {e n:Nat} {v:IVal} {xs:List PVal} (h:VS H o e n v (pcells xs)):freezeCell H 100 v=some (match o with|none=>.nilslice|some _=>.slice e n xs):=by
 cases o with
 |none=>obtain⟨rfl,_,_⟩:=h;rfl
 |some k=>exact zaqw h
end Go.Ideal

/-
  IDEAL SEMANTICS, 46: NODES BEHIND THEIR KIDS.
-/
namespace Go.Ideal
open Go
set_option linter.unusedSectionVars false
variable [Tabs]
def Tree.items (t:Tree):List Item:=flatT t 0 (-1) 0 0
def ival (t:Tree):PVal := .slice 10 t.size (icells t.items)
@[simp] theorem zavi {t:Tree}:sliceLen (.p (ival t))=some t.size:=rfl
@[simp] theorem zbro {t:Tree}:up (.p (ival t)) = .v (.p (ival t)):=rfl
end Go.Ideal

/-
  IDEAL SEMANTICS: a map whose values are slices of numbers, each in a block of its own: m[k] = append(m[k], i).
-/
namespace Go.Ideal
open Go
set_option linter.unusedSectionVars false
variable [Tabs]
set_option maxHeartbeats 1000000
attribute [-simp] getElem?_pos
structure PEnt where
 key:Int×Int
 blk:Nat
 ids:List Nat
def keyI (k:Int×Int):List IVal:=[.p (.int .u64 k.1), .p (.int .u64 k.2)]
def idC (l:List Nat):List IVal:=l.map fun(i:Nat)=>.p (.int .i64 (i:Int))
theorem zaqy (a b:Int×Int):eqVals ⟨true,[.int, .int]⟩ (.agg (keyI a)) (.agg (keyI b))=some (decide (a=b)):=by
 obtain⟨a1,a2⟩:=a
 obtain⟨b1,b2⟩:=b
 by_cases h1:a1=b1<;>by_cases h2:a2=b2<;>simp[keyI,eqVals,eqCls,clsEq,h1,h2]
theorem zacn (a:Int×Int):isKey ⟨true,[.int, .int]⟩ (.agg (keyI a))=true:=by rw[isKey,zaqy]
def EOK (H:List IBlk):List PEnt→List (IVal×IVal×Nat)→Nat→Prop
 | [],es,_=>es=[]
 |e::E,es,j=>∃v r,es=(.agg (keyI e.key),v,j)::r∧HS H e.blk 1 e.ids.length v (idC e.ids)∧EOK H E r (j+1)
theorem EOK.length {H:List IBlk}:∀ {E:List PEnt} {es:List (IVal×IVal×Nat)} {j:Nat},EOK H E es j→es.length=E.length
 | [],es,j,h=>by simp only[EOK]at h;subst h;rfl
 |e::E,es,j,⟨v,r,h1,_,h2⟩=>by subst h1;simp[h2.length]
theorem EOK.keep {H H':List IBlk}:∀ {E:List PEnt} {es:List (IVal×IVal×Nat)} {j:Nat},EOK H E es j→(∀ e∈E,H'[e.blk]? = H[e.blk]?)→EOK H' E es j
 | [],es,j,h,_=>h
 |e::E,es,j,⟨v,r,h1,h2,h3⟩,hk=>⟨v,r,h1,h2.keep (hk e (by simp)),h3.keep fun x hx=>hk x (by simp[hx])⟩
theorem EOK.append {H:List IBlk} {x:PEnt} {v:IVal} (hv:HS H x.blk 1 x.ids.length v (idC x.ids)):∀ {E:List PEnt} {es:List (IVal×IVal×Nat)} {j:Nat},EOK H E es j→EOK H (E++[x]) (es++[(.agg (keyI x.key),v,j+E.length)]) j
 | [],es,j,h=>by simp only[EOK]at h;subst h;exact⟨v,[],by simp,hv,rfl⟩
 |e::E,es,j,⟨w,r,h1,h2,h3⟩=>by
  subst h1
  refine⟨w,_,rfl,h2,?_⟩
  have:=EOK.append hv h3
  rw[show j+1+E.length=j+(e::E).length by simp;omega]at this
  exact this
theorem EOK.find {H:List IBlk} {k:Int×Int}:∀ {E:List PEnt} {es:List (IVal×IVal×Nat)} {j:Nat} (i:Nat),EOK H E es j→(E.map (·.key)).Nodup →
 (k∉E.map (·.key)∧findEnt ⟨true,[.int, .int]⟩ (.agg (keyI k)) es i=some none) ∨
 ∃n e v,E[n]? = some e∧e.key=k∧findEnt ⟨true,[.int, .int]⟩ (.agg (keyI k)) es i=some (some (i+n,v))∧HS H e.blk 1 e.ids.length v (idC e.ids)∧es[n]? = some (.agg (keyI k),v,j+n)
 | [],es,j,i,h,_=>by simp only[EOK]at h;subst h;exact .inl ⟨by simp,rfl⟩
 |e::E,es,j,i,⟨v,r,h1,h2,h3⟩,hn=>by
  subst h1
  rw[List.map_cons,List.nodup_cons]at hn
  simp only[findEnt,zaqy]
  by_cases hk:k=e.key
  ·subst hk
   exact .inr ⟨0,e,v,rfl,rfl,by simp,h2,rfl⟩
  ·simp only[hk,decide_false]
   rcases EOK.find (i+1) h3 hn.2 with⟨g1,g2⟩|⟨n,e',v',g1,g2,g3,g4,g5⟩
   ·exact .inl ⟨by simp only[List.map_cons,List.mem_cons,not_or];exact⟨hk,g1⟩,g2⟩
   ·refine .inr ⟨n+1,e',v',by simpa using g1,g2,?_,g4,?_⟩
    ·rw[g3];congr 3;omega
    ·rw[List.getElem?_cons_succ,g5];congr 3;omega
theorem EOK.born {H:List IBlk}:∀ {E:List PEnt} {es:List (IVal×IVal×Nat)} {j:Nat} (i n:Nat),EOK H E es j→n<E.length→findBorn ((j+n:Nat):Int) es i=some (i+n)
 | [],es,j,i,n,h,hn=>by simp at hn
 |e::E,es,j,i,n,⟨v,r,h1,h2,h3⟩,hn=>by
  subst h1
  simp only[findBorn]
  cases n with
  |zero=>simp
  |succ n =>
   rw[decide_eq_false (by omega)]
   have:=EOK.born (i+1) n h3 (by simpa using hn)
   rw[show(j+(n+1):Nat)=j+1+n by omega]
   dsimp only
   rw[this];congr 1;omega
theorem EOK.set {H H':List IBlk} {ids':List Nat} {v':IVal}:∀ {E:List PEnt} {es:List (IVal×IVal×Nat)} {j n:Nat} {e:PEnt},EOK H E es j→E[n]? = some e →
 HS H' e.blk 1 ids'.length v' (idC ids')→(∀ m x,m≠n→E[m]? = some x→H'[x.blk]? = H[x.blk]?)→EOK H' (E.set n ⟨e.key,e.blk,ids'⟩) (es.modify n fun x=>(x.1,v',x.2.2)) j
 | [],es,j,n,e,h,hn,_,_=>by simp at hn
 |x::E,es,j,0,e,⟨v,r,h1,h2,h3⟩,hn,hv,hk=>by
  subst h1
  cases hn
  refine⟨v',r,by simp,hv,h3.keep fun y hy=>?_⟩
  obtain⟨m,hm⟩:=List.mem_iff_getElem?.1 hy
  exact hk (m+1) y (by omega) (by simpa using hm)
 |x::E,es,j,n+1,e,⟨v,r,h1,h2,h3⟩,hn,hv,hk=>by
  subst h1
  refine⟨v,r.modify n fun x=>(x.1,v',x.2.2),by simp,h2.keep (hk 0 x (by omega) rfl),?_⟩
  exact EOK.set h3 (by simpa using hn) hv fun m y hm hy=>hk (m+1) y (by omega) (by simpa using hy)
def idsOf (f:Nat→Int×Int) (m:Nat) (k:Int×Int):List Nat:=(List.range m).filter fun i=>decide (0<i)&&decide (f i=k)
theorem zlt (f:Nat→Int×Int) (m:Nat) (k:Int×Int):idsOf f (m+1) k=if 0<m∧f m=k then idsOf f m k++[m]else idsOf f m k:=by
 unfold idsOf
 rw[List.range_succ,List.filter_append]
 by_cases h1:0<m<;>by_cases h2:f m=k<;>simp[h1,h2]
structure PM (f:Nat→Int×Int) (m mp:Nat) (E:List PEnt) (H:List IBlk):Prop where
 mpe:∃es,H[mp]? = some (.map es E.length)∧EOK H E es 0
 ids:∀e∈E,e.ids=idsOf f m e.key
 all:∀i,0<i→i<m→f i∈E.map (·.key)
 ky:(E.map (·.key)).Nodup
 nd:(mp::E.map (·.blk)).Nodup
theorem PM.keep {f:Nat→Int×Int} {m mp:Nat} {E:List PEnt} {H H':List IBlk} (h:PM f m mp E H) (hk:∀x∈mp::E.map (·.blk),H'[x]? = H[x]?):PM f m mp E H':=by
 obtain⟨⟨es,h1,h2⟩,h3,h4,h5,h6⟩:=h
 exact⟨⟨es,by rw[hk _ (by simp)];exact h1,h2.keep fun e he=>hk _ (List.mem_cons_of_mem _ (List.mem_map_of_mem he))⟩,h3,h4,h5,h6⟩
theorem PM.look {f:Nat→Int×Int} {m mp:Nat} {E:List PEnt} {H:List IBlk} (h:PM f m mp E H) (k:Int×Int) {bx:List (Nat×IBlk)} {C:Oracle} {ρ:Opd→IVal} {x y:Opd} (hx:ρ x = .map mp) (hy:ρ y = .agg (keyI k)) :
 ∃v,evalOp C ρ ⟨bx,H⟩ (.lookup false (.p .nilslice) ⟨true,[.int, .int]⟩ x y)=some (v,⟨bx,H⟩)∧(v = .p .nilslice∧idsOf f m k=[]∨∃b∈E.map (·.blk),HS H b 1 (idsOf f m k).length v (idC (idsOf f m k))):=by
 obtain⟨⟨es,h1,h2⟩,h3,h4,h5,h6⟩:=h
 have hg:Mem.get ⟨bx,H⟩ (.heap mp)=some (.map es E.length):=h1
 simp only[evalOp,hx,hy,zacn,hg]
 rcases h2.find (k:=k) 0 h5 with⟨g1,g2⟩|⟨n,e,v,g1,g2,g3,g4,g5⟩
 ·refine⟨.p .nilslice,by rw[g2];rfl, .inl ⟨rfl,?_⟩⟩
  refine List.filter_eq_nil_iff.2 fun i hi=>?_
  simp only[Bool.and_eq_true,decide_eq_true_eq,not_and]
  intro hp he
  exact g1 (he ▸ h4 i hp (List.mem_range.1 hi))
 ·have he:=List.mem_of_getElem? g1
  refine⟨v,by rw[g3];rfl, .inr ⟨e.blk,List.mem_map_of_mem he,?_⟩⟩
  rw[h3 e he,g2]at g4
  exact g4
theorem zwe {α:Type}:∀(l:List α) (n:Nat) (f:α→α) (x:α),l[n]? = some x→f x=x→l.modify n f=l
 | [],n,f,x,h,_=>by simp at h
 |y::l,0,f,x,h,e=>by cases h;simp[e]
 |y::l,n+1,f,x,h,e=>by simp[zwe l n f x (by simpa using h) e]
theorem PM.step {f:Nat→Int×Int} {m mp:Nat} {E:List PEnt} {H:List IBlk} (h:PM f m mp E H) (hm:0<m) (hb:m<1000000) (hlt:∀x∈mp::E.map (·.blk),x<H.length) {bx:List (Nat×IBlk)} {C:Oracle} :
 ∃v s H1 v2 H2 H3 E',
  (∀ {ρ:Opd→IVal} {x y:Opd},ρ x = .map mp→ρ y = .agg (keyI (f m))→evalOp C ρ ⟨bx,H++[.cells (idC [m]) 1 0 false]⟩ (.mapEnt (.p .nilslice) ⟨true,[.int, .int]⟩ x y)=some (.tup [v, .p (.int .i64 s)],⟨bx,H1⟩)) ∧
  v.passOK=true∧evalAppend ⟨bx,H1⟩ 1 v (.slice H.length 0 0 1)=some (v2,⟨bx,H2⟩)∧v2.passOK=true∧(∃ a b c,v2 = .slice a b 0 c)∧(v = .p .nilslice∨∃a b c,v = .slice a b 0 c) ∧
  (∀ {ρ:Opd→IVal} {x y z:Opd},ρ x = .map mp→ρ y = .p (.int .i64 s)→ρ z=v2→evalOp C ρ ⟨bx,H2⟩ (.entSt x y z)=some (.tup [],⟨bx,H3⟩)) ∧
  PM f (m+1) mp E' H3∧H.length≤H3.length∧(∀ x,x<H.length→x∉mp::E.map (·.blk)→H3[x]? = H[x]?)∧(∀ x∈E'.map (·.blk),x∈E.map (·.blk)∨H.length≤x)∧(∀ x∈mp::E'.map (·.blk),x<H3.length):=by
 obtain⟨⟨es,h1,h2⟩,h3,h4,h5,h6⟩:=h
 have hmp:=hlt mp (by simp)
 obtain⟨B,hB⟩:∃B,B=IBlk.cells (idC [m]) 1 0 false:=⟨_,rfl⟩
 rw[← hB]
 have hg:Mem.get ⟨bx,H++[B]⟩ (.heap mp)=some (.map es E.length):=by
  show(H++[B])[mp]? = _
  rw[List.getElem?_append_left hmp];exact h1
 have hids:∀e∈E,e.ids.length≤m:=fun e he=>by rw[h3 e he];unfold idsOf;exact Nat.le_trans (List.length_filter_le _ _) (by simp)
 rcases h2.find (k:=f m) 0 h5 with⟨g1,g2⟩|⟨n,e,v,g1,g2,g3,g4,g5⟩
 ·
  have hE0:EOK (H++[B]) E es 0:=h2.keep fun e he=>by rw[List.getElem?_append_left (hlt _ (List.mem_cons_of_mem _ (List.mem_map_of_mem he)))]
  obtain⟨H1,hH1⟩:∃H1,(H++[B]).set mp (.map (es++[(.agg (keyI (f m)), .p .nilslice,E.length)]) (E.length+1))=H1:=⟨_,rfl⟩
  have hH1l:H1.length=H.length+1:=by rw[← hH1];simp
  have hsrc:srcCells ⟨bx,H1⟩ 1 (.slice H.length 0 0 1)=some (idC [m]):=by
   refine zacm (op:=false) ?_ ?_
   ·rw[← hH1,List.getElem?_set_ne (by omega),List.getElem?_append_right (by omega),Nat.sub_self,hB];rfl
   ·simp[idC]
  have happ:=append_nil (bx:=bx) (H:=H1) (esz:=1) (ny:=1) hsrc rfl (by omega) (by omega)
  have hget1:H1[mp]? = some (.map (es++[(.agg (keyI (f m)), .p .nilslice,E.length)]) (E.length+1)):=by rw[← hH1];exact zkh (by simp;omega)
  obtain⟨H2,hH2⟩:∃H2,H1++[IBlk.cells (idC [m]) 1 0 true]=H2:=⟨_,rfl⟩
  have hget2:H2[mp]? = some (.map (es++[(.agg (keyI (f m)), .p .nilslice,E.length)]) (E.length+1)):=by rw[← hH2,List.getElem?_append_left (by omega)];exact hget1
  have hlen:=h2.length
  have hborn:findBorn ((E.length:Nat):Int) (es++[(.agg (keyI (f m)), .p .nilslice,E.length)]) 0=some E.length:=by
   have key:∀(E:List PEnt) (es:List (IVal×IVal×Nat)) (j i:Nat) (x:IVal×IVal×Nat),EOK H E es j→x.2.2=j+E.length→findBorn ((j+E.length:Nat):Int) (es++[x]) i=some (i+E.length):=by
    intro E
    induction E with
    |nil=>intro es j i x h hx;simp only[EOK]at h;subst h;obtain⟨x1,x2,x3⟩:=x;simp only[List.length_nil,Nat.add_zero]at hx;subst hx;simp[findBorn]
    |cons e E ih =>
     rintro es j i x ⟨v,r,e1,e2,e3⟩ hx
     subst e1
     rw[List.cons_append,findBorn,decide_eq_false (by simp;omega)]
     dsimp only
     have:=ih r (j+1) (i+1) x e3 (by rw[hx];simp;omega)
     rw[show j+(e::E).length=j+1+E.length by simp;omega,this]
     simp;omega
   have:=key E es 0 0 (.agg (keyI (f m)), .p .nilslice,E.length) h2 (by simp)
   simpa using this
  obtain⟨v2,hv2⟩:∃v2:IVal,v2 = .slice (H.length+1) 0 0 1:=⟨_,rfl⟩
  rw[hH1l,←hv2,hH2]at happ
  refine⟨.p .nilslice,E.length,H1,v2,H2,H2.set mp (.map (es++[(.agg (keyI (f m)),v2,E.length)]) (E.length+1)),E++[⟨f m,H.length+1,[m]⟩],?_,rfl,happ,by rw[hv2];rfl,⟨_,_,_,hv2⟩, .inl rfl,?_,?_,?_,?_,?_,?_⟩
  ·intro ρ x y hx hy
   simp only[evalOp,hx,hy,zacn,hg,g2,Mem.put,hH1]
  ·intro ρ x y z hx hy hz
   have hg2:Mem.get ⟨bx,H2⟩ (.heap mp)=some (.map (es++[(.agg (keyI (f m)), .p .nilslice,E.length)]) (E.length+1)):=hget2
   have hpo:v2.passOK=true:=by rw[hv2];rfl
   simp only[evalOp,hx,hy,hz,hpo,hg2,hborn,Mem.put]
   congr 4
   have key:∀(es:List (IVal×IVal×Nat)) (x:IVal×IVal×Nat) (n:Nat) (g:IVal×IVal×Nat→IVal×IVal×Nat),es.length=n→(es++[x]).modify n g=es++[g x]:=by
    intro es
    induction es with
    |nil=>intro x n g h;subst h;rfl
    |cons a es ih=>intro x n g h;subst h;simp[ih x es.length g rfl]
   rw[key es _ E.length _ hlen]
  ·obtain⟨H3,hH3⟩:∃H3,H2.set mp (.map (es++[(.agg (keyI (f m)),v2,E.length)]) (E.length+1))=H3:=⟨_,rfl⟩
   rw[hH3]
   have hH3x:∀x,x≠mp→H3[x]? = H2[x]? := fun x hx=>by rw[← hH3,List.getElem?_set_ne (Ne.symm hx)]
   have hold:∀x,x<H.length→x≠mp→H3[x]? = H[x]? := fun x hx hne=>by
    rw[hH3x x hne,←hH2,List.getElem?_append_left (by omega),←hH1,List.getElem?_set_ne (Ne.symm hne),List.getElem?_append_left hx]
   rw[List.nodup_cons]at h6
   refine⟨⟨_,by rw[← hH3];simp only[List.length_append,List.length_singleton];exact zkh (by rw[← hH2];simp;omega),?_⟩,?_,?_,?_,?_⟩
   ·have hE3:EOK H3 E es 0:=h2.keep fun e he=>hold _ (hlt _ (List.mem_cons_of_mem _ (List.mem_map_of_mem he))) (fun e'=>h6.1 (e' ▸ List.mem_map_of_mem he))
    have:=EOK.append (x:=⟨f m,H.length+1,[m]⟩) (v:=v2) (H:=H3) ⟨0,idC [m],true,hv2,by
     dsimp only
     rw[hH3x _ (by omega),←hH2,List.getElem?_append_right (by omega),hH1l,Nat.sub_self];rfl,by simp[idC],by simp[idC]⟩ hE3
    simpa using this
   ·intro e he
    rcases List.mem_append.1 he with he|he
    ·rw[h3 e he,zlt,if_neg (fun hc:0<m∧f m=e.key=>g1 (hc.2 ▸ List.mem_map_of_mem he))]
    ·rw[List.mem_singleton]at he
     subst he
     dsimp only
     rw[zlt,if_pos ⟨hm,rfl⟩]
     have:idsOf f m (f m)=[]:=by
      refine List.filter_eq_nil_iff.2 fun i hi=>?_
      simp only[Bool.and_eq_true,decide_eq_true_eq,not_and]
      intro hp he
      exact g1 (he ▸ h4 i hp (List.mem_range.1 hi))
     rw[this];rfl
   ·intro i h0 hi
    rw[List.map_append,List.mem_append]
    rcases Nat.lt_or_ge i m with h'|h'
    ·exact .inl (h4 i h0 h')
    ·have:i=m:=by omega
     subst this;exact .inr (by simp)
   ·rw[List.map_append]
    refine List.nodup_append.2 ⟨h5,by simp,fun a ha b hb e=>?_⟩
    simp at hb;subst hb e
    exact g1 ha
   ·rw[List.map_append,List.nodup_cons,List.mem_append,not_or]
    refine⟨⟨h6.1,by simp;omega⟩,List.nodup_append.2 ⟨h6.2,by simp,fun a ha b hb e=>?_⟩⟩
    simp at hb;subst hb e
    have:=hlt _ (List.mem_cons_of_mem _ ha)
    omega
  ·rw[List.length_set,←hH2];simp;omega
  ·intro x hx hno
   rw[List.mem_cons,not_or]at hno
   rw[List.getElem?_set_ne (Ne.symm hno.1),←hH2,List.getElem?_append_left (by omega),←hH1,List.getElem?_set_ne (Ne.symm hno.1),List.getElem?_append_left hx]
  ·intro x hx
   rw[List.map_append,List.mem_append]at hx
   rcases hx with hx|hx
   ·exact .inl hx
   ·simp at hx;exact .inr (by omega)
  ·intro x hx
   rw[List.length_set,←hH2,List.length_append,hH1l]
   rw[List.mem_cons,List.map_append,List.mem_append]at hx
   rcases hx with rfl|hx|hx
   ·simp;omega
   ·have:=hlt _ (List.mem_cons_of_mem _ hx);simp;omega
   ·simp at hx;subst hx;simp
 ·
  have he:=List.mem_of_getElem? g1
  have hen:=(List.getElem?_eq_some_iff.1 g1).1
  have hebl:=hlt _ (List.mem_cons_of_mem _ (List.mem_map_of_mem he))
  have hids:=hids e he
  rw[List.nodup_cons]at h6
  have hne:e.blk≠mp:=fun e'=>h6.1 (e' ▸ List.mem_map_of_mem he)
  have hmod:es.modify n (fun x=>(IVal.agg (keyI (f m)),x.2.1,x.2.2))=es:=zwe _ _ _ _ g5 rfl
  have hsame:(H++[B]).set mp (.map es E.length)=H++[B]:=by
   apply List.ext_getElem?
   intro i
   by_cases hi:i=mp
   ·subst hi
    rw[zkh (by simp;omega)];exact hg.symm
   ·rw[List.getElem?_set_ne (Ne.symm hi)]
  have hgk:HS (H++[B]) e.blk 1 e.ids.length v (idC e.ids):=g4.keep (List.getElem?_append_left hebl)
  obtain⟨ver,cs,op,rfl,hk1,hk2,hk3⟩:=hgk
  have hsrc:srcCells ⟨bx,H++[B]⟩ 1 (.slice H.length 0 0 1)=some (idC [m]):=by
   refine zacm (op:=false) ?_ ?_
   ·rw[List.getElem?_append_right (by omega),Nat.sub_self,hB];rfl
   ·simp[idC]
  have happ:=zwd (bx:=bx) hk1 hk2 hsrc rfl (by omega) (ny:=1) (by omega)
  have hnew:=zaxr (H:=H++[B]) (ver:=ver) (op:=op) (ys:=idC [m]) (ny:=1) (k:=e.blk) (by simp;omega) hk2 (by simp[idC])
  rw[hk3]at hnew
  obtain⟨H2,hH2⟩:∃H2,(H++[B]).set e.blk (appBlk cs (idC [m]) 1 e.ids.length 1 ver op)=H2:=⟨_,rfl⟩
  rw[hH2]at happ hnew
  obtain⟨v2,hv2⟩:∃v2:IVal,v2 = .slice e.blk (appVer cs 1 e.ids.length 1 ver) 0 (e.ids.length+1):=⟨_,rfl⟩
  rw[← hv2]at happ hnew
  have hget2:Mem.get ⟨bx,H2⟩ (.heap mp)=some (.map es E.length):=by
   show H2[mp]? = _
   rw[← hH2,List.getElem?_set_ne hne];exact hg
  have hborn:=h2.born 0 n hen
  rw[Nat.zero_add]at hborn
  obtain⟨H3,hH3⟩:∃H3,H2.set mp (.map (es.modify n fun x=>(x.1,v2,x.2.2)) E.length)=H3:=⟨_,rfl⟩
  have hbornAt:bornAt es n=n:=by rw[bornAt,g5];simp
  have hH3x:∀x,x≠mp→H3[x]? = H2[x]? := fun x hx=>by rw[← hH3,List.getElem?_set_ne (Ne.symm hx)]
  have hold:∀x,x<H.length→x≠mp→x≠e.blk→H3[x]? = H[x]? := fun x hx h0 h1=>by
   rw[hH3x x h0,←hH2,List.getElem?_set_ne (Ne.symm h1),List.getElem?_append_left hx]
  have hmap:(E.set n ⟨e.key,e.blk,e.ids++[m]⟩).map (·.blk)=E.map (·.blk):=by
   rw[List.map_set]
   apply List.ext_getElem?
   intro i
   by_cases hi:i=n
   ·subst hi;rw[List.getElem?_set_self (by simpa using hen),List.getElem?_map,g1];rfl
   ·rw[List.getElem?_set_ne (Ne.symm hi)]
  have hmapk:(E.set n ⟨e.key,e.blk,e.ids++[m]⟩).map (·.key)=E.map (·.key):=by
   rw[List.map_set]
   apply List.ext_getElem?
   intro i
   by_cases hi:i=n
   ·subst hi;rw[List.getElem?_set_self (by simpa using hen),List.getElem?_map,g1];rfl
   ·rw[List.getElem?_set_ne (Ne.symm hi)]
  refine⟨.slice e.blk ver 0 e.ids.length,n,H++[B],v2,H2,H3,E.set n ⟨e.key,e.blk,e.ids++[m]⟩,?_,rfl,happ,by rw[hv2];rfl,⟨_,_,_,hv2⟩, .inr ⟨_,_,_,rfl⟩,?_,?_,?_,?_,?_,?_⟩
  ·intro ρ x y hx hy
   rw[Nat.zero_add]at g3
   simp only[evalOp,hx,hy,zacn,hg,g3,Mem.put,hmod,hsame,hbornAt]
  ·intro ρ x y z hx hy hz
   have hpo:v2.passOK=true:=by rw[hv2];rfl
   simp only[evalOp,hx,hy,hz,hpo,hget2,hborn,Mem.put,hH3]
  ·refine⟨⟨_,by rw[← hH3,List.length_set];exact zkh (by rw[← hH2];simp;omega),?_⟩,?_,?_,by rw[hmapk];exact h5,by rw[hmap,List.nodup_cons];exact h6⟩
   ·have hH23:H3[e.blk]? = H2[e.blk]? := hH3x _ hne
    have hE3:=EOK.set (H':=H3) (ids':=e.ids++[m]) (v':=v2) h2 g1 (by
     have:idC (e.ids++[m])=idC e.ids++idC [m]:=by simp[idC]
     rw[this,List.length_append]
     exact hnew.keep hH23) (fun k x hk hx=>by
      have hx':=List.mem_of_getElem? hx
      refine hold _ (hlt _ (List.mem_cons_of_mem _ (List.mem_map_of_mem hx'))) (fun e'=>h6.1 (e' ▸ List.mem_map_of_mem hx')) (fun e'=>hk ?_)
      have a1:(E.map (·.blk))[k]? = some x.blk:=by rw[List.getElem?_map,hx];rfl
      have a2:(E.map (·.blk))[n]? = some e.blk:=by rw[List.getElem?_map,g1];rfl
      have hkl:k<(E.map (·.blk)).length:=(List.getElem?_eq_some_iff.1 a1).1
      exact(List.getElem?_inj hkl h6.2).1 (by rw[a1,a2,e']))
    exact hE3
   ·intro x hx
    rcases List.mem_iff_getElem?.1 hx with⟨k,hk⟩
    by_cases hkn:k=n
    ·subst hkn
     rw[List.getElem?_set_self hen]at hk
     cases hk
     dsimp only
     rw[h3 e he,g2,zlt,if_pos ⟨hm,rfl⟩]
    ·rw[List.getElem?_set_ne (Ne.symm hkn)]at hk
     have hx':=List.mem_of_getElem? hk
     rw[h3 x hx',zlt,if_neg]
     rintro⟨_,hc⟩
     have a1:(E.map (·.key))[k]? = some x.key:=by rw[List.getElem?_map,hk];rfl
     have a2:(E.map (·.key))[n]? = some e.key:=by rw[List.getElem?_map,g1];rfl
     have hkl:k<(E.map (·.key)).length:=(List.getElem?_eq_some_iff.1 a1).1
     exact hkn ((List.getElem?_inj hkl h5).1 (by rw[a1,a2,g2,hc]))
   ·intro i h0 hi
    rw[hmapk]
    rcases Nat.lt_or_ge i m with h'|h'
    ·exact h4 i h0 h'
    ·have:i=m:=by omega
     subst this;rw[← g2];exact List.mem_map_of_mem he
  ·rw[← hH3,List.length_set,←hH2];simp
  ·intro x hx hno
   rw[List.mem_cons,not_or]at hno
   exact hold x hx hno.1 (fun e'=>hno.2 (e' ▸ List.mem_map_of_mem he))
  ·intro x hx
   rw[hmap]at hx;exact .inl hx
  ·intro x hx
   rw[hmap]at hx
   have:=hlt x hx
   rw[← hH3,List.length_set,←hH2];simp;omega
def two (x y:IVal):Opd→IVal
 | .tmp 0=>x
 |_=>y
def three (x y z:IVal):Opd→IVal
 | .tmp 0=>x
 | .tmp 1=>y
 |_=>z
def mapEntF (z:IVal) (cls:KTy) (x k:IVal) (H:List IBlk):Option (IVal×List IBlk):=(evalOp noOracle (two x k) ⟨[],H⟩ (.mapEnt z cls (.tmp 0) (.tmp 1))).map fun p=>(p.1,p.2.heap)
def lookupF (ok:Bool) (z:IVal) (cls:KTy) (x k:IVal) (H:List IBlk):Option IVal:=(evalOp noOracle (two x k) ⟨[],H⟩ (.lookup ok z cls (.tmp 0) (.tmp 1))).map fun p=>p.1
def entStF (x s v:IVal) (H:List IBlk):Option (IVal×List IBlk):=(evalOp noOracle (three x s v) ⟨[],H⟩ (.entSt (.tmp 0) (.tmp 1) (.tmp 2))).map fun p=>(p.1,p.2.heap)
theorem zpe {α β:Type} {o:Option α} {g:α→β} {Q:β→Prop}:gets (o.map g) Q↔gets o fun a=>Q (g a):=by
 cases o<;>simp[gets]
section
variable {C:Oracle} {ρ:Opd→SV} {M:KM} {k:SV→KM→Prop}
@[simp ↓ high] theorem zaxs {c:KTy} {z:IVal} {x y:Opd}:wpOp C ρ M (.mapEnt z c x y) k=gets (mapEntF z c (ρ x).den (ρ y).den M.H) (@hid _ ⟨fun p=>k (up p.1) ⟨M.B,p.2⟩⟩):=by
 have:wpOp C ρ M (.mapEnt z c x y) k=gets (evalOp C (fun o=>(ρ o).den) ⟨[],M.H⟩ (.mapEnt z c x y)) fun p=>k (up p.1) ⟨M.B,p.2.heap⟩:=rfl
 rw[this]
 unfold mapEntF
 apply propext
 refine Iff.trans ?_ zpe.symm
 rfl
@[simp ↓ high] theorem zaxt {c:KTy} {z:IVal} {o:Bool} {x y:Opd}:wpOp C ρ M (.lookup o z c x y) k=gets (lookupF o z c (ρ x).den (ρ y).den M.H) (@hid _ ⟨fun v=>k (up v) M⟩):=by
 have:wpOp C ρ M (.lookup o z c x y) k=gets (evalOp C (fun o=>(ρ o).den) ⟨[],M.H⟩ (.lookup o z c x y)) fun p=>k (up p.1) ⟨M.B,p.2.heap⟩:=rfl
 rw[this]
 unfold lookupF
 apply propext
 refine Iff.trans ?_ zpe.symm
 have e:evalOp C (fun o=>(ρ o).den) ⟨[],M.H⟩ (.lookup o z c x y)=evalOp noOracle (two (ρ x).den (ρ y).den) ⟨[],M.H⟩ (.lookup o z c (.tmp 0) (.tmp 1)):=rfl
 rw[e]
 have hM:∀p,evalOp noOracle (two (ρ x).den (ρ y).den) ⟨[],M.H⟩ (.lookup o z c (.tmp 0) (.tmp 1))=some p→p.2.heap=M.H:=by
  intro p hp
  simp only[evalOp,lookRes]at hp
  repeat' (split at hp)
  all_goals first|(cases hp;done)|(injection hp with hp;subst hp;rfl)
 cases hq:evalOp noOracle (two (ρ x).den (ρ y).den) ⟨[],M.H⟩ (.lookup o z c (.tmp 0) (.tmp 1))with
 |none=>simp[]
 |some p =>
  have e2:=hM p hq
  rw[zhb,zhb,e2]
  rfl
@[simp ↓ high] theorem zbbj {x y z:Opd}:wpOp C ρ M (.entSt x y z) k=gets (entStF (ρ x).den (ρ y).den (ρ z).den M.H) (@hid _ ⟨fun p=>k (up p.1) ⟨M.B,p.2⟩⟩):=by
 have:wpOp C ρ M (.entSt x y z) k=gets (evalOp C (fun o=>(ρ o).den) ⟨[],M.H⟩ (.entSt x y z)) fun p=>k (up p.1) ⟨M.B,p.2.heap⟩:=rfl
 rw[this]
 unfold entStF
 apply propext
 refine Iff.trans ?_ zpe.symm
 rfl
end
end Go.Ideal

/-
  IDEAL SEMANTICS: MAPS WHOSE KEYS ARE NUMBERS: entries in the order in which they came, their stamps their places.
-/
namespace Go.Ideal
open Go
set_option linter.unusedSectionVars false
variable [Tabs]
attribute [-simp] getElem?_pos
def ME0:Nat→List (Int×IVal)→List (IVal×IVal×Nat)
 |_,[]=>[]
 |n,(k,v)::r=>(.p (.int .i64 k),v,n)::ME0 (n+1) r
theorem zaxu:∀(E:List (Int×IVal)) (n:Nat),(ME0 n E).length=E.length
 | [],_=>rfl
 |(a,v)::r,n=>by simp[ME0,zaxu r]
def mapUpdF (cls:KTy) (x k v:IVal) (H:List IBlk):Option (IVal×List IBlk):=(evalOp noOracle (three x k v) ⟨[],H⟩ (.mapUpd cls (.tmp 0) (.tmp 1) (.tmp 2))).map fun p=>(p.1,p.2.heap)
section
variable {C:Oracle} {ρ:Opd→SV} {M:KM} {k:SV→KM→Prop}
@[simp ↓ high] theorem zaxv {c:KTy} {x y z:Opd}:wpOp C ρ M (.mapUpd c x y z) k=gets (mapUpdF c (ρ x).den (ρ y).den (ρ z).den M.H) (@hid _ ⟨fun p=>k (up p.1) ⟨M.B,p.2⟩⟩):=by
 have:wpOp C ρ M (.mapUpd c x y z) k=gets (evalOp C (fun o=>(ρ o).den) ⟨[],M.H⟩ (.mapUpd c x y z)) fun p=>k (up p.1) ⟨M.B,p.2.heap⟩:=rfl
 rw[this]
 unfold mapUpdF
 apply propext
 refine Iff.trans ?_ zpe.symm
 rfl
end
section
variable {H:List IBlk} {m:Nat} {E:List (Int×IVal)} {k:Int}
end
end Go.Ideal

/-
  THE MATCH's LAST STEPS: its pairs out of a map in any order, sorted.
-/
namespace Go.Ideal
open Go
set_option maxHeartbeats 4000000
set_option maxRecDepth 20000
attribute [-simp] getElem?_pos
def vI (n:Nat):IVal := .p (.int .i64 n)
theorem zaqz:∀L:List (Nat×Nat),(prc L).length=L.length*2
 | []=>rfl
 |p::L=>by
  have:=zaqz L
  simp only[prc,List.flatMap_cons,List.length_append,List.length_cons,List.length_nil]at this ⊢
  omega
def toE (L:List (Nat×Nat)):List (Int×IVal):=L.map fun p=>((p.1:Int),vI p.2)
theorem zalv (L:List (Nat×Nat)):(pcells (prc L)).length=L.length*2:=by rw[pcells,List.length_map,zaqz]
theorem zbbk {g:FuncId} (hg:g∈[F_Q91,F_Q39,F_Q63,F_Q135]) (v:IVal) (o:Option Nat) (L:List (Nat×Nat)) (hn:(L.map (·.1)).Nodup) (hs:L.length<1000000) (H:List IBlk) (h:VS H o 2 L.length v (pcells (prc L))) :
 ∃H',CW tr.look F_Q38 [v, .p (.func g)] H=some (.tup [],H')∧VS H' o 2 L.length v (pcells (prc (sortP L))):=by
 have hlen:(sortP L).length=L.length:=(zhf L).length_eq
 cases o with
 |none =>
  obtain⟨rfl,h1,h2⟩:=h
  have hL:L=[]:=List.length_eq_zero_iff.1 h1
  subst hL
  exact⟨H,zqs none_Q38 (zkl hg (zsp _ _ _)),rfl,rfl,by simp[sortP,prc,pcells]⟩
 |some k =>
  obtain⟨ver,cs,op,rfl,hk,hl,hx⟩:=h
  have hsz:(L.map toI).toArray.size=L.length:=by simp
  by_cases h0:L.length=0
  ·obtain rfl:L=[]:=List.length_eq_zero_iff.1 h0
   exact⟨H,zqs none_Q38 (zkl hg (zys _ _ _ _ _ _)),ver,cs,op,rfl,hk,by omega,by simpa[sortP]using hx⟩
  ·have hs:=zsq pairKit g (H:=H) (i:=k) (ver:=ver) (off:=0) (L.map toI).toArray hk (by omega) (by omega) (by rw[hsz];show 0+L.length*2≤_;omega) (by
    rw[hsz,zacl,List.drop_zero];exact hx)
   rw[hsz,zss hn,zacl]at hs
   refine⟨_,zqs none_Q38 (zkl hg hs),ver,_,op,rfl,zkh (List.getElem?_eq_some_iff.1 hk).1,?_,?_⟩
   ·have:(pcells (prc (sortP L))).length=L.length*2:=by rw[zalv,hlen]
    simp only[splice,List.length_append,List.length_take,List.length_drop];omega
   ·have:(pcells (prc (sortP L))).length=L.length*2:=by rw[zalv,hlen]
    simp only[splice,List.take_zero,List.nil_append]
    rw[List.take_append_of_le_length (by omega),List.take_of_length_le (by omega)]
section
variable {C:Oracle} {n i:Nat} {blk:IBlk} {Q:IVal→List IBlk→Prop} {T:Env} {M:KM}
theorem zavj {k v:IVal} {s:Nat} {σ:List Ent}:rndK C i_Q29 n i blk Q ((k,v,s)::σ) T M=maskS m_Q29_90 T M fun T M=>lookE T 128 = .v (.opq n)∧wp C 143 (.block 7 b_Q29_91 (.seq (.reg [] c_Q29_73) c_Q29_71)) (fun e T M=>e = .normal∧M.H[i]? = some blk∧rndK C i_Q29 n i blk Q σ T M) (putK 143 (putK 143 (putK 143 T (some 129) (up (.tup [.p (.bool true),k,v]))) (some 130) (.bool true)) (some 131) (up (.tup [k,v]))) M:=rfl
theorem zbbl:rndK C i_Q29 n i blk Q [] T M=maskS m_Q29_90 T M fun T M=>lookE T 128 = .v (.opq n)∧maskS b_Q29_92 (putK 143 (putK 143 T (some 129) .U) (some 130) (.bool false)) M fun T M=>wp C 143 c_Q29_72 (retK [.tmp 4] Q) T M:=rfl
end
def entP (e:Ent):Nat×Nat:=match e with
 |(.p (.int _ a), .p (.int _ b),_)=>(a.toNat,b.toNat)
 |_=>(0,0)
theorem zalw:∀(L:List (Nat×Nat)) (n:Nat),∀e∈ME0 n (toE L),∃p∈L,∃s,e=(vI p.1,vI p.2,s)
 | [],n,e,h=>by simp[toE,ME0]at h
 |p::L,n,e,h=>by
  simp only[toE,List.map_cons,ME0]at h
  rcases List.mem_cons.1 h with rfl|h
  ·exact⟨p,by simp,n,rfl⟩
  ·obtain⟨q,hq,s,hs⟩:=zalw L (n+1) e h
   exact⟨q,List.mem_cons_of_mem _ hq,s,hs⟩
theorem zalx:∀(L:List (Nat×Nat)) (n:Nat),(ME0 n (toE L)).map entP=L
 | [],n=>rfl
 |p::L,n=>by
  have:=zalx L (n+1)
  simp only[toE,List.map_cons,ME0]at this ⊢
  rw[this]
  simp[entP,vI]
theorem zno:∀(E:List (Int×IVal)) (n:Nat),(ME0 n E).map (·.2.2)=List.range' n E.length
 | [],n=>rfl
 |(k,v)::E,n=>by simp only[ME0,List.map_cons,zno E (n+1),List.length_cons,List.range'_succ]
theorem zaco (E:List (Int×IVal)):stamps (ME0 0 E) E.length:=by
 refine⟨by rw[zno];exact List.nodup_range',fun e he=>?_⟩
 have:e.2.2∈(ME0 0 E).map (·.2.2):=List.mem_map.2 ⟨e,he,rfl⟩
 rw[zno,List.mem_range'_1]at this
 omega
theorem zagf (n:Nat) (blk:IBlk) (r:IVal):∀(σ:List Ent) (D:List (Nat×Nat)) (lv:IVal) (o:Option Nat) (K:List IBlk) (T:Env) (B:List (Nat×Option KB)),
 (∀ e∈σ,∃p:Nat×Nat,∃s,e=(vI p.1,vI p.2,s))→D.length+σ.length<1000000→lookE T 16 = .v lv→lookE T 128 = .v (.opq n)→K[0]? = some blk→VS K o 2 D.length lv (pcells (prc D))→o≠some 0 →
 (∀ K' lv' o',K'[0]? = some blk→VS K' o' 2 (D++σ.map entP).length lv' (pcells (prc (D++σ.map entP)))→∃K2,CW tr.look F_Q38 [lv', .p (.func F_Q63)] K'=some (.tup [],K2)∧freezeRes K2 lv'=some r∧freshRes K2 lv'=true) →
 rndK (CW tr.look) i_Q29 n 0 blk (fun v H'=>freezeRes H' v=some r∧freshRes H' v=true) σ T ⟨B,K⟩
 | [],D,lv,o,K,T,B,_,_,hT,hn,hb,hv,ho,hQ=>by
   rw[zbbl]
   obtain⟨K2,q1,q2,q3⟩:=hQ K lv o hb (by simpa using hv)
   have hup:=hv.up
   have hps:=hv.pass
   simp(disch:=omega) [hT,hn,c_Q29_72,q1,hps,q2,q3]
 |e::σ,D,lv,o,K,T,B,hs,hl,hT,hn,hb,hv,ho,hQ=>by
  obtain⟨p,s,rfl⟩:=hs e (by simp)
  rw[zavj]
  have hup:=hv.up
  have hps:=hv.pass
  obtain⟨lv2,K2,o2,a1,a2,a3,a4,a5,⟨k2,a6⟩⟩:=hv.append1 (ys:=[.p (.int .i64 p.1), .p (.int .i64 p.2)]) rfl (by simp at hl;omega)
  have hup2:=a2.up
  simp(disch:=omega) [hT,hn,c_Q29_73,c_Q29_71,vI,a1,hup2]
  have hkl:=(List.getElem?_eq_some_iff.1 hb).1
  have hb2:K2[0]? = some blk:=by rw[a3.2 0 hkl ho];exact hb
  have hprc:pcells (prc (D++[p]))=pcells (prc D)++[.p (.int .i64 p.1), .p (.int .i64 p.2)]:=by simp[prc,pcells]
  have hmap:D++((vI p.1,vI p.2,s)::σ).map entP=(D++[p])++σ.map entP:=by
   simp[entP,vI]
  refine⟨hb2,zagf n blk r σ (D++[p]) lv2 o2 K2 _ _ (fun e he=>hs e (List.mem_cons_of_mem _ he)) (by simp at hl ⊢;omega) rfl rfl hb2 (by rw[hprc,List.length_append,List.length_singleton];exact a2) ?_ (fun K' lv' o' g1 g2=>hQ K' lv' o' g1 (by rw[hmap];exact g2))⟩
  rcases a5 with rfl|⟨k,rfl,hk⟩
  ·exact ho
  ·intro h
   injection h with h
   omega
theorem zagg {H:List IBlk} {o:Option Nat} {L:List (Nat×Nat)} {v:IVal} (h:VS H o 2 L.length v (pcells (prc L))) (h0:L≠[]):freezeRes H v=some (.p (.slice 2 L.length (prc L))):=by
 cases o with
 |none=>obtain⟨_,h2,_⟩:=h;exact absurd (List.length_eq_zero_iff.1 h2) h0
 |some k =>
  have h1:=zaqx h
  simp only at h1
  obtain⟨ver,cs,op,rfl,_⟩:=h
  simp only[freezeRes,freezeOne,h1]
theorem zaas {g:IVal→Bool}:∀ {l:List IVal},(∀ v∈l,g v=true)→freshCells g l=true
 | [],_=>rfl
 |v::l,h=>by
  simp only[freshCells,h v (by simp)]
  exact zaas fun w hw=>h w (List.mem_cons_of_mem _ hw)
theorem zajn {H:List IBlk} {o:Option Nat} {L:List (Nat×Nat)} {v:IVal} (h:VS H o 2 L.length v (pcells (prc L))):freshRes H v=true:=by
 cases o with
 |none=>obtain⟨rfl,_,_⟩:=h;rfl
 |some k =>
  obtain⟨ver,cs,op,rfl,h1,h2,h3⟩:=h
  have:freshCells (freshCell H 99) ((cs.drop 0).take (L.length*2))=true:=by
   rw[List.drop_zero,h3]
   refine zaas fun w hw=>?_
   obtain⟨p,hp,rfl⟩:=List.mem_map.1 hw
   simp only[prc,List.mem_flatMap,List.mem_cons,List.not_mem_nil,or_false]at hp
   obtain⟨q,_,rfl|rfl⟩:=hp<;>rfl
  show freshCell H (99+1) (.slice k ver 0 L.length)=true
  rw[freshCell]
  simp only[h1]
  exact this
end Go.Ideal
