import Derived.Test.YtpcamifaefigaaaGreatW1
import Derived.Shelf.SlSortCmp.Insertion
import Derived.Sort.AssemblyPlain
import Derived.Shelf.Spec.SlicesInsertGrow
import Derived.Shelf.Small.Strs
import Derived.Test.YtpcamifaefigaaaGreatW5
import Derived.Test.YtpcamifaefigaaaGreatW2
namespace Go.Ideal
open Go
set_option linter.unusedSectionVars false
section
variable [Tabs]
def scalP:PVal->Bool
 | .bool _ | .int _ _ | .str _=>true
 |_=>false
def sv:PVal->Value
 | .bool b=>.bool b
 | .int k n=>.int k n
 | .str s=>.string ⟨s.toArray⟩
 |_=>.bool false
theorem zanw{z:Cells}:∀ {v:PVal},scalP v=true->∀ {r:Value},PRel z v r↔r=sv v
 | .bool b,_,r=>by simp[PRel,sv]
 | .int k n,_,r=>by simp[PRel,sv]
 | .str s,_,r=>by simp[PRel,sv]
 | .slice ..,h,_ | .ptr ..,h,_ | .func ..,h,_ | .nilptr,h,_ | .nilslice,h,_ | .nilmap,h,_ | .nilfunc,h,_ | .niliface,h,_=>by simp[scalP]at h
theorem zbgr:∀ {v:PVal},(sv v).oneCell'=true:=by intro v;cases v<;>rfl
structure SortKit(α:Type) where
 k:Nat
 enc:α->List PVal
 cf:α->α->Int
 len:∀x,(enc x).length=k
 scal:∀x,∀v∈enc x,scalP v=true
 swo:Sort.SWO (Go.Proofs.ltOf cf)
 inj:∀x y,enc x=enc y->x=y
section
variable {α:Type} [Inhabited α]
def SortKit.sort(K:SortKit α)(d:Array α):Array α:=Sort.pdq (Go.Proofs.ltOf K.cf) d 0 d.size (Lib.bitLen d.size) true true
def SortKit.row(K:SortKit α)(d:Array α):List PVal:=d.toList.flatMap K.enc
inductive SortRel(K:SortKit α)(g:FuncId):J3->J2->IVal×J2->Prop
 |nil {H:J2}:SortRel K g [.p .nilslice, .p (.func g)] H (.tup [],H)
 |empty {H:J2}{i ver off:Nat}:SortRel K g [.slice i ver off 0, .p (.func g)] H (.tup [],H)
 |row {H:J2}{i ver off e:Nat}{cs:J3}{op:Bool}(d:Array α)(hb:H[i]? = some (.cells cs e ver op))(hn:0<d.size)(hm:d.size<4611686018427387904)
  (hl:off+d.size*K.k<=cs.length)(hcs:(cs.drop off).take (d.size*K.k)=pcells (K.row d)) :
  SortRel K g [.slice i ver off d.size, .p (.func g)] H (.tup [],H.set i (.cells (splice cs off (pcells (K.row (K.sort d)))) e ver op))
noncomputable def sortSpec(K:SortKit α)(g:FuncId):Spec:=fun args H=>open Classical in if h:∃r,SortRel K g args H r then some h.choose else none
omit [Inhabited α] in
theorem zajd(K:SortKit α):∀ {l m:List α},l.length=m.length->l.flatMap K.enc=m.flatMap K.enc->l=m
 | [],[],_,_=>rfl
 | [],_::_,h,_=>by simp at h
 |_::_,[],h,_=>by simp at h
 |x::l,y::m,h,e=>by
  rw[A0,A0]at e;obtain⟨e1,e2⟩:=List.append_inj e (by rw[K.len,K.len]);rw[K.inj _ _ e1,zajd K (by simpa using h) e2]
theorem zmn(K:SortKit α)(g:FuncId)(H:J2):sortSpec K g [.p .nilslice, .p (.func g)] H=some (.tup [],H):=by
 have hx:∃r,SortRel K g [.p .nilslice, .p (.func g)] H r:=⟨_, .nil⟩;unfold sortSpec;rw[dif_pos hx];have h:=hx.choose_spec;generalize hx.choose=r at h;cases h;rfl
theorem zxz(K:SortKit α)(g:FuncId)(H:J2)(i ver off:Nat):sortSpec K g [.slice i ver off 0, .p (.func g)] H=some (.tup [],H):=by
 have hx:∃r,SortRel K g [.slice i ver off 0, .p (.func g)] H r:=⟨_, .empty⟩;unfold sortSpec;rw[dif_pos hx];have h:=hx.choose_spec;generalize hx.choose=r at h;generalize hs:0=z at h hx;cases h with
 |empty=>rfl
 |row d _ hn=>omega
theorem zmo(K:SortKit α)(g:FuncId){H:J2}{i ver off e:Nat}{cs:J3}{op:Bool}(d:Array α)(hb:H[i]? = some (.cells cs e ver op))(hn:0<d.size)(hm:d.size<4611686018427387904)
 (hl:off+d.size*K.k<=cs.length)(hcs:(cs.drop off).take (d.size*K.k)=pcells (K.row d)) :
 sortSpec K g [.slice i ver off d.size, .p (.func g)] H=some (.tup [],H.set i (.cells (splice cs off (pcells (K.row (K.sort d)))) e ver op)):=by
 have hx:∃r,SortRel K g [.slice i ver off d.size, .p (.func g)] H r:=⟨_, .row d hb hn hm hl hcs⟩;unfold sortSpec;rw[dif_pos hx];have h:=hx.choose_spec;generalize hx.choose=r at h;generalize hs:d.size=sz at h hx;cases h with
 |empty=>omega
 |row d' hb' hn' hm' hl' hcs' =>
  rw[hb]at hb';cases hb';rw[<- hs,hcs]at hcs';have:=zajd K (by simpa using hs) (zyr hcs');have:d=d':=(by rw[<- Array.toList_inj];exact this);subst this;rfl
omit [Inhabited α] in
theorem SortKit.zazw(K:SortKit α)(d:Array α):(K.row d).length=d.size*K.k:=by
 unfold SortKit.row
 have key:∀l:List α,(l.flatMap K.enc).length=l.length*K.k:=by
  intro l
  induction l with
  |nil=>simp
  |cons x l ih=>rw[A0,Ah,K.len,ih,Ay,Be,C9,B3]
 rw[key];rfl
theorem SortKit.perm(K:SortKit α)(d:Array α):Sort.PermIn 0 d.size d (K.sort d)/\Sort.SortedIn (Go.Proofs.ltOf K.cf) 0 d.size (K.sort d) :=
 Go.Sort.pdq_sorts (Go.Proofs.ltOf K.cf) K.swo d 0 d.size (Lib.bitLen d.size) true true (A9 _) (Ak _) (Or.inl rfl)
end
end
section
variable [Tabs]
def pairEnc(p:Int×Int):List PVal:=[.int .i64 p.1, .int .i64 p.2]
def cmpI(a b:Int):Int:=if a<b then -1 else if b<a then 1 else 0
theorem zaax(a b:Int×Int):Go.Proofs.ltOf (fun x y:Int×Int=>cmpI x.1 y.1) a b=decide (a.1<b.1):=by
 unfold Go.Proofs.ltOf cmpI;by_cases h1:a.1<b.1
 ·simp[h1]
 ·by_cases h2:b.1<a.1<;>simp[h1,h2]
def pairKit:SortKit (Int×Int) where
 k:=2
 enc:=pairEnc
 cf x y:=cmpI x.1 y.1
 len _:=rfl
 scal x v hv:=by simp[pairEnc]at hv;rcases hv with rfl|rfl<;>rfl
 swo:={
  irrefl x:=by rw[zaax];simp
  trans x y z h1 h2:=by rw[zaax]at *;simp at *;omega
  ntrans x y z h1 h2:=by rw[zaax]at *;simp at *;omega }
 inj x y h:=by
  simp[pairEnc]at h;exact Prod.ext h.1 h.2
def prc(L:J1):List PVal:=L.flatMap fun p=>[.int .i64 p.1, .int .i64 p.2]
def toI(p:Nat×Nat):Int×Int:=(p.1,p.2)
theorem zsb(L:J1):pairKit.row (L.map toI).toArray=prc L:=by
 show(L.map toI).flatMap pairEnc=_;rw[prc,List.flatMap_map];rfl
def sortP(l:J1):J1:=l.mergeSort fun p q=>decide (p.1<=q.1)
theorem zbh(l:J1):(sortP l).Perm l:=List.mergeSort_perm l _
theorem zgn(l:J1):(sortP l).Pairwise fun p q=>p.1<=q.1:=by
 have h:=List.pairwise_mergeSort (le:=fun p q:Nat×Nat=>decide (p.1<=q.1)) (by intro a b c;simp;omega) (by intro a b;simp;omega) l;exact h.imp fun h=>by simpa using h
theorem zanx{l:J1}(hn:(l.map (·.1)).Nodup){p q:Nat×Nat}(hp:p∈l)(hq:q∈l)(e:p.1=q.1):p=q:=by
 induction l with
 |nil=>cases hp
 |cons x l ih =>
  rw[At,Bm]at hn;rcases Am.1 hp with rfl|hp'<;>rcases Am.1 hq with rfl|hq'
  ·rfl
  ·exact absurd (A3 hq') (e ▸ hn.1)
  ·exact absurd (A3 hp') (e ▸ hn.1)
  ·exact ih hn.2 hp' hq'
theorem ziw{l m:J1}(hn:(l.map (·.1)).Nodup)(hp:m.Perm l)(hs:m.Pairwise fun p q=>p.1<=q.1):m=sortP l:=by
 refine List.Perm.eq_of_pairwise (le:=fun p q:Nat×Nat=>p.1<=q.1) (fun p q h1 h2 h3 h4=>?_) hs (zgn l) (hp.trans (zbh l).symm);exact zanx hn (hp.mem_iff.1 h1) ((zbh l).mem_iff.1 h2) (Nat.le_antisymm h3 h4)
theorem zmp{l:J1}(hn:(l.map (·.1)).Nodup):pairKit.sort (l.map toI).toArray=((sortP l).map toI).toArray:=by
 obtain⟨⟨h1,_,h2⟩,h3⟩:=pairKit.perm (l.map toI).toArray;rw[<- h1]at h3;generalize pairKit.sort (l.map toI).toArray=d at *;have hsz:(l.map toI).toArray.size=l.length:=(by simp)
 have hp:d.toList.Perm (l.map toI):=by
  rw[show(l.map toI).toArray.extract 0 (l.map toI).toArray.size=(l.map toI).toArray from Array.extract_size,show d.extract 0 (l.map toI).toArray.size=d by rw[<- h1];exact Array.extract_size]at h2;exact h2
 obtain⟨m,hm⟩:∃m:J1,d.toList=m.map toI:=by
  have:∀L:List (Int×Int),(∀ x∈L,∃p:Nat×Nat,x=toI p)->∃m:J1,L=m.map toI:=by
   intro L
   induction L with
   |nil=>intro _;exact⟨[],rfl⟩
   |cons x L ih =>
    intro h;obtain⟨p,rfl⟩:=h x (by simp);obtain⟨m,rfl⟩:=ih fun x hx=>h x (by simp[hx]);exact⟨p::m,rfl⟩
  refine this _ fun x hx=>?_;have:=hp.mem_iff.1 hx;obtain⟨p,_,rfl⟩:=AZ.1 this;exact⟨p,rfl⟩
 have inj:∀p q:Nat×Nat,toI p=toI q->p=q:=fun p q h=>by
  simp only[toI,Prod.mk.injEq]at h;exact Prod.ext (by omega) (by omega)
 have key:∀L M:J1,L.map toI=M.map toI->L=M:=by
  intro L
  induction L with
  |nil=>intro M h;cases M with|nil=>rfl|cons _ _=>simp at h
  |cons x L ih =>
   intro M h;cases M with
   |nil=>simp at h
   |cons y M =>
    simp only[At,Cw]at h;rw[inj _ _ h.1,ih M h.2]
 have hpm:m.Perm l:=by
  have h5:=(hm ▸ hp).map fun x:Int×Int=>(x.1.toNat,x.2.toNat);rw[List.map_map,List.map_map]at h5
  have e:((fun x:Int×Int=>(x.1.toNat,x.2.toNat)) ∘ toI)=id:=by
   funext p;simp[toI]
  rw[e,List.map_id,List.map_id]at h5;exact h5
 have hsm:m.Pairwise fun p q=>p.1<=q.1:=by
  rw[Ch];intro i j hi hj hij;have hlen:d.size=m.length:=(by rw[<- Bj,hm];simp);have:=h3 i j (A9 _) hij (by omega);rw[show pairKit.cf=fun x y=>cmpI x.1 y.1 from rfl,zaax]at this
  have e1:d[i]! = toI m[i]:=by
   rw[getElem!_pos d i (by omega)];have:d.toList[i]'(by rw[Bj];omega)=toI m[i]:=(by simp only[hm,BZ])
   simpa using this
  have e2:d[j]! = toI m[j]:=by
   rw[getElem!_pos d j (by omega)];have:d.toList[j]'(by rw[Bj];omega)=toI m[j]:=(by simp only[hm,BZ])
   simpa using this
  rw[e1,e2]at this;simp[toI]at this;omega
 rw[<- Array.toList_inj,hm,ziw hn hpm hsm]
end
end Go.Ideal
namespace Go.Ideal
open Go Go.Proofs
set_option linter.unusedSectionVars false
section
variable [Tabs]
theorem zex{b:Nat}{T:TypeId}:∀(vs:List Value)(o:Nat)(w:World)(C:Array Value),w.heap[b]? = some (.cells C T (0,0))->∃C',(w.setCells b o vs).heap[b]? = some (.cells C' T (0,0))/\C'.size=C.size /\
 (∀ j,C'[j]? = if o<=j/\j<o+vs.length/\j<C.size then vs[j-o]? else C[j]?)/\(w.setCells b o vs).heap.size=w.heap.size/\(∀ i,i≠b->(w.setCells b o vs).heap[i]? = w.heap[i]?)/\Beside w (w.setCells b o vs)
 | [],o,w,C,h=>⟨C,h,rfl,fun j=>by rw[if_neg (by simp;omega)],rfl,fun _ _=>rfl,rfl,rfl,rfl,Ak _⟩
 |v::vs,o,w,C,h=>by
  have hb:b<w.heap.size:=by
   rcases AV b w.heap.size with h'|h'
   ·exact h'
   ·rw[Ct h']at h;cases h
  have h1:(w.setCell ⟨b,o,none⟩ v).heap[b]? = some (.cells (C.setIfInBounds o v) T (0,0)):=by
   simp only[World.setCell,CA,if_true,h];simp
  obtain⟨C',g1,g2,g3,g4,g5,g6⟩:=zex vs (o+1) (w.setCell ⟨b,o,none⟩ v) _ h1;refine⟨C',g1,by rw[g2];simp,fun j=>?_,?_,fun i hi=>?_,?_⟩
  ·rw[g3 j];simp only[Array.size_setIfInBounds,Ay];by_cases e:j=o
   ·subst e;rw[if_neg (by omega)];by_cases hs:j<C.size
    ·rw[if_pos (by omega)];simp[hs]
    ·rw[if_neg (by omega)];simp[hs]
   ·by_cases hc:o+1<=j/\j<o+1+vs.length/\j<C.size
    ·rw[if_pos hc,if_pos (by omega)];rw[show j-o=(j-(o+1))+1 by omega,Ar]
    ·rw[if_neg hc,if_neg (by omega),Bb (by omega)]
  ·show((w.setCell ⟨b,o,none⟩ v).setCells b (o+1) vs).heap.size=_;rw[g4];simp[World.setCell]
  ·show((w.setCell ⟨b,o,none⟩ v).setCells b (o+1) vs).heap[i]? = _;rw[g5 i hi];simp[World.setCell,CA,Ne.symm hi]
  ·obtain⟨a1,a2,a3,a4⟩:=g6;exact⟨a1,a2,a3,a4⟩
section
variable {P:Program} {ρ:Go.Shelf.Ren}
open Go.Shelf Go.RowKit Go.Lib
set_option maxHeartbeats 4000000 in
set_option maxRecDepth 100000 in
theorem zany(L:Lays2.n21 P ρ)(b off n c i vb voff vc:Nat)(cs:List Value)(u:Value)(w:World)(hi:i<n)(hroom:n+1<=c)(hn:n<=4294967296)(hvb:vb≠b)
 (hcl:cs.length=n)(hcs:∀j v,cs[j]? = some v->w.cell? ⟨b,off+j,none⟩=some v)(hsp:∀j,j<n+1->(w.cell? ⟨b,off+j,none⟩).isSome=true)(hfz:∀j,j<n+1->w.frozen? ⟨b,off+j,none⟩=false)
 (hvs:∀j v,[u][j]? = some v->w.cell? ⟨vb,voff+j,none⟩=some v)(h1c:∀v∈cs,v.oneCell'=true)(h1v:∀v∈[u],v.oneCell'=true)
 (tA tB:TypeId)(kA kB:Nat)(hsa:w.shape? vb=some (tA,kA))(hsb:w.shape? b=some (tB,kB))(hkB:kB≠0)(hfa:w.frozen? ⟨vb,voff,none⟩=false)(hfe:w.frozen? ⟨vb,kA,none⟩=false) :
 Calls P (ρ.f 21) #[.slice (some ⟨b,off,none⟩) n c, .int .i64 i, .slice (some ⟨vb,voff,none⟩) 1 vc] w fun e w' =>
  e = .returned (.slice (some ⟨b,off,none⟩) (n+1) c)/\w'=(w.drew.setCells b (off+(i+1)) (cs.drop i)).setCells b (off+i) [u]:=by
 have t0:=L.t0;have a0:=L.a0;have z0:=L.z0;have v0:=L.v0;have t3:=L.t3;have a3:=L.a3;have z3:=L.z3;have v3:=L.v3;have t4:=L.t4;have a4:=L.a4;have z4:=L.z4;have v4:=L.v4;have t22:=L.t22;have a22:=L.a22;have z22:=L.z22;have v22:=L.v22;have u0:=run_underlying L.t0;have u3:=run_underlying L.t3;have u4:=run_underlying L.t4;have u22:=run_underlying L.t22;have hz2:¬((i:Int)=(n:Int)):=(by omega)
 have hsz:(P.info? (ρ.t 3)).map (·.size)=some 1:=by
  obtain⟨i0,hi0,h0,h1,h2⟩:=info_parts L.i3;rw[hi0];simp[h1]
 have hov:∀lb cb,(callFunc (ρ.f 27) #[.slice (some ⟨vb,voff,none⟩) 1 vc, .slice (some ⟨b,off+(i+1),none⟩) lb cb]).run P w = .ok (.value (.bool false)) w:=fun lb cb=>by
  rw[run_callFunc_extern L.f27 (by kernel_rfl) (by kernel_rfl) (by kernel_rfl) (e:=Extern.SlicesOverlaps.overlaps #[(ρ.t 22),(ρ.t 22)] #[(ρ.t 4)]) (by kernel_rfl),
   Lib.run_overlaps_apart w (ρ.t 22) (ρ.t 4) (ρ.t 3) L.t22 1 L.z3 ⟨vb,voff,none⟩ ⟨b,off+(i+1),none⟩ 1 vc lb cb hvb tA tB kA kB hsa hsb hkB hfa hfe]
  rfl
 have hdl:(cs.drop i).length=n-i:=(by rw[Bo,hcl]);have mixed:=L.mixed;have hw1:IntKind.i64.wrap ((i:Int)+1)=(i:Int)+1:=(by rw[IntKind.wrap_i64];omega);have hw2:IntKind.i64.wrap ((n:Int)+1)=(n:Int)+1:=(by rw[IntKind.wrap_i64];omega);have hb1:(0:Int)<=(i:Int)+1:=(by omega);have hin:i<=n:=(by omega);have htn:((i:Int)+1).toNat=i+1:=(by omega);have hb2:¬(c=i+1):=(by omega);have hb3:(i:Int)<=(n:Int)+1:=(by omega);have hb4:¬(c=i):=(by omega)
 have hcp1:∀ty dc sc,(Builtin.copy_ #[(ρ.t 22),(ρ.t 22)] ty #[.slice (some ⟨b,off+(i+1),none⟩) (n-i) dc, .slice (some ⟨b,off+i,none⟩) (n+1-i) sc]).run P w.drew = .ok (goInt (cs.drop i).length) (w.drew.setCells b (off+(i+1)) (cs.drop i)):=fun ty dc sc =>
  run_copy_cells w.drew _ _ ty (ρ.t 3) b (off+(i+1)) (n-i) dc ⟨b,off+i,none⟩ (n+1-i) sc (cs.drop i) L.t22 hsz (by rw[hdl];simp only[Nat.min_def];split<;>omega)
   (fun j v hj=>by rw[Addr.add_lit,Bq];exact hcs (i+j) v (by rwa [AU]at hj))
   (fun j hj=>by rw[Bq];exact hsp _ (by omega)) (fun j hj=>by rw[Bq];exact hfz _ (by omega)) (fun v hv=>h1c v (List.mem_of_mem_drop hv))
 obtain⟨W1,hW1⟩:∃W1,W1=w.drew.setCells b (off+(i+1)) (cs.drop i):=⟨_,rfl⟩
 have hsp1:∀k,k<n+1->(W1.cell? ⟨b,off+k,none⟩).isSome=true:=fun k hk=>by
  rw[hW1];exact isSome_setCells b _ _ _ (fun j hj=>by rw[Bq];exact hsp _ (by omega)) _ (hsp k hk)
 have hcp2:∀(W:World),(∀ x,W.cell? x=W1.cell? x)->(∀ x,W.frozen? x=W1.frozen? x)->∀ty dc,(Builtin.copy_ #[(ρ.t 22),(ρ.t 22)] ty #[.slice (some ⟨b,off+i,none⟩) (n+1-i) dc, .slice (some ⟨vb,voff,none⟩) 1 vc]).run P W = .ok (goInt [u].length) (W.setCells b (off+i) [u]):=fun W hWc hWf ty dc =>
  run_copy_cells W _ _ ty (ρ.t 3) b (off+i) (n+1-i) dc ⟨vb,voff,none⟩ 1 vc [u] L.t22 hsz (by simp only[AK,Nat.min_def];split<;>omega)
   (fun j v hj=>by
    rw[Addr.add_lit,hWc,hW1,World.cell?_setCells_out b _ _ _ _ (fun h _=>absurd h hvb)]
    exact hvs j v hj)
   (fun j hj=>by rw[hWc,Bq];exact hsp1 _ (by have:j<1:=hj;omega)) (fun j hj=>by rw[hWf,hW1,World.frozen?_setCells,Bq];exact hfz _ (by have:j<1:=hj;omega)) h1v
 rw[<- hW1]at hcp1
 go_enter L.f21,Body2.n21_ntmps ρ
 go_wp2_with (simp only[hov])
 go_region_law_o (refine step_copy_runI rfl _ _ (ρ.t 22) (ρ.t 22) rfl _ _ (by simp[Act.eval,Act.put]) (by simp[Act.eval,Act.put]) (hcp1 _ _ _) ?_)
 go_wp2_with (at_builtin;refine wpList_copy_runI _ rfl _ _ (ρ.t 22) (ρ.t 22) rfl _ _ rfl rfl (hcp2 _ (fun _=>rfl) (fun _=>rfl) _ _) ?_)
 go_ret
 first|exact⟨rfl,rfl⟩|exact⟨rfl,by rw[hW1]⟩
set_option maxHeartbeats 4000000 in
set_option maxRecDepth 100000 in
theorem zazx(L:Lays2.n21 P ρ)(b off n c vb voff vc:Nat)(u:Value)(w:World)(hroom:n+1<=c)(hn:n<=4294967296)
 (hsp:∀j,j<1->(w.cell? ⟨b,off+n+j,none⟩).isSome=true)(hfz:∀j,j<1->w.frozen? ⟨b,off+n+j,none⟩=false)
 (hvs:∀j v,[u][j]? = some v->w.cell? ⟨vb,voff+j,none⟩=some v)(h1v:∀v∈[u],v.oneCell'=true) :
 Calls P (ρ.f 21) #[.slice (some ⟨b,off,none⟩) n c, .int .i64 n, .slice (some ⟨vb,voff,none⟩) 1 vc] w fun e w' =>
  e = .returned (.slice (some ⟨b,off,none⟩) (n+1) c)/\w'=w.setCells b (off+n) [u]:=by
 have t0:=L.t0;have a0:=L.a0;have z0:=L.z0;have v0:=L.v0;have t3:=L.t3;have a3:=L.a3;have z3:=L.z3;have v3:=L.v3;have t4:=L.t4;have a4:=L.a4;have z4:=L.z4;have v4:=L.v4;have t22:=L.t22;have a22:=L.a22;have z22:=L.z22;have v22:=L.v22;have u0:=run_underlying L.t0;have u3:=run_underlying L.t3;have u4:=run_underlying L.t4;have u22:=run_underlying L.t22;have mixed:=L.mixed;have hz1:¬(((1:Nat):Int)=0):=(by omega);have hsrc:Src P 1 (ρ.t 22) (.slice (some ⟨vb,voff,none⟩) 1 vc) 1 [u] w:=Src.ofSlice w L.t22 ⟨vb,voff,none⟩ 1 vc [u] (by simp) (fun j u hj=>by rw[Addr.add_lit];exact hvs j u hj) h1v
 go_enter L.f21,Body2.n21_ntmps ρ
 go_wp2_with (at_builtin;refine wpList_append_room1 _ rfl _ _ (ρ.t 22) (ρ.t 22) rfl (ρ.t 3) _ _ L.t22 L.i3 b off n c rfl _ rfl 1 [u] hsrc hroom hsp hfz ?_)
 go_ret
 exact⟨rfl,rfl⟩
end
def isNumI:IVal->Bool
 | J4 _=>true
 |_=>false
def allNum:J3->Bool
 | []=>true
 |v::r=>match isNumI v with|true=>allNum r|false=>false
def insSpec(args:J3)(H:J2):Option (IVal×J2) :=
 match args with
 | [x, J4 i, .slice kv vv vo 1]=>match H[kv]? with
   |some (.cells vs ev wv _)=>match(Nat.beq vv wv&&Nat.beq ev 1),vs[vo]? with
    |true,some (J4 u)=>match x with
     | .p .nilslice=>match decide (i=0)with
       |true=>some (.slice H.length 0 0 1,H++[.cells [J4 u] 1 0 true])
       |false=>none
     | .slice k ver off n=>match H[k]? with
       |some (.cells cs e w _)=>match(Nat.beq ver w&&Nat.beq e 1)&&(Nat.ble (off+n) cs.length&&!(Nat.beq k kv))&&(decide (0<=i/\i<=n/\n<=4294967296)&&allNum ((cs.drop off).take n))with
        |true=>some (.slice k (w+1) 0 (n+1),H.set k (.cells (((cs.drop off).take n).take i.toNat++(J4 u::((cs.drop off).take n).drop i.toNat)) 1 (w+1) true))
        |false=>none
       |_=>none
     |_=>none
    |_,_=>none
   |_=>none
 |_=>none
theorem zanz{P:Program}{f:FuncId}{B:Func}{c:Code}(h:P.funcs[f]? = some B)(hn:(B.name == "runtime.NumGoroutine")=false)(hb:B.body=some c):Enters P f:=Go.Proofs.enters_of h hn hb
theorem zata{c:Ctx}{w:World}{cs:J3}{b p:Nat}{C:Array Value}{T:TypeId}{off n:Nat}(_:w.heap[b]? = some (.cells C T (0,0)))(hlen:off+n<=cs.length)
 (hcells:∀j x,cs[j]? = some x->∃r,C[p+j]? = some r/\x.cellOK=true/\VRel c x r) :
 ∃L:List Value,L.length=n/\(∀ j v,L[j]? = some v->C[p+off+j]? = some v)/\(∀ v∈L,v.oneCell'=true)/\∀(j:Nat)(x:IVal),((cs.drop off).take n)[j]? = some x->∃r,L[j]? = some r/\x.cellOK=true/\VRel c x r:=by
 have hval:∀j,j<n->∃r,C[p+off+j]? = some r/\r.oneCell'=true:=by
  intro j hj;obtain⟨r,h1,h2,h3⟩:=hcells (off+j) cs[off+j] (Ae (by omega));exact⟨r,by rw[show p+off+j=p+(off+j)by omega];exact h1,h3.one h2⟩
 have hget:∀j,j<n->((C.toList.drop (p+off)).take n)[j]? = C[p+off+j]? := fun j hj=>by
  rw[A5,if_pos hj,AU,AY]
 have hll:((C.toList.drop (p+off)).take n).length=n:=by
  cases n with
  |zero=>simp
  |succ n =>
   obtain⟨r,h1,_⟩:=hval n (by omega)
   have:p+off+n<C.size:=by
    rcases AV (p+off+n) C.size with h'|h'
    ·exact h'
    ·rw[Ct h']at h1;cases h1
   simp;omega
 refine⟨(C.toList.drop (p+off)).take n,hll,fun j v hv=>?_,fun v hv=>?_,fun j x hx=>?_⟩
 ·have hj:j<n:=by
   rcases AV j n with h'|h'
   ·exact h'
   ·rw[AI (by omega)]at hv;cases hv
  rw[<- hget j hj];exact hv
 ·obtain⟨j,hj⟩:=AJ.1 hv
  have hjn:j<n:=by
   rcases AV j n with h'|h'
   ·exact h'
   ·rw[AI (by omega)]at hj;cases hj
  rw[hget j hjn]at hj;obtain⟨r,h1,h2⟩:=hval j hjn;rw[h1]at hj;cases hj;exact h2
 ·have hjn:j<n:=by
   rcases AV j n with h'|h'
   ·exact h'
   ·rw[AI (by simp;omega)]at hx;cases hx
  rw[A5,if_pos hjn,AU]at hx;obtain⟨r,h1,h2,h3⟩:=hcells (off+j) x hx;exact⟨r,by rw[hget j hjn,show p+off+j=p+(off+j)by omega];exact h1,h2,h3⟩
variable {P:Program} {ρ:Go.Shelf.Ren}
theorem zbgs(L:Lays2.n21 P ρ):OracleOK P (noOracle.set (ρ.f 21) insSpec):=by
 intro f args H v H' h;unfold Oracle.set noOracle at h;split at h
 case h_2=>cases h
 rename_i hf;have:=Af hf;subst this;refine⟨zanz L.f21 (by rfl) rfl,fun c w l hM hW hl=>?_⟩;unfold insSpec at h;split at h
 case h_2=>cases h
 rename_i x i kv vv vo;split at h
 case h_2=>cases h
 rename_i vs ev wv ov hkv;split at h
 case h_2=>cases h
 rename_i u hvchk hvo;rw[Aj]at hvchk;have hv1:=Af hvchk.1;have hv2:=Af hvchk.2;subst hv1 hv2;have hgv:c.M.get (.heap kv)=some (.cells vs 1 vv ov):=(by rw[hM];exact hkv);simp only[TsRel]at hl;obtain⟨r1,_,rfl,_,hr1,r2,_,rfl,_,hr2,r3,_,rfl,_,hr3,rfl⟩:=hl;simp only[VRel,PRel]at hr2;subst hr2;simp only[VRel]at hr3;obtain⟨va,vcap,rfl,cs1,e1,v1,o1,hg1,_,hat⟩:=hr3;rw[hgv]at hg1;cases hg1;obtain⟨vb,vq,vK,hmv,hvcap,hvblk,hvsp,hvoff,hvK⟩:=hat rfl;have hvo':va.off=vq+vo:=hvoff.resolve_left (by omega);obtain⟨vb0,vao,vas⟩:=va;dsimp only at hvblk hvsp hvo';subst hvblk hvsp hvo';obtain⟨VC,VT,hvheap,hvq,hvlc,hvop,hvcell⟩:=hW.blk _ vs 1 vv ov vb0 vq vK hgv hmv;obtain⟨ru,hu1,_,hu3⟩:=hvcell vo _ hvo;simp only[VRel,PRel]at hu3;subst hu3
 have hvs:∀j v,([Value.int .i64 u]:List Value)[j]? = some v->w.cell? ⟨vb0,vq+vo+j,none⟩=some v:=by
  intro j v hj;cases j with
  |zero=>simp at hj;subst hj;simp[World.cell?,hvheap,hu1]
  |succ j=>simp at hj
 have h1v:∀v∈([Value.int .i64 u]:List Value),v.oneCell'=true:=(by intro v hv;simp at hv;subst hv;rfl);have hnew:∀d:Ctx,VRel d (J4 u) (.int .i64 u):=fun d=>by simp only[VRel,PRel]
 split at h
 case h_3=>cases h
 ·
  split at h
  case h_2=>cases h
  rename_i hi0;have hi0:i=0:=(by simpa using hi0);injection h with h;injection h with h1 h2;subst h1 h2 hi0;simp only[VRel,PRel]at hr1;subst hr1;have hc:=Any2.slices_Insert_int_end_grow L none 0 0 vb0 (vq+vo) 1 vcap [] [Value.int .i64 u] w (by omega) (by omega) (by omega) (by omega) rfl rfl (fun _=>rfl) (fun a ha=>by cases ha) hvs h1v;refine Calls.mono hc ?_;rintro e w' ⟨rfl,rfl⟩;obtain⟨g1,g2,g3⟩:=zds (M:=c.M) (b := .cells [J4 u] 1 0 true)
  have hpush:=Step.push hW (M':={ c.M with heap:=c.M.heap++[.cells [J4 u] 1 0 true] }) (fun k b hk=>by
   have:k≠.heap c.M.heap.length:=fun e=>by rw[e,g1]at hk;cases hk
   rw[g3 k this];exact hk) (fun k hk=>by
   cases hm:c.m k with
   |none=>rfl
   |some x=>have:=hW.dom k x hm;rw[hk]at this;cases this)
  have hmn:c.m (.heap c.M.heap.length)=none:=by
   cases hm:c.m (.heap c.M.heap.length)with
   |none=>rfl
   |some x=>have:=hW.dom _ x hm;rw[g1]at this;cases this
  generalize hgc:grownCap w (0+1) 0 (ρ.t 3)=gc;have hge:0+1<=gc:=(by rw[<- hgc];exact grownCap_ge w _ 0 _)
  have hsz:(([]++[Value.int .i64 u]:List Value).toArray++Builtin.zeroCells (Value.int .i64 0).cells (gc-(0+1))).size=gc:=by
   have:(Value.int .i64 0).cells.size=1:=rfl;simp[size_zeroCells,this];omega
  have hfr:=Step.fresh (w':=w.drew.alloc (.cells (([]++[Value.int .i64 u]:List Value).toArray++Builtin.zeroCells (Value.int .i64 0).cells (gc-(0+1))) (ρ.t 3))) hpush.rel ⟨rfl,rfl,rfl,by first|exact Ak _|exact BE _⟩ (k := .heap c.M.heap.length) (cs:=[J4 u]) (e:=1) (v:=0) (o:=true) g2 (cs':=[J4 u]) (v':=0) (o':=true) (K':=gc) (.inr ⟨rfl,hmn⟩) (C':=(([]++[Value.int .i64 u]:List Value).toArray++Builtin.zeroCells (Value.int .i64 0).cells (gc-(0+1)))) (T:=ρ.t 3)
   rfl (by rw[hsz];exact Ak _) (by simpa using hge) (fun h=>by cases h) (fun d hd j xx hj=>by
    cases j with
    |zero=>simp at hj;subst hj;exact⟨.int .i64 u,by rw[AT,BO (by simp)];rfl,rfl,hnew d⟩
    |succ j=>simp at hj)
  refine⟨_,_,rfl,?_,hpush.trans hfr,fun l hl1 hl2=>?_,rfl,?_⟩
  ·have e1:c.M.heap=H:=(by rw[hM]);simp only[Ctx.upd];rw[Mem.zki g2];rw[hM]
  ·have:l≠.heap c.M.heap.length:=fun e=>by rw[e,g1]at hl1;cases hl1
   simp only[Ctx.upd,if_neg this];exact hl2
  ·have e1:c.M.heap.length=H.length:=(by rw[hM]);simp only[VRel];refine⟨⟨w.heap.size,0,none⟩,gc,by rw[<- hgc],[J4 u],1,0,true,by simp only[Ctx.upd];rw[Mem.zki g2,<-e1];exact g2,Ak _,fun _=>⟨w.heap.size,0,gc,by rw[<- e1];simp[Ctx.upd],by omega,rfl,rfl, .inr rfl,by omega⟩⟩
 ·rename_i k ver off n x9;split at h
  case h_2=>cases h
  rename_i cs e wk ok hk;split at h
  case h_2=>cases h
  rename_i hchk;simp only[Aj,CD,decide_eq_true_eq]at hchk;obtain⟨⟨⟨hc1,hc2⟩,⟨hc3,hc4⟩⟩,⟨⟨hi1,hi2,hi3⟩,hnum⟩⟩:=hchk;have hc1:=Af hc1;have hc2:=Af hc2;have hc3:=AH hc3;have hc4:k≠kv:=fun e=>by rw[e,AG]at hc4;cases hc4
  subst hc1 hc2;injection h with h;injection h with h1 h2;subst h1 h2;have hg:c.M.get (.heap k)=some (.cells cs 1 ver ok):=(by rw[hM];exact hk);simp only[VRel]at hr1;obtain⟨a,cap,rfl,cs2,e2,v2,o2,hg2,_,hat2⟩:=hr1;rw[hg]at hg2;cases hg2;obtain⟨b,q,K,hmk,hcap,hblk,hsp,hoff,hK⟩:=hat2 rfl;obtain⟨C,T,hheap,hq,hlc,hop,hcell⟩:=hW.blk _ cs 1 ver ok b q K hg hmk
  have hnb:vb0≠b:=fun e=>hc4 (by
   have:=hW.inj (.heap k) (.heap kv) b q K vq vK (by rw[hg];rfl) (by rw[hgv];rfl) hmk (by rw[<- e];exact hmv)
   injection this)
  obtain⟨ii,rfl⟩:∃ii:Nat,i=(ii:Int):=⟨i.toNat,by omega⟩;have hin:ii<=n:=(by omega);obtain⟨R,hRl,hRc,hR1,hRr⟩:=zata (c:=c) (w:=w) (cs:=cs) (p:=q) (off:=off) (n:=n) hheap hc3 hcell
  have hRcell:a.off=q+off->a.block=b->a.spot=none->∀j v,R[j]? = some v->w.cell? ⟨b,q+off+j,none⟩=some v:=fun _ _ _ j v hj=>by
   simp[World.cell?,hheap,hRc j v hj]
  have hnewrow:∀(d:Ctx),c.Ext d->∀(j:Nat)(x:IVal),(((cs.drop off).take n).take ii++(J4 u::((cs.drop off).take n).drop ii))[j]? = some x ->
   ∃r,(R.take ii++(Value.int .i64 u::R.drop ii))[j]? = some r/\x.cellOK=true/\VRel d x r:=by
   intro d hd j x hj;have hl1:(((cs.drop off).take n).take ii).length=ii:=(by simp;omega);have hl2:(R.take ii).length=ii:=(by simp;omega);rcases Nat.lt_trichotomy j ii with h'|h'|h'
   ·rw[Ac (by omega),A5,if_pos h']at hj;obtain⟨r,g1,g2,g3⟩:=hRr j x hj;exact⟨r,by rw[Ac (by omega),A5,if_pos h'];exact g1,g2,g3.ext hd⟩
   ·rw[Ad (by omega),hl1,h',A6]at hj;simp at hj;subst hj;exact⟨_,by rw[Ad (by omega),hl2,h',A6];rfl,rfl,hnew d⟩
   ·rw[Ad (by omega),hl1,show j-ii=(j-ii-1)+1 by omega,Ar,AU]at hj;obtain⟨r,g1,g2,g3⟩:=hRr _ x hj;exact⟨r,by rw[Ad (by omega),hl2,show j-ii=(j-ii-1)+1 by omega,Ar,AU];exact g1,g2,g3.ext hd⟩
  have hnrl:(((cs.drop off).take n).take ii++((J4 u:IVal)::((cs.drop off).take n).drop ii)).length=n+1:=(by simp;omega);have hRnl:(R.take ii++(Value.int .i64 u::R.drop ii)).length=n+1:=(by simp;omega);have hput:c.M.put (.heap k) (.cells (((cs.drop off).take n).take ii++(J4 u::((cs.drop off).take n).drop ii)) 1 (ver+1) true)=⟨[],H.set k (.cells (((cs.drop off).take n).take ii++(J4 u::((cs.drop off).take n).drop ii)) 1 (ver+1) true)⟩:=(by rw[hM];rfl);have hgs:(c.M.get (.heap k)).isSome=true:=(by rw[hg];rfl)
  have key:∀(w':World)(a':Addr)(cap':Nat),(∃ b' q' K' d,d.m (.heap k)=some (b',q',K')/\d.M=c.M.put (.heap k) (.cells (((cs.drop off).take n).take ii++(J4 u::((cs.drop off).take n).drop ii)) 1 (ver+1) true)/\Step c w d w'/\Un c d/\a'=⟨b',q',none⟩/\n+1<=cap'/\cap'=K') ->
   ∃rv d,Ending.returned (.slice (some a') (n+1) cap') = .returned rv/\d.M=⟨[],H.set k (.cells (((cs.drop off).take n).take ii++(J4 u::((cs.drop off).take n).drop ii)) 1 (ver+1) true)⟩/\Step c w d w'/\Un c d/\(IVal.slice k (ver+1) 0 (n+1)).passOK=true/\VRel d (.slice k (ver+1) 0 (n+1)) rv:=by
   rintro w' a' cap' ⟨b',q',K',d,h1,h2,h3,h4,rfl,h6,rfl⟩;refine⟨_,d,rfl,by rw[h2,hput],h3,h4,rfl,?_⟩;simp only[VRel];refine⟨_,cap',rfl,_,1,ver+1,true,by rw[h2];exact Mem.zax hgs,Ak _,fun _=>⟨b',q',cap',h1,h6,rfl,rfl, .inr rfl,by omega⟩⟩
  by_cases hroom:n+1<=cap
  ·have hoff':a.off=q+off:=hoff.resolve_left (by omega);obtain⟨ab,ao,asp⟩:=a;dsimp only at hblk hsp hoff';subst hblk hsp hoff';have hrowsz:∀j,j<n+1->q+off+j<C.size:=fun j hj=>by omega
   by_cases hend:ii=n
   ·subst hend
    have hc:=zazx L ab (q+off) ii cap vb0 (vq+vo) vcap (Value.int .i64 u) w hroom hi3 (fun j hj=>by
     have:=hrowsz (ii+j) (by omega)
     simp[World.cell?,hheap,show q+off+ii+j=q+off+(ii+j)by omega,this]) (fun j hj=>by simp[World.frozen?,hheap]) hvs h1v
    refine Calls.mono hc ?_;rintro e w' ⟨rfl,rfl⟩;obtain⟨C',g1,g2,g3,g4,g5,g6⟩:=zex [Value.int .i64 u] (q+off+ii) w C hheap;refine key _ _ _ ⟨ab,q+off,cap,_,by simp[Ctx.upd],rfl,Step.write (cs':=((cs.drop off).take ii).take ii++(J4 u::((cs.drop off).take ii).drop ii)) (v':=ver+1) (o':=true) (q':=q+off) (K':=cap) hW g6 hg hmk (.inl (An _)) g1 g4 g5 (by omega) (by omega) (fun h=>by cases h) (fun d hd j x hj=>?_),Un.upd hmk,rfl,hroom,rfl⟩;obtain⟨r,e1,e2,e3⟩:=hnewrow d hd j x hj;refine⟨r,?_,e2,e3⟩;rw[<- e1,g3]
    have hjl:j<ii+1:=by
     rcases AV j (ii+1)with h'|h'
     ·exact h'
     ·rw[AI (by omega)]at hj;cases hj
    have hl2:(R.take ii).length=ii:=(by simp;omega);by_cases hj2:j<ii
    ·rw[if_neg (by omega),Ac (by omega),A5,if_pos hj2];have:R[j]? = some R[j]:=Ae (by omega);rw[this];exact hRc j _ this
    ·have:j=ii:=(by omega);subst this;rw[if_pos ⟨by omega,by simp,hrowsz j (by omega)⟩,Ad (by omega),hl2];simp
   ·have hlt:ii<n:=(by omega)
    have hc:=zany L ab (q+off) n cap ii vb0 (vq+vo) vcap R (Value.int .i64 u) w hlt hroom hi3 hnb hRl (hRcell rfl rfl rfl) (fun j hj=>by
     have:=hrowsz j hj
     simp[World.cell?,hheap,this]) (fun j hj=>by simp[World.frozen?,hheap]) hvs hR1 h1v VT T VC.size C.size (by simp[World.shape?,hvheap]) (by simp[World.shape?,hheap]) (by have:=hrowsz 0 (by omega);omega) (by simp[World.frozen?,hvheap]) (by simp[World.frozen?,hvheap])
    refine Calls.mono hc ?_;rintro e w' ⟨rfl,rfl⟩;have hheap':w.drew.heap[ab]? = some (.cells C T (0,0)):=hheap;obtain⟨C1,g1,g2,g3,g4,g5,g6⟩:=zex (R.drop ii) (q+off+(ii+1)) w.drew C hheap';obtain⟨C2,k1,k2,k3,k4,k5,k6⟩:=zex [Value.int .i64 u] (q+off+ii) _ C1 g1
    have hbes:Beside w ((w.drew.setCells ab (q+off+(ii+1)) (R.drop ii)).setCells ab (q+off+ii) [Value.int .i64 u]):=by
     obtain⟨x1,x2,x3,x4⟩:=g6;obtain⟨y1,y2,y3,y4⟩:=k6;exact⟨y1.trans x1,y2.trans x2,y3.trans x3,A8 (A8 (BE _) x4) y4⟩
    refine key _ _ _ ⟨ab,q+off,cap,_,by simp[Ctx.upd],rfl,Step.write (cs':=((cs.drop off).take n).take ii++(J4 u::((cs.drop off).take n).drop ii)) (v':=ver+1) (o':=true) (q':=q+off) (K':=cap) hW hbes hg hmk (.inl (An _)) k1 (k4.trans g4) (fun i hi=>(k5 i hi).trans (g5 i hi)) (by omega) (by omega) (fun h=>by cases h) (fun d hd j x hj=>?_),Un.upd hmk,rfl,hroom,rfl⟩;obtain⟨r,e1,e2,e3⟩:=hnewrow d hd j x hj;refine⟨r,?_,e2,e3⟩;rw[<- e1,k3,g3]
    have hjl:j<n+1:=by
     rcases AV j (n+1)with h'|h'
     ·exact h'
     ·rw[AI (by omega)]at hj;cases hj
    have hl2:(R.take ii).length=ii:=(by simp;omega);have hsz:=hrowsz j hjl;simp only[Bo,AK];rcases Nat.lt_trichotomy j ii with h'|h'|h'
    ·rw[if_neg (by omega),if_neg (by omega),Ac (by omega),A5,if_pos h'];have:R[j]? = some R[j]:=Ae (by omega);rw[this];exact hRc j _ this
    ·subst h';rw[if_pos ⟨by omega,by omega,by omega⟩,Ad (by omega),hl2];simp
    ·rw[if_neg (by omega),if_pos ⟨by omega,by omega,hsz⟩,Ad (by omega),hl2,show j-ii=(j-ii-1)+1 by omega,Ar];rw[AU,AU];congr 1;omega
  ·
   have hfin:∀(w':World)(gc:Nat)(C':Array Value),w'.heap=w.heap.push (.cells C' (ρ.t 3) (0,0))->Beside w w'->n+1<=gc->gc<=C'.size->(∀ j,j<n+1->C'[j]? = (R.take ii++(Value.int .i64 u::R.drop ii))[j]?) ->
    ∃rv d,Ending.returned (.slice (some ⟨w.heap.size,0,none⟩) (n+1) gc) = .returned rv/\d.M=⟨[],H.set k (.cells (((cs.drop off).take n).take ii++(J4 u::((cs.drop off).take n).drop ii)) 1 (ver+1) true)⟩/\Step c w d w'/\Un c d/\(IVal.slice k (ver+1) 0 (n+1)).passOK=true/\VRel d (.slice k (ver+1) 0 (n+1)) rv:=by
    intro w' gc C' h1 h2 h3 h4 h5;refine key w' ⟨w.heap.size,0,none⟩ gc ⟨w.heap.size,0,gc,_,by simp[Ctx.upd],rfl,Step.fresh (cs':=((cs.drop off).take n).take ii++(J4 u::((cs.drop off).take n).drop ii)) (v':=ver+1) (o':=true) (K':=gc) hW h2 hg (.inl (An _)) h1 h4 (by omega) (fun h=>by cases h) (fun d hd j x hj=>?_),Un.upd hmk,rfl,h3,rfl⟩
    have hjl:j<n+1:=by
     rcases AV j (n+1)with h'|h'
     ·exact h'
     ·rw[AI (by omega)]at hj;cases hj
    obtain⟨r,e1,e2,e3⟩:=hnewrow d hd j x hj;exact⟨r,by rw[h5 j hjl];exact e1,e2,e3⟩
   have hz1:(Value.int .i64 0).cells.size=1:=rfl;by_cases hend:ii=n
   ·subst hend
    have hc:=Any2.slices_Insert_int_end_grow L (some a) ii cap vb0 (vq+vo) 1 vcap R [Value.int .i64 u] w (by omega) hcap (by omega) (by omega) hRl rfl (fun e=>by cases e) (fun a' ha j v hj=>by
     cases ha
     have hj':j<ii:=by
      rcases AV j ii with h'|h'
      ·exact h'
      ·rw[AI (by omega)]at hj;cases hj
     have:=hRcell (hoff.resolve_left (by omega)) hblk hsp j v hj;obtain⟨ab,ao,asp⟩:=a;dsimp only at hblk hsp hoff;rw[hblk,hsp,hoff.resolve_left (by omega)];rw[Addr.add_lit]
     exact this) hvs h1v
    refine Calls.mono hc ?_;rintro e w' ⟨rfl,rfl⟩;generalize hgc:grownCap w (ii+1) cap (ρ.t 3)=gc;have hge:ii+1<=gc:=(by rw[<- hgc];exact grownCap_ge w _ cap _)
    have htd:R.take ii++(Value.int .i64 u::R.drop ii)=R++[Value.int .i64 u]:=by
     rw[<- hRl,Bk,B1]
    refine hfin _ gc _ rfl ⟨rfl,rfl,rfl,BE _⟩ hge ?_ (fun j hj=>?_)
    ·simp[size_zeroCells,hz1];omega
    ·rw[htd,BO (by simp;omega),BT]
   ·have hlt:ii<n:=(by omega);have hoff':a.off=q+off:=hoff.resolve_left (by omega);obtain⟨ab,ao,asp⟩:=a;dsimp only at hblk hsp hoff';subst hblk hsp hoff';have hc:=Any2.slices_Insert_int_grow L ab (q+off) n cap ii vb0 (vq+vo) 1 vcap R [Value.int .i64 u] w hlt (by omega) hcap (by omega) (by omega) hRl rfl (hRcell rfl rfl rfl) hvs hR1 h1v;refine Calls.mono hc ?_;rintro e w' ⟨rfl,rfl⟩;generalize hgc:grownCap w (n+1) cap (ρ.t 3)=gc;have hge:n+1<=gc:=(by rw[<- hgc];exact grownCap_ge w _ cap _);obtain⟨ROW,hROW⟩:∃ROW:Array Value,ROW=(R.take ii).toArray++Builtin.zeroCells (Value.int .i64 0).cells (n+1-ii)++Builtin.zeroCells (Value.int .i64 0).cells (gc-(n+1)):=⟨_,rfl⟩;have hRs:ROW.size=gc:=(by rw[hROW];simp[size_zeroCells,hz1];omega);rw[<- hROW]
    have h0:((w.alloc (.cells ROW (ρ.t 3))).drew).heap[w.heap.size]? = some (.cells ROW (ρ.t 3) (0,0)):=by
     show(w.heap.push _)[w.heap.size]? = _;simp
    obtain⟨C1,g1,g2,g3,g4,g5,g6⟩:=zex [Value.int .i64 u] ii ((w.alloc (.cells ROW (ρ.t 3))).drew) ROW h0;have g1':(((w.alloc (.cells ROW (ρ.t 3))).drew.setCells w.heap.size ii [Value.int .i64 u]).drew).heap[w.heap.size]? = some (.cells C1 (ρ.t 3) (0,0)):=g1;obtain⟨C2,k1,k2,k3,k4,k5,k6⟩:=zex (R.drop ii) (ii+1) _ C1 g1';refine hfin _ gc C2 ?_ ?_ hge (by omega) (fun j hj=>?_)
    ·apply Array.ext';apply Bd;intro t;rw[AY,AY];by_cases ht:t=w.heap.size
     ·subst ht;rw[k1];simp
     ·rw[k5 t ht];show((w.alloc (.cells ROW (ρ.t 3))).drew.setCells w.heap.size ii [Value.int .i64 u]).heap[t]? = _;rw[g5 t ht];show(w.heap.push _)[t]? = (w.heap.push _)[t]?;rw[De,De,if_neg ht,if_neg ht]
    ·obtain⟨x1,x2,x3,x4⟩:=g6;obtain⟨y1,y2,y3,y4⟩:=k6;exact⟨y1.trans x1,y2.trans x2,y3.trans x3,A8 (A8 (BE _) x4) (A8 (BE _) y4)⟩
    ·have hl2:(R.take ii).length=ii:=(by simp;omega);rw[k3,g3];simp only[Bo,AK];rcases Nat.lt_trichotomy j ii with h'|h'|h'
     ·rw[if_neg (by omega),if_neg (by omega),Ac (by omega),hROW,BO (by simp;omega),BO (by simp;omega),BT]
     ·subst h';rw[if_neg (by omega),if_pos ⟨by omega,by omega,by omega⟩,Ad (by omega),hl2];simp
     ·rw[if_pos ⟨by omega,by omega,by omega⟩,Ad (by omega),hl2,show j-ii=(j-ii-1)+1 by omega,Ar];congr 1
end
section
variable [Tabs]
def cmpSpec:Spec:=fun args H=>match args with
 | [.p (.str a), .p (.str b)]=>some (J4 (Lib.compareBytes a b),H)
 |_=>none
variable {P:Program} {ρ:Go.Shelf.Ren}
theorem zbgt(L:Lays.n106 P ρ):OracleOK P (noOracle.set (ρ.f 106) cmpSpec):=by
 intro f args H v H' h;unfold Oracle.set noOracle at h;split at h
 case h_2=>cases h
 rename_i hf;have:=Af hf;subst this;refine⟨Go.Proofs.enters_of L.f106 (by rfl) rfl,fun c w l hM hW hl=>?_⟩;unfold cmpSpec at h;split at h
 case h_2=>cases h
 rename_i a b;injection h with h;injection h with h1 h2;subst h1 h2;simp only[TsRel]at hl;obtain⟨r1,_,rfl,_,hr1,r2,_,rfl,_,hr2,rfl⟩:=hl;simp only[VRel,PRel]at hr1 hr2;subst hr1 hr2;refine Calls.mono (Any.strings_Compare L ⟨a.toArray⟩ ⟨b.toArray⟩ w) ?_;rintro e w' ⟨rfl,rfl⟩;exact⟨_,c,rfl,hM,Step.refl hW,Un.refl c,rfl,by simp only[VRel,PRel]⟩
end
end Go.Ideal
namespace Go.Ideal
open Go
def F_160:Nat:=160
theorem none_160:tr.look F_160=none:=rfl
noncomputable def sortAny(l:List FuncId):Spec:=match l with
 | []=>fun _ _=>none
 |g::r=>fun args H=>match sortSpec pairKit g args H with
  |some x=>some x
  |none=>sortAny r args H
noncomputable def sortOracle:Oracle:=((noOracle.set F_93 (sortAny [F_130,F_168,F_94])).set F_116 insSpec).set F_160 cmpSpec
noncomputable instance seatBase:Base where
 b:=sortOracle
 m C f a H r:=f=F_45/\RangePure C i_45 a H r
 mono h g:=⟨g.1,g.2.mono h⟩
 det h g:=h.2.det g.2
 off h:=by rw[h.1];rfl
theorem zya{g g':FuncId}(hne:g≠g')(v:IVal)(H:J2):sortSpec pairKit g' [v, .p (.func g)] H=none:=by
 unfold sortSpec;refine dif_neg ?_;rintro⟨r,h⟩;generalize hl:[v,IVal.p (.func g)]=l at h;cases h with
 |nil=>injection hl with _ hl;injection hl with hl _;injection hl with hl;injection hl with hl;exact hne hl
 |empty=>injection hl with _ hl;injection hl with hl _;injection hl with hl;injection hl with hl;exact hne hl
 |row=>injection hl with _ hl;injection hl with hl _;injection hl with hl;injection hl with hl;exact hne hl
theorem zyy{g:FuncId}{v:IVal}{H:J2}{r:IVal×J2}(h:sortSpec pairKit g [v, .p (.func g)] H=some r):∀l:List FuncId,g∈l->sortAny l [v, .p (.func g)] H=some r
 | [],hm=>by simp at hm
 |x::l,hm=>by
  by_cases e:x=g
  ·subst e;simp only[sortAny,h]
  ·have hm':g∈l:=by
    rcases Am.1 hm with h'|h'
    ·exact absurd h'.symm e
    ·exact h'
   simp only[sortAny,zya (fun e'=>e e'.symm)];exact zyy h l hm'
theorem zjv{g:FuncId}(hg:g∈[F_130,F_168,F_94]){v:IVal}{H:J2}{r:IVal×J2}(h:sortSpec pairKit g [v, .p (.func g)] H=some r):seatBase.b F_93 [v, .p (.func g)] H=some r:=by
 have e:seatBase.b F_93=sortAny [F_130,F_168,F_94]:=by
  show sortOracle _=_;unfold sortOracle;exact(Oracle.zvg rfl).trans ((Oracle.zvg rfl).trans Oracle.zqc)
 rw[e];exact zyy h _ hg
theorem zatb{args:J3}{H:J2}{r:IVal×J2}(h:insSpec args H=some r):seatBase.b F_116 args H=some r:=by
 have e:seatBase.b F_116=insSpec:=by
  show sortOracle _=_;unfold sortOracle;exact(Oracle.zvg rfl).trans Oracle.zqc
 rw[e];exact h
theorem zatc{args:J3}{H:J2}{r:IVal×J2}(h:cmpSpec args H=some r):seatBase.b F_160 args H=some r:=by
 have e:seatBase.b F_160=cmpSpec:=by
  show sortOracle _=_;unfold sortOracle;exact Oracle.zqc
 rw[e];exact h
end Go.Ideal
namespace Go.Ideal
open Go
set_option maxHeartbeats 1000000
theorem zaoa(k:Option (List Tree)){c0 c1 c2 c3:SV}(h:∀t∈klist k,∀H,CW tr.look F_18 [tagg t] H=some (J4 t.size,H))(hs:lsize (klist k)<1000000000000)(Q:J0)
 (hQ:Q .normal [(3, .int .i64 (lsize (klist k)+1:Nat))] ⟨[],[]⟩) :
 wpLoop (CW tr.look) 21 m_18_0 l_18_0 (blkK 0 b_18_0 Q) [(1, .box 1 0),(3, .int .i64 1),(4, .int .i64 0)] ⟨[(1,some ⟨[c0,c1,c2,c3, .v (.p (kval k))],5⟩)],[]⟩:=by
 refine zac (α:=Nat×Nat) (fun a=>[(1, .box 1 0),(3, .int .i64 a.2),(4, .int .i64 a.1)]) (fun a=>⟨[(1,some ⟨[c0,c1,c2,c3, .v (.p (kval k))],5⟩)],[]⟩)
  (fun a=>a.1<=(klist k).length/\a.2+lsize ((klist k).drop a.1)=lsize (klist k)+1) (fun a=>(klist k).length-a.1) ?_ (0,1) ⟨by omega,by simp;omega⟩
 rintro⟨j,acc⟩⟨hj,ha⟩ L hL;dsimp only at hj ha hL ⊢;dsimp only[l_18_0];by_cases hjl:j<(klist k).length
 ·have hl:=zyx hjl;have hc:=h _ (Ba hjl);have:=zay (klist k);have:=zvu hjl;simp(disch:=omega) [zhn,zai,hc,zaa];exact hL (j+1,acc+(klist k)[j].size) ⟨by dsimp only;omega,by dsimp only;omega⟩ (by dsimp only;omega)
 ·obtain rfl:j=(klist k).length:=by omega
  simp[lsize]at ha;subst ha;simp
  simpa using hQ
theorem zazy:∀(n:Nat)(t:Tree),t.size<n->n<=1000000000000->∀(H:J2),CW tr.look F_18 [tagg t] H=some (J4 t.size,H):=by
 intro n
 induction n with
 |zero=>intro t h;omega
 |succ n ih =>
  intro t h hb H;have ht:=zag t;refine zaz look_18 rfl (by simp) rfl ?_;dsimp only[i_18,c_18];simp;refine zaoa _ (fun u hu H=>ih u (by have:=zbm hu;omega) (by omega) H) (by omega) _ ?_;simp[ht]
end Go.Ideal
namespace Go.Ideal
open Go
set_option linter.unusedSectionVars false
section
variable [Tabs]
theorem zga:∀s:Bytes,bytesLess s s=false
 | []=>rfl
 |a::s=>by simp[bytesLess,zga s]
theorem zsc:∀ {s t:Bytes},bytesLess s t=true->bytesLess t s=false
 | [],[],h=>by simp[bytesLess]at h
 | [],_::_,_=>rfl
 |_::_,[],h=>by simp[bytesLess]at h
 |a::s,b::t,h=>by
  simp only[bytesLess,BS,decide_eq_true_eq,Aj,beq_iff_eq]at h;simp only[bytesLess,Da,decide_eq_false_iff_not,Bool.and_eq_false_iff];rcases h with h|⟨rfl,h⟩
  ·refine⟨by rw[UInt8.not_lt];exact UInt8.le_of_lt h, .inl ?_⟩;simp only[beq_eq_false_iff_ne];rintro rfl;exact absurd h (UInt8.lt_irrefl _)
  ·exact⟨UInt8.lt_irrefl _, .inr (zsc h)⟩
theorem zhv:∀ {s t:Bytes},bytesLess s t=false->bytesLess t s=false->s=t
 | [],[],_,_=>rfl
 | [],_::_,h,_=>by simp[bytesLess]at h
 |_::_,[],_,h=>by simp[bytesLess]at h
 |a::s,b::t,h,g=>by
  simp only[bytesLess,Da,decide_eq_false_iff_not,Bool.and_eq_false_iff,beq_eq_false_iff_ne]at h g;have hab:a=b:=UInt8.le_antisymm (UInt8.not_lt.1 g.1) (UInt8.not_lt.1 h.1);subst hab;rcases h.2 with h2|h2
  ·exact absurd rfl h2
  ·rcases g.2 with g2|g2
   ·exact absurd rfl g2
   ·rw[zhv h2 g2]
theorem zvw{s t:Bytes}(h:bytesLess s t=true):s≠t:=by
 rintro rfl;rw[zga]at h;cases h
section
variable {s t:Bytes}{k:SV->Prop}
@[simp ↓ high] theorem zawm:strBinK .lss s t k=k (.bool (bytesLess s t)):=by simp[strBin]
@[simp ↓ high] theorem zawn:strBinK .gtr s t k=k (.bool (bytesLess t s)):=by
 have:(!(bytesLess s t||s==t))=bytesLess t s:=by
  cases h:bytesLess s t
  ·cases h2:bytesLess t s
   ·rw[zhv h h2];simp
   ·have:=zvw h2;simp;exact fun e=>this e.symm
  ·rw[zsc h];rfl
 rw[zahd];simp only[strBin,zie,zahf,zagz,this]
@[simp ↓ high] theorem zawo:strBinK .leq s t k=k (.bool (!bytesLess t s)):=by
 have:(bytesLess s t||s==t)=!bytesLess t s:=by
  cases h:bytesLess s t
  ·cases h2:bytesLess t s
   ·rw[zhv h h2];simp
   ·have:=zvw h2;simp;exact fun e=>this e.symm
  ·rw[zsc h];rfl
 rw[zahc];simp only[strBin,zie,zahf,zagz,this]
@[simp ↓ high] theorem zawp:strBinK .geq s t k=k (.bool (!bytesLess s t)):=by
 rw[zahe];simp only[strBin,zie,zahf,zagz]
end
def sgn(l m:Bool):Int:=if l then -1 else if m then 1 else 0
def scmp(s t:Bytes):Int:=sgn (bytesLess s t) (bytesLess t s)
theorem zqp{s t:Bytes}:scmp s t=0↔s=t:=by
 unfold scmp sgn;cases h:bytesLess s t
 ·cases h2:bytesLess t s
  ·simp[zhv h h2]
  ·simp;rintro rfl;rw[zga]at h2;cases h2
 ·simp;exact zvw h
def icmp(a b:Int):Int:=sgn (decide (a<b)) (decide (b<a))
theorem zgo{a b:Int}:icmp a b=0↔a=b:=by
 unfold icmp sgn;by_cases h:a<b<;>by_cases h2:b<a<;>simp[h,h2]<;>omega
def acmp(p q:Bytes×Bytes):Int:=sgn (bytesLess p.1 q.1||decide (p.1=q.1)&&bytesLess p.2 q.2) (bytesLess q.1 p.1||decide (p.1=q.1)&&bytesLess q.2 p.2)
theorem zaob{p q:Bytes×Bytes}:acmp p q=0↔p=q:=by
 obtain⟨a,b⟩:=p;obtain⟨c,d⟩:=q;unfold acmp sgn;simp only[Prod.mk.injEq];cases h:bytesLess a c
 ·cases h2:bytesLess c a
  ·have:=zhv h h2;subst this;cases h3:bytesLess b d
   ·cases h4:bytesLess d b
    ·simp[zhv h3 h4]
    ·simp;rintro rfl;rw[zga]at h4;cases h4
   ·simp;exact zvw h3
  ·have hne:a≠c:=fun e=>by rw[e,zga]at h2;cases h2
   simp[hne]
 ·have hne:a≠c:=zvw h;simp[hne]
def lcmp{α:Type}(f:α->α->Int):List α->List α->Int
 |x::l,y::m=>if f x y=0 then lcmp f l m else f x y
 |l,m=>icmp l.length m.length
theorem zaec{α:Type}{f:α->α->Int}:∀ {l m:List α},(∀ x∈l,∀y,f x y=0↔x=y)->(lcmp f l m=0↔l=m)
 | [],[],_=>by simp[lcmp,zgo]
 | [],_::_,_=>by simp[lcmp,zgo];omega
 |_::_,[],_=>by simp[lcmp,zgo];omega
 |x::l,y::m,h=>by
  have ih:=zaec (l:=l) (m:=m) (fun a ha=>h a (by simp[ha]));rw[lcmp];by_cases e:f x y=0
  ·rw[if_pos e,ih,(h x (by simp) y).1 e];simp
  ·rw[if_neg e];simp only[e,false_iff,Cw,not_and];intro e2;exact absurd ((h x (by simp) y).2 e2) e
end
section
variable [Tabs]
mutual
def Tree.nodes:Tree->List Tree
 | .mk k n x a ks=>.mk k n x a ks::knodes ks
def knodes:Option (List Tree)->List Tree
 |none=>[]
 |some l=>lnodes l
def lnodes:List Tree->List Tree
 | []=>[]
 |t::l=>t.nodes++lnodes l
end
theorem zcn(t:Tree):t.nodes=t::lnodes (klist t.kids):=by
 obtain⟨k,n,x,a,ks⟩:=t;cases ks<;>simp[Tree.nodes,knodes,lnodes,klist,Tree.kids]
theorem zhw{u:Tree}:∀ {l:List Tree},u∈lnodes l↔∃t∈l,u∈t.nodes
 | []=>by simp[lnodes]
 |t::l=>by simp[lnodes,zhw (l:=l)]
theorem znp(t:Tree):t∈t.nodes:=by rw[zcn];simp
theorem zaed{t u v:Tree}(h:u∈klist t.kids)(hv:v∈u.nodes):v∈t.nodes:=by
 rw[zcn];simp only[Am];exact .inr (zhw.2 ⟨u,h,hv⟩)
def Fine(t:Tree):Prop:=t.size<1000000/\∀u∈t.nodes,(alist u.attrs).length<1000000
theorem Fine.attrs{t:Tree}(h:Fine t):(alist t.attrs).length<1000000000000:=by have:=h.2 t (znp t);omega
theorem Fine.kid{t u:Tree}(h:Fine t)(hu:u∈klist t.kids):Fine u:=by
 have h1:=zag t;have h2:=zbm hu;exact⟨by have:=h.1;omega,fun v hv=>h.2 v (zaed hu hv)⟩
theorem Fine.kids{t:Tree}(h:Fine t):(klist t.kids).length<1000000000000:=by
 have h1:=zag t;have h2:=zay (klist t.kids);have:=h.1;omega
def nodeCmp(a b:Tree):Int:=if icmp a.kind b.kind=0 then(if scmp a.name b.name=0 then(if scmp a.text b.text=0 then lcmp acmp (alist a.attrs) (alist b.attrs)else scmp a.text b.text)else scmp a.name b.name)else icmp a.kind b.kind
def SameNode(a b:Tree):Prop:=a.kind=b.kind/\a.name=b.name/\a.text=b.text/\alist a.attrs=alist b.attrs
theorem ztj{a b:Tree}:nodeCmp a b=0↔SameNode a b:=by
 unfold nodeCmp SameNode;by_cases h1:icmp a.kind b.kind=0
 ·rw[if_pos h1];have:=zgo.1 h1;by_cases h2:scmp a.name b.name=0
  ·rw[if_pos h2];have:=zqp.1 h2;by_cases h3:scmp a.text b.text=0
   ·rw[if_pos h3,zaec (fun _ _ _=>zaob)];have:=zqp.1 h3;simp_all
   ·rw[if_neg h3];have:=fun e=>h3 (zqp.2 e);simp_all
  ·rw[if_neg h2];have:=fun e=>h2 (zqp.2 e);simp_all
 ·rw[if_neg h1];have:=fun e=>h1 (zgo.2 e);simp_all
mutual
def cmpT:Tree->Tree->Int
 | .mk k n x a ks,u=>if nodeCmp (.mk k n x a ks) u=0 then cmpK ks (klist u.kids)else nodeCmp (.mk k n x a ks) u
def cmpK:Option (List Tree)->List Tree->Int
 |none,m=>icmp 0 m.length
 |some l,m=>cmpL l m
def cmpL:List Tree->List Tree->Int
 | [],m=>icmp 0 m.length
 |t::l,[]=>icmp (t::l).length 0
 |t::l,u::m=>if cmpT t u=0 then cmpL l m else cmpT t u
end
theorem cmpL_eq:∀ {l m:List Tree},cmpL l m=lcmp cmpT l m
 | [],m=>by cases m<;>rw[cmpL,lcmp]<;>simp
 |t::l,[]=>by rw[cmpL,lcmp];simp;simp
 |t::l,u::m=>by rw[cmpL,lcmp,cmpL_eq]
theorem zazz(t u:Tree):cmpT t u=if nodeCmp t u=0 then lcmp cmpT (klist t.kids) (klist u.kids)else nodeCmp t u:=by
 obtain⟨k,n,x,a,ks⟩:=t;rw[cmpT];cases ks with
 |none=>simp only[cmpK,Tree.kids,klist,C8,<-cmpL_eq,cmpL]
 |some l=>simp only[cmpK,Tree.kids,klist,Bv,cmpL_eq]
def SameT(t u:Tree):Prop:=cmpT t u=0
instance (t u:Tree):Decidable (SameT t u):=by unfold SameT;infer_instance
theorem zaee:∀ {l m:List Tree},lcmp cmpT l m=0↔l.length=m.length/\∀(j:Nat)(a b:Tree),l[j]? = some a->m[j]? = some b->SameT a b
 | [],[]=>by simp[lcmp,zgo]
 | [],_::_=>by simp[lcmp,zgo];omega
 |_::_,[]=>by simp[lcmp,zgo];omega
 |t::l,u::m=>by
  rw[lcmp];by_cases h:cmpT t u=0
  ·rw[if_pos h,zaee];constructor
   ·rintro⟨h1,h2⟩;refine⟨by simp[h1],fun j a b ha hb=>?_⟩;cases j with
    |zero=>simp at ha hb;subst ha hb;exact h
    |succ j=>exact h2 j a b (by simpa using ha) (by simpa using hb)
   ·rintro⟨h1,h2⟩;exact⟨by simpa using h1,fun j a b ha hb=>h2 (j+1) a b (by simpa using ha) (by simpa using hb)⟩
  ·rw[if_neg h];simp only[h,false_iff,not_and];intro _ h2;exact h (h2 0 t u rfl rfl)
theorem zqq{t u:Tree}:SameT t u↔SameNode t u/\(klist t.kids).length=(klist u.kids).length/\∀(j:Nat)(a b:Tree),(klist t.kids)[j]? = some a->(klist u.kids)[j]? = some b->SameT a b:=by
 unfold SameT;rw[zazz];by_cases h:nodeCmp t u=0
 ·rw[if_pos h,zaee];have:=ztj.1 h;simp only[this,true_and];rfl
 ·rw[if_neg h];have:¬SameNode t u:=fun e=>h (ztj.2 e);simp[h,this]
end
end Go.Ideal

namespace Go.Ideal
open Go
set_option maxHeartbeats 1000000
theorem zalc(a b:Option Attrs)(hl:(alist a).length=(alist b).length)(hs:(alist a).length<1000000000000)(Q:J0)
 (h1:alist a=alist b->Q .normal [] ⟨[],[]⟩)(h2:alist a≠alist b->∀E,lookE E 4 = .bool false->Q .ret E ⟨[],[]⟩) :
 wpLoop (CW tr.look) 26 m_208_0 l_208_0 (blkK 0 b_208_0 Q) [(0, .v (.p (aval a))),(1, .v (.p (aval b))),(12, .int .i64 (alist b).length),(13, .int .i64 0)] ⟨[],[]⟩:=by
 refine zac (α:=Nat) (fun j=>[(0, .v (.p (aval a))),(1, .v (.p (aval b))),(12, .int .i64 (alist b).length),(13, .int .i64 j)]) (fun _=>⟨[],[]⟩)
  (fun j=>j<=(alist a).length/\(alist a).take j=(alist b).take j) (fun j=>(alist a).length-j) ?_ 0 ⟨by omega,by simp⟩
 rintro j ⟨hj,ht⟩ L hL;dsimp only[l_208_0];by_cases hjl:j<(alist a).length
 ·have hjb:j<(alist b).length:=(by omega);by_cases he:(alist a)[j]=(alist b)[j]
  ·simp(disch:=omega) [zeo,zaa,he];refine hL (j+1) ⟨by omega,?_⟩ (by omega);rw[A1,A1,ht,Ae hjl,Ae hjb,he]
  ·have h3:((alist a)[j].1==(alist b)[j].1&&(alist a)[j].2==(alist b)[j].2)=false:=by
    rw[Bool.eq_false_iff];intro h;simp at h;exact he (Prod.ext h.1 h.2)
   simp(disch:=omega) [zeo,h3];exact h2 (fun e=>he (by simp[e])) _ rfl
 ·obtain rfl:j=(alist a).length:=by omega
  simp[hl];refine h1 ?_;rw[Bk,hl,Bk]at ht;exact ht
theorem zatd(a b:Option Attrs)(hs:(alist a).length<1000000000000)(H:J2):CW tr.look F_208 [.p (aval a), .p (aval b)] H=some (.p (.bool (decide (alist a=alist b))),H):=by
 refine zaz look_208 rfl (by simp) rfl ?_;dsimp only[i_208,c_208];by_cases hl:(alist a).length=(alist b).length
 ·simp[hl];refine zalc a b hl hs _ (fun h=>?_) (fun h E hE=>?_)
  ·simp[h]
  ·simp[hE,h]
 ·have:alist a≠alist b:=fun e=>hl (by rw[e]);simp[this];omega
def kin(a b:Tree):Prop:=a.kind=b.kind/\a.name=b.name
instance (a b:Tree):Decidable (kin a b):=by unfold kin;infer_instance
def cost(a b:Tree):Nat:=if ¬kin a b then 3 else if a.text=b.text/\alist a.attrs=alist b.attrs then 0 else 1
theorem zaoc(a b:Tree)(hs:(alist a.attrs).length<1000000000000)(H:J2):CW tr.look F_195 [tagg a,tagg b] H=some (J4 (cost a b),H):=by
 refine zaz look_195 rfl (by simp) rfl ?_;dsimp only[i_195,c_195]
 by_cases h1:a.kind=b.kind<;>by_cases h2:a.name=b.name<;>by_cases h3:a.text=b.text<;>by_cases h4:alist a.attrs=alist b.attrs <;>
  simp[h1,h2,h3,h4,zatd _ _ hs,cost,kin]
end Go.Ideal
namespace Go.Ideal
open Go
set_option linter.unusedSectionVars false
section
variable [Tabs]
variable {H H':J2}{bx:List (Nat×IBlk)}{cs xs ys:J3}{esz k n ny ver:Nat}{op:Bool}{v:IVal}
theorem zbb{b:IBlk}:(H++[b])[H.length]? = some b:=by simp
def HS(H:J2)(k esz n:Nat)(v:IVal)(xs:J3):Prop:=∃ver cs op,v = .slice k ver 0 n/\H[k]? = some (.cells cs esz ver op)/\n*esz<=cs.length/\cs.take (n*esz)=xs
def appBlk(cs ys:J3)(esz n ny ver:Nat)(op:Bool):IBlk:=if(n+ny)*esz<=cs.length then .cells (splice cs (n*esz) ys) esz ver op else .cells (cs.take (n*esz)++ys) esz (ver+1) true
def appVer(cs:J3)(esz n ny ver:Nat):Nat:=if(n+ny)*esz<=cs.length then ver else ver+1
theorem zcb{y:IVal}(hk:H[k]? = some (.cells cs esz ver op))(hn:n*esz<=cs.length)(hy:srcCells ⟨bx,H⟩ esz y=some ys)(hl:srcLen y=some ny)(hpos:0<ny)(hb:n+ny<=4294967296) :
 evalAppend ⟨bx,H⟩ esz (.slice k ver 0 n) y=some (.slice k (appVer cs esz n ny ver) 0 (n+ny),⟨bx,H.set k (appBlk cs ys esz n ny ver op)⟩):=by
 have h1:Nat.ble (n+ny) maxAppend=true:=AE hb
 have h2:(Nat.beq ver ver&&Nat.beq esz esz&&Nat.ble (0+n*esz) cs.length)=true:=by
  rw[AG,AG,As,Bg,Bg];exact AE hn
 have h3:Nat.beq ny 0=false:=(by rw[zig];exact decide_eq_false (by omega));simp only[evalAppend,evalAppend0,hy,hl,sliceLen,h1,Mem.get,hk,h2,h3];by_cases h:(n+ny)*esz<=cs.length
 ·have h4:Nat.ble ((n+ny)*esz) cs.length=true:=AE h;simp only[As,h4,appVer,appBlk,if_pos h,Mem.put]
 ·have h4:Nat.ble ((n+ny)*esz) cs.length=false:=by
   cases e:Nat.ble ((n+ny)*esz) cs.length with
   |false=>rfl
   |true=>exact absurd (AH e) h
  simp only[As,h4,appVer,appBlk,if_neg h,Mem.put,Bn]
theorem zlc(hk:k<H.length)(hn:n*esz<=cs.length)(hy:ys.length=ny*esz) :
 HS (H.set k (appBlk cs ys esz n ny ver op)) k esz (n+ny) (.slice k (appVer cs esz n ny ver) 0 (n+ny)) (cs.take (n*esz)++ys):=by
 unfold appBlk appVer;by_cases h:(n+ny)*esz<=cs.length
 ·rw[if_pos h,if_pos h];refine⟨ver,_,op,rfl,by rw[zap hk],?_,?_⟩
  ·simp only[splice,Ah,AD,Bo];rw[Be]at h ⊢;omega
  ·unfold splice;rw[<- Ax,Bf (by simp only[Ah,AD];rw[Be];rw[Be]at h;omega)];rw[Aq (by simp only[Ah,AD];rw[Be];omega)]
 ·rw[if_neg h,if_neg h];refine⟨_,_,_,rfl,by rw[zap hk],?_,?_⟩
  ·simp only[Ah,AD];rw[Be];omega
  ·rw[Aq (by simp only[Ah,AD];rw[Be];omega)]
theorem append_nil{y:IVal}(hy:srcCells ⟨bx,H⟩ esz y=some ys)(hl:srcLen y=some ny)(hpos:0<ny)(hb:ny<=4294967296) :
 evalAppend ⟨bx,H⟩ esz (.p .nilslice) y=some (.slice H.length 0 0 ny,⟨bx,H++[.cells ys esz 0 true]⟩):=by
 have h1:Nat.ble (0+ny) maxAppend=true:=AE (by unfold maxAppend;omega);have h3:Nat.beq ny 0=false:=(by rw[zig];exact decide_eq_false (by omega));simp only[evalAppend,evalAppend0,hy,hl,sliceLen,h1,h3]
theorem zch(hk:H[k]? = some (.cells cs esz ver op))(hn:cs.length=n*esz):srcCells ⟨bx,H⟩ esz (.slice k ver 0 n)=some cs:=by
 have h2:((Nat.beq ver ver&&Nat.beq esz esz)&&Nat.ble (0+n*esz) cs.length)=true:=by
  rw[AG,AG,As,Bg,Bg];exact AE (by omega)
 simp only[srcCells,Mem.get,hk,h2,Bn];rw[Aq (by omega)]
@[simp] theorem zahg{v o:Nat}:srcLen (.slice k v o n)=some n:=rfl
theorem HS.load{j:Nat}(h:HS H k esz n v xs)(hj:j<n) :
 ∃ver,idxS esz v (J4 j)=some (J5 k ver (j*esz))/\loadVal ⟨bx,H⟩ (some esz) (J5 k ver (j*esz))=some (.agg ((xs.drop (j*esz)).take esz)):=by
 obtain⟨ver,cs,op,rfl,hk,hn,hx⟩:=h;refine⟨ver,by rw[zau hj,As],?_⟩
 have hle:j*esz+esz<=n*esz:=by
  have:(j+1)*esz<=n*esz:=BD _ hj;rw[Di]at this;exact this
 rw[zfg hk (by omega),<-hx];congr 2;rw[List.drop_take,BV,Bw (by omega)]
theorem HS.len(h:HS H k esz n v xs):sliceLen v=some n:=by
 obtain⟨ver,cs,op,rfl,hk,hn,hx⟩:=h;rfl
theorem HS.keep(h:HS H k esz n v xs)(hk:H'[k]? = H[k]?):HS H' k esz n v xs:=by
 obtain⟨ver,cs,op,e,h1,h2,h3⟩:=h;exact⟨ver,cs,op,e,by rw[hk];exact h1,h2,h3⟩
theorem HS.lt(h:HS H k esz n v xs):k<H.length:=by
 obtain⟨ver,cs,op,rfl,hk,hn,hx⟩:=h;exact(Aa.1 hk).1
def Keep(S:Nat->Prop)(H H':J2):Prop:=H.length<=H'.length/\∀i,i<H.length->¬S i->H'[i]? = H[i]?
theorem Keep.refl{S:Nat->Prop}:Keep S H H:=⟨Ak _,fun _ _ _=>rfl⟩
theorem Keep.trans{S:Nat->Prop}{H2:J2}(h:Keep S H H')(g:Keep S H' H2):Keep S H H2 :=
 ⟨A8 h.1 g.1,fun i hi hs=>by rw[g.2 i (Bc hi h.1) hs,h.2 i hi hs]⟩
theorem Keep.new{S:Nat->Prop}{b:J2}:Keep S H (H++b):=⟨by simp,fun i hi _=>Ac hi⟩
theorem Keep.set{S:Nat->Prop}{b:IBlk}(h:S k\/H.length<=k):Keep S H (H.set k b):=by
 refine⟨by simp,fun i hi hs=>?_⟩;rw[Ag];rintro rfl;rcases h with h|h
 ·exact hs h
 ·omega
theorem Keep.mono{S S':Nat->Prop}(h:Keep S H H')(k:∀i,i<H.length->S i->S' i):Keep S' H H':=⟨h.1,fun i hi hs=>h.2 i hi fun x=>hs (k i hi x)⟩
end
section
variable [Tabs]
variable {H:J2}{j k n off:Nat}{xs:J3}
theorem ztk{g:IVal->Option PVal}(hg:∀x,g (.p x)=some x):∀l:List PVal,freezeList g (pcells l)=some l
 | []=>rfl
 |a::l=>by
  have:=ztk hg l;simp only[pcells,At]at this ⊢;simp only[freezeList,hg,this]
theorem zgp{e:Nat}{v:IVal}{xs:List PVal}(h:HS H k e n v (pcells xs)):freezeCell H 100 v=some (.slice e n xs):=by
 obtain⟨ver,cs,op,rfl,hk,hn,hx⟩:=h
 have h2:(Nat.beq ver ver&&Nat.ble (0+n*e) cs.length)=true:=by
  rw[AG,As,Bg];exact AE hn
 rw[freezeCell];simp only[hk,h2,Bn,hx];rw[ztk (fun x=>rfl)]
theorem HS.store{bx:List (Nat×IBlk)}{esz ver:Nat}{new:J3}(h:HS H k esz n (.slice k ver 0 n) xs)(ho:off+new.length<=n*esz) :
 ∃b,writeCells ⟨bx,H⟩ (J5 k ver off) new=some ⟨bx,H.set k b⟩/\HS (H.set k b) k esz n (.slice k ver 0 n) (splice xs off new):=by
 obtain⟨ver',cs,op,e,hk,hn,hx⟩:=h;injection e with _ e2 _ _;subst e2;have hkl:=(Aa.1 hk).1;refine⟨_,zaj hk (by omega),ver,_,op,rfl,zap hkl,?_,?_⟩
 ·simp only[splice,Ah,AD,Bo];omega
 ·rw[<- hx];unfold splice;rw[Cr,Cr];simp only[AD,BV];rw[Bw (show off<=n*esz by omega),Bw (show off<=cs.length by omega),C7 (show off<=n*esz by omega)];congr 2
  ·rw[Aq (by omega)]
  ·rw[List.drop_take];congr 1;omega
theorem HS.field{bx:List (Nat×IBlk)}{esz ver:Nat}{x:IVal}(h:HS H k esz n (.slice k ver 0 n) xs)(hx:xs[off]? = some x):loadVal ⟨bx,H⟩ none (J5 k ver off)=some x:=by
 obtain⟨ver',cs,op,e,hk,hn,hxs⟩:=h;injection e with _ e2 _ _;subst e2;refine zab hk ?_;rw[<- hxs,A5]at hx;split at hx
 ·exact hx
 ·cases hx
mutual
def Tree.height:Tree->Nat
 | .mk _ _ _ _ ks=>kheight ks+1
def kheight:Option (List Tree)->Nat
 |none=>0
 |some l=>lheight l
def lheight:List Tree->Nat
 | []=>0
 |t::r=>max t.height (lheight r)
end
theorem zeg(t:Tree):t.height=lheight (klist t.kids)+1:=by
 obtain⟨k,n,x,a,ks⟩:=t;cases ks<;>simp[Tree.height,kheight,lheight,klist,Tree.kids]
def Tree.bare(t:Tree):Tree := .mk t.kind t.name t.text t.attrs none
structure Item where
 parent:Int
 size:Nat
 depth:Nat
 height:Nat
 place:Nat
 node:Tree
def icell(x:Item):List PVal:=[.int .i64 x.parent, .int .i64 x.size, .int .i64 x.depth, .int .i64 x.height, .int .i64 x.place, .int .i64 x.node.kind, .str x.node.name, .str x.node.text,aval x.node.attrs, .nilslice]
def icells(l:List Item):List PVal:=l.flatMap icell
theorem zqr:∀l:List Item,(icells l).length=l.length*10
 | []=>rfl
 |x::l=>by
  have:=zqr l;simp only[icells,A0,Ah,Ay]at this ⊢;rw[this];simp[icell];omega
theorem zvx{l:List Item}(h:j<l.length):(icells l).drop (j*10)=icell l[j]++(icells l).drop (j*10+10):=by
 induction l generalizing j with
 |nil=>simp at h
 |cons x l ih =>
  have hx:(icell x).length=10:=rfl;cases j with
  |zero =>
   simp only[icells,A0,Ca,Bn,Ce,As];rw[BY,Bh (by omega),hx,AT];rfl
  |succ j =>
   have:=ih (j:=j) (by simpa using h);simp only[icells,A0,List.getElem_cons_succ]at this ⊢
   rw[show(j+1)*10=(icell x).length+j*10 by rw[hx];omega,BY,Bh (by omega),A2,AT,this,
    show(icell x).length+j*10+10=(icell x).length+(j*10+10)by omega,BY,Bh (l:=icell x) (by omega),A2,AT]
theorem zaod{l:List Item}{f:Nat}(h:j<l.length)(hf:f<10):(icells l)[j*10+f]? = (icell l[j])[f]? := by
 have h1:=zvx h;have h2:=congrArg (fun x=>x[f]?) h1;simp only[AU]at h2;rw[h2,Ac (by simpa[icell]using hf)]
theorem zald{l:List Item}{f:Nat}{x:Item}{v:PVal}(h:j<l.length)(hf:f<10)(hx:icell x=(icell l[j]).set f v):icells (l.set j x)=(icells l).set (j*10+f) v:=by
 induction l generalizing j with
 |nil=>simp at h
 |cons y l ih =>
  have hy:(icell y).length=10:=rfl;cases j with
  |zero =>
   simp only[Ce]at hx;simp only[icells,Bz,A0,Ca,As];rw[BF _ _ (by omega),hx]
  |succ j =>
   have:=ih (j:=j) (by simpa using h) (by simpa using hx);simp only[icells,BP,A0]at this ⊢;rw[B9 _ _ (by omega),this,hy,show(j+1)*10+f-10=j*10+f by omega]
theorem zey{x:IVal}(h:off<xs.length):splice xs off [x]=xs.set off x:=by
 unfold splice;rw[BL,if_pos h];rfl
theorem zale{l:List PVal}{i:Nat}{v:PVal}:pcells (l.set i v)=(pcells l).set i (.p v):=by simp[pcells]
end
section
variable [Tabs]
structure Vis where
 t:Tree
 parent:Int
 depth:Nat
 place:Nat
mutual
def visT:Tree->Nat->Int->Nat->Nat->List Vis
 | .mk k n x a ks,id,p,d,pl=>⟨.mk k n x a ks,p,d,pl⟩::visK ks (id+1) id (d+1)
def visK:Option (List Tree)->Nat->Nat->Nat->List Vis
 |none,_,_,_=>[]
 |some l,id,p,d=>visL l id p d 0
def visL:List Tree->Nat->Nat->Nat->Nat->List Vis
 | [],_,_,_,_=>[]
 |t::l,id,p,d,pl=>visT t id p d pl++visL l (id+t.size) p d (pl+1)
end
theorem zbu(t:Tree)(id:Nat)(p:Int)(d pl:Nat):visT t id p d pl=⟨t,p,d,pl⟩::visL (klist t.kids) (id+1) id (d+1) 0:=by
 obtain⟨k,n,x,a,ks⟩:=t;cases ks<;>simp[visT,visK,visL,klist,Tree.kids]
theorem zae(t:Tree):∀(id:Nat)(p:Int)(d pl:Nat),(visT t id p d pl).length=t.size:=by
 have key:∀(n:Nat)(t:Tree),t.size<n->∀(id:Nat)(p:Int)(d pl:Nat),(visT t id p d pl).length=t.size:=by
  intro n
  induction n with
  |zero=>intro t h;omega
  |succ n ih =>
   intro t h id p d pl;have ht:=zag t
   have hl:∀(l:List Tree)(id p d pl:Nat),lsize l<n->(visL l id p d pl).length=lsize l:=by
    intro l
    induction l with
    |nil=>intros;rfl
    |cons u l ih2 =>
     intro id p d pl hl;simp only[lsize]at hl;simp only[visL,lsize,Ah];rw[ih u (by omega),ih2 _ _ _ _ (by omega)]
   rw[zbu,Ay,hl _ _ _ _ _ (by omega),ht]
 exact key _ t (An _)
mutual
def flatT:Tree->Nat->Int->Nat->Nat->List Item
 | .mk k n x a ks,id,p,d,pl=>⟨p,ksize ks+1,d,kheight ks+1,pl, .mk k n x a none⟩::flatK ks (id+1) id (d+1)
def flatK:Option (List Tree)->Nat->Nat->Nat->List Item
 |none,_,_,_=>[]
 |some l,id,p,d=>flatL l id p d 0
def flatL:List Tree->Nat->Nat->Nat->Nat->List Item
 | [],_,_,_,_=>[]
 |t::l,id,p,d,pl=>flatT t id p d pl++flatL l (id+t.size) p d (pl+1)
end
theorem zqs(t:Tree)(id:Nat)(p:Int)(d pl:Nat):flatT t id p d pl=⟨p,t.size,d,t.height,pl,t.bare⟩::flatL (klist t.kids) (id+1) id (d+1) 0:=by
 obtain⟨k,n,x,a,ks⟩:=t;cases ks<;>simp[flatT,flatK,flatL,klist,Tree.kids,Tree.size,Tree.height,Tree.bare,Tree.kind,Tree.name,Tree.text,Tree.attrs]
theorem zahh(t:Tree):∀(id:Nat)(p:Int)(d pl:Nat),(flatT t id p d pl).length=t.size:=by
 have key:∀(n:Nat)(t:Tree),t.size<n->∀(id:Nat)(p:Int)(d pl:Nat),(flatT t id p d pl).length=t.size:=by
  intro n
  induction n with
  |zero=>intro t h;omega
  |succ n ih =>
   intro t h id p d pl;have ht:=zag t
   have hl:∀(l:List Tree)(id p d pl:Nat),lsize l<n->(flatL l id p d pl).length=lsize l:=by
    intro l
    induction l with
    |nil=>intros;rfl
    |cons u l ih2 =>
     intro id p d pl hl;simp only[lsize]at hl;simp only[flatL,lsize,Ah];rw[ih u (by omega),ih2 _ _ _ _ (by omega)]
   rw[zqs,Ay,hl _ _ _ _ _ (by omega),ht]
 exact key _ t (An _)
theorem zck(t:Tree):∀(id:Nat)(p:Int)(d pl:Nat),(visT t id p d pl).map (·.t)=t.nodes:=by
 have key:∀(n:Nat)(t:Tree),t.size<n->∀(id:Nat)(p:Int)(d pl:Nat),(visT t id p d pl).map (·.t)=t.nodes:=by
  intro n
  induction n with
  |zero=>intro t h;omega
  |succ n ih =>
   intro t h id p d pl;have ht:=zag t
   have hl:∀(l:List Tree)(id p d pl:Nat),lsize l<n->(visL l id p d pl).map (·.t)=lnodes l:=by
    intro l
    induction l with
    |nil=>intros;rfl
    |cons u l ih2 =>
     intro id p d pl hl;simp only[lsize]at hl;simp only[visL,lnodes,AO];rw[ih u (by omega),ih2 _ _ _ _ (by omega)]
   rw[zbu,At,hl _ _ _ _ _ (by omega),zcn]
 exact key _ t (An _)
def rawOf(v:Vis):Item:=⟨v.parent,1,v.depth,1,v.place,v.t.bare⟩
def bump(q:Item)(s h:Nat):Item:={ q with size:=q.size+s,height:=max q.height (h+1) }
def up1(L:List Item)(i:Nat):List Item :=
 match L[i]? with
 |none=>L
 |some x=>match L[x.parent.toNat]? with
  |none=>L
  |some q=>L.set x.parent.toNat (bump q x.size x.height)
def backN(L:List Item)(lo:Nat):Nat->List Item
 |0=>L
 |n+1=>backN (up1 L (lo+n)) lo n
theorem zqt(lo n:Nat):∀(m:Nat)(L:List Item),backN L lo (n+m)=backN (backN L (lo+n) m) lo n
 |0,L=>rfl
 |m+1,L=>by
  rw[<- Bq,backN,backN,<-Bq];exact zqt lo n m _
theorem zalf(L:List Item)(i:Nat):(up1 L i).length=L.length:=by
 unfold up1;split
 ·rfl
 ·split<;>simp
theorem zaef(q:Item)(s h s' h':Nat):bump (bump q s h) s' h'=bump q (s+s') (max h h'):=by
 simp only[bump,Item.mk.injEq,true_and,and_true];omega
theorem zaoe:∀(n:Nat)(t:Tree),t.size<n->∀(id p d pl:Nat)(A C:List Item)(hA:A.length=id)(hp:p<id),backN (A++(visT t id p d pl).map rawOf++C) id t.size=A.set p (bump (A[p]'(by omega)) t.size t.height)++flatT t id p d pl++C:=by
 intro n
 induction n with
 |zero=>intro t h;omega
 |succ n ih =>
  have hforest:∀(l:List Tree),lsize l<n->∀(id p d pl:Nat)(A C:List Item)(hA:A.length=id)(hp:p<id)(h1:1<=(A[p]'(by omega)).height),backN (A++(visL l id p d pl).map rawOf++C) id (lsize l)=A.set p (bump (A[p]'(by omega)) (lsize l) (lheight l))++flatL l id p d pl++C:=by
   intro l
   induction l with
   |nil =>
    intro _ id p d pl A C hA hp h1
    have hb:bump (A[p]'(by omega)) 0 0=A[p]'(by omega):=by
     simp only[bump,BA,As,Nat.max_eq_left h1]
    simp[visL,lsize,backN,flatL,lheight,hb]
   |cons t l ihl =>
    intro hl id p d pl A C hA hp h1;simp only[lsize]at hl;have hlen:(A++(visT t id p d pl).map rawOf).length=id+t.size:=(by simp[hA,zae]);have hget:(A++(visT t id p d pl).map rawOf)[p]'(by omega)=A[p]'(by omega):=List.getElem_append_left (by omega);have e1:=ihl (by omega) (id+t.size) p d (pl+1) (A++(visT t id p d pl).map rawOf) C hlen (by omega) (by rw[hget];exact h1);rw[hget]at e1;rw[BF _ _ (by omega)]at e1;have e2:=ih t (by omega) id p d pl (A.set p (bump (A[p]'(by omega)) (lsize l) (lheight l))) (flatL l (id+t.size) p d (pl+1)++C) (by simp[hA]) hp;simp only[visL,AO,lsize,flatL,lheight];rw[zqt,<-Ax A,e1];simp only[Ax]at e2 ⊢;rw[e2];simp only[List.getElem_set_self,Dj,zaef];rw[B3 (lsize l),Nat.max_comm (lheight l)]
  intro t h id p d pl A C hA hp;have ht:=zag t;have hh:=zeg t;rw[zbu,zqs,ht];have e1:=hforest (klist t.kids) (by omega) (id+1) id (d+1) 0 (A++[rawOf ⟨t,p,d,pl⟩]) C (by simp[hA]) (by omega) (by simp[<- hA,rawOf]);have hg:(A++[rawOf ⟨t,p,d,pl⟩])[id]'(by simp[hA])=rawOf ⟨t,p,d,pl⟩:=(by simp[<- hA]);rw[hg,B9 _ _ (by omega)]at e1;have hz:id-A.length=0:=(by omega);rw[hz,Bz]at e1
  have hb:bump (rawOf ⟨t,p,d,pl⟩) (lsize (klist t.kids)) (lheight (klist t.kids))=⟨p,t.size,d,t.height,pl,t.bare⟩:=by
   simp only[bump,rawOf,ht,hh,Item.mk.injEq,true_and,and_true];omega
  rw[hb]at e1;rw[B3 (lsize (klist t.kids)) 1,zqt,At];simp only[Ax,Au,AT]at e1 ⊢;rw[e1];simp only[backN,BA]
  have hi:(A++(⟨p,t.size,d,t.height,pl,t.bare⟩:Item)::(flatL (klist t.kids) (id+1) id (d+1) 0++C))[id]? = some ⟨p,t.size,d,t.height,pl,t.bare⟩:=by
   rw[Ad (by omega),hz];rfl
  have hq:(A++(⟨p,t.size,d,t.height,pl,t.bare⟩:Item)::(flatL (klist t.kids) (id+1) id (d+1) 0++C))[p]? = some (A[p]'(by omega)):=by
   rw[Ac (by omega),Ae]
  unfold up1;simp only[hi,CE,hq];rw[BF _ _ (by omega)];have e4:lsize (klist t.kids)+1=t.size:=ht.symm;rw[show 1+lsize (klist t.kids)=t.size by omega]
theorem zaof(t:Tree):backN ((visT t 0 (-1) 0 0).map rawOf) 1 (lsize (klist t.kids))=flatT t 0 (-1) 0 0:=by
 have hforest:∀(l:List Tree)(A C:List Item)(id p d pl:Nat)(hA:A.length=id)(hp:p<id)(h1:1<=(A[p]'(by omega)).height),backN (A++(visL l id p d pl).map rawOf++C) id (lsize l)=A.set p (bump (A[p]'(by omega)) (lsize l) (lheight l))++flatL l id p d pl++C:=by
  intro l
  induction l with
  |nil =>
   intro A C id p d pl hA hp h1
   have hb:bump (A[p]'(by omega)) 0 0=A[p]'(by omega):=by
    simp only[bump,BA,As,Nat.max_eq_left h1]
   simp[visL,lsize,backN,flatL,lheight,hb]
  |cons t l ihl =>
   intro A C id p d pl hA hp h1;have hlen:(A++(visT t id p d pl).map rawOf).length=id+t.size:=(by simp[hA,zae]);have hget:(A++(visT t id p d pl).map rawOf)[p]'(by omega)=A[p]'(by omega):=List.getElem_append_left (by omega);have e1:=ihl (A++(visT t id p d pl).map rawOf) C (id+t.size) p d (pl+1) hlen (by omega) (by rw[hget];exact h1);rw[hget]at e1;rw[BF _ _ (by omega)]at e1;have e2:=zaoe _ t (An _) id p d pl (A.set p (bump (A[p]'(by omega)) (lsize l) (lheight l))) (flatL l (id+t.size) p d (pl+1)++C) (by simp[hA]) hp;simp only[visL,AO,lsize,flatL,lheight];rw[zqt,<-Ax A,e1];simp only[Ax]at e2 ⊢;rw[e2];simp only[List.getElem_set_self,Dj,zaef];rw[B3 (lsize l),Nat.max_comm (lheight l)]
 have ht:=zag t;have hh:=zeg t;rw[zbu,zqs];have e1:=hforest (klist t.kids) [rawOf ⟨t, -1,0,0⟩] [] 1 0 1 0 rfl (by omega) (by simp[rawOf]);simp only[AX,C5,Ce,Bz]at e1;rw[At,e1];congr 1;simp only[bump,rawOf,ht,hh,Item.mk.injEq,true_and,and_true];omega
end
section
variable [Tabs]
variable {H:J2}{esz k n:Nat}{o:Option Nat}{v:IVal}{xs:J3}
def VS(H:J2)(o:Option Nat)(esz n:Nat)(v:IVal)(xs:J3):Prop :=
 match o with
 |none=>v = .p .nilslice/\n=0/\xs=[]
 |some k=>HS H k esz n v xs
theorem VS.nil:VS H none esz 0 (.p .nilslice) []:=⟨rfl,rfl,rfl⟩
theorem VS.len(h:VS H o esz n v xs):sliceLen v=some n:=by
 cases o with
 |none=>obtain⟨rfl,rfl,_⟩:=h;rfl
 |some k=>exact HS.len h
theorem VS.up(h:VS H o esz n v xs):up v = .v v:=by
 cases o with
 |none=>obtain⟨rfl,rfl,_⟩:=h;rfl
 |some k=>obtain⟨_,_,_,rfl,_⟩:=h;rfl
theorem VS.pass(h:VS H o esz n v xs):v.passOK=true:=by
 cases o with
 |none=>obtain⟨rfl,rfl,_⟩:=h;rfl
 |some k=>obtain⟨_,_,_,rfl,_⟩:=h;rfl
theorem VS.cells(h:VS H o esz n v xs):v.cellsOf=some [v]:=by
 cases o with
 |none=>obtain⟨rfl,rfl,_⟩:=h;rfl
 |some k=>obtain⟨_,_,_,rfl,_⟩:=h;rfl
theorem VS.keep{H':J2}(h:VS H o esz n v xs){S:Nat->Prop}(hk:Keep S H H')(hs:∀k,o=some k->¬S k):VS H' o esz n v xs:=by
 cases o with
 |none=>exact h
 |some k=>exact HS.keep h (hk.2 k (HS.lt h) (hs k rfl))
theorem VS.lt(h:VS H (some k) esz n v xs):k<H.length:=HS.lt h
theorem HS.xlen(h:HS H k esz n v xs):xs.length=n*esz:=by
 obtain⟨ver,cs,op,rfl,hk,hn,hx⟩:=h;rw[<- hx,AD];omega
theorem VS.xlen(h:VS H o esz n v xs):xs.length=n*esz:=by
 cases o with
 |none=>obtain⟨_,rfl,rfl⟩:=h;simp
 |some k=>exact HS.xlen h
theorem VS.append1{ys:J3}(h:VS H o esz n v xs)(hy:ys.length=esz)(hb:n<1000000000) :
 ∃v' H' o',evalAppend ⟨[],H++[.cells ys esz 0 false]⟩ esz v (.slice H.length 0 0 1)=some (v',⟨[],H'⟩)/\VS H' o' esz (n+1) v' (xs++ys)/\Keep (fun x=>o=some x) H H'/\H.length<H'.length/\(o'=o\/∃k,o'=some k/\H.length<=k)/\∃k,o'=some k:=by
 have hsrc:srcCells ⟨[],H++[.cells ys esz 0 false]⟩ esz (.slice H.length 0 0 1)=some ys:=zch (op:=false) zbb (by omega);cases o with
 |none =>
  obtain⟨rfl,rfl,rfl⟩:=h;refine⟨_,_,some (H.length+1),append_nil hsrc rfl (by omega) (by omega),⟨0,ys,true,by simp,?_,by omega,?_⟩,Keep.new.trans Keep.new,by simp, .inr ⟨_,rfl,by omega⟩,_,rfl⟩
  ·have:(H++[IBlk.cells ys esz 0 false]++[IBlk.cells ys esz 0 true])[(H++[IBlk.cells ys esz 0 false]).length]? = some (IBlk.cells ys esz 0 true):=zbb;simp at this ⊢
  ·rw[Aq (by omega)];rfl
 |some k =>
  obtain⟨ver,cs,op,rfl,hkk,hnn,hxs⟩:=h;have hkl:=(Aa.1 hkk).1;have happ:=zcb (bx:=[]) (H:=H++[IBlk.cells ys esz 0 false]) (ny:=1) (by rw[Ac hkl];exact hkk) hnn hsrc rfl (by omega) (by omega);have hnew:=zlc (H:=H++[IBlk.cells ys esz 0 false]) (ver:=ver) (op:=op) (ys:=ys) (ny:=1) (k:=k) (by simp;omega) hnn (by omega);rw[hxs]at hnew;exact⟨_,_,some k,happ,hnew,Keep.new.trans (Keep.set (.inl rfl)),by simp, .inl rfl,_,rfl⟩
theorem VS.cut{m:Nat}(h:VS H (some k) esz n v xs)(hm:m<=n):∃ver,v = .slice k ver 0 n/\VS H (some k) esz m (.slice k ver 0 m) (xs.take (m*esz))/\∃cs op,H[k]? = some (.cells cs esz ver op):=by
 obtain⟨ver,cs,op,rfl,hkk,hnn,hxs⟩:=h;have hle:m*esz<=n*esz:=BD _ hm;refine⟨ver,rfl,⟨ver,cs,op,rfl,hkk,by omega,?_⟩,cs,op,hkk⟩;rw[<- hxs,BV,Bw hle]
theorem VS.at1{j:Nat}(h:VS H (some k) 1 n v xs)(hj:j<n):∃ver,idxS 1 v (J4 j)=some (J5 k ver j)/\∀x,xs[j]? = some x->loadVal ⟨[],H⟩ none (J5 k ver j)=some x:=by
 obtain⟨ver,cs,op,rfl,hkk,hnn,hxs⟩:=h;refine⟨ver,by rw[zau hj];simp,fun x hx=>?_⟩;exact HS.field ⟨ver,cs,op,rfl,hkk,hnn,hxs⟩ hx
theorem zmq{e:Nat}{xs:List PVal}(h:VS H o e n v (pcells xs)):freezeCell H 100 v=some (match o with|none=>.nilslice|some _=>.slice e n xs):=by
 cases o with
 |none=>obtain⟨rfl,_,_⟩:=h;rfl
 |some k=>exact zgp h
def nints(l:List Nat):List PVal:=l.map fun(n:Nat)=>PVal.int .i64 (n:Int)
end
section
variable [Tabs]
mutual
def postT:Tree->Nat->List Nat
 | .mk _ _ _ _ ks,id=>postK ks (id+1)++[id]
def postK:Option (List Tree)->Nat->List Nat
 |none,_=>[]
 |some l,id=>postL l id
def postL:List Tree->Nat->List Nat
 | [],_=>[]
 |t::l,id=>postT t id++postL l (id+t.size)
end
theorem zho(t:Tree)(id:Nat):postT t id=postL (klist t.kids) (id+1)++[id]:=by
 obtain⟨k,n,x,a,ks⟩:=t;cases ks<;>simp[postT,postK,postL,klist,Tree.kids]
def popR(e:Nat->Nat)(i:Nat):List Nat->List Nat×List Nat
 | []=>([],[])
 |o::r=>if e o<=i then(o::(popR e i r).1,(popR e i r).2)else([],o::r)
def pop(e:Nat->Nat)(i:Nat)(S:List Nat×List Nat):List Nat×List Nat:=(S.1++(popR e i S.2).1,(popR e i S.2).2)
def stepP(e:Nat->Nat)(i:Nat)(S:List Nat×List Nat):List Nat×List Nat:=((pop e i S).1,i::(pop e i S).2)
def runP(e:Nat->Nat):Nat->Nat->List Nat×List Nat->List Nat×List Nat
 |_,0,S=>S
 |i,n+1,S=>runP e (i+1) n (stepP e i S)
theorem zue(e:Nat->Nat):∀(n m i:Nat)(S:List Nat×List Nat),runP e i (n+m) S=runP e (i+n) m (runP e i n S)
 |0,m,i,S=>by simp[runP]
 |n+1,m,i,S=>by
  rw[show n+1+m=(n+m)+1 by omega,runP,zue e n m,runP];congr 1;omega
theorem zaeg{e:Nat->Nat}{i:Nat}{R:List Nat}(h:∀o∈R,i<e o):popR e i R=([],R):=by
 cases R with
 |nil=>rfl
 |cons o r =>
  have:=h o (by simp);rw[popR,if_neg (by omega)]
theorem zaeh{e:Nat->Nat}{i:Nat}:∀R:List Nat,popR e i (popR e i R).2=([],(popR e i R).2)
 | []=>rfl
 |o::r=>by
  rw[popR];split
  ·exact zaeh r
  ·rename_i h;rw[popR,if_neg h]
theorem zbaa{e:Nat->Nat}{i:Nat}{S:List Nat×List Nat}:pop e i (pop e i S)=pop e i S:=by
 simp only[pop,zaeh,AX]
theorem zate{e:Nat->Nat}{i n:Nat}{S:List Nat×List Nat}:runP e i (n+1) (pop e i S)=runP e i (n+1) S:=by
 simp only[runP,stepP,zbaa]
def EndsL(e:Nat->Nat)(l:List Tree)(id:Nat):Prop:=∀(p d pl i:Nat)(v:Vis),(visL l id p d pl)[i]? = some v->e (id+i)=id+i+v.t.size
def EndsT(e:Nat->Nat)(t:Tree)(id:Nat):Prop:=∀(p:Int)(d pl i:Nat)(v:Vis),(visT t id p d pl)[i]? = some v->e (id+i)=id+i+v.t.size
theorem zaog(e:Nat->Nat):∀(n:Nat)(t:Tree),t.size<n->∀(id:Nat),EndsT e t id->∀(l R:List Nat),(∀ o∈R,id+t.size<=e o)->∀j,id+t.size<=j->pop e j (runP e id t.size (l,R))=pop e j (l++postT t id,R):=by
 intro n
 induction n with
 |zero=>intro t h;omega
 |succ n ih =>
  have hforest:∀(f:List Tree),lsize f<n->∀(id:Nat),EndsL e f id->∀(l R:List Nat),(∀ o∈R,id+lsize f<=e o)->∀j,id+lsize f<=j->pop e j (runP e id (lsize f) (l,R))=pop e j (l++postL f id,R):=by
   intro f
   induction f with
   |nil=>intro _ id _ l R _ j _;simp[lsize,runP,postL]
   |cons t f ihf =>
    intro hl id hE l R hR j hj;simp only[lsize]at hl hR hj ⊢
    have hEt:EndsT e t id:=by
     intro p d pl i v hv;have hi:=(Aa.1 hv).1;rw[zae]at hi
     have hv0:∃v0,(visT t id (0:Nat) 0 0)[i]? = some v0/\v0.t=v.t:=by
      have h1:=congrArg (fun l=>l[i]?) ((zck t id p d pl).trans (zck t id (0:Nat) 0 0).symm);simp only[Ap,hv,AN]at h1;cases h2:(visT t id (0:Nat) 0 0)[i]? with
      |none=>rw[h2]at h1;cases h1
      |some v0=>rw[h2]at h1;simp at h1;exact⟨v0,rfl,h1.symm⟩
     obtain⟨v0,h1,h2⟩:=hv0;have:=hE 0 0 0 i v0 (by rw[visL,Ac (by rw[zae];exact hi)];exact h1);rw[this,h2]
    have hEf:EndsL e f (id+t.size):=by
     intro p d pl i v hv;have h1:(visL f (id+t.size) p d pl)[i]? = some v:=hv
     have hx:∃v0,(visL f (id+t.size) 0 0 1)[i]? = some v0/\v0.t=v.t:=by
      have hn:∀(f:List Tree)(a p d pl b q c pl2:Nat),(visL f a p d pl).map (·.t)=(visL f b q c pl2).map (·.t):=by
       intro f
       induction f with
       |nil=>intros;rfl
       |cons u f ih3 =>
        intro a p d pl b q c pl2;simp only[visL,AO,zck];rw[ih3]
      have h2:=congrArg (fun l=>l[i]?) (hn f (id+t.size) p d pl (id+t.size) 0 0 1);simp only[Ap,hv,AN]at h2;cases h3:(visL f (id+t.size) 0 0 1)[i]? with
      |none=>rw[h3]at h2;cases h2
      |some v0=>rw[h3]at h2;simp at h2;exact⟨v0,rfl,h2.symm⟩
     obtain⟨v0,h3,h4⟩:=hx;have:=hE 0 0 0 (t.size+i) v0 (by rw[visL,Ad (by rw[zae];omega),zae,A2];exact h3);rw[<- Bq]at this;rw[this,h4]
    rw[zue];have h0:=zad t;by_cases hf0:f=[]
    ·subst hf0;simp only[lsize,BA,runP,postL,AX]at hR hj ⊢;exact ih t (by omega) id hEt l R hR j hj
    ·have hf1:∃m,lsize f=m+1:=by
      cases f with
      |nil=>exact absurd rfl hf0
      |cons u f=>have:=zad u;exact⟨u.size+lsize f-1,by simp only[lsize];omega⟩
     obtain⟨m,hm⟩:=hf1;have e1:=ih t (by omega) id hEt l R (fun o ho=>by have:=hR o ho;omega) (id+t.size) (Ak _)
     have e2:pop e (id+t.size) (l++postT t id,R)=(l++postT t id,R):=by
      simp only[pop];rw[zaeg (fun o ho=>by have:=hR o ho;omega)];simp
     rw[hm,<-zate,e1,e2,<-hm];have e3:=ihf (by omega) (id+t.size) hEf (l++postT t id) R (fun o ho=>by have:=hR o ho;omega) j (by omega);rw[e3];simp only[postL,Ax]
  intro t h id hE l R hR j hj;have ht:=zag t
  have he:e id=id+t.size:=by
   have:=hE 0 0 0 0 ⟨t,0,0,0⟩ (by rw[zbu];rfl)
   simpa using this
  have hEk:EndsL e (klist t.kids) (id+1):=by
   intro p d pl i v hv
   have hn:∀(f:List Tree)(a p d pl b q c pl2:Nat),(visL f a p d pl).map (·.t)=(visL f b q c pl2).map (·.t):=by
    intro f
    induction f with
    |nil=>intros;rfl
    |cons u f ih3 =>
     intro a p d pl b q c pl2;simp only[visL,AO,zck];rw[ih3]
   have h2:=congrArg (fun l=>l[i]?) (hn (klist t.kids) (id+1) p d pl (id+1) id 1 0);simp only[Ap,hv,AN]at h2;cases h3:(visL (klist t.kids) (id+1) id 1 0)[i]? with
   |none=>rw[h3]at h2;cases h2
   |some v0 =>
    rw[h3]at h2;simp at h2;have:=hE 0 0 0 (i+1) v0 (by rw[zbu,Ar];exact h3);rw[show id+(i+1)=id+1+i by omega]at this;rw[this,h2]
  rw[show t.size=1+lsize (klist t.kids)by omega,zue]
  have e1:runP e id 1 (l,R)=(l,id::R):=by
   simp only[runP,stepP,pop];rw[zaeg (fun o ho=>by have:=hR o ho;omega)];simp
  rw[e1,hforest (klist t.kids) (by omega) (id+1) hEk l (id::R) (fun o ho=>by
   rcases Am.1 ho with rfl|ho
   ·rw[he];omega
   ·have:=hR o ho;omega) j (by omega)]
  rw[zho];simp only[pop];rw[popR,if_pos (by rw[he];exact hj)];simp[]
theorem zaoh(e:Nat->Nat)(t:Tree)(hE:EndsT e t 0):runP e 0 (t.size+1) ([],[])=(postT t 0,[t.size]):=by
 rw[zue];have:=zaog e _ t (An _) 0 hE [] [] (by simp) t.size (by omega);simp only[runP,stepP,As,this];simp[pop,popR]
def fullOf(v:Vis):Item:=⟨v.parent,v.t.size,v.depth,v.t.height,v.place,v.t.bare⟩
theorem zfh(t:Tree):∀(id:Nat)(p:Int)(d pl:Nat),flatT t id p d pl=(visT t id p d pl).map fullOf:=by
 have key:∀(n:Nat)(t:Tree),t.size<n->∀(id:Nat)(p:Int)(d pl:Nat),flatT t id p d pl=(visT t id p d pl).map fullOf:=by
  intro n
  induction n with
  |zero=>intro t h;omega
  |succ n ih =>
   intro t h id p d pl;have ht:=zag t
   have hl:∀(l:List Tree)(id p d pl:Nat),lsize l<n->flatL l id p d pl=(visL l id p d pl).map fullOf:=by
    intro l
    induction l with
    |nil=>intros;rfl
    |cons u l ih2 =>
     intro id p d pl hl;simp only[lsize]at hl;simp only[flatL,visL,AO];rw[ih u (by omega),ih2 _ _ _ _ (by omega)]
   rw[zqs,zbu,At,hl _ _ _ _ _ (by omega)];rfl
 exact key _ t (An _)
def Tree.items(t:Tree):List Item:=flatT t 0 (-1) 0 0
theorem ztl(t:Tree):t.items.length=t.size:=zahh t _ _ _ _
def endOf(t:Tree)(k:Nat):Nat:=match t.items[k]? with|some x=>k+x.size|none=>0
theorem zatf(t:Tree):EndsT (endOf t) t 0:=by
 intro p d pl i v hv;have h1:=congrArg (fun l=>l[i]?) ((zck t 0 p d pl).trans (zck t 0 (-1) 0 0).symm);simp only[Ap,hv,AN]at h1;cases h2:(visT t 0 (-1) 0 0)[i]? with
 |none=>rw[h2]at h1;cases h1
 |some v0 =>
  rw[h2]at h1;simp at h1;have:t.items[i]? = some (fullOf v0):=(by rw[Tree.items,zfh,Ap,h2];rfl);simp only[endOf,As,this,fullOf,h1]
theorem zav(t:Tree):∀id,(postT t id).length=t.size:=by
 have key:∀(n:Nat)(t:Tree),t.size<n->∀id,(postT t id).length=t.size:=by
  intro n
  induction n with
  |zero=>intro t h;omega
  |succ n ih =>
   intro t h id;have ht:=zag t
   have hl:∀(l:List Tree)(id:Nat),lsize l<n->(postL l id).length=lsize l:=by
    intro l
    induction l with
    |nil=>intros;rfl
    |cons u l ih2 =>
     intro id hl;simp only[lsize]at hl;simp only[postL,lsize,Ah];rw[ih u (by omega),ih2 _ (by omega)]
   rw[zho,Ah,hl _ _ (by omega),ht];rfl
 exact key _ t (An _)
def ival(t:Tree):PVal := .slice 10 t.size (icells t.items)
theorem zbx{t:Tree}{j:Nat}{x:Item}(h:t.items[j]? = some x):idxS 10 (.p (ival t)) (J4 j)=some (.p (.ptr (.int .i64 x.parent :: .int .i64 x.size :: .int .i64 x.depth :: .int .i64 x.height :: .int .i64 x.place :: .int .i64 x.node.kind :: .str x.node.name :: .str x.node.text::aval x.node.attrs :: .nilslice::(icells t.items).drop (j*10+10)))):=by
 obtain⟨h1,h2⟩:=Aa.1 h;rw[ival,zdl (by rw[<- ztl];exact h1),zvx h1,h2];rfl
@[simp] theorem zatg{t:Tree}:sliceLen (.p (ival t))=some t.size:=rfl
@[simp] theorem zbjq{t:Tree}:up (.p (ival t)) = .v (.p (ival t)):=rfl
end
end Go.Ideal
namespace Go.Ideal
open Go
set_option maxHeartbeats 4000000
set_option maxRecDepth 20000
attribute [-simp] getElem?_pos
def PtrOK(r:Nat)(t0:Tree)(pv:IVal)(t:Tree):Prop:=(pv = J5 r 0 0/\t=t0)\/∃rest,pv = .p (.ptr (t.cells++rest))
theorem PtrOK.cell{r:Nat}{t0 t:Tree}{pv:IVal}(h:PtrOK r t0 pv t):pv.cellOK=true/\pv.cellsOf=some [pv]/\up pv = .v pv:=by
 rcases h with⟨rfl,_⟩|⟨rest,rfl⟩<;>exact⟨rfl,rfl,rfl⟩
structure Pend where
 pv:IVal
 t:Tree
 parent:Int
 depth:Nat
 place:Nat
def pcell(p:Pend):J3:=[p.pv, J4 p.parent, J4 p.depth, J4 p.place]
theorem zalg(l:List Pend):(l.flatMap pcell).length=l.length*4:=by
 induction l with
 |nil=>rfl
 |cons a l ih=>simp only[A0,Ah,ih,Ay];simp[pcell];omega
theorem zaoi{l:List Pend}{j:Nat}(h:j<l.length):((l.flatMap pcell).drop (j*4)).take 4=pcell l[j]:=by
 induction l generalizing j with
 |nil=>simp at h
 |cons a l ih =>
  cases j with
  |zero=>simp[pcell]
  |succ j =>
   simp only[A0];rw[show(j+1)*4=(pcell a).length+j*4 by simp[pcell];omega,BY,Bh (by omega),A2,AT];have:=ih (j:=j) (by simpa using h)
   simpa using this
def kidPend(k:Option (List Tree))(id depth:Nat)(j:Nat)(t:Tree):Pend:=⟨.p (.ptr (t.cells++(kcells (klist k)).drop (j*5+5))),t,id,depth+1,j⟩
def kidsDown(k:Option (List Tree))(id depth:Nat):Nat->List Pend
 |0=>[]
 |j+1=>match(klist k)[j]? with
  |some t=>kidPend k id depth j t::kidsDown k id depth j
  |none=>kidsDown k id depth j
theorem zku{k:Option (List Tree)}{id depth j:Nat}(h:j<(klist k).length):kidsDown k id depth (j+1)=kidPend k id depth j (klist k)[j]::kidsDown k id depth j:=by
 simp only[kidsDown,Ae h]
theorem zaoj(fv pv:IVal)(t:Tree)(r k0:Nat)(t0:Tree)(id depth:Nat)(par pl:Int)(H0:J2)(hp:PtrOK r t0 pv t)(hrk:r≠k0)(hfv:up fv = .v fv)
 (hr:H0[r]? = some (.cells (pcells t0.cells) 5 0 false))(_:id<1000000000000)(hdep:depth<1000000000000)(hkl:(klist t.kids).length<1000000)(S:List Pend)(hS:S.length<1000000)(sv:IVal)(hsv:HS H0 k0 4 S.length sv (S.flatMap pcell))(Q:J0)
 (h1:∀sv' H',HS H' k0 4 (S.length+(klist t.kids).length) sv' ((S++kidsDown t.kids id depth (klist t.kids).length).flatMap pcell)->Keep (· = k0) H0 H'->Q .normal [(1,up fv),(4, .v sv'),(5, .int .i64 id)] ⟨[],H'⟩) :
 wpLoop (CW tr.look) 59 m_62_0 l_62_0 (blkK 2 b_62_2 Q) [(1,up fv),(4, .v sv),(5, .int .i64 id),(6, .box 6 0),(7, .int .i64 ((klist t.kids).length-1))] ⟨[(6,some ⟨[.v pv, .int .i64 par, .int .i64 depth, .int .i64 pl],4⟩)],H0⟩:=by
 refine zac (α:=Nat×IVal×J2×List Pend) (fun a=>[(1,up fv),(4, .v a.2.1),(5, .int .i64 id),(6, .box 6 0),(7, .int .i64 (a.1-1))]) (fun a=>⟨[(6,some ⟨[.v pv, .int .i64 par, .int .i64 depth, .int .i64 pl],4⟩)],a.2.2.1⟩)
  (fun a=>a.1<=(klist t.kids).length/\HS a.2.2.1 k0 4 a.2.2.2.length a.2.1 (a.2.2.2.flatMap pcell)/\Keep (· = k0) H0 a.2.2.1/\a.2.2.2.length+a.1=S.length+(klist t.kids).length/\a.2.2.2++kidsDown t.kids id depth a.1=S++kidsDown t.kids id depth (klist t.kids).length)
  (fun a=>a.1) ?_ ((klist t.kids).length,sv,H0,S) ⟨Ak _,hsv,Keep.refl,rfl,rfl⟩
 rintro⟨j,sv,H,S'⟩⟨hj,hs,hk,hn,he⟩ L hL;dsimp only at hj hs hk hn he hL ⊢;dsimp only[l_62_0];cases j with
 |zero =>
  simp only[kidsDown,AX]at he;simp(disch:=omega) [hfv];rw[hfv]at h1;refine h1 sv H ?_ hk;rw[<- he,<-hn];exact hs
 |succ j =>
  have hjl:j<(klist t.kids).length:=(by omega);have hr':H[r]? = some (.cells (pcells t0.cells) 5 0 false):=(by rw[hk.2 r (Aa.1 hr).1 hrk];exact hr)
  have hnc:evalOp (CW tr.look) (fun _=>pv) ⟨[],H⟩ (.nilCheck (t_ 0))=some (pv,⟨[],H⟩):=by
   rcases hp with⟨rfl,_⟩|⟨rest,rfl⟩<;>rfl
  simp only[evalOp]at hnc
  obtain⟨q,hq1,hq2,hq3⟩:∃q,fieldF 4 pv=some q/\loadVal ⟨[],H⟩ none q=some (.p (kval t.kids))/\up q = .v q:=by
   rcases hp with⟨rfl,rfl⟩|⟨rest,rfl⟩
   ·exact⟨_,rfl,zab hr' (by rw[Tree.zbq];rfl),rfl⟩
   ·rw[Tree.zbq];exact⟨_,rfl,rfl,rfl⟩
  have hlen:((j+1:Nat):Int)-1=j:=(by omega);obtain⟨ver,cs,op,rfl,hkk,hnn,hxs⟩:=hs;have hk0:=(Aa.1 hkk).1;simp only[hlen]
  have happ:∀ys:J3,ys.length=4->evalAppend ⟨[],H++[IBlk.cells ys 4 0 false]⟩ 4 (.slice k0 ver 0 S'.length) (.slice H.length 0 0 1)=some (.slice k0 (appVer cs 4 S'.length 1 ver) 0 (S'.length+1),⟨[],(H++[IBlk.cells ys 4 0 false]).set k0 (appBlk cs ys 4 S'.length 1 ver op)⟩):=by
   intro ys hy;refine zcb (by rw[Ac hk0];exact hkk) hnn (zch (cs:=ys) (op:=false) (ver:=0) (n:=1) zbb (by omega)) rfl (by omega) ?_;omega
  have happ':=happ (pcell (kidPend t.kids id depth j (klist t.kids)[j])) rfl
  have hcells:pcell (kidPend t.kids id depth j (klist t.kids)[j])=[.p (.ptr (.int .i64 (klist t.kids)[j].kind :: .str (klist t.kids)[j].name :: .str (klist t.kids)[j].text::aval (klist t.kids)[j].attrs::kval (klist t.kids)[j].kids::(kcells (klist t.kids)).drop (j*5+5))), J4 id, J4 (depth+1), J4 j]:=by
   simp only[pcell,kidPend,Tree.zbq];rfl
  simp only[hcells]at happ';simp(disch:=omega) [hfv,hp.cell.2.2,hnc,hq1,hq2,hq3,zhn,zaa,happ'];have hnew:=zlc (H:=H++[IBlk.cells (pcell (kidPend t.kids id depth j (klist t.kids)[j])) 4 0 false]) (ver:=ver) (op:=op) (ys:=pcell (kidPend t.kids id depth j (klist t.kids)[j])) (ny:=1) (k:=k0) (by simp;omega) hnn rfl;rw[hxs]at hnew;have:=hL (j, .slice k0 (appVer cs 4 S'.length 1 ver) 0 (S'.length+1),(H++[IBlk.cells (pcell (kidPend t.kids id depth j (klist t.kids)[j])) 4 0 false]).set k0 (appBlk cs (pcell (kidPend t.kids id depth j (klist t.kids)[j])) 4 S'.length 1 ver op),S'++[kidPend t.kids id depth j (klist t.kids)[j]]) ⟨by dsimp only;omega,?_,?_,?_,?_⟩ (by dsimp only;omega)
  ·simp only[hfv,hcells,BF _ _ hk0]at this;exact this
  ·simp only[Ah,AK,Cm,A0,List.flatMap_nil,AX];exact hnew
  ·exact(hk.trans Keep.new).trans (Keep.set (.inl rfl))
  ·simp only[Ah,AK];omega
  ·rw[<- he,zku hjl];simp
def restV:List Pend->Nat->List Vis
 | [],_=>[]
 |p::r,id=>visT p.t id p.parent p.depth p.place++restV r (id+p.t.size)
def sizes(l:List Pend):Nat:=(l.map fun p=>p.t.size).sum
theorem zix(a b:List Pend):sizes (a++b)=sizes a+sizes b:=by simp[sizes]
theorem zmr:∀(a b:List Pend)(id:Nat),restV (a++b) id=restV a id++restV b (id+sizes a)
 | [],b,id=>by simp[restV,sizes]
 |p::a,b,id=>by
  simp only[Au,restV,zmr a b];simp[sizes,Bq]
theorem zaei(k:Option (List Tree))(id d:Nat):∀n,n<=(klist k).length->∀i,restV (kidsDown k id d n).reverse i=visL ((klist k).take n) i id (d+1) 0/\sizes (kidsDown k id d n)=lsize ((klist k).take n):=by
 have hv:∀(l m:List Tree)(i p d pl:Nat),visL (l++m) i p d pl=visL l i p d pl++visL m (i+lsize l) p d (pl+l.length):=by
  intro l
  induction l with
  |nil=>intro m i p d pl;simp[visL,lsize]
  |cons t l ih =>
   intro m i p d pl;simp only[Au,visL,lsize,Ay,ih,Ax];congr 3<;>omega
 have hls:∀(l m:List Tree),lsize (l++m)=lsize l+lsize m:=by
  intro l
  induction l with
  |nil=>intro m;simp[lsize]
  |cons t l ih=>intro m;simp only[Au,lsize,ih];omega
 intro n
 induction n with
 |zero=>intro _ i;simp[kidsDown,restV,visL,sizes,lsize]
 |succ n ih =>
  intro hn i;obtain⟨h1,h2⟩:=ih (by omega) i;rw[zku (by omega),By,zmr,h1,A1,Ae (by omega),Option.toList_some,hv,hls];have hsz:sizes (kidsDown k id d n).reverse=sizes (kidsDown k id d n):=(by simp[sizes,List.sum_reverse]);refine⟨?_,?_⟩
  ·rw[hsz,h2];simp only[restV,visL,kidPend,AX,AD,Bw (show n<=(klist k).length by omega),As]
  ·have:sizes (kidPend k id d n (klist k)[n]::kidsDown k id d n)=(klist k)[n].size+sizes (kidsDown k id d n):=(by simp[sizes,kidPend]);rw[this,h2];simp only[lsize];omega
theorem zahi{k:Option (List Tree)}{id d r:Nat}{t0:Tree}:∀n,∀p∈kidsDown k id d n,PtrOK r t0 p.pv p.t/\p.depth=d+1:=by
 intro n
 induction n with
 |zero=>intro p hp;simp[kidsDown]at hp
 |succ n ih =>
  intro p hp;simp only[kidsDown]at hp;split at hp
  ·rcases Am.1 hp with rfl|hp
   ·exact⟨.inr ⟨_,rfl⟩,rfl⟩
   ·exact ih p hp
  ·exact ih p hp
def Looks(g:FuncId)(cap:J3)(t0:Tree)(r k0:Nat)(I:Nat->J2->Prop)(b:Nat->Bool):Prop :=
 ∀i (v:Vis) H pv,(visT t0 0 (-1) 0 0)[i]? = some v->I i H->k0<H.length->H[r]? = some (.cells (pcells t0.cells) 5 0 false)->PtrOK r t0 pv v.t ->
    ∃H',CW tr.look g ([J4 i, .agg [pv, J4 v.parent, J4 v.depth, J4 v.place]]++cap) H=some (.p (.bool (b i)),H')/\Keep (fun x=>x≠r/\x≠k0) H H'/\I (i+1) H'
theorem zaok(g:FuncId)(cap:J3)(t0:Tree)(r k0:Nat)(hrk:r≠k0)(hs:t0.size<1000000)
 (I:Nat->J2->Prop)(b:Nat->Bool)
 (hIk:∀i H H',I i H->Keep (· = k0) H H'->I i H')(hstep:Looks g cap t0 r k0 I b)(H1:J2)(hr:H1[r]? = some (.cells (pcells t0.cells) 5 0 false))(sv:IVal)(hsv:HS H1 k0 4 1 sv (pcell ⟨J5 r 0 0,t0, -1,0,0⟩))(hI:I 0 H1)(Q:J0)
 (h1:∀H' n,I n H'->n<=t0.size->(n=t0.size\/∃m,n=m+1/\b m=false)->(∀ i,i+1<n->b i=true)->Q .normal [] ⟨[],H'⟩) :
 wpLoop (CW tr.look) 59 m_62_1 l_62_1 (blkK 0 b_62_0 Q) [(1, .v (.func g cap)),(4, .v sv),(5, .int .i64 0)] ⟨[],H1⟩:=by
 refine zac (α:=Nat×IVal×J2×List Pend) (fun a=>[(1, .v (.func g cap)),(4, .v a.2.1),(5, .int .i64 a.1)]) (fun a=>⟨[],a.2.2.1⟩)
  (fun a=>HS a.2.2.1 k0 4 a.2.2.2.length a.2.1 (a.2.2.2.flatMap pcell)/\a.2.2.1[r]? = some (.cells (pcells t0.cells) 5 0 false)/\I a.1 a.2.2.1/\a.1+sizes a.2.2.2=t0.size/\restV a.2.2.2.reverse a.1=(visT t0 0 (-1) 0 0).drop a.1/\(∀ p∈a.2.2.2,PtrOK r t0 p.pv p.t/\p.depth<=a.1)/\∀i,i<a.1->b i=true)
  (fun a=>sizes a.2.2.2) ?_ (0,sv,H1,[⟨J5 r 0 0,t0, -1,0,0⟩]) ⟨by simpa using hsv,hr,hI,by simp[sizes],by simp[restV],by simp;exact .inl ⟨rfl,rfl⟩,by simp⟩
 rintro⟨id,sv,H,S⟩⟨hS,hr,hI,hsz,hrest,hP,hb⟩ L hL;dsimp only at hS hr hI hsz hrest hP hb hL ⊢;dsimp only[l_62_1]
 have hlenS:S.length<=sizes S:=by
  clear hS hsz hrest hP hL
  induction S with
  |nil=>simp
  |cons p S ih=>have:=zad p.t;simp only[sizes,At,List.sum_cons,Ay]at ih ⊢;omega
 rcases List.eq_nil_or_concat S with rfl|⟨S',p,rfl⟩
 ·obtain⟨ver,cs,op,rfl,hkk,hnn,hxs⟩:=hS;simp[sizes]at hsz;simp(disch:=omega) [];refine h1 H id hI (by omega) (.inl hsz) (fun i hi=>hb i (by omega))
 ·rw[List.concat_eq_append]at *;have hpp:=hP p (by simp);have hS0:=hS;obtain⟨ver,cs,op,rfl,hkk,hnn,hxs⟩:=hS;have hk0:=(Aa.1 hkk).1;simp only[Ah,AK]at hnn hlenS hS0 hxs;obtain⟨ver',hi1,hi2⟩:=HS.load (bx:=[]) hS0 (j:=S'.length) (by omega)
  have hpc:((List.flatMap pcell (S'++[p])).drop (S'.length*4)).take 4=pcell p:=by
   have:=zaoi (l:=S'++[p]) (j:=S'.length) (by simp);rw[this];simp
  rw[hpc]at hi2;simp only[pcell]at hi2;have hl1:((S'.length+1:Nat):Int)-1=(S'.length:Nat):=(by omega)
  have hvis:(visT t0 0 (-1) 0 0)[id]? = some ⟨p.t,p.parent,p.depth,p.place⟩:=by
   have h0:=congrArg (fun l=>l[0]?) hrest;simp only[AU,BA]at h0;rw[<- h0,Co];simp only[C3,restV,zbu,Au,Az]
  obtain⟨H',hg1,hg2,hg3⟩:=hstep id _ H p.pv hvis hI hk0 hr hpp.1;simp only[Au,AT]at hg1
  have hr':H'[r]? = some (.cells (pcells t0.cells) 5 0 false):=by
   rw[hg2.2 r (Aa.1 hr).1 (by simp)];exact hr
  have hkk':H'[k0]? = some (.cells cs 4 ver op):=by
   rw[hg2.2 k0 hk0 (by simp)];exact hkk
  have hid:id<1000000:=(by have:=zad p.t;simp[sizes]at hsz;omega);have hle:((S'.length:Nat):Int)<=(S'.length:Nat)+1:=(by omega);cases hbi:b id
  ·rw[hbi]at hg1;simp(disch:=omega) [hi1,hi2,zaa,hg1,boundHi,boundLo,asBound,hpp.1.cell.2.2,hle,Mem.get,hkk];have h0:=zad p.t;exact h1 H' (id+1) hg3 (by simp[sizes]at hsz;omega) (.inr ⟨id,rfl,hbi⟩) (fun i hi=>hb i (by omega))
  ·rw[hbi]at hg1
   have hnc:evalOp (CW tr.look) (fun _=>p.pv) ⟨[],H'⟩ (.nilCheck (t_ 0))=some (p.pv,⟨[],H'⟩):=by
    rcases hpp.1 with⟨h,_⟩|⟨rest,h⟩<;>rw[h]<;>rfl
   simp only[evalOp]at hnc
   obtain⟨q,hq1,hq2,hq3⟩:∃q,fieldF 4 p.pv=some q/\loadVal ⟨[],H'⟩ none q=some (.p (kval p.t.kids))/\up q = .v q:=by
    rcases hpp.1 with⟨h,h2⟩|⟨rest,h⟩
    ·rw[h,h2];exact⟨_,rfl,zab hr' (by rw[Tree.zbq];rfl),rfl⟩
    ·rw[h,Tree.zbq];exact⟨_,rfl,rfl,rfl⟩
   have ht:=zag p.t;have hkl:=zay (klist p.t.kids);have hps:p.t.size<=t0.size:=(by simp[sizes]at hsz;omega);have hSl:S'.length<=t0.size:=(by simp[sizes]at hsz hlenS;omega);simp(disch:=omega) [hi1,hi2,zaa,hg1,boundHi,boundLo,asBound,hpp.1.cell.2.2,hle,Mem.get,hkk,hnc,hq1,hq2,hq3];refine zaoj (.func g cap) p.pv p.t r k0 t0 id p.depth p.parent p.place H' hpp.1 hrk rfl hr' (by omega) (by have:=hpp.2;omega) (by omega) S' (by omega) _ ⟨ver,cs,op,rfl,hkk',by omega,?_⟩ _ ?_
   ·rw[Cm]at hxs;have h3:(S'.flatMap pcell).length=S'.length*4:=zalg _;have h4:=congrArg (List.take (S'.length*4)) hxs;rw[BV,Bw (by omega),Bf (by omega),Aq (l:=S'.flatMap pcell) (by omega)]at h4;exact h4
   ·intro sv' H2 hs2 hk2;simp(disch:=omega) [zaa];obtain⟨hr1,hr2⟩:=zaei p.t.kids id p.depth (klist p.t.kids).length (Ak _) (id+1);rw[Bk]at hr1 hr2;refine hL (id+1,sv',H2,S'++kidsDown p.t.kids id p.depth (klist p.t.kids).length) ⟨?_,?_,?_,?_,?_,?_,?_⟩ ?_
    ·have:(kidsDown p.t.kids id p.depth (klist p.t.kids).length).length=(klist p.t.kids).length:=by
      have key:∀n,n<=(klist p.t.kids).length->(kidsDown p.t.kids id p.depth n).length=n:=by
       intro n
       induction n with
       |zero=>intro _;rfl
       |succ n ih=>intro hn;rw[zku (by omega),Ay,ih (by omega)]
      exact key _ (Ak _)
     simp only[Ah,this];exact hs2
    ·dsimp only;rw[hk2.2 r (Aa.1 hr').1 hrk];exact hr'
    ·exact hIk _ _ _ hg3 hk2
    ·dsimp only;rw[zix,hr2];simp only[zix]at hsz;simp[sizes]at hsz ⊢;omega
    ·dsimp only;rw[Co,zmr,hr1];rw[Co]at hrest;simp only[C3,restV,zbu p.t,Au]at hrest;have:=congrArg (List.drop 1) hrest;rw[Cp]at this;rw[<- this];simp only[List.drop_one,List.tail_cons];congr 2;have:sizes (kidsDown p.t.kids id p.depth (klist p.t.kids).length).reverse=sizes (kidsDown p.t.kids id p.depth (klist p.t.kids).length):=(by simp[sizes,List.sum_reverse]);rw[this,hr2,ht];omega
    ·intro x hx;rcases AB.1 hx with hx|hx
     ·have:=hP x (by simp[hx]);exact⟨this.1,by dsimp only;omega⟩
     ·have:=zahi (r:=r) (t0:=t0) _ x hx;exact⟨this.1,by have:=hpp.2;dsimp only;omega⟩
    ·intro i hi;dsimp only at hi;by_cases e:i=id
     ·rw[e];exact hbi
     ·exact hb i (by omega)
    ·dsimp only;rw[zix,hr2,zix];simp[sizes];omega
theorem zaol(g:FuncId)(cap:J3)(t0:Tree)(r:Nat)(H0:J2)(hr:H0[r]? = some (.cells (pcells t0.cells) 5 0 false))(hs:t0.size<1000000)
 (I:Nat->J2->Prop)(b:Nat->Bool)(hI0:∀H,Keep (fun _=>False) H0 H->I 0 H)(hIk:∀i H H',I i H->Keep (· = H0.length) H H'->I i H')(hstep:Looks g cap t0 r H0.length I b) :
 ∃H',CW tr.look F_62 [J5 r 0 0, .func g cap] H0=some (.tup [],H')/\∃n,I n H'/\n<=t0.size/\(n=t0.size\/∃m,n=m+1/\b m=false)/\∀i,i+1<n->b i=true:=by
 have hrl:=(Aa.1 hr).1
 obtain⟨rr,H',h1,h2,h3⟩:=zah (args:=[J5 r 0 0, .func g cap]) (H:=H0) (Q:=fun rv H'=>rv = .tup []/\∃n,I n H'/\n<=t0.size/\(n=t0.size\/∃m,n=m+1/\b m=false)/\∀i,i+1<n->b i=true) look_62 rfl rfl (by
  dsimp only[i_62,c_62];simp(disch:=omega) [];refine zaok g cap t0 r H0.length (by omega) hs I b hIk hstep _ ?_ _ ⟨0,pcell ⟨J5 r 0 0,t0, -1,0,0⟩,false,rfl,zbb,by simp[pcell],by simp[pcell]⟩ (hI0 _ Keep.new) _ ?_
  ·rw[Ac hrl];exact hr
  ·intro H' n hn h4 h5 h6;simp(disch:=omega) []
   exact⟨n,hn,h4,h5,h6⟩)
 exact⟨H',by rw[h1,h2],h3⟩
theorem zath(a:Option Attrs)(ha:(alist a).length<1000000)(H:J2):CW tr.look F_64 [.p (aval a)] H=some (.p (aval a),H):=by
 refine zaz look_64 rfl (by simp) rfl ?_;dsimp only[i_64,c_64];cases a with
 |none =>
  have h1:evalNilSl (.p (aval none)) (.p .nilslice)=some true:=rfl;simp(disch:=omega) [h1];rfl
 |some l =>
  have h1:evalNilSl (.p (aval (some l))) (.p .nilslice)=some false:=rfl;simp only[alist,Bv]at ha;cases l with
  |nil =>
   have h2:evalAppend ⟨[],[.cells [] 2 0 false]⟩ 2 (.slice 0 0 0 0) (.p (aval (some [])))=some (.slice 0 0 0 0,⟨[],[.cells [] 2 0 false]⟩):=rfl;simp(disch:=omega) [h1,h2];rfl
  |cons p l =>
   have hlen:=zfe (p::l);have h2:=zcb (bx:=[]) (H:=[.cells [] 2 0 false]) (k:=0) (n:=0) (ver:=0) (op:=false) (cs:=[]) (esz:=2) (y := .p (aval (some (p::l)))) (ys:=pcells (acells (p::l))) (ny:=(p::l).length) rfl (by simp) rfl rfl (by simp) (by omega);rw[As]at h2;have hs:=zlc (H:=[.cells [] 2 0 false]) (k:=0) (n:=0) (ver:=0) (op:=false) (cs:=[]) (esz:=2) (ys:=pcells (acells (p::l))) (ny:=(p::l).length) (by simp) (by simp) (by simp only[pcells,AW];exact hlen);simp only[List.take_nil,AT,As]at hs;have hz:=zgp hs;simp(disch:=omega) [h1,h2];exact hz
def rawItems(t:Tree):List Item:=(visT t 0 (-1) 0 0).map rawOf
def FlatI(t0:Tree)(lb r k0:Nat)(i:Nat)(H:J2):Prop:=∃lv,H[lb]? = some (.cells [lv] 1 0 false) /\
 ((lv = .p .nilslice/\i=0)\/∃kl,kl≠lb/\kl≠r/\kl≠k0/\HS H kl 10 i lv (pcells (icells ((rawItems t0).take i))))
theorem zahj(t0:Tree)(lb r k0:Nat)(hf:Fine t0)(h1:lb≠r)(h2:lb≠k0)(_:r<k0):Looks F_63 [J5 lb 0 0] t0 r k0 (FlatI t0 lb r k0) (fun _=>true):=by
 intro i v H pv hv hI hk0 hr hp;obtain⟨lv,hlb,hl⟩:=hI;have hlbl:=(Aa.1 hlb).1;have hvt:v.t∈t0.nodes:=(by rw[<- zck t0 0 (-1) 0 0];exact AZ.2 ⟨v,Al hv,rfl⟩);have hcl:=zath v.t.attrs (hf.2 _ hvt);have hi:i<(visT t0 0 (-1) 0 0).length:=(Aa.1 hv).1;rw[zae]at hi;have hs6:=hf.1
 have hnc:evalOp (CW tr.look) (fun _=>pv) ⟨[],H⟩ (.nilCheck (t_ 0))=some (pv,⟨[],H⟩):=by
  rcases hp with⟨h,_⟩|⟨rest,h⟩<;>rw[h]<;>rfl
 simp only[evalOp]at hnc
 have hld:loadVal ⟨[],H⟩ (some 5) pv=some (tagg v.t):=by
  rcases hp with⟨h,h2⟩|⟨rest,h⟩
  ·rw[h,h2,zfg (off:=0) (n:=5) hr (by simp[pcells,Tree.zbt])];simp[tagg,Tree.zbq]
  ·rw[h];simp[Tree.zbt,tagg]
 have hlb1:=zab (bx:=[]) (off:=0) hlb rfl
 have hwr:∀(T:J2)(x:IVal),writeCells ⟨[],H++T⟩ (J5 lb 0 0) [x]=some ⟨[],(H++T).set lb (.cells [x] 1 0 false)⟩:=by
  intro T x;rw[zaj (by rw[Ac hlbl];exact hlb) (by simp)];rfl
 have hraw:(rawItems t0)[i]? = some (rawOf v):=(by simp[rawItems,hv]);have hcell:icell (rawOf v)=[.int .i64 v.parent, .int .i64 1, .int .i64 v.depth, .int .i64 1, .int .i64 v.place, .int .i64 v.t.kind, .str v.t.name, .str v.t.text,aval v.t.attrs, .nilslice]:=rfl
 have fin:∀H',(∃ rr,CW tr.look F_63 [J4 i, .agg [pv, J4 v.parent, J4 v.depth, J4 v.place], J5 lb 0 0] H=some (rr,H')/\rr = .p (.bool true)/\Keep (fun x=>x≠r/\x≠k0) H H'/\FlatI t0 lb r k0 (i+1) H') ->
  CW tr.look F_63 ([J4 i, .agg [pv, J4 v.parent, J4 v.depth, J4 v.place]]++[J5 lb 0 0]) H=some (.p (.bool true),H')/\Keep (fun x=>x≠r/\x≠k0) H H'/\FlatI t0 lb r k0 (i+1) H':=by
  rintro H' ⟨rr,e1,rfl,e2,e3⟩;exact⟨e1,e2,e3⟩
 have htake:(rawItems t0).take (i+1)=(rawItems t0).take i++[rawOf v]:=by
  rw[A1,hraw];rfl
 obtain⟨Y,hY⟩:∃Y,[IVal.p (.int .i64 v.parent), J4 1, J4 v.depth, J4 1, J4 v.place, J4 v.t.kind, .p (.str v.t.name), .p (.str v.t.text), .p (aval v.t.attrs), .p .nilslice]=Y:=⟨_,rfl⟩;have hYl:Y.length=10:=(by rw[<- hY];rfl);have hYc:pcells (icell (rawOf v))=Y:=(by rw[<- hY];rfl);have hrl:=(Aa.1 hr).1;rcases hl with⟨rfl,rfl⟩|⟨kl,hkl1,hkl2,hkl3,hkl⟩
 ·have happ:=append_nil (bx:=[]) (H:=H++[IBlk.cells Y 10 0 false]) (esz:=10) (ny:=1) (y := .slice H.length 0 0 1) (zch (op:=false) zbb (by simp[hYl])) rfl (by omega) (by omega)
  obtain⟨rr,H',e1,e2⟩:=zah (args:=[J4 (0:Nat), .agg [pv, J4 v.parent, J4 v.depth, J4 v.place], J5 lb 0 0]) (H:=H)
   (Q:=fun rv H'=>rv = .p (.bool true)/\Keep (fun x=>x≠r/\x≠k0) H H'/\FlatI t0 lb r k0 (0+1) H') look_63 rfl rfl (by
   dsimp only[i_63,c_63];simp(disch:=omega) [hp.cell.2.2,hnc,hld,hcl,hlb1,hY,happ,hwr];refine⟨(Keep.set (.inl ⟨h1,h2⟩)).trans Keep.new,_,by rw[Ac (by simpa using hlbl)];exact zap hlbl, .inr ⟨H.length+1,by omega,by omega,by omega,0,Y,true,rfl,?_,?_,?_⟩⟩
   ·rw[Ad (by simp),AC,A2];rfl
   ·simp[hYl]
   ·rw[show(1:Nat)=0+1 from rfl,htake,Aq (by omega),<-hYc];simp[icells,pcells])
  exact⟨H',fin H' ⟨rr,e1,e2⟩⟩
 ·obtain⟨ver,cs,op,rfl,hkk,hnn,hxs⟩:=hkl;have hkll:=(Aa.1 hkk).1;have happ:=zcb (bx:=[]) (H:=H++[IBlk.cells Y 10 0 false]) (y := .slice H.length 0 0 1) (ny:=1) (by rw[Ac hkll];exact hkk) hnn (zch (op:=false) (ver:=0) (n:=1) zbb (by simp[hYl])) rfl (by omega) (by omega);have hnew:=zlc (H:=H) (ver:=ver) (op:=op) (ys:=Y) (ny:=1) (k:=kl) hkll hnn (by simp[hYl]);rw[hxs]at hnew;rw[BF _ _ hkll]at happ;generalize appBlk cs Y 10 i 1 ver op=BB at happ hnew;generalize appVer cs 10 i 1 ver=vv at happ hnew
  have hwr2:∀(T:J2)(x:IVal),writeCells ⟨[],H.set kl BB++T⟩ (J5 lb 0 0) [x]=some ⟨[],(H.set kl BB++T).set lb (.cells [x] 1 0 false)⟩:=by
   intro T x;rw[zaj (by rw[Ac (by simpa using hlbl),Ag hkl1];exact hlb) (by simp)];rfl
  obtain⟨rr,H',e1,e2⟩:=zah (args:=[J4 i, .agg [pv, J4 v.parent, J4 v.depth, J4 v.place], J5 lb 0 0]) (H:=H)
   (Q:=fun rv H'=>rv = .p (.bool true)/\Keep (fun x=>x≠r/\x≠k0) H H'/\FlatI t0 lb r k0 (i+1) H') look_63 rfl rfl (by
   dsimp only[i_63,c_63];simp(disch:=omega) [hp.cell.2.2,hnc,hld,hcl,hlb1,hY,happ,hwr2];refine⟨((Keep.set (.inl ⟨hkl2,hkl3⟩)).trans Keep.new).trans (Keep.set (.inl ⟨h1,h2⟩)),_,zap (by simp;omega), .inr ⟨kl,hkl1,hkl2,hkl3,?_⟩⟩;rw[htake]
   have h3:pcells (icells ((rawItems t0).take i++[rawOf v]))=pcells (icells ((rawItems t0).take i))++Y:=by
    rw[<- hYc];simp[icells,pcells]
   rw[h3];refine hnew.keep ?_
   rw[Ag (Ne.symm hkl1),Ac (by simpa using hkll)])
  exact⟨H',fin H' ⟨rr,e1,e2⟩⟩
end Go.Ideal
