import Derived.Test.YtpcamifaefigaaaGreatW9
import Derived.Test.YtpcamifaefigaaaGreatW8
import Derived.Test.YtpcamifaefigaaaGreatW7
import Derived.Test.YtpcamifaefigaaaGreatW6
import Derived.Test.YtpcamifaefigaaaGreatChecked
import Derived.Shelf.SlSortCmp.NoneTotal
import Derived.Shelf.Spec.SlicesInsertGrow
import Derived.Shelf.Small.Strs
namespace Go.Ideal
open Go
set_option maxHeartbeats 4000000
set_option maxRecDepth 20000
attribute [-simp] getElem?_pos
theorem HS.set1{H:J2}{k n:Nat}{v:IVal}{X:J3}(h:HS H k 1 n v X){j:Nat}(hj:j<n)(x:IVal):∃ver B,idxS 1 v (J4 j)=some (J5 k ver j)/\writeCells ⟨[],H⟩ (J5 k ver j) [x]=some ⟨[],H.set k B⟩/\HS (H.set k B) k 1 n v (X.set j x):=by
 have hl:=h.xlen;have h0:=h;obtain⟨ver,cs,op,rfl,_⟩:=h;obtain⟨B,w1,w2⟩:=h0.store (bx:=[]) (off:=j) (new:=[x]) (by simp;omega);refine⟨ver,B,by have:=zau (e:=1) (k:=k) (v:=ver) (o:=0) (n:=n) (j:=j) hj;simpa using this,w1,?_⟩
 have:X.set j x=splice X j [x]:=by
  rw[BL,if_pos (by omega)];rfl
 rw[this];exact w2
theorem HS.get1{H:J2}{k n:Nat}{v:IVal}{X:J3}(h:HS H k 1 n v X){j:Nat}{x:IVal}(hx:X[j]? = some x):∃ver,idxS 1 v (J4 j)=some (J5 k ver j)/\loadVal ⟨[],H⟩ none (J5 k ver j)=some x:=by
 have hl:=h.xlen;have hj:=(Aa.1 hx).1;have h0:=h;obtain⟨ver,cs,op,rfl,_⟩:=h;refine⟨ver,by have:=zau (e:=1) (k:=k) (v:=ver) (o:=0) (n:=n) (j:=j) (by omega);simpa using this,h0.field hx⟩
theorem All2.zawx{R:IVal->PVal->Prop}:∀ {l:J3}{m:List PVal},l.length=m.length->(∀(q:Nat)(v:IVal)(p:PVal),l[q]? = some v->m[q]? = some p->R v p)->All2 R l m
 | [],[],_,_=>rfl
 | [],_::_,h,_=>by simp at h
 |_::_,[],h,_=>by simp at h
 |v::l,p::m,h,hr=>⟨p,m,rfl,hr 0 v p rfl rfl,All2.zawx (by simpa using h) fun q v' p' h1 h2=>hr (q+1) v' p' h1 h2⟩
def ks(t:Tree)(j q:Nat):List Nat:=(List.range j).filter fun c=>decide (par t c=(q:Int))
def idl(l:List Nat):List PVal:=l.map fun(i:Nat)=>.int .i64 i
structure KS(t:Tree)(j:Nat)(o:Nat->Option Nat)(C:J3)(H:J2):Prop where
 out:HS H 0 1 t.size (.slice 0 0 0 t.size) C
 len:C.length=t.size
 row:∀q v,C[q]? = some v->VS H (o q) 1 (ks t j q).length v (pcells (idl (ks t j q)))
 inj:∀q q' k,o q=some k->o q'=some k->q=q'
 off:∀q k,o q=some k->k≠0
 lt:∀q k,o q=some k->k<H.length
 ne:∀q k,o q=some k->ks t j q≠[]
theorem zwp(t:Tree)(j q:Nat):ks t (j+1) q=ks t j q++if par t j=(q:Int)then[j]else[]:=by
 unfold ks;rw[Db,List.filter_append];congr 1;by_cases h:par t j=(q:Int)<;>simp[h]
theorem zaju(t:Tree)(hs:t.size<=60)(H:J2):CW tr.look F_86 [.p (ival t)] H=some (.p (kv2 t),H):=by
 refine zaz look_86 rfl (by simp) rfl ?_;dsimp only[i_86,c_86];have hle:(t.size:Int)<=4294967296:=(by omega)
 have hrep:∀n:Nat,repl n [.nilslice]=List.replicate n (IVal.p .nilslice):=fun n=>by
  induction n with
  |zero=>rfl
  |succ n ih=>rw[repl,ih];rfl
 simp(disch:=omega) [hle,hrep]
 refine zac (α:=Nat×(Nat->Option Nat)×J3×J2) (fun s=>[(3, .v (.slice 0 0 0 t.size)),(9, .v (.p (ival t))),(10, .int .i64 t.size),(11, .int .i64 s.1)]) (fun s=>⟨[],s.2.2.2⟩)
  (fun s=>s.1<=t.size/\KS t s.1 s.2.1 s.2.2.1 s.2.2.2) (fun s=>t.size-s.1) ?_ (0,fun _=>none,List.replicate t.size (.p .nilslice),_) ⟨A9 _,⟨⟨0,_,_,rfl,rfl,by simp,by rw[Aq (by simp)]⟩,by simp,fun q v hv=>?_,fun _ _ _ h=>(by cases h),fun _ _ h=>(by cases h),fun _ _ h=>(by cases h),fun _ _ h=>(by cases h)⟩⟩
 ·rintro⟨j,o,C,K⟩⟨hj,hK⟩ R hR;dsimp only at hj hK hR ⊢;dsimp only[l_86_0];by_cases hjl:j<t.size
  ·have hlt:(j:Int)<(t.size:Int):=(by omega);obtain⟨v,_,hit,_,hpar⟩:=zfk hjl;obtain⟨rest,ix⟩:=zwn hit;have hpl:=zajs hjl;rw[hpar]at hpl;by_cases hp0:0<=v.parent
   ·obtain⟨p,hp⟩:∃p:Nat,v.parent=p:=⟨v.parent.toNat,by omega⟩;have hpn:p<t.size:=(by omega);obtain⟨x,hx⟩:∃x,C[p]? = some x:=⟨_,Ae (by rw[hK.len];exact hpn)⟩;obtain⟨ver,i1,i2⟩:=hK.out.get1 hx
    have hver:ver=0:=by
     have:=zau (e:=1) (k:=0) (v:=0) (o:=0) (n:=t.size) (j:=p) hpn;rw[this]at i1;injection i1 with i1;injection i1 with _ i1 _;exact i1.symm
    subst hver;have hrow:=hK.row p x hx;have hup:=hrow.up;have hps:=hrow.pass
    have hln:(ks t j p).length<=j:=by
     have:=BU (fun c=>decide (par t c=(p:Int))) (List.range j)
     simpa[ks]using this
    obtain⟨x',K',o',a1,a2,a3,a4,a5,⟨k',a6⟩⟩:=hrow.append1 (ys:=[J4 j]) rfl (by omega)
    obtain⟨u1,rfl⟩:∃u1,x' = .slice k' u1 0 ((ks t j p).length+1):=by
     have a2':=a2;rw[a6]at a2';obtain⟨ver',cs',op',e,_⟩:=a2';exact⟨ver',e⟩
    have hklt:k'<K'.length:=(by rw[a6]at a2;exact VS.lt a2);have hup':=a2.up;have hps':=a2.pass;have h0:K'[0]? = K[0]? := a3.2 0 (by have:=hK.out.lt;omega) (fun e=>hK.off p 0 e rfl);have hout':HS K' 0 1 t.size (.slice 0 0 0 t.size) C:=hK.out.keep h0;obtain⟨ver2,B,w1,w2,w3⟩:=hout'.set1 hpn (.slice k' u1 0 ((ks t j p).length+1))
    have hver2:ver2=0:=by
     rw[i1]at w1;injection w1 with w1;injection w1 with _ w1 _;exact w1.symm
    subst hver2;have hne:x≠.undef:=(by rintro rfl;exact absurd hps (by decide));have hpi:(0:Int)<=(p:Int):=(by omega);simp(disch:=omega) [ix,hp,i1,i2,hup,a1,hup',w2,zaa];refine hR (j+1,fun q=>if q=p then o' else o q,C.set p (.slice k' u1 0 ((ks t j p).length+1)),K'.set 0 B) ⟨by dsimp only;omega,⟨w3,by dsimp only;rw[AC];exact hK.len,fun q u hu=>?_,fun q q' k h1 h2=>?_,fun q k h1=>?_,fun q k h1=>?_,fun q k h1=>?_⟩⟩ (by dsimp only;omega)
    ·dsimp only at hu ⊢;by_cases hq:q=p
     ·subst hq;rw[if_pos rfl];rw[AQ (by rw[hK.len];exact hpn)]at hu;injection hu with hu;subst hu;rw[zwp,hpar,hp,if_pos rfl];have:pcells (idl (ks t j q++[j]))=pcells (idl (ks t j q))++[J4 j]:=(by simp[idl,pcells]);rw[Ah,AK,this];rw[a6]at a2 ⊢;refine HS.keep a2 (Ag ?_);rcases a5 with a5|⟨k2,a5,a7⟩
      ·rw[a6]at a5;exact fun e=>hK.off q k' a5.symm e.symm
      ·rw[a6]at a5;injection a5 with a5;have:=hK.out.lt;omega
     ·rw[if_neg hq];rw[Ag (fun e=>hq e.symm)]at hu;have hnp:¬par t j=(q:Int):=(by rw[hpar,hp];omega);rw[zwp,if_neg hnp,AX];have h1:=(hK.row q u hu).keep a3 (fun k hk=>fun e=>hq (hK.inj q p k hk e));cases ho:o q with
      |none=>rw[ho]at h1;exact h1
      |some k =>
       rw[ho]at h1;exact HS.keep h1 (Ag (fun e=>hK.off q k ho e.symm))
    ·dsimp only at h1 h2;by_cases hq:q=p<;>by_cases hq':q'=p
     ·rw[hq,hq']
     ·rw[if_pos hq]at h1;rw[if_neg hq']at h2;rcases a5 with a5|⟨k2,a5,a7⟩
      ·rw[a5]at h1;exact hq ▸ (hK.inj p q' k h1 h2)
      ·rw[h1]at a5;injection a5 with a5;have:=hK.lt q' k h2;omega
     ·rw[if_neg hq]at h1;rw[if_pos hq']at h2;rcases a5 with a5|⟨k2,a5,a7⟩
      ·rw[a5]at h2;exact hq' ▸ (hK.inj q p k h1 h2)
      ·rw[h2]at a5;injection a5 with a5;have:=hK.lt q k h1;omega
     ·rw[if_neg hq]at h1;rw[if_neg hq']at h2;exact hK.inj q q' k h1 h2
    ·dsimp only at h1;by_cases hq:q=p
     ·rw[if_pos hq]at h1;rcases a5 with a5|⟨k2,a5,a7⟩
      ·rw[a5]at h1;exact hK.off p k h1
      ·rw[h1]at a5;injection a5 with a5;have:=hK.out.lt;omega
     ·rw[if_neg hq]at h1;exact hK.off q k h1
    ·dsimp only at h1 ⊢;rw[AC];by_cases hq:q=p
     ·rw[if_pos hq,a6]at h1;injection h1 with h1;omega
     ·rw[if_neg hq]at h1;have:=hK.lt q k h1;omega
    ·dsimp only at h1 ⊢;rw[zwp,hpar,hp];by_cases hq:q=p
     ·subst hq;rw[if_pos rfl];simp
     ·rw[if_neg hq]at h1;have:=hK.ne q k h1;simp[this]
   ·have hneg:¬(0:Int)<=v.parent:=hp0;simp(disch:=omega) [ix,zaa];refine hR (j+1,o,C,K) ⟨by dsimp only;omega,⟨hK.out,hK.len,fun q u hu=>?_,hK.inj,hK.off,hK.lt,fun q k hk=>?_⟩⟩ (by dsimp only;omega)
    ·have hnp:¬par t j=(q:Int):=(by rw[hpar];omega);dsimp only;rw[zwp,if_neg hnp,AX];exact hK.row q u hu
    ·have hnp:¬par t j=(q:Int):=(by rw[hpar];omega);dsimp only;rw[zwp,if_neg hnp,AX];exact hK.ne q k hk
  ·obtain rfl:j=t.size:=by omega
   simp(disch:=omega) []
   have hfz:frzP (fun _=>True) K 3 (.slice 0 0 0 t.size) (kv2 t):=by
    refine HS.frz (n:=2) hK.out trivial (All2.zawx (by simp[hK.len]) fun q v p hv hp=>?_);rw[Ap]at hp;obtain⟨h1,_⟩:=Aa.1 hv;rw[hK.len]at h1;rw[List.getElem?_range h1]at hp;injection hp with hp;subst hp;have hrow:=hK.row q v hv;show frzP _ K 2 v (islice (kidsOf t q));have hkk:ks t t.size q=kidsOf t q:=rfl;rw[hkk]at hrow;cases ho:o q with
    |none =>
     rw[ho]at hrow;obtain⟨rfl,h2,_⟩:=hrow;have:kidsOf t q=[]:=Av.1 h2;rw[islice,if_pos this];exact rfl
    |some k =>
     rw[ho]at hrow;have hnz:kidsOf t q≠[]:=hK.ne q k ho;rw[islice,if_neg hnz];exact HS.frz (n:=1) hrow trivial (All2.plain (n:=0) _)
   have:=zpi (zfj (m:=100) (by omega) hfz);exact this
 ·have:v = .p .nilslice:=by
   rw[Cs]at hv;split at hv
   ·injection hv with hv;exact hv.symm
   ·cases hv
  subst this;exact⟨rfl,by simp[ks],by simp[ks,idl,pcells]⟩
theorem zapu{L:J1}{i j:Nat}:frE L i j=true↔i∉L.map (·.1)/\j∉L.map (·.2):=by
 simp only[frE,Aj,B8,zrb,zabq]
theorem zauk{a b:Tree}{P:J1}{pv:PVal}(hpv:PV pv P)(hP:PI a b P)(hl:P.length<=1000)(z:KB){H1:J2}(hM:MM a b [] H1)(Q:J0)
 (hQ:∀K,MM a b P K->Q .normal [(2, .box 2 0),(5, .v mptr)] ⟨[(2,some z)],K⟩) :
 wpLoop (CW tr.look) 143 m_45_0 l_45_0 (blkK 0 b_45_0 Q) [(2, .box 2 0),(5, .v mptr),(53, .v (.p pv)),(54, .int .i64 P.length),(55, .int .i64 0)] ⟨[(2,some z)],H1⟩:=by
 have hup:=hpv.up
 refine zac (α:=Nat×J2) (fun s=>[(2, .box 2 0),(5, .v mptr),(53, .v (.p pv)),(54, .int .i64 P.length),(55, .int .i64 s.1)]) (fun s=>⟨[(2,some z)],s.2⟩)
  (fun s=>s.1<=P.length/\MM a b (P.take s.1) s.2) (fun s=>P.length-s.1) ?_ (0,H1) ⟨A9 _,hM⟩
 rintro⟨k,K⟩⟨hk,hK⟩ R hR;dsimp only at hk hK hR ⊢;dsimp only[l_45_0];by_cases hkl:k<P.length
 ·have hlt:(k:Int)<(P.length:Int):=(by omega);obtain⟨p,hp⟩:∃p,P[k]? = some p:=⟨_,Ae hkl⟩;have ix:=hpv.idx hp;have htk:P.take (k+1)=P.take k++[p]:=(by rw[A1,hp];rfl)
  have hf:frE (P.take k) p.1 p.2=true:=by
   have hin1:∀f:Nat×Nat->Nat,f p∈(P.drop k).map f:=fun f=>AZ.2 ⟨p,AJ.2 ⟨0,by rw[AU];simpa using hp⟩,rfl⟩;have hn1:=hP.nx;have hn2:=hP.nz;rw[<- Bl k P,AO,Bp]at hn1 hn2;exact zapu.2 ⟨fun hm=>hn1.2.2 _ hm _ (hin1 (·.1)) rfl,fun hm=>hn2.2.2 _ hm _ (hin1 (·.2)) rfl⟩
  obtain⟨K',q1,q2,_,_⟩:=zrc hK p.1 p.2 hf;have q1':CW tr.look F_88 [J5 2 0 0, J4 p.1, J4 p.2] K=some (.tup [],K'):=q1;simp(disch:=omega) [ix,q1',zaa];exact hR (k+1,K') ⟨by dsimp only;omega,by dsimp only;rw[htk];exact q2⟩ (by dsimp only;omega)
 ·obtain rfl:k=P.length:=by omega
  rw[Bk]at hK;simp(disch:=omega) [];exact hQ K hK
theorem zapv{N:List Nat}{k i:Nat}(h:N[k]? = some i):∃rest,idxS 1 (.p (nval N)) (J4 k)=some (.p (.ptr (.int .i64 i::rest))):=by
 obtain⟨h1,h2⟩:=Aa.1 h;refine⟨(nints N).drop (k+1),?_⟩;have hlen:(nints N).length=N.length:=(by simp[nints]);rw[nval,zdl h1,Cf,AF (by omega)];congr 4;simp[nints,h2]
theorem zaul{a b:Tree}(fa:Fine a)(fb:Fine b)(sa:a.size<=60)(sb:b.size<=60){P:J1}(hP:PI a b P)(N:List Nat)(hN:∀i∈N,i<a.size)(hNl:N.length<=60){H1:J2}(hM:MM a b P H1)(Q:J0)
 (hQ:∀X K,MM a b (P++X) K->PI a b (P++X)->Q .normal [(5, .v mptr)] ⟨[],K⟩) :
 wpLoop (CW tr.look) 143 m_45_1 l_45_1 (blkK 2 b_45_2 Q) [(5, .v mptr),(67, .v (.p (nval N))),(68, .int .i64 N.length),(69, .int .i64 0)] ⟨[],H1⟩:=by
 have hup:up (.p (nval N)) = .v (.p (nval N)):=rfl
 refine zac (α:=Nat×J1×J2) (fun s=>[(5, .v mptr),(67, .v (.p (nval N))),(68, .int .i64 N.length),(69, .int .i64 s.1)]) (fun s=>⟨[],s.2.2⟩)
  (fun s=>s.1<=N.length/\MM a b (P++s.2.1) s.2.2/\PI a b (P++s.2.1)) (fun s=>N.length-s.1) ?_ (0,[],H1) ⟨A9 _,by rw[AX];exact hM,by rw[AX];exact hP⟩
 rintro⟨k,X,K⟩⟨hk,hK,hI⟩ R hR;dsimp only at hk hK hI hR ⊢;dsimp only[l_45_1];by_cases hkl:k<N.length
 ·have hlt:(k:Int)<(N.length:Int):=(by omega);obtain⟨i,hi⟩:∃i,N[k]? = some i:=⟨_,Ae hkl⟩;obtain⟨rest,ix⟩:=zapv hi;have hia:=hN i (Al hi);obtain⟨_,_,_,_,l4,_⟩:=hK.ld;have g1:=zjw (k:=(i:Int)) hK.to (J4 0);rw[zra,zaey]at g1;have hskip:∀K',MM a b (P++X) K'->R [(5, .v mptr),(67, .v (.p (nval N))),(68, .int .i64 N.length),(69, .int .i64 ((k+1:Nat)))] ⟨[],K'⟩:=fun K' hK'=>hR (k+1,X,K') ⟨by dsimp only;omega,hK',hI⟩ (by dsimp only;omega);cases ht:toN (P++X) i with
  |some j =>
   rw[ht]at g1;have hr:=hskip K hK;simp(disch:=omega) [ix,l4,g1,zaa,vI];exact hr
  |none =>
   rw[ht]at g1;obtain⟨r,K1,b1,b2,b3,b4,b5⟩:=zbau hK (fun p hp=>(hI.ok p hp).2.1) sa sb i hia;have b1':CW tr.look F_89 [J5 2 0 0, J4 i] K=some (r,K1):=b1;rcases b5 with rfl|⟨j,rfl,hj,hf,hkin⟩
   ·have hr:=hskip K1 b2;simp(disch:=omega) [ix,l4,g1,zaa,vI,b1'];exact hr
   ·obtain⟨K2,c1,c2,_,_⟩:=zrc b2 i j hf;have c1':CW tr.look F_88 [J5 2 0 0, J4 i, J4 j] K1=some (.tup [],K2):=c1;have hI2:=hI.add hia hj hf hkin;obtain⟨r3,K3,d1,rfl,Y,d2,d3,_⟩:=zaps fa fb c2 hI2 sa sb i j hia hj;have d1':CW tr.look F_90 [J5 2 0 0, J4 i, J4 j] K2=some (.tup [],K3):=d1;have hj0:(0:Int)<=(j:Int):=(by omega);simp(disch:=omega) [ix,l4,g1,zaa,vI,b1',c1',d1'];have e:P++X++[(i,j)]++Y=P++(X++([(i,j)]++Y)):=(by simp);rw[e]at d2 d3;exact hR (k+1,X++([(i,j)]++Y),K3) ⟨by dsimp only;omega,d2,d3⟩ (by dsimp only;omega)
 ·obtain rfl:k=N.length:=by omega
  simp(disch:=omega) [];exact hQ X K hK hI
def KidsShut(a b:Tree)(L:J1)(n:Nat):Prop:=∀p∈L,p.1<n->∀c∈kidsOf a p.1,Shut a b L c (kidsOf b p.2)
theorem zajv{a b:Tree}(sa:a.size<=60)(sb:b.size<=60){P:J1}(hP:PI a b P){H1:J2}(hM:MM a b P H1)(Q:J0)
 (hQ:∀X K,MM a b (P++X) K->PI a b (P++X)->KidsShut a b (P++X) a.size->Q .normal [(5, .v mptr)] ⟨[],K⟩) :
 wpLoop (CW tr.look) 143 m_45_2 l_45_2 (blkK 4 b_45_4 Q) [(5, .v mptr),(105, .int .i64 a.size),(106, .int .i64 0)] ⟨[],H1⟩:=by
 refine zac (α:=Nat×J1×J2) (fun s=>[(5, .v mptr),(105, .int .i64 a.size),(106, .int .i64 s.1)]) (fun s=>⟨[],s.2.2⟩)
  (fun s=>s.1<=a.size/\MM a b (P++s.2.1) s.2.2/\PI a b (P++s.2.1)/\KidsShut a b (P++s.2.1) s.1) (fun s=>a.size-s.1) ?_ (0,[],H1) ⟨A9 _,by rw[AX];exact hM,by rw[AX];exact hP,fun p _ h=>by omega⟩
 rintro⟨i,X,K⟩⟨hk,hK,hI,hC⟩ R hR;dsimp only at hk hK hI hC hR ⊢;dsimp only[l_45_2];by_cases hil:i<a.size
 ·have hlt:(i:Int)<(a.size:Int):=(by omega);obtain⟨_,_,_,_,l4,_⟩:=hK.ld;have g1:=zjw (k:=(i:Int)) hK.to (J4 0);rw[zra,zaey]at g1;cases ht:toN (P++X) i with
  |none =>
   rw[ht]at g1;simp(disch:=omega) [l4,g1,zaa,vI];refine hR (i+1,X,K) ⟨by dsimp only;omega,hK,hI,fun p hp hpi=>?_⟩ (by dsimp only;omega);have:p.1≠i:=fun e=>zrb.1 ht (by rw[<- e];exact AZ.2 ⟨p,hp,rfl⟩);exact hC p hp (by dsimp only at hpi;omega)
  |some j =>
   rw[ht]at g1;have hmem:=(zajr hI.nx).1 ht;have hj:=(hI.ok _ hmem).2.1;obtain⟨r,K',d1,rfl,Y,d2,d3,d4,d5⟩:=zauj hK hI sa sb i j hil hj;have d1':CW tr.look F_92 [J5 2 0 0, J4 i, J4 j] K=some (.tup [],K'):=d1;simp(disch:=omega) [l4,g1,d1',zaa,vI];rw[Ax]at d2 d3 d4;refine hR (i+1,X++Y,K') ⟨by dsimp only;omega,d2,d3,fun p hp hpi=>?_⟩ (by dsimp only;omega);dsimp only at hp hpi ⊢;rw[<- Ax]at hp;rcases AB.1 hp with hp|hp
   ·by_cases e:p.1=i
    ·have:p.2=j:=by
      have h1:=(zajr hI.nx (i:=p.1) (j:=p.2)).2 hp;rw[e,ht]at h1;injection h1 with h1;exact h1.symm
     rw[e,this];exact d4
    ·intro c hc;rw[<- Ax];exact(hC p hp (by omega) c hc).app
   ·have hkid:=zsi.1 (d5 p hp);have hpl:=zajs hkid.1;omega
 ·obtain rfl:i=a.size:=by omega
  simp(disch:=omega) [];exact hQ X K hK hI hC
section
variable {C:Oracle}{n i:Nat}{blk:IBlk}{Q:IVal->J2->Prop}{T:Env}{M:KM}
theorem zaum{k v:IVal}{s:Nat} {σ:List Ent}:rndK C i_45 n i blk Q ((k,v,s)::σ) T M=maskS m_45_90 T M fun T M=>lookE T 128 = .v (.opq n)/\wp C 143 (.block 7 b_45_91 (.seq (.reg [] c_45_73) c_45_71)) (fun e T M=>e = .normal/\M.H[i]? = some blk/\rndK C i_45 n i blk Q σ T M) (putK 143 (putK 143 (putK 143 T (some 129) (up (.tup [.p (.bool true),k,v]))) (some 130) (.bool true)) (some 131) (up (.tup [k,v]))) M:=rfl
theorem zbaw:rndK C i_45 n i blk Q [] T M=maskS m_45_90 T M fun T M=>lookE T 128 = .v (.opq n)/\maskS b_45_92 (putK 143 (putK 143 T (some 129) .U) (some 130) (.bool false)) M fun T M=>wp C 143 c_45_72 (retK [.tmp 4] Q) T M:=rfl
end
def entP(e:Ent):Nat×Nat:=match e with
 |(.p (.int _ a), .p (.int _ b),_)=>(a.toNat,b.toNat)
 |_=>(0,0)
theorem zabt:∀(L:J1)(n:Nat),∀e∈ME0 n (toE L),∃p∈L,∃s,e=(vI p.1,vI p.2,s)
 | [],n,e,h=>by simp[toE,ME0]at h
 |p::L,n,e,h=>by
  simp only[toE,At,ME0]at h;rcases Am.1 h with rfl|h
  ·exact⟨p,by simp,n,rfl⟩
  ·obtain⟨q,hq,s,hs⟩:=zabt L (n+1) e h;exact⟨q,Ao _ hq,s,hs⟩
theorem zabu:∀(L:J1)(n:Nat),(ME0 n (toE L)).map entP=L
 | [],n=>rfl
 |p::L,n=>by
  have:=zabu L (n+1);simp only[toE,At,ME0]at this ⊢;rw[this];simp[entP,vI]
theorem zpj:∀(E:List (Int×IVal))(n:Nat),(ME0 n E).map (·.2.2)=List.range' n E.length
 | [],n=>rfl
 |(k,v)::E,n=>by simp only[ME0,At,zpj E (n+1),Ay,Cq]
theorem zre(E:List (Int×IVal)):stamps (ME0 0 E) E.length:=by
 refine⟨by rw[zpj];exact CF,fun e he=>?_⟩;have:e.2.2∈(ME0 0 E).map (·.2.2):=AZ.2 ⟨e,he,rfl⟩;rw[zpj,List.mem_range'_1]at this;omega
theorem zwq(n:Nat)(blk:IBlk)(r:IVal):∀(σ:List Ent)(D:J1)(lv:IVal)(o:Option Nat)(K:J2)(T:Env)(B:List (Nat×Option KB)),
 (∀ e∈σ,∃p:Nat×Nat,∃s,e=(vI p.1,vI p.2,s))->D.length+σ.length<1000000->lookE T 16 = .v lv->lookE T 128 = .v (.opq n)->K[0]? = some blk->VS K o 2 D.length lv (pcells (prc D))->o≠some 0 ->
 (∀ K' lv' o',K'[0]? = some blk->VS K' o' 2 (D++σ.map entP).length lv' (pcells (prc (D++σ.map entP)))->∃K2,CW tr.look F_93 [lv', .p (.func F_94)] K'=some (.tup [],K2)/\freezeRes K2 lv'=some r/\freshRes K2 lv'=true) ->
 rndK (CW tr.look) i_45 n 0 blk (fun v H'=>freezeRes H' v=some r/\freshRes H' v=true) σ T ⟨B,K⟩
 | [],D,lv,o,K,T,B,_,_,hT,hn,hb,hv,ho,hQ=>by
   rw[zbaw];obtain⟨K2,q1,q2,q3⟩:=hQ K lv o hb (by simpa using hv);have hup:=hv.up;have hps:=hv.pass;simp(disch:=omega) [hT,hn,c_45_72,q1,hps,q2,q3]
 |e::σ,D,lv,o,K,T,B,hs,hl,hT,hn,hb,hv,ho,hQ=>by
  obtain⟨p,s,rfl⟩:=hs e (by simp);rw[zaum];have hup:=hv.up;have hps:=hv.pass;obtain⟨lv2,K2,o2,a1,a2,a3,a4,a5,⟨k2,a6⟩⟩:=hv.append1 (ys:=[J4 p.1, J4 p.2]) rfl (by simp at hl;omega);have hup2:=a2.up;simp(disch:=omega) [hT,hn,c_45_73,c_45_71,vI,a1,hup2];have hkl:=(Aa.1 hb).1;have hb2:K2[0]? = some blk:=(by rw[a3.2 0 hkl ho];exact hb);have hprc:pcells (prc (D++[p]))=pcells (prc D)++[J4 p.1, J4 p.2]:=(by simp[prc,pcells])
  have hmap:D++((vI p.1,vI p.2,s)::σ).map entP=(D++[p])++σ.map entP:=by
   simp[entP,vI]
  refine⟨hb2,zwq n blk r σ (D++[p]) lv2 o2 K2 _ _ (fun e he=>hs e (Ao _ he)) (by simp at hl ⊢;omega) rfl rfl hb2 (by rw[hprc,Ah,AK];exact a2) ?_ (fun K' lv' o' g1 g2=>hQ K' lv' o' g1 (by rw[hmap];exact g2))⟩;rcases a5 with rfl|⟨k,rfl,hk⟩
  ·exact ho
  ·intro h;injection h with h;omega
theorem zapw{k:Int}{n x:Bytes}(h:leafB k n x=true):k≠1:=by
 unfold leafB at h;intro e;subst e;simp at h
theorem zzk:∀(n:Nat)(t:Tree),t.size<n->nodeB t=true->∀u∈t.nodes,u.kind≠1
 |0,t,h,_=>by omega
 |n+1,t,h,hb=>by
  intro u hu;rw[zkx]at hb;rw[zcn]at hu;have hts:=zag t;by_cases hk:t.kind=2
  ·rw[if_pos hk]at hb;simp only[Aj]at hb;rcases Am.1 hu with rfl|hu
   ·rw[hk];decide
   ·obtain⟨c,hc,huc⟩:=zhw.1 hu
    have hcb:∀(l:List Tree)(r:Bool),kidsB r l=true->∀c∈l,nodeB c=true:=by
     intro l r
     induction l with
     |nil=>intro _ c hc;cases hc
     |cons x l ih =>
      intro h c hc;simp only[kidsB,Aj]at h;rcases Am.1 hc with rfl|hc
      ·exact h.1.1
      ·exact ih h.2 c hc
    exact zzk n c (by have:=zbm hc;omega) (hcb _ _ hb.2 c hc) u huc
  ·rw[if_neg hk]at hb;simp only[Aj,decide_eq_true_eq]at hb;have hnil:klist t.kids=[]:=Av.1 hb.1.2;rw[hnil]at hu;simp[lnodes]at hu;subst hu;exact zapw hb.2
theorem zajw{r:Bool}:∀ {l:List Tree},kidsB r l=true->∀c∈l,nodeB c=true
 | [],_,c,hc=>by cases hc
 |x::l,h,c,hc=>by
  simp only[kidsB,Aj]at h;rcases Am.1 hc with rfl|hc
  ·exact h.1.1
  ·exact zajw h.2 c hc
theorem zrf{t:Tree}(hc:checkB t=true){i:Nat}(hi:i<t.size):(subT t i).kind=1↔i=0:=by
 simp only[checkB,Aj,decide_eq_true_eq]at hc;constructor
 ·intro hk;rcases BW i with h|h
  ·exact h
  ·exfalso;have hg:=zhp hi;rw[zcn]at hg;obtain⟨j,rfl⟩:∃j,i=j+1:=⟨i-1,by omega⟩;rw[Ar]at hg;obtain⟨c,hcm,huc⟩:=zhw.1 (Al hg);exact zzk _ c (An _) (zajw hc.2 c hcm) _ huc hk
 ·rintro rfl;rw[zwd];exact hc.1.1.1.1.1
structure MF(a b:Tree)(L:J1):Prop where
 pi:PI a b L
 root:(0,0)∈L
 shut:KidsShut a b L a.size
 pre:∃X,L=sortP (alikeN a b 2)++X
def MQ(a b:Tree)(r:IVal):Prop:=∃pv L,r = .p pv/\PV pv (sortP L)/\MF a b L
theorem zbax{t:Tree}{i:Nat}(h:i∈postT t 0):i<t.size:=by
 obtain⟨k,hk⟩:=AJ.1 h;obtain⟨_,_,_,_,_,_,h5⟩:=zvy hk;exact h5
theorem zapx{a b:Tree}(ca:checkB a=true)(cb:checkB b=true){L:J1}(hI:PI a b L)(h:frE L 0 0=false):(0,0)∈L:=by
 have hn:¬(0∉L.map (·.1)/\0∉L.map (·.2)):=fun hh=>by rw[zapu.2 hh]at h;cases h
 have key:∀p∈L,(p.1=0↔p.2=0):=fun p hp=>by
  obtain⟨h1,h2,h3⟩:=hI.ok p hp;rw[<- zrf ca h1,<-zrf cb h2,h3.1]
 by_cases h1:0∈L.map (·.1)
 ·obtain⟨p,hp,e⟩:=AZ.1 h1;have:=(key p hp).1 e;obtain⟨x,y⟩:=p;simp only at e this;subst e this;exact hp
 ·have h2:0∈L.map (·.2):=by
   refine BC fun h2=>hn ⟨h1,h2⟩
  obtain⟨p,hp,e⟩:=AZ.1 h2;have:=(key p hp).2 e;obtain⟨x,y⟩:=p;simp only at e this;subst e this;exact hp
theorem ztq{H:J2}{o:Option Nat}{L:J1}{v:IVal}(h:VS H o 2 L.length v (pcells (prc L)))(h0:L≠[]):freezeRes H v=some (.p (.slice 2 L.length (prc L))):=by
 cases o with
 |none=>obtain⟨_,h2,_⟩:=h;exact absurd (Av.1 h2) h0
 |some k =>
  have h1:=zmq h;simp only at h1;obtain⟨ver,cs,op,rfl,_⟩:=h;simp only[freezeRes,freezeOne,h1]
theorem zzl{g:IVal->Bool}:∀ {l:J3},(∀ v∈l,g v=true)->freshCells g l=true
 | [],_=>rfl
 |v::l,h=>by
  simp only[freshCells,h v (by simp)];exact zzl fun w hw=>h w (Ao _ hw)
theorem zwr{H:J2}{o:Option Nat}{L:J1}{v:IVal}(h:VS H o 2 L.length v (pcells (prc L))):freshRes H v=true:=by
 cases o with
 |none=>obtain⟨rfl,_,_⟩:=h;rfl
 |some k =>
  obtain⟨ver,cs,op,rfl,h1,h2,h3⟩:=h
  have:freshCells (freshCell H 99) ((cs.drop 0).take (L.length*2))=true:=by
   rw[Bn,h3];refine zzl fun w hw=>?_;obtain⟨p,hp,rfl⟩:=AZ.1 hw;simp only[prc,BX,Am,Cg,or_false]at hp;obtain⟨q,_,rfl|rfl⟩:=hp<;>rfl
  show freshCell H (99+1) (.slice k ver 0 L.length)=true;rw[freshCell];simp only[h1];exact this
theorem zafa{a b:Tree}(sa:a.size<=60){L:J1}{K:J2}(hM:MM a b L K)(hF:MF a b L){T:Env}(h1:lookE T 127 = .v (.map 0))(h2:lookE T 16 = .v (.p .nilslice)):rngE (CW tr.look) i_45 (MQ a b) .normal T ⟨[],K⟩:=by
 have hne:sortP L≠[]:=fun e=>by
  have:=(zbh L).mem_iff.2 hF.root;rw[e]at this;cases this
 have hlen:(sortP L).length=L.length:=(zbh L).length_eq
 have hLl:L.length<=60:=by
  have:=zil a.size _ hF.pi.nx (fun x hx=>by obtain⟨p,hp,rfl⟩:=AZ.1 hx;exact(hF.pi.ok p hp).1);simp at this;omega
 refine⟨.p (.slice 2 (sortP L).length (prc (sortP L))),⟨_,L,rfl, .inr rfl,hF⟩,0,ME0 0 (toE L),(toE L).length,?_,hM.to,zre _,by decide,by decide,fun n σ hσ=>?_⟩
 ·show(lookE T 127).den=_;rw[h1];rfl
 ·have hmem:∀e∈σ,∃p:Nat×Nat,∃s,e=(vI p.1,vI p.2,s):=fun e he=>by
   obtain⟨p,_,s,hs⟩:=zabt L 0 e (hσ.mem_iff.1 he);exact⟨p,s,hs⟩
  have hmap:(σ.map entP).Perm L:=by
   have:=hσ.map entP;rw[zabu]at this;exact this
  refine zwq n _ _ σ [] (.p .nilslice) none K _ _ hmem (by rw[hσ.length_eq,zapn];simp[toE];omega) ?_ ?_ hM.to ⟨rfl,rfl,rfl⟩ (by simp) fun K' lv' o' g1 g2=>?_
  ·show lookE (putK 143 T (some 128) (.v (.opq n))) 16=_
   simpa[putK,lookE]using h2
  ·show lookE (putK 143 T (some 128) (.v (.opq n))) 128=_;simp[lookE]
  ·rw[AT]at g2;have hnd:((σ.map entP).map (·.1)).Nodup:=(hmap.map _).nodup_iff.2 hF.pi.nx;have hsl:(σ.map entP).length=L.length:=hmap.length_eq;obtain⟨K2,q1,q2⟩:=zaia (g:=F_94) (by simp) lv' o' _ hnd (by omega) K' g2;have hun:sortP (σ.map entP)=sortP L:=ziw hF.pi.nx ((zbh _).trans hmap) (zgn _);rw[hun,hsl,<-hlen]at q2;exact⟨K2,q1,ztq q2 hne,zwr q2⟩
theorem zajx(a b:Tree)(fa:Fine a)(fb:Fine b)(na:StrT a)(nb:StrT b)(ca:checkB a=true)(cb:checkB b=true)(sa:a.size<=60)(sb:b.size<=60)(hal:PI a b (sortP (alikeN a b 2))) :
 ∃r,(∀ args H,freezeAll H args=some [tagg a,tagg b]->CW tr.look F_45 args H=some (r,H))/\MQ a b r:=by
 have h1:=zcx a fa.1;have h2:=zcx b fb.1;rw[ca]at h1;rw[cb]at h2;have f1:=zcc a fa;have f2:=zcc b fb;have k1:=zaju a sa;have k2:=zaju b sb;have hpo:=zkv a fa;obtain⟨pv,hpv,ha⟩:=zauc a b fa fb na nb 2 ca cb;have hup:=hpv.up;have hln:=hpv.len
 have hPl:(sortP (alikeN a b 2)).length<=1000:=by
  have:=zil a.size _ hal.nx (fun x hx=>by obtain⟨p,hp,rfl⟩:=AZ.1 hx;exact(hal.ok p hp).1);simp at this;omega
 refine zanv none_45 (fun C args H r h=>⟨rfl,h⟩) rfl ?_;show wp (CW tr.look) 143 c_45_70 (rngE (CW tr.look) i_45 (MQ a b)) _ _;dsimp only[c_45_70];simp(disch:=omega) [zai,h1,h2,f1,f2];refine⟨⟨⟨_,rfl,rfl⟩,⟨_,rfl,rfl⟩⟩,⟨⟨_,rfl,rfl⟩,⟨_,rfl,rfl⟩⟩,?_⟩;obtain⟨H0,hH0⟩:∃H0,[IBlk.map [] 0,IBlk.map [] 0,IBlk.cells [IVal.p (PVal.int IntKind.i64 a.kind),IVal.p (PVal.str a.name),IVal.p (PVal.str a.text),IVal.p (aval a.attrs),IVal.p (kval a.kids),IVal.p (PVal.int IntKind.i64 b.kind),IVal.p (PVal.str b.name),IVal.p (PVal.str b.text),IVal.p (aval b.attrs),IVal.p (kval b.kids),IVal.p (ival a),IVal.p (ival b),IVal.p PVal.nilslice,IVal.p PVal.nilslice,IVal.map 0,IVal.map 1] 16 0 false]=H0:=⟨_,rfl⟩;have l10:loadVal ⟨[],H0⟩ none (J5 2 0 10)=some (.p (ival a)):=(by rw[<- hH0];rfl);have l11:loadVal ⟨[],H0⟩ none (J5 2 0 11)=some (.p (ival b)):=(by rw[<- hH0];rfl);obtain⟨H1,hH1⟩:∃H1,[IBlk.map [] 0,IBlk.map [] 0,mB a b 0 1]=H1:=⟨_,rfl⟩;have w12:writeCells ⟨[],H0⟩ (J5 2 0 12) [.p (kv2 a), .p (kv2 b)]=some ⟨[],H1⟩:=(by rw[<- hH0,<-hH1,zabr];rfl);have hM:MM a b [] H1:=(by rw[<- hH1];exact⟨rfl,rfl,rfl⟩);rw[hH0];simp(disch:=omega) [l10,l11,k1,k2,w12,ha,hup,hln,zai];refine zauk hpv hal hPl _ hM _ fun K0 hK0=>?_;have hpl:sliceLen (.p (nval (postT a 0)))=some (postT a 0).length:=rfl;have hupn:up (.p (nval (postT a 0))) = .v (.p (nval (postT a 0))):=rfl;simp(disch:=omega) [zai,hpo,hpl,hupn];refine zaul fa fb sa sb hal (postT a 0) (fun i hi=>zbax hi) (by rw[zav];exact sa) hK0 _ fun X K1 hK1 hI1=>?_;have fr:CW tr.look F_91 [J5 2 0 0, J4 0, J4 0] K1=some (.p (.bool (frE (sortP (alikeN a b 2)++X) 0 0)),K1):=zabs hK1 0 0;cases hf:frE (sortP (alikeN a b 2)++X) 0 0 with
 |false =>
  rw[hf]at fr;have hroot:=zapx ca cb hI1 hf;have l10':=hK1.ld.1;simp(disch:=omega) [fr,l10'];refine zajv sa sb hI1 hK1 _ fun Y K2 hK2 hI2 hC=>?_;have l14:=hK2.ld.2.2.2.2.1;simp(disch:=omega) [l14];exact zafa sa hK2 ⟨hI2,BI _ hroot,hC,⟨X++Y,by rw[Ax]⟩⟩ rfl rfl
 |true =>
  rw[hf]at fr;obtain⟨K2,c1,c2,_,_⟩:=zrc hK1 0 0 hf;have c1':CW tr.look F_88 [J5 2 0 0, J4 0, J4 0] K1=some (.tup [],K2):=c1;have oa:=zad a;have ob:=zad b
  have k00:kinT (subT a 0) (subT b 0):=by
   have e1:=(zrf ca (i:=0) (by omega)).2 rfl;have e2:=(zrf cb (i:=0) (by omega)).2 rfl;refine⟨by rw[e1,e2],?_⟩;rw[zwd,zwd];simp only[checkB,Aj,decide_eq_true_eq]at ca cb;rw[ca.1.1.2.1,cb.1.1.2.1]
  have hI2:=hI1.add (by omega) (by omega) hf k00;have l10':=c2.ld.1;simp(disch:=omega) [fr,c1',l10'];refine zajv sa sb hI2 c2 _ fun Y K3 hK3 hI3 hC=>?_;have l14:=hK3.ld.2.2.2.2.1;simp(disch:=omega) [l14];exact zafa sa hK3 ⟨hI3,BI _ (Br _ (by simp)),hC,⟨X++([(0,0)]++Y),by simp⟩⟩ rfl rfl
def lst(l:J1):Int:=match l.getLast? with
 |none => -1
 |some p=>p.1
theorem zbay(l:J1)(p:Nat×Nat):lst (l++[p])=p.1:=by simp[lst]
def thE(L:J1):List (Int×IVal):=L.map fun p=>((p.2:Int), .p (.bool true))
theorem zaun(j:Nat):∀L:J1,(mget (thE L) j).getD (.p (.bool false)) = .p (.bool (decide (j∈L.map (·.2)))):=by
 have key:∀(L:J1)(n:Nat),((mfind (j:Int) (thE L) n).map (·.2)).getD (.p (.bool false)) = .p (.bool (decide (j∈L.map (·.2)))):=by
  intro L
  induction L with
  |nil=>intro n;simp[thE,mfind]
  |cons p L ih =>
   intro n;simp only[thE,At,mfind];by_cases h:p.2=j
   ·subst h;simp
   ·have h':¬(p.2:Int)=j:=(by omega);simp only[h',if_false];have:=ih (n+1);simp only[thE]at this;rw[this];have hne:¬j=p.2:=fun e=>h e.symm;simp[hne]
 exact fun L=>key L 0
theorem zabv{j:Nat}{L:J1}(h:j∉L.map (·.2)):mget (thE L) j=none:=by
 have key:∀(L:J1)(n:Nat),j∉L.map (·.2)->mfind (j:Int) (thE L) n=none:=by
  intro L
  induction L with
  |nil=>intro n _;rfl
  |cons p L ih =>
   intro n h;simp only[At,Am,not_or]at h;have h':¬(p.2:Int)=j:=(by omega);simp only[thE,At,mfind,h',if_false];exact ih (n+1) h.2
 simp[mget,key L 0 h]
structure VP(a b:Tree)(l:J1)(p:Nat×Nat):Prop where
 lt:lst l<p.1
 ba:p.1<a.size
 bb:p.2<b.size
 nw:p.2∉l.map (·.2)
 kn:kinT (subT a p.1) (subT b p.2)
theorem zapy(a b:Tree)(fa:Fine a)(fb:Fine b)(ca:checkB a=true)(cb:checkB b=true){pv:PVal}{Rl:J1}(hpv:PV pv Rl)(h0:Rl[0]? = some (0,0))(hlb:Rl.length<2000000)(m:Nat)(hm:m<=Rl.length)
 (hv:∀k p,k<m->Rl[k]? = some p->VP a b (Rl.take k) p)(res:Bool)(hres:m=Rl.length/\res=true\/m<Rl.length/\res=false/\∀p,Rl[m]? = some p->(p.1:Int)<=lst (Rl.take m))(H:J2) :
 CW tr.look F_29 [tagg a,tagg b, .p pv] H=some (.p (.bool res),H):=by
 have h1:=zcx a fa.1;have h2:=zcx b fb.1;rw[ca]at h1;rw[cb]at h2;have f1:=zcc a fa;have f2:=zcc b fb;have hup:=hpv.up;have hln:=hpv.len;have ix0:idxS 2 (.p pv) (J4 0)=_:=hpv.idx h0;have hl0:0<Rl.length:=(Aa.1 h0).1;have hl0':¬Rl.length=0:=(by omega);have hfa:=fa.1;have hfb:=fb.1;have hnil:¬Rl=[]:=fun e=>by rw[e]at hl0;simp at hl0
 refine zaz look_29 rfl (by simp) rfl ?_;dsimp only[i_29,c_29];simp(disch:=omega) [zai,h1,h2,hup,hln,ix0,eqVals,eqCls,clsEq,negIf,f1,f2]
 refine zac (α:=Nat×J2) (fun s=>[(7, .v (.p (ival a))),(8, .v (.p (ival b))),(9, .int .i64 (lst (Rl.take s.1))),(10, .v (.map 0)),(38, .v (.p pv)),(39, .int .i64 Rl.length),(40, .int .i64 s.1)]) (fun s=>⟨[],s.2⟩)
  (fun s=>s.1<=m/\s.2[0]? = some (imap (thE (Rl.take s.1)))) (fun s=>Rl.length-s.1) ?_ (0,[.map [] 0]) ⟨A9 _,rfl⟩
 rintro⟨k,K⟩⟨hk,hK⟩ R hR;dsimp only at hk hK hR ⊢;dsimp only[l_29_0];by_cases hkl:k<Rl.length
 ·have hlt:(k:Int)<(Rl.length:Int):=(by omega);obtain⟨p,hp⟩:∃p,Rl[k]? = some p:=⟨_,Ae hkl⟩;have ix:=hpv.idx hp;have htk:Rl.take (k+1)=Rl.take k++[p]:=(by rw[A1,hp];rfl);by_cases hkm:k<m
  ·obtain⟨q1,q2,q3,q4,q5⟩:=hv k p hkm hp;obtain⟨v,_,hitv,hsv,_⟩:=zfk q2;obtain⟨rv1,ixv⟩:=zwn hitv;obtain⟨w,_,hitw,hsw,_⟩:=zfk q3;obtain⟨rw1,ixw⟩:=zwn hitw;rw[hsv,hsw]at q5;have hk1':(v.t.kind==w.t.kind)=true:=(by simp[q5.1]);have hk2':(v.t.name==w.t.name)=true:=(by simp[q5.2]);have g1:=znt (k:=(p.2:Int)) hK (.p (.bool false));rw[zaun,decide_eq_false q4]at g1;have g2:=zqy (k:=(p.2:Int)) hK (zabv q4) (v := .p (.bool true)) rfl;have e1:¬(p.1:Int)<=lst (Rl.take k):=(by omega);have e2:¬(a.size:Int)<=(p.1:Int):=(by omega);have e3:¬(b.size:Int)<=(p.2:Int):=(by omega);simp(disch:=omega) [ix,g1,ixv,ixw,zrd,eqVals,eqCls,clsEq,hk1',hk2',negIf,g2,zaa];have hn:=hR (k+1,K.set 0 (imap (thE (Rl.take k)++[((p.2:Int), .p (.bool true))]))) ⟨by dsimp only;omega,by dsimp only;rw[htk];simp only[thE,AO,At,B4];exact zap (Aa.1 hK).1⟩ (by dsimp only;omega);rw[htk,zbay]at hn;exact hn
  ·have hkm':k=m:=(by omega);subst hkm';rcases hres with⟨e,_⟩|⟨_,rfl,h3⟩
   ·omega
   ·have e1:=h3 p hp;simp(disch:=omega) [ix]
 ·have hkl':k=Rl.length:=(by omega);have hmk:m=Rl.length:=(by omega);rcases hres with⟨_,rfl⟩|⟨h3,_⟩
  ·subst hkl';simp(disch:=omega) []
  ·omega
end Go.Ideal
namespace Go.Ideal
open Go
set_option linter.unusedSectionVars false
section
variable [Tabs]
attribute [-simp] getElem?_pos
end
end Go.Ideal
namespace Go.Ideal
open Go
set_option maxHeartbeats 4000000
set_option maxRecDepth 20000
attribute [-simp] getElem?_pos
section
variable {L:J1}{a b:Tree}
theorem zajy(a b:Tree):PI a b (sortP (alikeN a b 2)):=by
 have h:=zaer a b 2;have hp:=zbh (alikeN a b 2);refine⟨(hp.map _).nodup_iff.2 h.nx,(hp.map _).nodup_iff.2 h.nz,fun p hm=>?_⟩;obtain⟨h1,h2,h3⟩:=h.ok p (hp.mem_iff.1 hm);have:=(zqq.1 h3).1;exact⟨h1,h2,this.1,this.2.1⟩
theorem zna(h:MF a b L):(sortP L)[0]? = some (0,0):=by
 have hm:=(zbh L).mem_iff.2 h.root;cases hs:sortP L with
 |nil=>rw[hs]at hm;cases hm
 |cons p R =>
  rw[Az];have hsd:=zgn L;rw[hs]at hm hsd;have hp:p∈L:=(zbh L).mem_iff.1 (by rw[hs];simp)
  have h0:p.1=0:=by
   rcases Am.1 hm with e|hm
   ·rw[<- e]
   ·have:=(BR.1 hsd).1 _ hm;simp at this;omega
  rw[zanx h.pi.nx hp h.root h0]
theorem zapz(h:MF a b L):∀k p,(sortP L)[k]? = some p->VP a b ((sortP L).take k) p:=by
 intro k p hp;have hpm:=zbh L;have hnx:((sortP L).map (·.1)).Nodup:=(hpm.map _).nodup_iff.2 h.pi.nx;have hnz:((sortP L).map (·.2)).Nodup:=(hpm.map _).nodup_iff.2 h.pi.nz;have hsd:=zgn L;obtain⟨h1,h2,h3⟩:=h.pi.ok p (hpm.mem_iff.1 (Al hp));have hin:∀f:Nat×Nat->Nat,f p∈((sortP L).drop k).map f:=fun f=>AZ.2 ⟨p,AJ.2 ⟨0,by rw[AU];simpa using hp⟩,rfl⟩;have hsp:p∈(sortP L).drop k:=AJ.2 ⟨0,by rw[AU];simpa using hp⟩;rw[<- Bl k (sortP L)]at hnx hnz hsd;rw[AO,Bp]at hnx hnz;refine⟨?_,h1,h2,fun hm=>hnz.2.2 _ hm _ (hin (·.2)) rfl,h3⟩;unfold lst;cases hl:((sortP L).take k).getLast? with
 |none=>simp only;omega
 |some q =>
  have hq:q∈(sortP L).take k:=List.mem_of_getLast? hl;have e1:=(CJ.1 hsd).2.2 q hq p hsp;have e2:q.1≠p.1:=fun e=>hnx.2.2 q.1 (AZ.2 ⟨q,hq,rfl⟩) p.1 (hin (·.1)) e;simp only;omega
theorem zzm(h:PI a b L):(sortP L).length<=a.size:=by
 rw[(zbh L).length_eq];have:=zil a.size _ h.nx (fun x hx=>by obtain⟨p,hp,rfl⟩:=AZ.1 hx;exact(h.ok p hp).1)
 simpa using this
theorem zafb(fa:Fine a)(fb:Fine b)(ca:checkB a=true)(cb:checkB b=true){L:J1}(h:MF a b L){pv:PVal}(hpv:PV pv (sortP L))(H:J2):CW tr.look F_29 [tagg a,tagg b, .p pv] H=some (.p (.bool true),H) :=
 zapy a b fa fb ca cb hpv (zna h) (by have:=zzm h.pi;have:=fa.1;omega) (sortP L).length (Ak _) (fun k p _ hp=>zapz h k p hp) true (.inl ⟨rfl,rfl⟩) H
def tA(x:UInt8):Tree := .mk 1 [] [] none (some [.mk 3 [] [x] none none])
end
end Go.Ideal
namespace Go.Ideal
open Go
def cnt(n:Nat):IBlk := .cells [J4 n] 1 0 false
end Go.Ideal
namespace Go.Ideal
open Go
set_option maxHeartbeats 4000000
set_option maxRecDepth 20000
attribute [-simp] getElem?_pos
noncomputable def rdPairs(n:Nat)(cs:J3):Option J1 :=
 Nat.rec (motive:=fun _=>J3->Option J1) (fun _=>some []) (fun _ ih cs=>match cs with
  | J4 (.ofNat a) :: J4 (.ofNat b)::r=>match ih r with
    |some l=>some ((a,b)::l)
    |none=>none
  |_=>none) n cs
theorem zzn:∀(n:Nat)(cs:J3)(L:J1),rdPairs n cs=some L->L.length=n/\n*2<=cs.length/\cs.take (n*2)=pcells (prc L)
 |0,cs,L,h=>by injection h with h;subst h;simp[prc,pcells]
 |n+1,cs,L,h=>by
  unfold rdPairs at h;dsimp only at h;split at h
  ·rename_i a b r;change (match rdPairs n r with|some l=>some ((a,b)::l)|none=>none)=some L at h;split at h
   ·rename_i l hl;injection h with h;subst h;obtain⟨h1,h2,h3⟩:=zzn n r l hl;refine⟨by simp[h1],by simp;omega,?_⟩;rw[show(n+1)*2=n*2+1+1 by omega,BG,BG,h3];simp[prc,pcells]
   ·cases h
  ·cases h
noncomputable def memN(a:Nat)(l:J1):Bool:=List.rec (motive:=fun _=>Bool) false (fun p _ ih=>Bool.rec ih true (Nat.beq p.1 a)) l
noncomputable def nodupN(l:J1):Bool:=List.rec (motive:=fun _=>Bool) true (fun p t ih=>Bool.rec ih false (memN p.1 t)) l
theorem zajz(a:Nat):∀l,memN a l=false->a∉l.map (·.1)
 | [],_,h=>by simp at h
 |p::l,e,h=>by
  have e:(Bool.rec (memN a l) true (Nat.beq p.1 a):Bool)=false:=e;cases hb:Nat.beq p.1 a with
  |true=>rw[hb]at e;cases e
  |false =>
   rw[hb]at e;rcases Am.1 h with rfl|h
   ·rw[AG]at hb;cases hb
   ·exact zajz a l e h
theorem zws:∀l,nodupN l=true->(l.map (·.1)).Nodup
 | [],_=>by simp
 |p::l,e=>by
  have e:(Bool.rec (nodupN l) false (memN p.1 l):Bool)=true:=e;cases hb:memN p.1 l with
  |true=>rw[hb]at e;cases e
  |false =>
   rw[hb]at e;rw[At,Bm];exact⟨zajz _ _ hb,zws l e⟩
noncomputable def prow(l:J1):J3:=List.rec (motive:=fun _=>J3) [] (fun p _ ih=>Prod.rec (fun a b=>J4 (.ofNat a) :: J4 (.ofNat b)::ih) p) l
theorem zaqa:∀l,prow l=pcells (prc l)
 | []=>rfl
 |(a,b)::l=>by
  show IVal.p (.int .i64 (.ofNat a)) :: J4 (.ofNat b)::prow l=_;rw[zaqa l];rfl
noncomputable def insN(p:Nat×Nat)(l:J1):J1:=List.rec (motive:=fun _=>J1) [p] (fun q t ih=>Bool.rec (q::ih) (p::q::t) (Nat.ble p.1 q.1)) l
noncomputable def sortN(l:J1):J1:=List.rec (motive:=fun _=>J1) [] (fun p _ ih=>insN p ih) l
theorem zwt(p:Nat×Nat):∀l,(insN p l).Perm (p::l)
 | []=>List.Perm.refl _
 |q::t=>by
  show(Bool.rec (q::insN p t) (p::q::t) (Nat.ble p.1 q.1):J1).Perm _;cases Nat.ble p.1 q.1 with
  |true=>exact List.Perm.refl _
  |false=>exact((zwt p t).cons q).trans (List.Perm.swap _ _ _)
theorem zwu(p:Nat×Nat):∀l:J1,(l.Pairwise fun p q=>p.1<=q.1)->(insN p l).Pairwise fun p q=>p.1<=q.1
 | [],_=>by show[p].Pairwise _;simp
 |q::t,h=>by
  show(Bool.rec (q::insN p t) (p::q::t) (Nat.ble p.1 q.1):J1).Pairwise _;rw[BR]at h;cases hb:Nat.ble p.1 q.1 with
  |true =>
   have hle:=AH hb;refine BR.2 ⟨fun x hx=>?_,BR.2 h⟩;rcases Am.1 hx with rfl|hx
   ·exact hle
   ·exact A8 hle (h.1 x hx)
  |false =>
   have hle:q.1<=p.1:=by
    rcases AV q.1 p.1 with h'|h'
    ·omega
    ·rw[AE h']at hb;cases hb
   refine BR.2 ⟨fun x hx=>?_,zwu p t h.2⟩;rcases Am.1 ((zwt p t).mem_iff.1 hx)with rfl|hx
   ·exact hle
   ·exact h.1 x hx
theorem zzo:∀l,(sortN l).Perm l
 | []=>List.Perm.refl _
 |p::l=>(zwt p (sortN l)).trans ((zzo l).cons p)
theorem ztr:∀l,(sortN l).Pairwise fun p q=>p.1<=q.1
 | []=>List.Pairwise.nil
 |p::l=>zwu p _ (ztr l)
theorem zaka{l:J1}(h:(l.map (·.1)).Nodup):sortN l=sortP l:=ziw h (zzo l) (ztr l)
noncomputable def isCmp(g:Nat):Bool:=Bool.rec (Bool.rec (Nat.beq g F_94) true (Nat.beq g F_168)) true (Nat.beq g F_130)
theorem zauo{g:Nat}(h:isCmp g=true):g∈[F_130,F_168,F_94]:=by
 unfold isCmp at h;cases h1:Nat.beq g F_130 with
 |true=>simp[Af h1]
 |false =>
  rw[h1]at h;cases h2:Nat.beq g F_168 with
  |true=>simp[Af h2]
  |false =>
   rw[h2]at h;simp[Af h]
noncomputable def sortE(args:J3)(H:J2):Option (IVal×J2) :=
 match args with
 | [v, .p (.func g)]=>match isCmp g with
   |true=>match v with
    | .p .nilslice=>some (.tup [],H)
    | .slice k ver off n=>match Nat.beq off 0,(H[k]? : Option IBlk)with
      |true,some (.cells cs e w op)=>match Nat.beq ver w&&Nat.beq e 2,rdPairs n cs with
       |true,some L=>match nodupN L&&(Nat.ble (n+1) 1000000&&!(Nat.beq n 0))with
        |true=>some (.tup [],H.set k (.cells (splice cs 0 (prow (sortN L))) 2 w op))
        |false=>none
       |_,_=>none
      |_,_=>none
    |_=>none
   |false=>none
 |_=>none
theorem zaup{args:J3}{H:J2}{r:IVal×J2}(h:sortE args H=some r):CW tr.look F_93 args H=some r:=by
 unfold sortE at h;split at h
 ·rename_i v g;split at h
  ·rename_i hg;have hg:=zauo hg;split at h
   ·injection h with h;subst h;exact zif none_93 (zjv hg (zmn _ _ _))
   ·rename_i k ver off n;split at h
    ·rename_i cs e w op h1 h2;split at h
     ·rename_i L h3 h4;split at h
      ·rename_i h5;rw[zaqa]at h;injection h with h;subst h;have ho:=Af h1;rw[Aj]at h3;have hv:=Af h3.1;have he:=Af h3.2;subst ho hv he;rw[Aj,Aj]at h5;have hn:=zws L h5.1;rw[zaka hn];have hlt:=AH h5.2.1;have h0:n≠0:=fun e=>by rw[e]at h5;simp at h5
       obtain⟨g1,g2,g3⟩:=zzn n cs L h4;have hsz:(L.map toI).toArray.size=L.length:=(by simp)
       have hs:=zmo pairKit g (H:=H) (i:=k) (ver:=ver) (off:=0) (L.map toI).toArray h2 (by omega) (by omega) (by rw[hsz];show 0+L.length*2<=_;omega) (by
        rw[hsz,zsb,Bn,g1];exact g3)
       rw[hsz,zmp hn,zsb,g1]at hs;exact zif none_93 (zjv hg hs)
      ·cases h
     ·cases h
    ·cases h
   ·cases h
  ·cases h
 ·cases h
noncomputable def rdEnts(es:List Ent)(n:Nat):Option J1 :=
 List.rec (motive:=fun _=>Nat->Option J1) (fun _=>some []) (fun e _ ih n=>match e with
  |(J4 (.ofNat a), J4 (.ofNat b),s)=>match Nat.beq s n with
   |true=>match ih (n+1)with
    |some l=>some ((a,b)::l)
    |none=>none
   |false=>none
  |_=>none) es n
theorem zafc:∀(es:List Ent)(n:Nat)(L:J1),rdEnts es n=some L->es=ME0 n (toE L)
 | [],n,L,h=>by injection h with h;subst h;rfl
 |e::es,n,L,h=>by
  unfold rdEnts at h;dsimp only at h;split at h
  ·rename_i a b s;split at h
   ·rename_i hs;have hs:=Af hs;subst hs;change (match rdEnts es (s+1)with|some l=>some ((a,b)::l)|none=>none)=some L at h;split at h
    ·rename_i l hl;injection h with h;subst h;rw[zafc es (s+1) l hl];rfl
    ·cases h
   ·cases h
  ·cases h
noncomputable def matchE(C:Oracle)(L:Nat)(args:J3)(H:J2):Option (IVal×J2) :=
 match freezeAll H args with
 |none=>none
 |some az=>match Nat.beq az.length 2 with
  |false=>none
  |true=>match evalCode C (loopN L) i_45.cut.pre ⟨az++List.replicate (i_45.nt-az.length) skipped,⟨[],[]⟩⟩with
   |some (.normal,S)=>match S.T.getD 127 .undef,S.T.getD 16 .undef with
    | .map 0, .p .nilslice=>match(S.M.heap[0]? : Option IBlk)with
      |some (.map es ck)=>match rdEnts es 0 with
       |some l=>match Nat.beq S.T.length i_45.nt&&((nodupN l&&Nat.beq ck es.length)&&(Nat.ble (l.length+1) 1000000&&!(Nat.beq l.length 0)))with
        |true=>some (.p (.slice 2 l.length (prc (sortN l))),H)
        |false=>none
       |none=>none
      |_=>none
    |_,_=>none
   |_=>none
theorem zaqb(l:J1):(toE l).length=l.length:=by simp[toE]
theorem zaqc{args az:J3}{H:J2}{T:J3}{M:Mem}{es:List Ent}{ck:Nat}{l:J1}(haz:freezeAll H args=some az)(hlen:az.length=2)
 (hW:evalCode (CW tr.look) loopW i_45.cut.pre ⟨az++List.replicate (i_45.nt-az.length) skipped,⟨[],[]⟩⟩=some (.normal,⟨T,M⟩))(q2:T.length=i_45.nt)(q3:T.getD 127 .undef = .map 0)(q4:T.getD 16 .undef = .p .nilslice)
 (hmap:M.heap[0]? = some (.map es ck))(hl:rdEnts es 0=some l)(hn:(l.map (·.1)).Nodup)(hck:ck=es.length)(hlt:l.length+1<=1000000)(h0:l≠[]) :
 CW tr.look F_45 args H=some (.p (.slice 2 l.length (prc (sortN l))),H):=by
 have hes:=zafc es 0 l hl;have hek:es.length=l.length:=(by rw[hes,zapn,zaqb]);rw[zaka hn];refine zagp none_45 ⟨rfl,rfl,az,haz,hlen, .normal,_,hW,0,es,ck,?_,hmap,?_,fun n σ hσ=>?_⟩
 ·exact q3
 ·rw[hes,hck,hek,<-zaqb l];exact zre (toE l)
 ·have hmem:∀e∈σ,∃p:Nat×Nat,∃s,e=(vI p.1,vI p.2,s):=fun e he=>by
   have he:=hσ.mem_iff.1 he;rw[hes]at he;obtain⟨p,_,s,hs⟩:=zabt l 0 e he;exact⟨p,s,hs⟩
  have hmapp:(σ.map entP).Perm l:=by
   have:=hσ.map entP;rw[hes,zabu]at this;exact this
  have hsl:σ.length=l.length:=(by rw[hσ.length_eq,hek])
  have hrel:RelE 143 [(128, .v (.opq n)),(16, .v (.p .nilslice))] (T.set 128 (.opq n)):=by
   refine⟨by rw[AC];exact q2,fun i=>?_⟩;rw[zvp,zyw,zyw,zano];by_cases h1:128=i
   ·subst h1;rw[if_pos rfl,if_pos ⟨rfl,by rw[q2];decide⟩];exact .inr rfl
   ·have h3:¬(128=i/\128<T.length):=fun x=>h1 x.1;rw[if_neg h1,if_neg h3];by_cases h2:16=i
    ·subst h2;rw[if_pos rfl,q4];exact .inr rfl
    ·rw[if_neg h2];exact .inl rfl
  have hrm:RelM ⟨[],M.heap⟩ M:=⟨fun s b hb=>(by cases hb),rfl⟩;refine zsa (F:=i_45) (by decide) (by decide) (zwq n (.map es ck) _ σ [] (.p .nilslice) none M.heap _ [] hmem (by simp only[CS,hsl];omega) rfl rfl hmap ⟨rfl,rfl,rfl⟩ (by simp) fun K' lv' o' g1 g2=>?_) hrel hrm;rw[AT]at g2;have hnd:((σ.map entP).map (·.1)).Nodup:=(hmapp.map _).nodup_iff.2 hn;obtain⟨K2,p1,p2⟩:=zaia (g:=F_94) (by simp) lv' o' _ hnd (by rw[hmapp.length_eq];omega) K' g2
  have hun:sortP (σ.map entP)=sortP l:=by
   symm;refine ziw hnd ((zbh l).trans hmapp.symm) (zgn l)
  have hlen2:(sortP l).length=l.length:=(zbh l).length_eq;have hne:sortP l≠[]:=fun e=>h0 (Av.1 (by rw[<- hlen2,e];rfl));rw[hun,hmapp.length_eq,<-hlen2]at p2;exact⟨K2,p1,by rw[<- hlen2];exact ztq p2 hne,zwr p2⟩
theorem zaqd{C:Oracle}(hC:C.Le (CW tr.look)){L:Nat}{args:J3}{H:J2}{r:IVal×J2}(h:matchE C L args H=some r):CW tr.look F_45 args H=some r:=by
 unfold matchE at h;split at h
 ·cases h
 ·rename_i az haz;split at h
  ·cases h
  ·rename_i hlen;have hlen:=Af hlen;split at h
   ·rename_i S hrun0;split at h
    ·rename_i g127 g16;split at h
     ·rename_i es ck hmap;split at h
      ·rename_i l hl;split at h
       ·rename_i hchk;injection h with h;subst h;simp only[Aj]at hchk;have hn:=zws l hchk.2.1.1;have hck:=Af hchk.2.1.2;have hlt:=AH hchk.2.2.1;have h0:l≠[]:=fun e=>by rw[e]at hchk;simp at hchk
        exact zaqc (T:=S.T) (M:=S.M) haz hlen (zbc hC (zys (n:=L)) hrun0) (Af hchk.1) g127 g16 hmap hl hn hck hlt h0
       ·cases h
      ·cases h
     ·cases h
    ·cases h
   ·cases h
noncomputable def dorc(L:Nat)(C:Oracle):Oracle:=fun f args H =>
 Bool.rec (Bool.rec none (sortE args H) (Nat.beq f F_93)) (matchE C L args H) (Nat.beq f F_45)
theorem zbaz(L:Nat)(C:Oracle)(hC:C.Le (CW tr.look)):(dorc L C).Le (CW tr.look):=fun f args H r e=>by
 unfold dorc at e;cases h1:Nat.beq f F_45 with
 |true =>
  rw[h1]at e;rw[Af h1];exact zaqd hC e
 |false =>
  rw[h1]at e;cases h2:Nat.beq f F_93 with
  |true =>
   rw[h2]at e;rw[Af h2];exact zaup e
  |false=>rw[h2]at e;cases e
def icallD(Γ:Prog)(D:Oracle->Oracle)(L:Nat):Nat->Oracle
 |0=>fun _ _ _=>none
 |n+1=>fun f args H=>match Γ f with
  |none=>D (icallD Γ D L n) f args H
  |some _=>callBody Γ (icallD Γ D L n) (loopN L) f args H
theorem zrg[B:Base] {Γ:Prog}{D:Oracle->Oracle}{L:Nat}(hD:∀C:Oracle,C.Le (CW Γ)->(D C).Le (CW Γ)):∀n:Nat,(icallD Γ D L n).Le (CW Γ)
 |0=>fun _ _ _ _ e=>(by cases e)
 |n+1=>fun f args H r e=>by
  unfold icallD at e;split at e
  ·exact hD _ (zrg hD n) _ _ _ _ e
  ·exact CW_of (zkp (zrg hD n) zys e)
noncomputable def call0(n:Nat):Oracle:=icallD tr.look (dorc 1000000) 1000000 n
theorem zauq(n:Nat):(call0 n).Le (CW tr.look):=zrg (zbaz 1000000) n
end Go.Ideal
namespace Go.Proofs
open Go.Shelf
def Tryz.zafd:Go.Shelf.Ren:=⟨fun|6=>93|15=>138|14=>137|28=>177|29=>178|20=>169|21=>170|22=>171|23=>172|24=>173|25=>174|26=>175|27=>176|46=>197|47=>198|48=>199|49=>200|50=>201|57=>209|n=>n,fun|22=>26|24=>49|25=>146|3=>3|39=>181|0=>0|53=>220|55=>172|4=>4|46=>214|45=>213|50=>119|5=>5|9=>9|66=>240|70=>86|76=>251|77=>150|n=>n,fun|n=>n⟩
theorem Tryz.sortPair:SlLaysF0.n6 Tryz.prog Tryz.zafd where
 mixed:=by kernel_rfl
 f6:=⟨Tryz.f93.name,by kernel_rfl,Tryz.func93.trans (congrArg some (by kernel_rfl))⟩
 f14:=⟨Tryz.f137.name,by kernel_rfl,Tryz.func137.trans (congrArg some (by kernel_rfl))⟩
 f15:=Tryz.func138.trans (congrArg some (by kernel_rfl))
 f20:=⟨Tryz.f169.name,by kernel_rfl,Tryz.func169.trans (congrArg some (by kernel_rfl))⟩
 f21:=⟨Tryz.f170.name,by kernel_rfl,Tryz.func170.trans (congrArg some (by kernel_rfl))⟩
 f22:=⟨Tryz.f171.name,by kernel_rfl,Tryz.func171.trans (congrArg some (by kernel_rfl))⟩
 f23:=⟨Tryz.f172.name,by kernel_rfl,Tryz.func172.trans (congrArg some (by kernel_rfl))⟩
 f24:=⟨Tryz.f173.name,by kernel_rfl,Tryz.func173.trans (congrArg some (by kernel_rfl))⟩
 f25:=⟨Tryz.f174.name,by kernel_rfl,Tryz.func174.trans (congrArg some (by kernel_rfl))⟩
 f26:=⟨Tryz.f175.name,by kernel_rfl,Tryz.func175.trans (congrArg some (by kernel_rfl))⟩
 f27:=⟨Tryz.f176.name,by kernel_rfl,Tryz.func176.trans (congrArg some (by kernel_rfl))⟩
 f28:=Tryz.func177.trans (congrArg some (by kernel_rfl))
 f29:=Tryz.func178.trans (congrArg some (by kernel_rfl))
 f46:=⟨Tryz.f197.name,by kernel_rfl,Tryz.func197.trans (congrArg some (by kernel_rfl))⟩
 f47:=Tryz.func198.trans (congrArg some (by kernel_rfl))
 f48:=Tryz.func199.trans (congrArg some (by kernel_rfl))
 f49:=⟨Tryz.f200.name,by kernel_rfl,Tryz.func200.trans (congrArg some (by kernel_rfl))⟩
 f50:=⟨Tryz.f201.name,by kernel_rfl,Tryz.func201.trans (congrArg some (by kernel_rfl))⟩
 f57:=⟨Tryz.f209.name,by kernel_rfl,Tryz.func209.trans (congrArg some (by kernel_rfl))⟩
 t0:=Tryz.underlying0
 a0:=Tryz.isAgg0
 z0:=Tryz.sizeOf0
 v0:=Tryz.zeroValue0
 t3:=Tryz.underlying3
 a3:=Tryz.isAgg3
 z3:=Tryz.sizeOf3
 v3:=Tryz.zeroValue3
 t4:=Tryz.underlying4
 a4:=Tryz.isAgg4
 z4:=Tryz.sizeOf4
 v4:=Tryz.zeroValue4
 t5:=Tryz.underlying5
 a5:=Tryz.isAgg5
 z5:=Tryz.sizeOf5
 v5:=Tryz.zeroValue5
 t9:=Tryz.underlying9
 a9:=Tryz.isAgg9
 z9:=Tryz.sizeOf9
 v9:=Tryz.zeroValue9
 t22:=Tryz.underlying26
 a22:=Tryz.isAgg26
 z22:=Tryz.sizeOf26
 v22:=Tryz.zeroValue26
 t25:=Tryz.underlying146
 a25:=Tryz.isAgg146
 z25:=Tryz.sizeOf146
 v25:=Tryz.zeroValue146
 t39:=Tryz.underlying181
 a39:=Tryz.isAgg181
 z39:=Tryz.sizeOf181
 v39:=Tryz.zeroValue181
 t45:=Tryz.underlying213
 a45:=Tryz.isAgg213
 z45:=Tryz.sizeOf213
 v45:=Tryz.zeroValue213
 t46:=Tryz.underlying214
 a46:=Tryz.isAgg214
 z46:=Tryz.sizeOf214
 v46:=Tryz.zeroValue214
 t50:=Tryz.underlying119
 a50:=Tryz.isAgg119
 z50:=Tryz.sizeOf119
 v50:=Tryz.zeroValue119
 t53:=Tryz.underlying220
 a53:=Tryz.isAgg220
 z53:=Tryz.sizeOf220
 v53:=Tryz.zeroValue220
 t55:=Tryz.underlying172
 a55:=Tryz.isAgg172
 z55:=Tryz.sizeOf172
 v55:=Tryz.zeroValue172
 t66:=Tryz.underlying240
 a66:=Tryz.isAgg240
 z66:=Tryz.sizeOf240
 v66:=Tryz.zeroValue240
 t70:=Tryz.underlying86
 a70:=Tryz.isAgg86
 z70:=Tryz.sizeOf86
 v70:=Tryz.zeroValue86
 t76:=Tryz.underlying251
 a76:=Tryz.isAgg251
 z76:=Tryz.sizeOf251
 v76:=Tryz.zeroValue251
 t77:=Tryz.underlying150
 a77:=Tryz.isAgg150
 z77:=Tryz.sizeOf150
 v77:=Tryz.zeroValue150
end Go.Proofs
namespace Go.Proofs
open Go.Shelf
def Tryz.zalx:Go.Shelf.Ren:=⟨fun|21=>116|27=>154|28=>155|35=>183|39=>203|n=>n,fun|22=>41|3=>3|4=>4|0=>0|n=>n,fun|n=>n⟩
theorem Tryz.insInt:Lays2.n21 Tryz.prog Tryz.zalx where
 mixed:=by kernel_rfl
 f21:=Tryz.func116.trans (congrArg some (by kernel_rfl))
 f27:=Tryz.func154.trans (congrArg some (by kernel_rfl))
 f28:=Tryz.func155.trans (congrArg some (by kernel_rfl))
 f35:=Tryz.func183.trans (congrArg some (by kernel_rfl))
 f39:=Tryz.func203.trans (congrArg some (by kernel_rfl))
 t0:=Tryz.underlying0
 a0:=Tryz.isAgg0
 z0:=Tryz.sizeOf0
 v0:=Tryz.zeroValue0
 t3:=Tryz.underlying3
 a3:=Tryz.isAgg3
 z3:=Tryz.sizeOf3
 v3:=Tryz.zeroValue3
 t4:=Tryz.underlying4
 a4:=Tryz.isAgg4
 z4:=Tryz.sizeOf4
 v4:=Tryz.zeroValue4
 t22:=Tryz.underlying41
 a22:=Tryz.isAgg41
 z22:=Tryz.sizeOf41
 v22:=Tryz.zeroValue41
 i3:=by kernel_rfl
end Go.Proofs
namespace Go.Proofs
open Go.Shelf
def Tryz.zbba:Go.Shelf.Ren:=⟨fun|106=>160|213=>185|265=>204|n=>n,fun|3=>3|9=>9|n=>n,fun|n=>n⟩
theorem Tryz.cmpLay:Lays.n106 Tryz.prog Tryz.zbba where
 mixed:=by kernel_rfl
 f106:=Tryz.func160.trans (congrArg some (by kernel_rfl))
 f213:=Tryz.func185.trans (congrArg some (by kernel_rfl))
 f265:=Tryz.func204.trans (congrArg some (by kernel_rfl))
 t3:=Tryz.underlying3
 a3:=Tryz.isAgg3
 z3:=Tryz.sizeOf3
 v3:=Tryz.zeroValue3
 t9:=Tryz.underlying9
 a9:=Tryz.isAgg9
 z9:=Tryz.sizeOf9
 v9:=Tryz.zeroValue9
end Go.Proofs
namespace Go.Ideal
open Go
set_option linter.unusedSectionVars false
section
variable [Tabs]
set_option maxHeartbeats 1000000
theorem Step.growW{c d:Ctx}{w w1:World}(h:Step c w d w1)(os:Array Obj):Step c w d (Sort.grow w1 os):=by
 refine⟨h.ext,⟨fun b o v hz=>?_,fun k cs e v op b q K h1 h2=>?_,fun k es ck b q K h1 h2=>?_,h.rel.inj,h.rel.zdis,h.rel.dom⟩,?_,fun b hb ho=>?_,h.own,h.zz,h.also.trans ⟨rfl,rfl,fun a ha=>Sort.frozen?_grow _ _ _ ha,by simp,rfl,Ak _⟩⟩
 ·have:=h.rel.z b o v hz;rw[Sort.cell?_grow _ _ _ (zcf this)];exact this
 ·obtain⟨C,T,h3,h4⟩:=h.rel.blk k cs e v op b q K h1 h2;exact⟨C,T,by rw[Sort.heap_grow_old _ _ (BN.1 h3).1];exact h3,h4⟩
 ·obtain⟨ents,h3,h4⟩:=h.rel.mp k es ck b q K h1 h2;exact⟨ents,by rw[Sort.heap_grow_old _ _ (BN.1 h3).1];exact h3,h4⟩
 ·have:=h.size;simp;omega
 ·rw[Sort.heap_grow_old _ _ (Bc hb h.size)];exact h.same b hb ho
theorem Step.drewW{c d:Ctx}{w w1:World}(h:Step c w d w1)(n:Nat):Step c w d (w1.drewN n) :=
 ⟨h.ext,⟨h.rel.z,h.rel.blk,h.rel.mp,h.rel.inj,h.rel.zdis,h.rel.dom⟩,h.size,h.same,h.own,h.zz,h.also.trans ⟨rfl,rfl,fun _ _=>rfl,Ak _,rfl,Nat.le_add_right _ _⟩⟩
theorem Step.zbbb{c d:Ctx}{w w':World}(h:Step c w d w')(hc:∀b,¬c.Own b):∃q os',w'=Sort.grow (w.drewN q) os':=by
 refine⟨w'.drawn-w.drawn,w'.heap.extract w.heap.size w'.heap.size,?_⟩;have hd:=h.also.dr;have ht:=h.also.tp;have ho:=h.also.os;have hu:=h.also.out
 have hh:w'.heap=w.heap++w'.heap.extract w.heap.size w'.heap.size:=by
  apply Array.ext_getElem?;intro i;rw[Array.getElem?_append];split
  ·rename_i hi;exact h.same i hi (hc i)
  ·rename_i hi;rw[Array.getElem?_extract];have hs:=h.size;by_cases h2:i<w'.heap.size
   ·rw[if_pos (by omega)];congr 1;omega
   ·rw[if_neg (by omega),Ct (by omega)]
 cases w with
 |mk hp tp dr os out =>
  cases w' with
  |mk hp' tp' dr' os' out' =>
   simp only[Sort.grow,World.drewN]at hd ht ho hu hh ⊢;simp only[World.mk.injEq];exact⟨hh,ht,by omega,ho,hu⟩
section
variable {α:Type} [Inhabited α]
def encV(K:SortKit α)(x:α):List Value:=(K.enc x).map sv
omit [Inhabited α] in
theorem zaur(K:SortKit α)(x:α):(encV K x).length=K.k:=by simp[encV,K.len]
theorem zakb(K:SortKit α):∀(l:List α)(j:Nat),j<l.length*K.k->(l.flatMap K.enc)[j]? = (K.enc (l[j / K.k]!))[j % K.k]?
 | [],j,h=>by simp at h
 |x::l,j,h=>by
  have hl:=K.len x
  have hk:0<K.k:=by
   rcases BW K.k with h0|h0
   ·rw[h0]at h;simp at h
   ·exact h0
  rw[A0];by_cases hj:j<K.k
  ·rw[Ac (by omega),Nat.div_eq_of_lt hj,Nat.mod_eq_of_lt hj];rfl
  ·have h1:(j-K.k)<l.length*K.k:=by
    simp only[Ay,Be,C9]at h;omega
   have h2:j / K.k=(j-K.k) / K.k+1:=by
    rw[Nat.div_eq_sub_div hk (by omega)]
   rw[Ad (by omega),hl,zakb K l _ h1,h2,<-Nat.mod_eq_sub_mod (by omega)];simp
theorem zafe(K:SortKit α)(d:Array α)(j:Nat)(hj:j<d.size*K.k):∃v,(K.row d)[j]? = some v/\scalP v=true/\(Sort.flatK (encV K) K.k d)[j]! = sv v:=by
 have h1:(K.row d)[j]? = _:=zakb K d.toList j (by simpa using hj)
 have hk:0<K.k:=by
  rcases BW K.k with h0|h0
  ·rw[h0]at hj;simp at hj
  ·exact h0
 have hm:j % K.k<(K.enc (d.toList[j / K.k]!)).length:=(by rw[K.len];exact Cj _ hk);rw[Ae hm]at h1;refine⟨_,h1,K.scal _ _ (Ba hm),?_⟩;rw[Sort.get_flatK _ _ _ _ hj]
 have e:d[j / K.k]! = d.toList[j / K.k]! := by
  have hlt:j / K.k<d.size:=(by rw[Nat.div_lt_iff_lt_mul hk];exact hj);rw[getElem!_pos d _ hlt,getElem!_pos d.toList _ (by simpa using hlt)];simp
 rw[e];unfold encV;rw[getElem!_pos _ _ (by simpa using hm),BZ]
def emptyC(ht:∀g,Tabs.t g=none):Ctx:={ M:=⟨[],[]⟩,m:=fun _=>none,z:=fun _ _=>none,tab:=fun g cs h=>by rw[ht g]at h;cases h }
theorem zaly(ht:∀g,Tabs.t g=none)(w:World):WRel (emptyC ht) w :=
 ⟨fun _ _ _ h=>(by cases h),fun k cs e v op b q K _ h2=>(by cases h2),fun k es ck b q K _ h2=>(by cases h2),fun k l b q K q' K' _ _ h3 _=>(by cases h3),fun k b q K _ h2=>(by cases h2),fun k x h2=>(by cases h2)⟩
theorem zsj{c:Ctx}:∀ {l:List PVal},(∀ v∈l,scalP v=true)->VsRel c (pcells l) (l.map sv)
 | [],_=>by simp[pcells,VsRel]
 |v::l,h=>by
  have hv:=h v (by simp);simp only[pcells,At,VsRel];exact⟨_,_,rfl,rfl,by simp only[VRel];exact(zanw hv).2 rfl,zsj fun x hx=>h x (by simp[hx])⟩
omit [Inhabited α] in
theorem zaus(ht:∀g,Tabs.t g=none){P:Program}{C:Oracle}(hC:OracleOK P C)(K:SortKit α)(g:FuncId)(hcmp:∀x y,C g [.agg (pcells (K.enc x)), .agg (pcells (K.enc y))] []=some (J4 (K.cf x y),[]))(w:World)(x y:α) :
 Calls P g (#[.agg (encV K x).toArray, .agg (encV K y).toArray] ++ #[]) w fun e w'=>e = .returned (.int .i64 (K.cf x y))/\∃q os',w'=Sort.grow (w.drewN q) os':=by
 have h:=(hC g _ _ _ _ (hcmp x y)).2 (emptyC ht) w [.agg (encV K x).toArray, .agg (encV K y).toArray] rfl (zaly ht w)
  ⟨_,_,rfl,rfl,⟨_,rfl,zsj (K.scal x)⟩,_,_,rfl,rfl,⟨_,rfl,zsj (K.scal y)⟩,rfl⟩
 refine Calls.mono h ?_;rintro e w' ⟨rv,d,rfl,_,hs,_,_,hv⟩;simp only[VRel,PRel]at hv;rw[hv];exact⟨rfl,hs.zbbb fun b ⟨k,q,K,hk⟩=>(by cases hk)⟩
theorem zbbc(ht:∀g,Tabs.t g=none){P:Program} {ρ:Go.Shelf.Ren}(L:Go.Proofs.SlLaysF0.n6 P ρ)(K:SortKit α)(aE:∀w,(isAgg (ρ.t 24)).run P w = .ok true w)(zE:∀w,(Go.sizeOf (ρ.t 24)).run P w = .ok K.k w)
 {C:Oracle}(hC:OracleOK P C)(g:FuncId)(hcmp:∀x y,C g [.agg (pcells (K.enc x)), .agg (pcells (K.enc y))] []=some (J4 (K.cf x y),[])) :
 OracleOK P (noOracle.set (ρ.f 6) (sortSpec K g)):=by
 intro f args H v H' h;unfold Oracle.set noOracle at h;split at h
 case h_2=>cases h
 rename_i hf;have:=Af hf;subst this;obtain⟨body,hbody⟩:∃c,(Go.Proofs.SlBodyF.n6 ρ).body=some c:=⟨_,rfl⟩;refine⟨L.f6.enters hbody,fun c w l hM hW hl=>?_⟩
 have hrel:SortRel K g args H (v,H'):=by
  unfold sortSpec at h;split at h
  ·rename_i hx;injection h with h;rw[<- h];exact hx.choose_spec
  ·cases h
 have eg:=(hC g _ _ _ _ (hcmp default default)).1;generalize hr:(v,H')=r at hrel;cases hrel with
 |nil =>
  injection hr with e1 e2;subst e1 e2;simp only[TsRel,VRel,PRel]at hl;obtain⟨_,_,rfl,_,rfl,_,_,rfl,_,rfl,rfl⟩:=hl;refine Calls.mono (Go.Proofs.AnyF.slices_SortFunc_none { L with } none 0 _ w) ?_;rintro e w' ⟨rfl,rfl⟩;exact⟨_,c,rfl,hM,Step.refl hW,Un.refl c,rfl,by simp only[VRel];exact⟨[],rfl,by simp only[TsRel]⟩⟩
 |empty =>
  injection hr with e1 e2;subst e1 e2;simp only[TsRel,VRel,PRel]at hl;obtain⟨_,_,rfl,_,⟨a,cap,rfl,_⟩,_,_,rfl,_,rfl,rfl⟩:=hl;refine Calls.mono (Go.Proofs.AnyF.slices_SortFunc_none { L with } (some a) cap _ w) ?_;rintro e w' ⟨rfl,rfl⟩;exact⟨_,c,rfl,hM,Step.refl hW,Un.refl c,rfl,by simp only[VRel];exact⟨[],rfl,by simp only[TsRel]⟩⟩
 | @row _ i ver off es cs op d hb hn hm hlen hcs =>
   injection hr with e1 e2;subst e1 e2;have hg:c.M.get (.heap i)=some (.cells cs es ver op):=(by rw[hM];exact hb);simp only[TsRel,VRel,PRel]at hl;obtain⟨_,_,rfl,_,⟨a,cap,rfl,cs1,e1,v1,o1,hg1,_,hat⟩,_,_,rfl,_,rfl,rfl⟩:=hl;rw[hg]at hg1;cases hg1;obtain⟨b,q,KK,hmk,hcap,rfl,hsp,hoff,hKK⟩:=hat rfl
   have hof2:a.off=q+off:=by
    rcases hoff with h0|h0
    ·omega
    ·exact h0
   clear hoff;obtain⟨ab,ao,asp⟩:=a;dsimp only at hmk hsp hof2;subst hsp;subst hof2;obtain⟨CC,T,hheap,hq,hlc,hop,hcell⟩:=hW.blk _ cs es ver op ab q KK hg hmk;have hbl:ab<w.heap.size:=(BN.1 hheap).1
   have hcsj:∀j,j<d.size*K.k->∃x,(K.row d)[j]? = some x/\scalP x=true/\(Sort.flatK (encV K) K.k d)[j]! = sv x/\cs[off+j]? = some (.p x):=by
    intro j hj;obtain⟨x,h1,h2,h3⟩:=zafe K d j hj;refine⟨x,h1,h2,h3,?_⟩;have h4:((cs.drop off).take (d.size*K.k))[j]? = (pcells (K.row d))[j]? :=(by rw[hcs]);rw[A5,if_pos hj,AU,pcells,Ap,h1]at h4;exact h4
   have hH:Sort.HoldsK (encV K) K.k w ab (q+off) d:=by
    intro j hj;rw[Sort.size_flatK]at hj;obtain⟨x,_,h2,h3,h4⟩:=hcsj j hj;obtain⟨r,g1,_,g3⟩:=hcell _ _ h4;simp only[VRel]at g3;rw[(zanw h2).1 g3]at g1;refine⟨?_,?_⟩
    ·simp only[World.cell?,hheap,id,h3];rw[<- g1];simp[Bq]
    ·simp[World.frozen?,hheap]
   have hsort:=Go.Proofs.AnyQ.slices_SortFunc_eq L K.k aE zE (encV K) (zaur K) (fun x v hv=>by
    unfold encV at hv;rw[AZ]at hv;obtain⟨y,_,rfl⟩:=hv
    exact zbgr) K.cf K.swo g #[] ab (q+off) cap d w eg (fun m os dk _ x y=>zaus ht hC K g hcmp _ x y) hH hbl hm
   refine Calls.mono hsort ?_;rintro e w' ⟨rfl,n,os,rfl⟩;have hsize:(K.sort d).size=d.size:=(K.perm d).1.1;have hrlen:(K.row (K.sort d)).length=d.size*K.k:=(by rw[K.zazw,hsize])
   have hstep:=Step.write (w':=Sort.putRowK (encV K) K.k w ab (q+off) (K.sort d)) hW ⟨rfl,rfl,rfl,Ak _⟩ hg hmk (cs':=splice cs off (pcells (K.row (K.sort d)))) (v':=ver) (o':=op) (q':=q) (K':=KK) (.inr ⟨rfl,rfl,rfl⟩)
    (C':=Sort.putCells id (q+off) (Sort.flatK (encV K) K.k (K.sort d)) CC) (T:=T)
    (by simp[Sort.putRowK,Sort.putRow,Sort.mapBlock,CA,hheap,Sort.onCells])
    (by simp[Sort.putRowK])
    (fun i hi=>by simp only[Sort.putRowK,Sort.putRow,Sort.mapBlock,CA];rw[if_neg (Ne.symm hi)])
    (by simp[Sort.putCells];exact hq) (by simp[splice,pcells];omega) (fun h=>by have:=hop h;simp[splice,pcells];omega)
    (fun dx hx j x hj=>by
     have hj':(splice cs off (pcells (K.row (K.sort d))))[j]? = some x:=hj;have hpl:(pcells (K.row (K.sort d))).length=d.size*K.k:=(by simp[pcells,hrlen]);unfold splice at hj';by_cases h1:j<off
     ·rw[Ac (by simp;omega),A5,if_pos h1]at hj';obtain⟨r,g1,g2,g3⟩:=hcell j x hj';refine⟨r,?_,g2,g3.ext hx⟩;simp only[Sort.putCells,C6,g1,AN];rw[if_neg (by omega)]
     ·rw[Ad (by simp;omega),AD,Bw (by omega)]at hj';by_cases h2:j-off<d.size*K.k
      ·rw[Ac (by omega)]at hj';obtain⟨y,g1,g2,g3⟩:=zafe K (K.sort d) (j-off) (by rw[hsize];exact h2);rw[pcells,Ap,g1]at hj';cases hj';have hjc:j<cs.length:=(by omega);have hqj:q+j<CC.size:=(by omega);refine⟨sv y,?_,rfl,by simp only[VRel];exact(zanw g2).2 rfl⟩;simp only[Sort.putCells,C6,BJ hqj,AN];rw[if_pos (by rw[Sort.size_flatK,hsize];omega),show q+j-(q+off)=j-off by omega,g3];rfl
      ·rw[Ad (by omega),AU]at hj';have he:off+(pcells (K.row (K.sort d))).length+(j-off-(pcells (K.row (K.sort d))).length)=j:=(by omega);rw[he]at hj';obtain⟨r,g1,g2,g3⟩:=hcell j x hj';refine⟨r,?_,g2,g3.ext hx⟩;simp only[Sort.putCells,C6,g1,AN]
       rw[if_neg (by rw[Sort.size_flatK,hsize];omega)])
   refine⟨_,_,rfl,?_,(hstep.drewW n).growW os,Un.upd hmk,rfl,by simp only[VRel];exact⟨[],rfl,by simp only[TsRel]⟩⟩;simp only[Ctx.upd,hM,Mem.put]
end
end
end Go.Ideal
namespace Go.Ideal
open Go Go.Proofs
set_option maxHeartbeats 1000000
set_option maxRecDepth 100000
section
variable [B:Base]
theorem zakc(a:Int)(H:J2):CW tr.look F_139 [J4 a] H=some (.p (.bool false),H):=by
 refine zaz look_139 rfl (by simp) rfl ?_;dsimp only[i_139,c_139];simp(disch:=omega) []
theorem zwv(a b:Int)(H:J2):CW tr.look F_95 [J4 a, J4 b] H=some (J4 (cmpI a b),H):=by
 have n1:=zakc a;have n2:=zakc b;refine zaz look_95 rfl (by simp) rfl ?_;dsimp only[i_95,c_95];unfold cmpI;by_cases h1:a<b
 ·simp(disch:=omega) [h1,n1,n2]
 ·by_cases h2:b<a
  ·simp(disch:=omega) [h1,h2,n1,n2]
  ·simp(disch:=omega) [h1,h2,n1,n2]
theorem zalz(x y:Int×Int)(H:J2):CW tr.look F_130 [.agg (pcells (pairEnc x)), .agg (pcells (pairEnc y))] H=some (J4 (cmpI x.1 y.1),H):=by
 have h:=zwv x.1 y.1;refine zaz look_130 rfl (by simp[pairEnc,pcells,plainArgs,plainArg,cellsPlain]) rfl ?_;dsimp only[i_130,c_130];simp(disch:=omega) [pairEnc,pcells,h]
theorem zaif(x y:Int×Int)(H:J2):CW tr.look F_168 [.agg (pcells (pairEnc x)), .agg (pcells (pairEnc y))] H=some (J4 (cmpI x.1 y.1),H):=by
 have h:=zwv x.1 y.1;refine zaz look_168 rfl (by simp[pairEnc,pcells,plainArgs,plainArg,cellsPlain]) rfl ?_;dsimp only[i_168,c_168];simp(disch:=omega) [pairEnc,pcells,h]
theorem zaig(x y:Int×Int)(H:J2):CW tr.look F_94 [.agg (pcells (pairEnc x)), .agg (pcells (pairEnc y))] H=some (J4 (cmpI x.1 y.1),H):=by
 have h:=zwv x.1 y.1;refine zaz look_94 rfl (by simp[pairEnc,pcells,plainArgs,plainArg,cellsPlain]) rfl ?_;dsimp only[i_94,c_94];simp(disch:=omega) [pairEnc,pcells,h]
end
@[reducible] def noBase:Base:=Base.of noOracle
theorem zaqe(P:Program) : @BaseOK noTabs noBase P := @BaseOK.mk noTabs noBase P zago fun _ _ _ h f a H v H' e=>(h f a H (v,H') e).elim
theorem zaut{g:FuncId}(hg:∀x y:Int×Int,@CW noBase tr.look g [.agg (pcells (pairEnc x)), .agg (pcells (pairEnc y))] []=some (J4 (cmpI x.1 y.1),[])):OracleOK Tryz.prog (noOracle.set F_93 (sortSpec pairKit g)) :=
 zbbc (fun _=>rfl) Go.Proofs.Tryz.sortPair pairKit Go.Proofs.Tryz.isAgg49 Go.Proofs.Tryz.sizeOf49 (CW_ok (B:=noBase) tr_mixed tr_prog (zaqe _)) g hg
theorem zauu(l:List FuncId)(hl:∀g∈l,∀x y:Int×Int,@CW noBase tr.look g [.agg (pcells (pairEnc x)), .agg (pcells (pairEnc y))] []=some (J4 (cmpI x.1 y.1),[])):OracleOK Tryz.prog (noOracle.set F_93 (sortAny l)):=by
 induction l with
 |nil =>
  intro f args H v H' h;unfold Oracle.set noOracle at h;split at h<;>simp[sortAny]at h
 |cons g l ih =>
  intro f args H v H' h;have h1:=zaut (hl g (by simp)) f args H v H';have h2:=ih (fun g hg=>hl g (Ao _ hg)) f args H v H';unfold Oracle.set noOracle at h h1 h2;split at h
  ·rename_i hf;simp only[sortAny]at h;split at h
   ·rename_i x hx;injection h with h;exact h1 (by simp only[hf,hx,h])
   ·exact h2 (by simp only[hf];exact h)
  ·cases h
theorem zbbd:BaseOK Tryz.prog where
 b:=by
  intro f args H v H' h;have h:(match Nat.beq f F_160 with|true=>cmpSpec args H|false=>((noOracle.set F_93 (sortAny [F_130,F_168,F_94])).set F_116 insSpec) f args H)=some (v,H'):=h;cases hb:Nat.beq f F_160 with
  |true =>
   rw[hb]at h;have:=Af hb;subst this;refine zbgt Go.Proofs.Tryz.cmpLay _ args H v H' ?_;show(match Nat.beq F_160 F_160 with|true=>cmpSpec args H|false=>none)=_;exact h
  |false =>
   rw[hb]at h;have h:(match Nat.beq f F_116 with|true=>insSpec args H|false=>(noOracle.set F_93 (sortAny [F_130,F_168,F_94])) f args H)=some (v,H'):=h;cases hb:Nat.beq f F_116 with
   |true =>
    rw[hb]at h;have:=Af hb;subst this;refine zbgs Go.Proofs.Tryz.insInt _ args H v H' ?_;show(match Nat.beq F_116 F_116 with|true=>insSpec args H|false=>none)=_;exact h
   |false =>
    rw[hb]at h;refine zauu _ (fun g hg x y=>?_) f args H v H' h;simp only[Am,Cg,or_false]at hg;rcases hg with rfl|rfl|rfl
    ·exact zalz (B:=noBase) x y []
    ·exact zaif (B:=noBase) x y []
    ·exact zaig (B:=noBase) x y []
 m C hC D hD f args H v H' e:=by
   obtain⟨rfl,h⟩:=hD f args H (v,H') e;exact zaea tr_mixed hC ok_45 h
end Go.Ideal
