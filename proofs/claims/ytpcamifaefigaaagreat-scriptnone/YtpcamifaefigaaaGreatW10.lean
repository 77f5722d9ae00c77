import Derived.Test.YtpcamifaefigaaaGreatW9
import Derived.Test.YtpcamifaefigaaaGreatW8
import Derived.Test.YtpcamifaefigaaaGreatW7
import Derived.Test.YtpcamifaefigaaaGreatW6
namespace Go.Ideal
open Go
set_option maxHeartbeats 4000000
set_option maxRecDepth 20000
attribute [-simp] getElem?_pos
@[simp] theorem zbbd {t:Tree}:up (.p (kv2 t)) = .v (.p (kv2 t)):=rfl
def Shut (a b:Tree) (L:List (Nat×Nat)) (c:Nat) (D:List Nat):Prop:=∀d∈D,¬(frE L c d=true∧kinT (subT a c) (subT b d))
theorem zasa {L X:List (Nat×Nat)} {c d:Nat} (h:frE (L++X) c d=true):frE L c d=true:=by
 simp only[frE,Bool.and_eq_true,Option.isNone_iff_eq_none,zlv,zum,List.map_append,List.mem_append,not_or]at h ⊢
 exact⟨h.1.1,h.2.1⟩
theorem Shut.app {a b:Tree} {L X:List (Nat×Nat)} {c:Nat} {D:List Nat} (h:Shut a b L c D):Shut a b (L++X) c D:=fun d hd hh=>h d hd ⟨zasa hh.1,hh.2⟩
theorem zaad (a b:Tree) (L X:List (Nat×Nat)) (c q:Nat) (D:List Nat):Shut a b (L++(c,q)::X) c D:=fun d _ hh=>by
 have:=hh.1
 simp only[frE,Bool.and_eq_true,Option.isNone_iff_eq_none,zlv]at this
 exact this.1 (by simp)
theorem zadq {a b:Tree} (sb:b.size≤60) {L:List (Nat×Nat)} {K:List IBlk} (hM:MM a b L K) (hI:PI a b L) (j k:Nat) (hk:k<a.size) (sl:IVal) (sn sx:Nat) (Q:IExit→Env→KM→Prop)
 (hQ:∀X K',MM a b (L++X) K'→PI a b (L++X)→Shut a b (L++X) k (kidsOf b j)→(∀ p∈X,p.1=k)→Q .normal [(0, .v mptr),(2, .int .i64 j),(17, .v sl),(18, .int .i64 sn),(19, .int .i64 sx)] ⟨[],K'⟩) (_:up sl = .v sl) :
 wpLoop (CW tr.look) 65 m_Q92_0 l_Q92_0 (blkK 2 b_Q92_2 Q) [(0, .v mptr),(2, .int .i64 j),(7, .int .i64 k),(17, .v sl),(18, .int .i64 sn),(19, .int .i64 sx),(30, .v (.p (islice (kidsOf b j)))),(31, .int .i64 (kidsOf b j).length),(32, .int .i64 0)] ⟨[],K⟩:=by
 have hup:=zqg (kidsOf b j)
 obtain⟨l0,l1,_,_,_,_⟩:=hM.ld
 obtain⟨v,_,hitv,hsv,_⟩:=zdg hk
 obtain⟨rv1,ixv⟩:=zqf hitv
 have hkl:(kidsOf b j).length≤b.size:=by
  have:=List.length_filter_le (fun c=>decide (par b c=(j:Int))) (List.range b.size)
  simpa[kidsOf]using this
 refine zac (α:=Nat) (fun n=>[(0, .v mptr),(2, .int .i64 j),(7, .int .i64 k),(17, .v sl),(18, .int .i64 sn),(19, .int .i64 sx),(30, .v (.p (islice (kidsOf b j)))),(31, .int .i64 (kidsOf b j).length),(32, .int .i64 n)]) (fun _=>⟨[],K⟩)
  (fun n=>n≤(kidsOf b j).length∧Shut a b L k ((kidsOf b j).take n)) (fun n=>(kidsOf b j).length-n) ?_ 0 ⟨Nat.zero_le _,fun d hd=>by simp at hd⟩
 rintro n ⟨hn,hS⟩ R hR
 dsimp only[l_Q92_0]
 by_cases hnl:n<(kidsOf b j).length
 ·have hlt:(n:Int)<((kidsOf b j).length:Int):=by omega
  obtain⟨q,hq⟩:∃q,(kidsOf b j)[n]? = some q:=⟨_,List.getElem?_eq_getElem hnl⟩
  obtain⟨rest,ix⟩:=zsk hq
  have hqm:=List.mem_of_getElem? hq
  have hqb:=(zmr.1 hqm).1
  obtain⟨w,_,hitw,hsw,_⟩:=zdg hqb
  obtain⟨rw1,ixw⟩:=zqf hitw
  have fr:CW tr.look F_Q91 [.ptr (.heap 2) 0 0, .p (.int .i64 k), .p (.int .i64 q)] K=some (.p (.bool (frE L k q)),K):=zuo hM k q
  have htk:(kidsOf b j).take (n+1)=(kidsOf b j).take n++[q]:=by rw[List.take_add_one,hq];rfl
  have hnext:¬(frE L k q=true∧kinT (subT a k) (subT b q))→R [(0, .v mptr),(2, .int .i64 j),(7, .int .i64 k),(17, .v sl),(18, .int .i64 sn),(19, .int .i64 sx),(30, .v (.p (islice (kidsOf b j)))),(31, .int .i64 (kidsOf b j).length),(32, .int .i64 ((n+1:Nat)))] ⟨[],K⟩:=fun hne=>hR (n+1) ⟨by omega,fun d hd=>by
   rw[htk]at hd
   rcases List.mem_append.1 hd with hd|hd
   ·exact hS d hd
   ·simp at hd;subst hd;exact hne⟩ (by omega)
  cases hf:frE L k q with
  |false =>
   rw[hf]at fr
   have hr:=hnext (by rw[hf];simp)
   simp(disch:=omega) [ix,fr,zaa]
   exact hr
  |true =>
   rw[hf]at fr
   by_cases hk1:v.t.kind=w.t.kind
   ·have hk1':(v.t.kind==w.t.kind)=true:=by simp[hk1]
    by_cases hk2:v.t.name=w.t.name
    ·have hk2':(v.t.name==w.t.name)=true:=by simp[hk2]
     have hkin:kinT (subT a k) (subT b q):=by rw[hsv,hsw];exact⟨hk1,hk2⟩
     obtain⟨K',q1,q2,q3,q4⟩:=zlw hM k q hf
     have q1':CW tr.look F_Q88 [.ptr (.heap 2) 0 0, .p (.int .i64 k), .p (.int .i64 q)] K=some (.tup [],K'):=q1
     simp(disch:=omega) [ix,fr,l0,l1,ixv,ixw,zlx,eqVals,eqCls,clsEq,hk1',hk2',negIf,q1']
     exact hQ [(k,q)] K' q2 (hI.add hk hqb hf hkin) (zaad a b L [] k q _) (by simp)
    ·have hk2':(v.t.name==w.t.name)=false:=by
      cases h:v.t.name==w.t.name with
      |false=>rfl
      |true=>exact absurd (by simpa using h) hk2
     have hr:=hnext (fun h=>hk2 (by have:=h.2.2;rw[hsv,hsw]at this;exact this))
     simp(disch:=omega) [ix,fr,l0,l1,ixv,ixw,zlx,eqVals,eqCls,clsEq,hk1',hk2',negIf,zaa]
     exact hr
   ·have hk1':(v.t.kind==w.t.kind)=false:=by simp[hk1]
    have hr:=hnext (fun h=>hk1 (by have:=h.2.1;rw[hsv,hsw]at this;exact this))
    simp(disch:=omega) [ix,fr,l0,l1,ixv,ixw,zlx,eqVals,eqCls,clsEq,hk1',negIf,zaa]
    exact hr
 ·obtain rfl:n=(kidsOf b j).length:=by omega
  rw[List.take_length]at hS
  simp(disch:=omega) []
  have:=hQ [] K (by rw[List.append_nil];exact hM) (by rw[List.append_nil];exact hI) (by rw[List.append_nil];exact hS) (by simp)
  exact this
def DownQ (a b:Tree) (L:List (Nat×Nat)) (i j:Nat) (r:IVal) (H':List IBlk):Prop:=r = .tup []∧∃X,MM a b (L++X) H'∧PI a b (L++X)∧(∀ c∈kidsOf a i,Shut a b (L++X) c (kidsOf b j))∧∀p∈X,p.1∈kidsOf a i
theorem zalz {a b:Tree} {L:List (Nat×Nat)} {H:List IBlk} (h:MM a b L H) (hP:PI a b L) (sa:a.size≤60) (sb:b.size≤60) (i j:Nat) (hi:i<a.size) (hj:j<b.size):∃r H',CW tr.look F_Q92 [mptr, .p (.int .i64 i), .p (.int .i64 j)] H=some (r,H')∧DownQ a b L i j r H':=by
 obtain⟨_,_,l2,_,_,_⟩:=h.ld
 obtain⟨rk,ixk⟩:=zahp hi
 obtain⟨rk2,ixk2⟩:=zahp hj
 have hupa:=zqg (kidsOf a i)
 have hupb:=zqg (kidsOf b j)
 have hla:=zsj (kidsOf a i)
 have hlb:=zsj (kidsOf b j)
 have hkl:(kidsOf a i).length≤a.size:=by
  have:=List.length_filter_le (fun c=>decide (par a c=(i:Int))) (List.range a.size)
  simpa[kidsOf]using this
 refine zaw look_Q92 rfl rfl ?_
 dsimp only[i_Q92,c_Q92]
 simp(disch:=omega) [l2,ixk,hupa,hla]
 refine zac (α:=Nat×List (Nat×Nat)×List IBlk) (fun s=>[(0, .v mptr),(2, .int .i64 j),(17, .v (.p (islice (kidsOf a i)))),(18, .int .i64 (kidsOf a i).length),(19, .int .i64 s.1)]) (fun s=>⟨[],s.2.2⟩)
  (fun s=>s.1≤(kidsOf a i).length∧MM a b (L++s.2.1) s.2.2∧PI a b (L++s.2.1)∧(∀ c∈(kidsOf a i).take s.1,Shut a b (L++s.2.1) c (kidsOf b j))∧∀p∈s.2.1,p.1∈kidsOf a i) (fun s=>(kidsOf a i).length-s.1) ?_ (0,[],H) ⟨Nat.zero_le _,by rw[List.append_nil];exact h,by rw[List.append_nil];exact hP,fun c hc=>by simp at hc,by simp⟩
 rintro⟨n,X,K⟩ ⟨hn,hM,hI,hS,hX⟩ R hR
 dsimp only at hn hM hI hS hX hR ⊢
 dsimp only[l_Q92_1]
 by_cases hnl:n<(kidsOf a i).length
 ·have hlt:(n:Int)<((kidsOf a i).length:Int):=by omega
  obtain⟨k,hk⟩:∃k,(kidsOf a i)[n]? = some k:=⟨_,List.getElem?_eq_getElem hnl⟩
  obtain⟨rest,ix⟩:=zsk hk
  have hkm:=List.mem_of_getElem? hk
  have hka:=(zmr.1 hkm).1
  obtain⟨_,_,_,l3,_,_⟩:=hM.ld
  have htk:(kidsOf a i).take (n+1)=(kidsOf a i).take n++[k]:=by rw[List.take_add_one,hk];rfl
  simp(disch:=omega) [ix,l3,ixk2,hupb,hlb]
  refine zadq sb hM hI j k hka _ _ _ _ (fun Y K' g1 g2 g3 g4=>?_) hupa
  simp(disch:=omega) [zaa]
  rw[List.append_assoc]at g1 g2 g3
  refine hR (n+1,X++Y,K') ⟨by dsimp only;omega,g1,g2,fun c hc=>?_,fun p hp=>?_⟩ (by dsimp only;omega)
  ·dsimp only at hc ⊢
   rw[htk]at hc
   rcases List.mem_append.1 hc with hc|hc
   ·rw[← List.append_assoc];exact(hS c hc).app
   ·simp at hc;subst hc;exact g3
  ·dsimp only at hp
   rcases List.mem_append.1 hp with hp|hp
   ·exact hX p hp
   ·rw[g4 p hp];exact hkm
 ·obtain rfl:n=(kidsOf a i).length:=by omega
  rw[List.take_length]at hS
  simp(disch:=omega) []
  exact⟨rfl,X,hM,hI,hS,hX⟩
end Go.Ideal

namespace Go.Ideal
open Go
set_option maxHeartbeats 4000000
set_option maxRecDepth 20000
attribute [-simp] getElem?_pos
theorem HS.set1 {H:List IBlk} {k n:Nat} {v:IVal} {X:List IVal} (h:HS H k 1 n v X) {j:Nat} (hj:j<n) (x:IVal):∃ver B,idxS 1 v (.p (.int .i64 j))=some (.ptr (.heap k) ver j)∧writeCells ⟨[],H⟩ (.ptr (.heap k) ver j) [x]=some ⟨[],H.set k B⟩∧HS (H.set k B) k 1 n v (X.set j x):=by
 have hl:=h.xlen
 have h0:=h
 obtain⟨ver,cs,op,rfl,_⟩:=h
 obtain⟨B,w1,w2⟩:=h0.store (bx:=[]) (off:=j) (new:=[x]) (by simp;omega)
 refine⟨ver,B,by have:=zau (e:=1) (k:=k) (v:=ver) (o:=0) (n:=n) (j:=j) hj;simpa using this,w1,?_⟩
 have:X.set j x=splice X j [x]:=by
  rw[List.set_eq_take_append_cons_drop,if_pos (by omega)]
  rfl
 rw[this]
 exact w2
theorem HS.get1 {H:List IBlk} {k n:Nat} {v:IVal} {X:List IVal} (h:HS H k 1 n v X) {j:Nat} {x:IVal} (hx:X[j]? = some x):∃ver,idxS 1 v (.p (.int .i64 j))=some (.ptr (.heap k) ver j)∧loadVal ⟨[],H⟩ none (.ptr (.heap k) ver j)=some x:=by
 have hl:=h.xlen
 have hj:=(List.getElem?_eq_some_iff.1 hx).1
 have h0:=h
 obtain⟨ver,cs,op,rfl,_⟩:=h
 refine⟨ver,by have:=zau (e:=1) (k:=k) (v:=ver) (o:=0) (n:=n) (j:=j) (by omega);simpa using this,h0.field hx⟩
theorem All2.zaoe {R:IVal→PVal→Prop}:∀ {l:List IVal} {m:List PVal},l.length=m.length→(∀ (q:Nat) (v:IVal) (p:PVal),l[q]? = some v→m[q]? = some p→R v p)→All2 R l m
 | [],[],_,_=>rfl
 | [],_::_,h,_=>by simp at h
 |_::_,[],h,_=>by simp at h
 |v::l,p::m,h,hr=>⟨p,m,rfl,hr 0 v p rfl rfl,All2.zaoe (by simpa using h) fun q v' p' h1 h2=>hr (q+1) v' p' h1 h2⟩
def ks (t:Tree) (j q:Nat):List Nat:=(List.range j).filter fun c=>decide (par t c=(q:Int))
def idl (l:List Nat):List PVal:=l.map fun(i:Nat)=>.int .i64 i
structure KS (t:Tree) (j:Nat) (o:Nat→Option Nat) (C:List IVal) (H:List IBlk):Prop where
 out:HS H 0 1 t.size (.slice 0 0 0 t.size) C
 len:C.length=t.size
 row:∀q v,C[q]? = some v→VS H (o q) 1 (ks t j q).length v (pcells (idl (ks t j q)))
 inj:∀q q' k,o q=some k→o q'=some k→q=q'
 off:∀q k,o q=some k→k≠0
 lt:∀q k,o q=some k→k<H.length
 ne:∀q k,o q=some k→ks t j q≠[]
theorem zqh (t:Tree) (j q:Nat):ks t (j+1) q=ks t j q++if par t j=(q:Int)then[j]else[]:=by
 unfold ks
 rw[List.range_succ,List.filter_append]
 congr 1
 by_cases h:par t j=(q:Int)<;>simp[h]
theorem zabw (t:Tree) (hs:t.size≤60) (H:List IBlk):CW tr.look F_Q86 [.p (ival t)] H=some (.p (kv2 t),H):=by
 refine zai look_Q86 rfl (by simp) rfl ?_
 dsimp only[i_Q86,c_Q86]
 have hle:(t.size:Int)≤4294967296:=by omega
 have hrep:∀n:Nat,repl n [.nilslice]=List.replicate n (IVal.p .nilslice):=fun n=>by
  induction n with
  |zero=>rfl
  |succ n ih=>rw[repl,ih];rfl
 simp(disch:=omega) [hle,hrep]
 refine zac (α:=Nat×(Nat→Option Nat)×List IVal×List IBlk) (fun s=>[(3, .v (.slice 0 0 0 t.size)),(9, .v (.p (ival t))),(10, .int .i64 t.size),(11, .int .i64 s.1)]) (fun s=>⟨[],s.2.2.2⟩)
  (fun s=>s.1≤t.size∧KS t s.1 s.2.1 s.2.2.1 s.2.2.2) (fun s=>t.size-s.1) ?_ (0,fun _=>none,List.replicate t.size (.p .nilslice),_) ⟨Nat.zero_le _,⟨⟨0,_,_,rfl,rfl,by simp,by rw[List.take_of_length_le (by simp)]⟩,by simp,fun q v hv=>?_,fun _ _ _ h=>(by cases h),fun _ _ h=>(by cases h),fun _ _ h=>(by cases h),fun _ _ h=>(by cases h)⟩⟩
 ·rintro⟨j,o,C,K⟩ ⟨hj,hK⟩ R hR
  dsimp only at hj hK hR ⊢
  dsimp only[l_Q86_0]
  by_cases hjl:j<t.size
  ·have hlt:(j:Int)<(t.size:Int):=by omega
   obtain⟨v,_,hit,_,hpar⟩:=zdg hjl
   obtain⟨rest,ix⟩:=zqf hit
   have hpl:=zabu hjl
   rw[hpar]at hpl
   by_cases hp0:0≤v.parent
   ·obtain⟨p,hp⟩:∃p:Nat,v.parent=p:=⟨v.parent.toNat,by omega⟩
    have hpn:p<t.size:=by omega
    obtain⟨x,hx⟩:∃x,C[p]? = some x:=⟨_,List.getElem?_eq_getElem (by rw[hK.len];exact hpn)⟩
    obtain⟨ver,i1,i2⟩:=hK.out.get1 hx
    have hver:ver=0:=by
     have:=zau (e:=1) (k:=0) (v:=0) (o:=0) (n:=t.size) (j:=p) hpn
     rw[this]at i1
     injection i1 with i1
     injection i1 with _ i1 _
     exact i1.symm
    subst hver
    have hrow:=hK.row p x hx
    have hup:=hrow.up
    have hps:=hrow.pass
    have hln:(ks t j p).length≤j:=by
     have:=List.length_filter_le (fun c=>decide (par t c=(p:Int))) (List.range j)
     simpa[ks]using this
    obtain⟨x',K',o',a1,a2,a3,a4,a5,⟨k',a6⟩⟩:=hrow.append1 (ys:=[.p (.int .i64 j)]) rfl (by omega)
    obtain⟨u1,rfl⟩:∃u1,x' = .slice k' u1 0 ((ks t j p).length+1):=by
     have a2':=a2
     rw[a6]at a2'
     obtain⟨ver',cs',op',e,_⟩:=a2'
     exact⟨ver',e⟩
    have hklt:k'<K'.length:=by rw[a6]at a2;exact VS.lt a2
    have hup':=a2.up
    have hps':=a2.pass
    have h0:K'[0]? = K[0]? := a3.2 0 (by have:=hK.out.lt;omega) (fun e=>hK.off p 0 e rfl)
    have hout':HS K' 0 1 t.size (.slice 0 0 0 t.size) C:=hK.out.keep h0
    obtain⟨ver2,B,w1,w2,w3⟩:=hout'.set1 hpn (.slice k' u1 0 ((ks t j p).length+1))
    have hver2:ver2=0:=by
     rw[i1]at w1
     injection w1 with w1
     injection w1 with _ w1 _
     exact w1.symm
    subst hver2
    have hne:x≠.undef:=by rintro rfl;exact absurd hps (by decide)
    have hpi:(0:Int)≤(p:Int):=by omega
    simp(disch:=omega) [ix,hp,i1,i2,hup,a1,hup',w2,zaa]
    refine hR (j+1,fun q=>if q=p then o' else o q,C.set p (.slice k' u1 0 ((ks t j p).length+1)),K'.set 0 B) ⟨by dsimp only;omega,⟨w3,by dsimp only;rw[List.length_set];exact hK.len,fun q u hu=>?_,fun q q' k h1 h2=>?_,fun q k h1=>?_,fun q k h1=>?_,fun q k h1=>?_⟩⟩ (by dsimp only;omega)
    ·dsimp only at hu ⊢
     by_cases hq:q=p
     ·subst hq
      rw[if_pos rfl]
      rw[List.getElem?_set_self (by rw[hK.len];exact hpn)]at hu
      injection hu with hu
      subst hu
      rw[zqh,hpar,hp,if_pos rfl]
      have:pcells (idl (ks t j q++[j]))=pcells (idl (ks t j q))++[.p (.int .i64 j)]:=by simp[idl,pcells]
      rw[List.length_append,List.length_singleton,this]
      rw[a6]at a2 ⊢
      refine HS.keep a2 (List.getElem?_set_ne ?_)
      rcases a5 with a5|⟨k2,a5,a7⟩
      ·rw[a6]at a5
       exact fun e=>hK.off q k' a5.symm e.symm
      ·rw[a6]at a5
       injection a5 with a5
       have:=hK.out.lt
       omega
     ·rw[if_neg hq]
      rw[List.getElem?_set_ne (fun e=>hq e.symm)]at hu
      have hnp:¬par t j=(q:Int):=by rw[hpar,hp];omega
      rw[zqh,if_neg hnp,List.append_nil]
      have h1:=(hK.row q u hu).keep a3 (fun k hk=>fun e=>hq (hK.inj q p k hk e))
      cases ho:o q with
      |none=>rw[ho]at h1;exact h1
      |some k =>
       rw[ho]at h1
       exact HS.keep h1 (List.getElem?_set_ne (fun e=>hK.off q k ho e.symm))
    ·dsimp only at h1 h2
     by_cases hq:q=p<;>by_cases hq':q'=p
     ·rw[hq,hq']
     ·rw[if_pos hq]at h1
      rw[if_neg hq']at h2
      rcases a5 with a5|⟨k2,a5,a7⟩
      ·rw[a5]at h1;exact hq ▸ (hK.inj p q' k h1 h2)
      ·rw[h1]at a5
       injection a5 with a5
       have:=hK.lt q' k h2
       omega
     ·rw[if_neg hq]at h1
      rw[if_pos hq']at h2
      rcases a5 with a5|⟨k2,a5,a7⟩
      ·rw[a5]at h2;exact hq' ▸ (hK.inj q p k h1 h2)
      ·rw[h2]at a5
       injection a5 with a5
       have:=hK.lt q k h1
       omega
     ·rw[if_neg hq]at h1
      rw[if_neg hq']at h2
      exact hK.inj q q' k h1 h2
    ·dsimp only at h1
     by_cases hq:q=p
     ·rw[if_pos hq]at h1
      rcases a5 with a5|⟨k2,a5,a7⟩
      ·rw[a5]at h1;exact hK.off p k h1
      ·rw[h1]at a5
       injection a5 with a5
       have:=hK.out.lt
       omega
     ·rw[if_neg hq]at h1
      exact hK.off q k h1
    ·dsimp only at h1 ⊢
     rw[List.length_set]
     by_cases hq:q=p
     ·rw[if_pos hq,a6]at h1
      injection h1 with h1
      omega
     ·rw[if_neg hq]at h1
      have:=hK.lt q k h1
      omega
    ·dsimp only at h1 ⊢
     rw[zqh,hpar,hp]
     by_cases hq:q=p
     ·subst hq;rw[if_pos rfl];simp
     ·rw[if_neg hq]at h1
      have:=hK.ne q k h1
      simp[this]
   ·have hneg:¬(0:Int)≤v.parent:=hp0
    simp(disch:=omega) [ix,zaa]
    refine hR (j+1,o,C,K) ⟨by dsimp only;omega,⟨hK.out,hK.len,fun q u hu=>?_,hK.inj,hK.off,hK.lt,fun q k hk=>?_⟩⟩ (by dsimp only;omega)
    ·have hnp:¬par t j=(q:Int):=by rw[hpar];omega
     dsimp only
     rw[zqh,if_neg hnp,List.append_nil]
     exact hK.row q u hu
    ·have hnp:¬par t j=(q:Int):=by rw[hpar];omega
     dsimp only
     rw[zqh,if_neg hnp,List.append_nil]
     exact hK.ne q k hk
  ·obtain rfl:j=t.size:=by omega
   simp(disch:=omega) []
   have hfz:frzP (fun _=>True) K 3 (.slice 0 0 0 t.size) (kv2 t):=by
    refine HS.frz (n:=2) hK.out trivial (All2.zaoe (by simp[hK.len]) fun q v p hv hp=>?_)
    rw[List.getElem?_map]at hp
    obtain⟨h1,_⟩:=List.getElem?_eq_some_iff.1 hv
    rw[hK.len]at h1
    rw[List.getElem?_range h1]at hp
    injection hp with hp
    subst hp
    have hrow:=hK.row q v hv
    show frzP _ K 2 v (islice (kidsOf t q))
    have hkk:ks t t.size q=kidsOf t q:=rfl
    rw[hkk]at hrow
    cases ho:o q with
    |none =>
     rw[ho]at hrow
     obtain⟨rfl,h2,_⟩:=hrow
     have:kidsOf t q=[]:=List.length_eq_zero_iff.1 h2
     rw[islice,if_pos this]
     exact rfl
    |some k =>
     rw[ho]at hrow
     have hnz:kidsOf t q≠[]:=hK.ne q k ho
     rw[islice,if_neg hnz]
     exact HS.frz (n:=1) hrow trivial (All2.plain (n:=0) _)
   have:=zqe (zahm (m:=100) (by omega) hfz)
   exact this
 ·have:v = .p .nilslice:=by
   rw[List.getElem?_replicate]at hv
   split at hv
   ·injection hv with hv;exact hv.symm
   ·cases hv
  subst this
  exact⟨rfl,by simp[ks],by simp[ks,idl,pcells]⟩
end Go.Ideal

namespace Go.Ideal
open Go
set_option maxHeartbeats 4000000
set_option maxRecDepth 20000
attribute [-simp] getElem?_pos
theorem zahq {L:List (Nat×Nat)} {i j:Nat}:frE L i j=true↔i∉L.map (·.1)∧j∉L.map (·.2):=by
 simp only[frE,Bool.and_eq_true,Option.isNone_iff_eq_none,zlv,zum]
theorem zama {a b:Tree} {P:List (Nat×Nat)} {pv:PVal} (hpv:PV pv P) (hP:PI a b P) (hl:P.length≤1000) (z:KB) {H1:List IBlk} (hM:MM a b [] H1) (Q:IExit→Env→KM→Prop)
 (hQ:∀K,MM a b P K→Q .normal [(2, .box 2 0),(5, .v mptr)] ⟨[(2,some z)],K⟩) :
 wpLoop (CW tr.look) 143 m_Q45_0 l_Q45_0 (blkK 0 b_Q45_0 Q) [(2, .box 2 0),(5, .v mptr),(53, .v (.p pv)),(54, .int .i64 P.length),(55, .int .i64 0)] ⟨[(2,some z)],H1⟩:=by
 have hup:=hpv.up
 refine zac (α:=Nat×List IBlk) (fun s=>[(2, .box 2 0),(5, .v mptr),(53, .v (.p pv)),(54, .int .i64 P.length),(55, .int .i64 s.1)]) (fun s=>⟨[(2,some z)],s.2⟩)
  (fun s=>s.1≤P.length∧MM a b (P.take s.1) s.2) (fun s=>P.length-s.1) ?_ (0,H1) ⟨Nat.zero_le _,hM⟩
 rintro⟨k,K⟩ ⟨hk,hK⟩ R hR
 dsimp only at hk hK hR ⊢
 dsimp only[l_Q45_0]
 by_cases hkl:k<P.length
 ·have hlt:(k:Int)<(P.length:Int):=by omega
  obtain⟨p,hp⟩:∃p,P[k]? = some p:=⟨_,List.getElem?_eq_getElem hkl⟩
  have ix:=hpv.idx hp
  have htk:P.take (k+1)=P.take k++[p]:=by rw[List.take_add_one,hp];rfl
  have hf:frE (P.take k) p.1 p.2=true:=by
   have hin1:∀f:Nat×Nat→Nat,f p∈(P.drop k).map f:=fun f=>List.mem_map.2 ⟨p,List.mem_iff_getElem?.2 ⟨0,by rw[List.getElem?_drop];simpa using hp⟩,rfl⟩
   have hn1:=hP.nx
   have hn2:=hP.nz
   rw[← List.take_append_drop k P,List.map_append,List.nodup_append]at hn1 hn2
   exact zahq.2 ⟨fun hm=>hn1.2.2 _ hm _ (hin1 (·.1)) rfl,fun hm=>hn2.2.2 _ hm _ (hin1 (·.2)) rfl⟩
  obtain⟨K',q1,q2,_,_⟩:=zlw hK p.1 p.2 hf
  have q1':CW tr.look F_Q88 [.ptr (.heap 2) 0 0, .p (.int .i64 p.1), .p (.int .i64 p.2)] K=some (.tup [],K'):=q1
  simp(disch:=omega) [ix,q1',zaa]
  exact hR (k+1,K') ⟨by dsimp only;omega,by dsimp only;rw[htk];exact q2⟩ (by dsimp only;omega)
 ·obtain rfl:k=P.length:=by omega
  rw[List.take_length]at hK
  simp(disch:=omega) []
  exact hQ K hK
theorem zahr {N:List Nat} {k i:Nat} (h:N[k]? = some i):∃rest,idxS 1 (.p (nval N)) (.p (.int .i64 k))=some (.p (.ptr (.int .i64 i::rest))):=by
 obtain⟨h1,h2⟩:=List.getElem?_eq_some_iff.1 h
 refine⟨(nints N).drop (k+1),?_⟩
 have hlen:(nints N).length=N.length:=by simp[nints]
 rw[nval,zcb h1,Nat.mul_one,List.drop_eq_getElem_cons (by omega)]
 congr 4
 simp[nints,h2]
theorem zamb {a b:Tree} (fa:Fine a) (fb:Fine b) (sa:a.size≤60) (sb:b.size≤60) {P:List (Nat×Nat)} (hP:PI a b P) (N:List Nat) (hN:∀i∈N,i<a.size) (hNl:N.length≤60) {H1:List IBlk} (hM:MM a b P H1) (Q:IExit→Env→KM→Prop)
 (hQ:∀X K,MM a b (P++X) K→PI a b (P++X)→Q .normal [(5, .v mptr)] ⟨[],K⟩) :
 wpLoop (CW tr.look) 143 m_Q45_1 l_Q45_1 (blkK 2 b_Q45_2 Q) [(5, .v mptr),(67, .v (.p (nval N))),(68, .int .i64 N.length),(69, .int .i64 0)] ⟨[],H1⟩:=by
 have hup:up (.p (nval N)) = .v (.p (nval N)):=rfl
 refine zac (α:=Nat×List (Nat×Nat)×List IBlk) (fun s=>[(5, .v mptr),(67, .v (.p (nval N))),(68, .int .i64 N.length),(69, .int .i64 s.1)]) (fun s=>⟨[],s.2.2⟩)
  (fun s=>s.1≤N.length∧MM a b (P++s.2.1) s.2.2∧PI a b (P++s.2.1)) (fun s=>N.length-s.1) ?_ (0,[],H1) ⟨Nat.zero_le _,by rw[List.append_nil];exact hM,by rw[List.append_nil];exact hP⟩
 rintro⟨k,X,K⟩ ⟨hk,hK,hI⟩ R hR
 dsimp only at hk hK hI hR ⊢
 dsimp only[l_Q45_1]
 by_cases hkl:k<N.length
 ·have hlt:(k:Int)<(N.length:Int):=by omega
  obtain⟨i,hi⟩:∃i,N[k]? = some i:=⟨_,List.getElem?_eq_getElem hkl⟩
  obtain⟨rest,ix⟩:=zahr hi
  have hia:=hN i (List.mem_of_getElem? hi)
  obtain⟨_,_,_,_,l4,_⟩:=hK.ld
  have g1:=zfe (k:=(i:Int)) hK.to (.p (.int .i64 0))
  rw[zlu,zxj]at g1
  have hskip:∀K',MM a b (P++X) K'→R [(5, .v mptr),(67, .v (.p (nval N))),(68, .int .i64 N.length),(69, .int .i64 ((k+1:Nat)))] ⟨[],K'⟩:=fun K' hK'=>hR (k+1,X,K') ⟨by dsimp only;omega,hK',hI⟩ (by dsimp only;omega)
  cases ht:toN (P++X) i with
  |some j =>
   rw[ht]at g1
   have hr:=hskip K hK
   simp(disch:=omega) [ix,l4,g1,zaa,vI]
   exact hr
  |none =>
   rw[ht]at g1
   obtain⟨r,K1,b1,b2,b3,b4,b5⟩:=zarz hK (fun p hp=>(hI.ok p hp).2.1) sa sb i hia
   have b1':CW tr.look F_Q89 [.ptr (.heap 2) 0 0, .p (.int .i64 i)] K=some (r,K1):=b1
   rcases b5 with rfl|⟨j,rfl,hj,hf,hkin⟩
   ·have hr:=hskip K1 b2
    simp(disch:=omega) [ix,l4,g1,zaa,vI,b1']
    exact hr
   ·obtain⟨K2,c1,c2,_,_⟩:=zlw b2 i j hf
    have c1':CW tr.look F_Q88 [.ptr (.heap 2) 0 0, .p (.int .i64 i), .p (.int .i64 j)] K1=some (.tup [],K2):=c1
    have hI2:=hI.add hia hj hf hkin
    obtain⟨r3,K3,d1,rfl,Y,d2,d3,_⟩:=zaho fa fb c2 hI2 sa sb i j hia hj
    have d1':CW tr.look F_Q90 [.ptr (.heap 2) 0 0, .p (.int .i64 i), .p (.int .i64 j)] K2=some (.tup [],K3):=d1
    have hj0:(0:Int)≤(j:Int):=by omega
    simp(disch:=omega) [ix,l4,g1,zaa,vI,b1',c1',d1']
    have e:P++X++[(i,j)]++Y=P++(X++([(i,j)]++Y)):=by simp
    rw[e]at d2 d3
    exact hR (k+1,X++([(i,j)]++Y),K3) ⟨by dsimp only;omega,d2,d3⟩ (by dsimp only;omega)
 ·obtain rfl:k=N.length:=by omega
  simp(disch:=omega) []
  exact hQ X K hK hI
def KidsShut (a b:Tree) (L:List (Nat×Nat)) (n:Nat):Prop:=∀p∈L,p.1<n→∀c∈kidsOf a p.1,Shut a b L c (kidsOf b p.2)
theorem zabx {a b:Tree} (sa:a.size≤60) (sb:b.size≤60) {P:List (Nat×Nat)} (hP:PI a b P) {H1:List IBlk} (hM:MM a b P H1) (Q:IExit→Env→KM→Prop)
 (hQ:∀X K,MM a b (P++X) K→PI a b (P++X)→KidsShut a b (P++X) a.size→Q .normal [(5, .v mptr)] ⟨[],K⟩) :
 wpLoop (CW tr.look) 143 m_Q45_2 l_Q45_2 (blkK 4 b_Q45_4 Q) [(5, .v mptr),(105, .int .i64 a.size),(106, .int .i64 0)] ⟨[],H1⟩:=by
 refine zac (α:=Nat×List (Nat×Nat)×List IBlk) (fun s=>[(5, .v mptr),(105, .int .i64 a.size),(106, .int .i64 s.1)]) (fun s=>⟨[],s.2.2⟩)
  (fun s=>s.1≤a.size∧MM a b (P++s.2.1) s.2.2∧PI a b (P++s.2.1)∧KidsShut a b (P++s.2.1) s.1) (fun s=>a.size-s.1) ?_ (0,[],H1) ⟨Nat.zero_le _,by rw[List.append_nil];exact hM,by rw[List.append_nil];exact hP,fun p _ h=>by omega⟩
 rintro⟨i,X,K⟩ ⟨hk,hK,hI,hC⟩ R hR
 dsimp only at hk hK hI hC hR ⊢
 dsimp only[l_Q45_2]
 by_cases hil:i<a.size
 ·have hlt:(i:Int)<(a.size:Int):=by omega
  obtain⟨_,_,_,_,l4,_⟩:=hK.ld
  have g1:=zfe (k:=(i:Int)) hK.to (.p (.int .i64 0))
  rw[zlu,zxj]at g1
  cases ht:toN (P++X) i with
  |none =>
   rw[ht]at g1
   simp(disch:=omega) [l4,g1,zaa,vI]
   refine hR (i+1,X,K) ⟨by dsimp only;omega,hK,hI,fun p hp hpi=>?_⟩ (by dsimp only;omega)
   have:p.1≠i:=fun e=>zlv.1 ht (by rw[← e];exact List.mem_map.2 ⟨p,hp,rfl⟩)
   exact hC p hp (by dsimp only at hpi;omega)
  |some j =>
   rw[ht]at g1
   have hmem:=(zabt hI.nx).1 ht
   have hj:=(hI.ok _ hmem).2.1
   obtain⟨r,K',d1,rfl,Y,d2,d3,d4,d5⟩:=zalz hK hI sa sb i j hil hj
   have d1':CW tr.look F_Q92 [.ptr (.heap 2) 0 0, .p (.int .i64 i), .p (.int .i64 j)] K=some (.tup [],K'):=d1
   simp(disch:=omega) [l4,g1,d1',zaa,vI]
   rw[List.append_assoc]at d2 d3 d4
   refine hR (i+1,X++Y,K') ⟨by dsimp only;omega,d2,d3,fun p hp hpi=>?_⟩ (by dsimp only;omega)
   dsimp only at hp hpi ⊢
   rw[← List.append_assoc]at hp
   rcases List.mem_append.1 hp with hp|hp
   ·by_cases e:p.1=i
    ·have:p.2=j:=by
      have h1:=(zabt hI.nx (i:=p.1) (j:=p.2)).2 hp
      rw[e,ht]at h1
      injection h1 with h1
      exact h1.symm
     rw[e,this]
     exact d4
    ·intro c hc
     rw[← List.append_assoc]
     exact(hC p hp (by omega) c hc).app
   ·have hkid:=zmr.1 (d5 p hp)
    have hpl:=zabu hkid.1
    omega
 ·obtain rfl:i=a.size:=by omega
  simp(disch:=omega) []
  exact hQ X K hK hI hC
end Go.Ideal

namespace Go.Ideal
open Go
set_option maxHeartbeats 4000000
set_option maxRecDepth 20000
attribute [-simp] getElem?_pos
section
variable {C:Oracle} {n i:Nat} {blk:IBlk} {Q:IVal→List IBlk→Prop} {T:Env} {M:KM}
theorem zamc {k v:IVal} {s:Nat} {σ:List Ent}:rndK C i_Q45 n i blk Q ((k,v,s)::σ) T M=maskS m_Q45_90 T M fun T M=>lookE T 128 = .v (.opq n)∧wp C 143 (.block 7 b_Q45_91 (.seq (.reg [] c_Q45_73) c_Q45_71)) (fun e T M=>e = .normal∧M.H[i]? = some blk∧rndK C i_Q45 n i blk Q σ T M) (putK 143 (putK 143 (putK 143 T (some 129) (up (.tup [.p (.bool true),k,v]))) (some 130) (.bool true)) (some 131) (up (.tup [k,v]))) M:=rfl
theorem zasb:rndK C i_Q45 n i blk Q [] T M=maskS m_Q45_90 T M fun T M=>lookE T 128 = .v (.opq n)∧maskS b_Q45_92 (putK 143 (putK 143 T (some 129) .U) (some 130) (.bool false)) M fun T M=>wp C 143 c_Q45_72 (retK [.tmp 4] Q) T M:=rfl
end
def entP (e:Ent):Nat×Nat:=match e with
 |(.p (.int _ a), .p (.int _ b),_)=>(a.toNat,b.toNat)
 |_=>(0,0)
theorem zup:∀(L:List (Nat×Nat)) (n:Nat),∀e∈ME0 n (toE L),∃p∈L,∃s,e=(vI p.1,vI p.2,s)
 | [],n,e,h=>by simp[toE,ME0]at h
 |p::L,n,e,h=>by
  simp only[toE,List.map_cons,ME0]at h
  rcases List.mem_cons.1 h with rfl|h
  ·exact⟨p,by simp,n,rfl⟩
  ·obtain⟨q,hq,s,hs⟩:=zup L (n+1) e h
   exact⟨q,List.mem_cons_of_mem _ hq,s,hs⟩
theorem zuq:∀(L:List (Nat×Nat)) (n:Nat),(ME0 n (toE L)).map entP=L
 | [],n=>rfl
 |p::L,n=>by
  have:=zuq L (n+1)
  simp only[toE,List.map_cons,ME0]at this ⊢
  rw[this]
  simp[entP,vI]
theorem zkk:∀(E:List (Int×IVal)) (n:Nat),(ME0 n E).map (·.2.2)=List.range' n E.length
 | [],n=>rfl
 |(k,v)::E,n=>by simp only[ME0,List.map_cons,zkk E (n+1),List.length_cons,List.range'_succ]
theorem zly (E:List (Int×IVal)):stamps (ME0 0 E) E.length:=by
 refine⟨by rw[zkk];exact List.nodup_range',fun e he=>?_⟩
 have:e.2.2∈(ME0 0 E).map (·.2.2):=List.mem_map.2 ⟨e,he,rfl⟩
 rw[zkk,List.mem_range'_1]at this
 omega
theorem zqi (n:Nat) (blk:IBlk) (r:IVal):∀(σ:List Ent) (D:List (Nat×Nat)) (lv:IVal) (o:Option Nat) (K:List IBlk) (T:Env) (B:List (Nat×Option KB)),
 (∀ e∈σ,∃p:Nat×Nat,∃s,e=(vI p.1,vI p.2,s))→D.length+σ.length<1000000→lookE T 16 = .v lv→lookE T 128 = .v (.opq n)→K[0]? = some blk→VS K o 2 D.length lv (pcells (prc D))→o≠some 0 →
 (∀ K' lv' o',K'[0]? = some blk→VS K' o' 2 (D++σ.map entP).length lv' (pcells (prc (D++σ.map entP)))→∃K2,CW tr.look F_Q93 [lv', .p (.func F_Q94)] K'=some (.tup [],K2)∧freezeRes K2 lv'=some r∧freshRes K2 lv'=true) →
 rndK (CW tr.look) i_Q45 n 0 blk (fun v H'=>freezeRes H' v=some r∧freshRes H' v=true) σ T ⟨B,K⟩
 | [],D,lv,o,K,T,B,_,_,hT,hn,hb,hv,ho,hQ=>by
   rw[zasb]
   obtain⟨K2,q1,q2,q3⟩:=hQ K lv o hb (by simpa using hv)
   have hup:=hv.up
   have hps:=hv.pass
   simp(disch:=omega) [hT,hn,c_Q45_72,q1,hps,q2,q3]
 |e::σ,D,lv,o,K,T,B,hs,hl,hT,hn,hb,hv,ho,hQ=>by
  obtain⟨p,s,rfl⟩:=hs e (by simp)
  rw[zamc]
  have hup:=hv.up
  have hps:=hv.pass
  obtain⟨lv2,K2,o2,a1,a2,a3,a4,a5,⟨k2,a6⟩⟩:=hv.append1 (ys:=[.p (.int .i64 p.1), .p (.int .i64 p.2)]) rfl (by simp at hl;omega)
  have hup2:=a2.up
  simp(disch:=omega) [hT,hn,c_Q45_73,c_Q45_71,vI,a1,hup2]
  have hkl:=(List.getElem?_eq_some_iff.1 hb).1
  have hb2:K2[0]? = some blk:=by rw[a3.2 0 hkl ho];exact hb
  have hprc:pcells (prc (D++[p]))=pcells (prc D)++[.p (.int .i64 p.1), .p (.int .i64 p.2)]:=by simp[prc,pcells]
  have hmap:D++((vI p.1,vI p.2,s)::σ).map entP=(D++[p])++σ.map entP:=by
   simp[entP,vI]
  refine⟨hb2,zqi n blk r σ (D++[p]) lv2 o2 K2 _ _ (fun e he=>hs e (List.mem_cons_of_mem _ he)) (by simp at hl ⊢;omega) rfl rfl hb2 (by rw[hprc,List.length_append,List.length_singleton];exact a2) ?_ (fun K' lv' o' g1 g2=>hQ K' lv' o' g1 (by rw[hmap];exact g2))⟩
  rcases a5 with rfl|⟨k,rfl,hk⟩
  ·exact ho
  ·intro h
   injection h with h
   omega
theorem zahs {k:Int} {n x:Bytes} (h:leafB k n x=true):k≠1:=by
 unfold leafB at h
 intro e
 subst e
 simp at h
theorem zsl:∀(n:Nat) (t:Tree),t.size<n→nodeB t=true→∀u∈t.nodes,u.kind≠1
 |0,t,h,_=>by omega
 |n+1,t,h,hb=>by
  intro u hu
  rw[zjc]at hb
  rw[zbl]at hu
  have hts:=zag t
  by_cases hk:t.kind=2
  ·rw[if_pos hk]at hb
   simp only[Bool.and_eq_true]at hb
   rcases List.mem_cons.1 hu with rfl|hu
   ·rw[hk];decide
   ·obtain⟨c,hc,huc⟩:=zdk.1 hu
    have hcb:∀(l:List Tree) (r:Bool),kidsB r l=true→∀c∈l,nodeB c=true:=by
     intro l r
     induction l with
     |nil=>intro _ c hc;cases hc
     |cons x l ih =>
      intro h c hc
      simp only[kidsB,Bool.and_eq_true]at h
      rcases List.mem_cons.1 hc with rfl|hc
      ·exact h.1.1
      ·exact ih h.2 c hc
    exact zsl n c (by have:=zam hc;omega) (hcb _ _ hb.2 c hc) u huc
  ·rw[if_neg hk]at hb
   simp only[Bool.and_eq_true,decide_eq_true_eq]at hb
   have hnil:klist t.kids=[]:=List.length_eq_zero_iff.1 hb.1.2
   rw[hnil]at hu
   simp[lnodes]at hu
   subst hu
   exact zahs hb.2
theorem znz {r:Bool}:∀ {l:List Tree},kidsB r l=true→∀c∈l,nodeB c=true
 | [],_,c,hc=>by cases hc
 |x::l,h,c,hc=>by
  simp only[kidsB,Bool.and_eq_true]at h
  rcases List.mem_cons.1 hc with rfl|hc
  ·exact h.1.1
  ·exact znz h.2 c hc
theorem zlz {t:Tree} (hc:checkB t=true) {i:Nat} (hi:i<t.size):(subT t i).kind=1↔i=0:=by
 simp only[checkB,Bool.and_eq_true,decide_eq_true_eq]at hc
 constructor
 ·intro hk
  rcases Nat.eq_zero_or_pos i with h|h
  ·exact h
  ·exfalso
   have hg:=zel hi
   rw[zbl]at hg
   obtain⟨j,rfl⟩:∃j,i=j+1:=⟨i-1,by omega⟩
   rw[List.getElem?_cons_succ]at hg
   obtain⟨c,hcm,huc⟩:=zdk.1 (List.mem_of_getElem? hg)
   exact zsl _ c (Nat.lt_succ_self _) (znz hc.2 c hcm) _ huc hk
 ·rintro rfl
  rw[zpu];exact hc.1.1.1.1.1
end Go.Ideal

namespace Go.Ideal
open Go
set_option maxHeartbeats 4000000
set_option maxRecDepth 20000
attribute [-simp] getElem?_pos
structure MF (a b:Tree) (L:List (Nat×Nat)):Prop where
 pi:PI a b L
 root:(0,0)∈L
 shut:KidsShut a b L a.size
 pre:∃X,L=sortP (alikeN a b 2)++X
def MQ (a b:Tree) (r:IVal):Prop:=∃pv L,r = .p pv∧PV pv (sortP L)∧MF a b L
theorem zasc {t:Tree} {i:Nat} (h:i∈postT t 0):i<t.size:=by
 obtain⟨k,hk⟩:=List.mem_iff_getElem?.1 h
 obtain⟨_,_,_,_,_,_,h5⟩:=zpn hk
 exact h5
theorem zaht {a b:Tree} (ca:checkB a=true) (cb:checkB b=true) {L:List (Nat×Nat)} (hI:PI a b L) (h:frE L 0 0=false):(0,0)∈L:=by
 have hn:¬(0∉L.map (·.1)∧0∉L.map (·.2)):=fun hh=>by rw[zahq.2 hh]at h;cases h
 have key:∀p∈L,(p.1=0↔p.2=0):=fun p hp=>by
  obtain⟨h1,h2,h3⟩:=hI.ok p hp
  rw[← zlz ca h1,←zlz cb h2,h3.1]
 by_cases h1:0∈L.map (·.1)
 ·obtain⟨p,hp,e⟩:=List.mem_map.1 h1
  have:=(key p hp).1 e
  obtain⟨x,y⟩:=p
  simp only at e this
  subst e this
  exact hp
 ·have h2:0∈L.map (·.2):=by
   refine Classical.byContradiction fun h2=>hn ⟨h1,h2⟩
  obtain⟨p,hp,e⟩:=List.mem_map.1 h2
  have:=(key p hp).2 e
  obtain⟨x,y⟩:=p
  simp only at e this
  subst e this
  exact hp
theorem znl {H:List IBlk} {o:Option Nat} {L:List (Nat×Nat)} {v:IVal} (h:VS H o 2 L.length v (pcells (prc L))) (h0:L≠[]):freezeRes H v=some (.p (.slice 2 L.length (prc L))):=by
 cases o with
 |none=>obtain⟨_,h2,_⟩:=h;exact absurd (List.length_eq_zero_iff.1 h2) h0
 |some k =>
  have h1:=zia h
  simp only at h1
  obtain⟨ver,cs,op,rfl,_⟩:=h
  simp only[freezeRes,freezeOne,h1]
theorem zsm {g:IVal→Bool}:∀ {l:List IVal},(∀ v∈l,g v=true)→freshCells g l=true
 | [],_=>rfl
 |v::l,h=>by
  simp only[freshCells,h v (by simp)]
  exact zsm fun w hw=>h w (List.mem_cons_of_mem _ hw)
theorem zqj {H:List IBlk} {o:Option Nat} {L:List (Nat×Nat)} {v:IVal} (h:VS H o 2 L.length v (pcells (prc L))):freshRes H v=true:=by
 cases o with
 |none=>obtain⟨rfl,_,_⟩:=h;rfl
 |some k =>
  obtain⟨ver,cs,op,rfl,h1,h2,h3⟩:=h
  have:freshCells (freshCell H 99) ((cs.drop 0).take (L.length*2))=true:=by
   rw[List.drop_zero,h3]
   refine zsm fun w hw=>?_
   obtain⟨p,hp,rfl⟩:=List.mem_map.1 hw
   simp only[prc,List.mem_flatMap,List.mem_cons,List.not_mem_nil,or_false]at hp
   obtain⟨q,_,rfl|rfl⟩:=hp<;>rfl
  show freshCell H (99+1) (.slice k ver 0 L.length)=true
  rw[freshCell]
  simp only[h1]
  exact this
theorem zxl {a b:Tree} (sa:a.size≤60) {L:List (Nat×Nat)} {K:List IBlk} (hM:MM a b L K) (hF:MF a b L) {T:Env} (h1:lookE T 127 = .v (.map 0)) (h2:lookE T 16 = .v (.p .nilslice)):rngE (CW tr.look) i_Q45 (MQ a b) .normal T ⟨[],K⟩:=by
 have hne:sortP L≠[]:=fun e=>by
  have:=(zas L).mem_iff.2 hF.root
  rw[e]at this;cases this
 have hlen:(sortP L).length=L.length:=(zas L).length_eq
 have hLl:L.length≤60:=by
  have:=zgg a.size _ hF.pi.nx (fun x hx=>by obtain⟨p,hp,rfl⟩:=List.mem_map.1 hx;exact(hF.pi.ok p hp).1)
  simp at this;omega
 refine⟨.p (.slice 2 (sortP L).length (prc (sortP L))),⟨_,L,rfl, .inr rfl,hF⟩,0,ME0 0 (toE L),(toE L).length,?_,hM.to,zly _,by decide,by decide,fun n σ hσ=>?_⟩
 ·show(lookE T 127).den=_
  rw[h1];rfl
 ·have hmem:∀e∈σ,∃p:Nat×Nat,∃s,e=(vI p.1,vI p.2,s):=fun e he=>by
   obtain⟨p,_,s,hs⟩:=zup L 0 e (hσ.mem_iff.1 he)
   exact⟨p,s,hs⟩
  have hmap:(σ.map entP).Perm L:=by
   have:=hσ.map entP
   rw[zuq]at this
   exact this
  refine zqi n _ _ σ [] (.p .nilslice) none K _ _ hmem (by rw[hσ.length_eq,zahi];simp[toE];omega) ?_ ?_ hM.to ⟨rfl,rfl,rfl⟩ (by simp) fun K' lv' o' g1 g2=>?_
  ·show lookE (putK 143 T (some 128) (.v (.opq n))) 16=_
   simpa[putK,lookE]using h2
  ·show lookE (putK 143 T (some 128) (.v (.opq n))) 128=_
   simp[lookE]
  ·rw[List.nil_append]at g2
   have hnd:((σ.map entP).map (·.1)).Nodup:=(hmap.map _).nodup_iff.2 hF.pi.nx
   have hsl:(σ.map entP).length=L.length:=hmap.length_eq
   obtain⟨K2,q1,q2⟩:=zzz (g:=F_Q94) (by simp) lv' o' _ hnd (by omega) K' g2
   have hun:sortP (σ.map entP)=sortP L:=zfl hF.pi.nx ((zas _).trans hmap) (zdv _)
   rw[hun,hsl,←hlen]at q2
   exact⟨K2,q1,znl q2 hne,zqj q2⟩
theorem zamd (a b:Tree) (fa:Fine a) (fb:Fine b) (na:StrT a) (nb:StrT b) (ca:checkB a=true) (cb:checkB b=true) (sa:a.size≤60) (sb:b.size≤60) (hal:PI a b (sortP (alikeN a b 2))) :
 ∃r,(∀ args H,freezeAll H args=some [tagg a,tagg b]→CW tr.look F_Q45 args H=some (r,H))∧MQ a b r:=by
 have h1:=zde a fa.1
 have h2:=zde b fb.1
 rw[ca]at h1
 rw[cb]at h2
 have f1:=zby a fa
 have f2:=zby b fb
 have k1:=zabw a sa
 have k2:=zabw b sb
 have hpo:=zkf a fa
 obtain⟨pv,hpv,ha⟩:=zalt a b fa fb na nb 2 ca cb
 have hup:=hpv.up
 have hln:=hpv.len
 have hPl:(sortP (alikeN a b 2)).length≤1000:=by
  have:=zgg a.size _ hal.nx (fun x hx=>by obtain⟨p,hp,rfl⟩:=List.mem_map.1 hx;exact(hal.ok p hp).1)
  simp at this;omega
 refine zafn none_Q45 (fun C args H r h=>⟨rfl,h⟩) rfl ?_
 show wp (CW tr.look) 143 c_Q45_70 (rngE (CW tr.look) i_Q45 (MQ a b)) _ _
 dsimp only[c_Q45_70]
 simp(disch:=omega) [zad,h1,h2,f1,f2]
 refine⟨⟨⟨_,rfl,rfl⟩,⟨_,rfl,rfl⟩⟩,⟨⟨_,rfl,rfl⟩,⟨_,rfl,rfl⟩⟩,?_⟩
 obtain⟨H0,hH0⟩:∃H0,[IBlk.map [] 0,IBlk.map [] 0,IBlk.cells [IVal.p (PVal.int IntKind.i64 a.kind),IVal.p (PVal.str a.name),IVal.p (PVal.str a.text),IVal.p (aval a.attrs),IVal.p (kval a.kids),IVal.p (PVal.int IntKind.i64 b.kind),IVal.p (PVal.str b.name),IVal.p (PVal.str b.text),IVal.p (aval b.attrs),IVal.p (kval b.kids),IVal.p (ival a),IVal.p (ival b),IVal.p PVal.nilslice,IVal.p PVal.nilslice,IVal.map 0,IVal.map 1] 16 0 false]=H0:=⟨_,rfl⟩
 have l10:loadVal ⟨[],H0⟩ none (.ptr (.heap 2) 0 10)=some (.p (ival a)):=by rw[← hH0];rfl
 have l11:loadVal ⟨[],H0⟩ none (.ptr (.heap 2) 0 11)=some (.p (ival b)):=by rw[← hH0];rfl
 obtain⟨H1,hH1⟩:∃H1,[IBlk.map [] 0,IBlk.map [] 0,mB a b 0 1]=H1:=⟨_,rfl⟩
 have w12:writeCells ⟨[],H0⟩ (.ptr (.heap 2) 0 12) [.p (kv2 a), .p (kv2 b)]=some ⟨[],H1⟩:=by rw[← hH0,←hH1,zun];rfl
 have hM:MM a b [] H1:=by rw[← hH1];exact⟨rfl,rfl,rfl⟩
 rw[hH0]
 simp(disch:=omega) [l10,l11,k1,k2,w12,ha,hup,hln,zad]
 refine zama hpv hal hPl _ hM _ fun K0 hK0=>?_
 have hpl:sliceLen (.p (nval (postT a 0)))=some (postT a 0).length:=rfl
 have hupn:up (.p (nval (postT a 0))) = .v (.p (nval (postT a 0))):=rfl
 simp(disch:=omega) [zad,hpo,hpl,hupn]
 refine zamb fa fb sa sb hal (postT a 0) (fun i hi=>zasc hi) (by rw[zay];exact sa) hK0 _ fun X K1 hK1 hI1=>?_
 have fr:CW tr.look F_Q91 [.ptr (.heap 2) 0 0, .p (.int .i64 0), .p (.int .i64 0)] K1=some (.p (.bool (frE (sortP (alikeN a b 2)++X) 0 0)),K1):=zuo hK1 0 0
 cases hf:frE (sortP (alikeN a b 2)++X) 0 0 with
 |false =>
  rw[hf]at fr
  have hroot:=zaht ca cb hI1 hf
  have l10':=hK1.ld.1
  simp(disch:=omega) [fr,l10']
  refine zabx sa sb hI1 hK1 _ fun Y K2 hK2 hI2 hC=>?_
  have l14:=hK2.ld.2.2.2.2.1
  simp(disch:=omega) [l14]
  exact zxl sa hK2 ⟨hI2,List.mem_append_left _ hroot,hC,⟨X++Y,by rw[List.append_assoc]⟩⟩ rfl rfl
 |true =>
  rw[hf]at fr
  obtain⟨K2,c1,c2,_,_⟩:=zlw hK1 0 0 hf
  have c1':CW tr.look F_Q88 [.ptr (.heap 2) 0 0, .p (.int .i64 0), .p (.int .i64 0)] K1=some (.tup [],K2):=c1
  have oa:=zaf a
  have ob:=zaf b
  have k00:kinT (subT a 0) (subT b 0):=by
   have e1:=(zlz ca (i:=0) (by omega)).2 rfl
   have e2:=(zlz cb (i:=0) (by omega)).2 rfl
   refine⟨by rw[e1,e2],?_⟩
   rw[zpu,zpu]
   simp only[checkB,Bool.and_eq_true,decide_eq_true_eq]at ca cb
   rw[ca.1.1.2.1,cb.1.1.2.1]
  have hI2:=hI1.add (by omega) (by omega) hf k00
  have l10':=c2.ld.1
  simp(disch:=omega) [fr,c1',l10']
  refine zabx sa sb hI2 c2 _ fun Y K3 hK3 hI3 hC=>?_
  have l14:=hK3.ld.2.2.2.2.1
  simp(disch:=omega) [l14]
  exact zxl sa hK3 ⟨hI3,List.mem_append_left _ (List.mem_append_right _ (by simp)),hC,⟨X++([(0,0)]++Y),by simp⟩⟩ rfl rfl
end Go.Ideal

namespace Go.Ideal
open Go
set_option maxHeartbeats 4000000
set_option maxRecDepth 20000
attribute [-simp] getElem?_pos
def lst (l:List (Nat×Nat)):Int:=match l.getLast? with
 |none => -1
 |some p=>p.1
theorem zasd (l:List (Nat×Nat)) (p:Nat×Nat):lst (l++[p])=p.1:=by simp[lst]
def thE (L:List (Nat×Nat)):List (Int×IVal):=L.map fun p=>((p.2:Int), .p (.bool true))
theorem zame (j:Nat):∀L:List (Nat×Nat),(mget (thE L) j).getD (.p (.bool false)) = .p (.bool (decide (j∈L.map (·.2)))):=by
 have key:∀(L:List (Nat×Nat)) (n:Nat),((mfind (j:Int) (thE L) n).map (·.2)).getD (.p (.bool false)) = .p (.bool (decide (j∈L.map (·.2)))):=by
  intro L
  induction L with
  |nil=>intro n;simp[thE,mfind]
  |cons p L ih =>
   intro n
   simp only[thE,List.map_cons,mfind]
   by_cases h:p.2=j
   ·subst h;simp
   ·have h':¬(p.2:Int)=j:=by omega
    simp only[h',if_false]
    have:=ih (n+1)
    simp only[thE]at this
    rw[this]
    have hne:¬j=p.2:=fun e=>h e.symm
    simp[hne]
 exact fun L=>key L 0
theorem zur {j:Nat} {L:List (Nat×Nat)} (h:j∉L.map (·.2)):mget (thE L) j=none:=by
 have key:∀(L:List (Nat×Nat)) (n:Nat),j∉L.map (·.2)→mfind (j:Int) (thE L) n=none:=by
  intro L
  induction L with
  |nil=>intro n _;rfl
  |cons p L ih =>
   intro n h
   simp only[List.map_cons,List.mem_cons,not_or]at h
   have h':¬(p.2:Int)=j:=by omega
   simp only[thE,List.map_cons,mfind,h',if_false]
   exact ih (n+1) h.2
 simp[mget,key L 0 h]
structure VP (a b:Tree) (l:List (Nat×Nat)) (p:Nat×Nat):Prop where
 lt:lst l<p.1
 ba:p.1<a.size
 bb:p.2<b.size
 nw:p.2∉l.map (·.2)
 kn:kinT (subT a p.1) (subT b p.2)
theorem zahu (a b:Tree) (fa:Fine a) (fb:Fine b) (ca:checkB a=true) (cb:checkB b=true) {pv:PVal} {Rl:List (Nat×Nat)} (hpv:PV pv Rl) (h0:Rl[0]? = some (0,0)) (hlb:Rl.length<2000000) (m:Nat) (hm:m≤Rl.length)
 (hv:∀k p,k<m→Rl[k]? = some p→VP a b (Rl.take k) p) (res:Bool) (hres:m=Rl.length∧res=true∨m<Rl.length∧res=false∧∀p,Rl[m]? = some p→(p.1:Int)≤lst (Rl.take m)) (H:List IBlk) :
 CW tr.look F_Q29 [tagg a,tagg b, .p pv] H=some (.p (.bool res),H):=by
 have h1:=zde a fa.1
 have h2:=zde b fb.1
 rw[ca]at h1
 rw[cb]at h2
 have f1:=zby a fa
 have f2:=zby b fb
 have hup:=hpv.up
 have hln:=hpv.len
 have ix0:idxS 2 (.p pv) (.p (.int .i64 0))=_:=hpv.idx h0
 have hl0:0<Rl.length:=(List.getElem?_eq_some_iff.1 h0).1
 have hl0':¬Rl.length=0:=by omega
 have hfa:=fa.1
 have hfb:=fb.1
 have hnil:¬Rl=[]:=fun e=>by rw[e]at hl0;simp at hl0
 refine zai look_Q29 rfl (by simp) rfl ?_
 dsimp only[i_Q29,c_Q29]
 simp(disch:=omega) [zad,h1,h2,hup,hln,ix0,eqVals,eqCls,clsEq,negIf,f1,f2]
 refine zac (α:=Nat×List IBlk) (fun s=>[(7, .v (.p (ival a))),(8, .v (.p (ival b))),(9, .int .i64 (lst (Rl.take s.1))),(10, .v (.map 0)),(38, .v (.p pv)),(39, .int .i64 Rl.length),(40, .int .i64 s.1)]) (fun s=>⟨[],s.2⟩)
  (fun s=>s.1≤m∧s.2[0]? = some (imap (thE (Rl.take s.1)))) (fun s=>Rl.length-s.1) ?_ (0,[.map [] 0]) ⟨Nat.zero_le _,rfl⟩
 rintro⟨k,K⟩ ⟨hk,hK⟩ R hR
 dsimp only at hk hK hR ⊢
 dsimp only[l_Q29_0]
 by_cases hkl:k<Rl.length
 ·have hlt:(k:Int)<(Rl.length:Int):=by omega
  obtain⟨p,hp⟩:∃p,Rl[k]? = some p:=⟨_,List.getElem?_eq_getElem hkl⟩
  have ix:=hpv.idx hp
  have htk:Rl.take (k+1)=Rl.take k++[p]:=by rw[List.take_add_one,hp];rfl
  by_cases hkm:k<m
  ·obtain⟨q1,q2,q3,q4,q5⟩:=hv k p hkm hp
   obtain⟨v,_,hitv,hsv,_⟩:=zdg q2
   obtain⟨rv1,ixv⟩:=zqf hitv
   obtain⟨w,_,hitw,hsw,_⟩:=zdg q3
   obtain⟨rw1,ixw⟩:=zqf hitw
   rw[hsv,hsw]at q5
   have hk1':(v.t.kind==w.t.kind)=true:=by simp[q5.1]
   have hk2':(v.t.name==w.t.name)=true:=by simp[q5.2]
   have g1:=zjf (k:=(p.2:Int)) hK (.p (.bool false))
   rw[zame,decide_eq_false q4]at g1
   have g2:=zny (k:=(p.2:Int)) hK (zur q4) (v := .p (.bool true)) rfl
   have e1:¬(p.1:Int)≤lst (Rl.take k):=by omega
   have e2:¬(a.size:Int)≤(p.1:Int):=by omega
   have e3:¬(b.size:Int)≤(p.2:Int):=by omega
   simp(disch:=omega) [ix,g1,ixv,ixw,zlx,eqVals,eqCls,clsEq,hk1',hk2',negIf,g2,zaa]
   have hn:=hR (k+1,K.set 0 (imap (thE (Rl.take k)++[((p.2:Int), .p (.bool true))]))) ⟨by dsimp only;omega,by dsimp only;rw[htk];simp only[thE,List.map_append,List.map_cons,List.map_nil];exact zap (List.getElem?_eq_some_iff.1 hK).1⟩ (by dsimp only;omega)
   rw[htk,zasd]at hn
   exact hn
  ·have hkm':k=m:=by omega
   subst hkm'
   rcases hres with⟨e,_⟩|⟨_,rfl,h3⟩
   ·omega
   ·have e1:=h3 p hp
    simp(disch:=omega) [ix]
 ·have hkl':k=Rl.length:=by omega
  have hmk:m=Rl.length:=by omega
  rcases hres with⟨_,rfl⟩|⟨h3,_⟩
  ·subst hkl'
   simp(disch:=omega) []
  ·omega
end Go.Ideal

/-
  A COPY OF A TREE: what the laws' Tree makes: plain laws.
-/
namespace Go.Ideal
open Go
set_option linter.unusedSectionVars false
variable [Tabs]
attribute [-simp] getElem?_pos
def nk (l:List Tree):Option (List Tree):=if l=[]then none else some l
mutual
def Tree.norm:Tree→Tree
 | .mk k n x a ks=>.mk k n x (nattr a) (normK ks)
def normK:Option (List Tree)→Option (List Tree)
 |none=>none
 |some l=>nk (normL l)
def normL:List Tree→List Tree
 | []=>[]
 |t::r=>t.norm::normL r
end
theorem norm_eq (t:Tree):t.norm = .mk t.kind t.name t.text (nattr t.attrs) (nk (normL (klist t.kids))):=by
 obtain⟨k,n,x,a,ks⟩:=t
 cases ks<;>rfl
theorem zqk:∀l:List Tree,normL l=l.map Tree.norm
 | []=>rfl
 |t::l=>by rw[normL,zqk l];rfl
theorem zamf (l:List Tree):klist (nk l)=l:=by
 unfold nk
 split
 ·rename_i h;rw[h];rfl
 ·rfl
theorem zil (t:Tree):klist t.norm.kids=(klist t.kids).map Tree.norm:=by
 rw[norm_eq]
 show klist (nk _)=_
 rw[zamf,zqk]
theorem zql (t:Tree):t.norm.size=t.size:=by
 have key:∀(n:Nat) (t:Tree),t.size<n→t.norm.size=t.size:=by
  intro n
  induction n with
  |zero=>intro t h;omega
  |succ n ih =>
   intro t h
   have ht:=zag t
   have hl:∀l:List Tree,lsize l<n→lsize (l.map Tree.norm)=lsize l:=by
    intro l
    induction l with
    |nil=>intro _;rfl
    |cons u l ih2 =>
     intro hl
     simp only[lsize]at hl
     simp only[List.map_cons,lsize,ih u (by omega),ih2 (by omega)]
   rw[zag,zil,hl _ (by omega),ht]
 exact key _ t (Nat.lt_succ_self _)
theorem zgh (t:Tree):t.norm.attrs=nattr t.attrs:=by rw[norm_eq];rfl
theorem zma (t:Tree):t.norm.kind=t.kind∧t.norm.name=t.name∧t.norm.text=t.text:=by rw[norm_eq];exact⟨rfl,rfl,rfl⟩
theorem zsn (t:Tree):t.norm.nodes=t.nodes.map Tree.norm:=by
 have key:∀(n:Nat) (t:Tree),t.size<n→t.norm.nodes=t.nodes.map Tree.norm:=by
  intro n
  induction n with
  |zero=>intro t h;omega
  |succ n ih =>
   intro t h
   have ht:=zag t
   have hl:∀(l:List Tree),lsize l<n→lnodes (l.map Tree.norm)=(lnodes l).map Tree.norm:=by
    intro l
    induction l with
    |nil=>intro _;rfl
    |cons u l ih2 =>
     intro hl
     simp only[lsize]at hl
     simp only[List.map_cons,lnodes,List.map_append,ih u (by omega),ih2 (by omega)]
   rw[zbl,zbl,zil,List.map_cons,hl _ (by omega)]
 exact key _ t (Nat.lt_succ_self _)
theorem zahv {t:Tree} (h:Fine t):Fine t.norm:=by
 refine⟨by rw[zql];exact h.1,fun u hu=>?_⟩
 rw[zsn]at hu
 obtain⟨v,hv,rfl⟩:=List.mem_map.1 hu
 rw[zgh,zfd]
 exact h.2 v hv
end Go.Ideal

namespace Go.Ideal
open Go
set_option maxHeartbeats 4000000
set_option maxRecDepth 20000
attribute [-simp] getElem?_pos
theorem zamg (a:Option Attrs) (ha:(alist a).length<1000000) (H:List IBlk):CW tr.look F_Q28 [.p (aval a)] H=some (.p (aval (nattr a)),H):=by
 refine zai look_Q28 rfl (by simp) rfl ?_
 dsimp only[i_Q28,c_Q28]
 obtain⟨w,H',a1,a2,a3,a4,a5,a6,a7,_⟩:=zagx a ha []
 have a8:freezeRes H' w=some (.p (aval (nattr a))):=by
  have:freezeRes H' w=freezeOne H' w:=by
   cases w with
   |tup l=>cases a2
   |_=>rfl
  rw[this];exact a7
 simp(disch:=omega) [a1,a2,a6,a8]
theorem zso:∀a b:List Tree,kcells (a++b)=kcells a++kcells b
 | [],b=>rfl
 |t::a,b=>by simp only[List.cons_append,kcells,zso a b,List.append_assoc]
theorem zahw (t:Tree) (hs:t.size<1000000) (hk:∀u∈klist t.kids,∀H,CW tr.look F_Q10 [tagg u] H=some (tagg u.norm,H)) {c0 c1 c2 c3:SV} {z:KB} (H0:List IBlk) (Q:IExit→Env→KM→Prop) {x0 x1 x2:SV} {x3:PVal}
 (hQ:∀H' kv,up kv = .v kv→kv≠.undef→freezeCell H' 100 kv=some (kval (nk (normL (klist t.kids))))→kv.cellsOf=some [kv]→Q .normal [(2, .box 2 0),(3, .box 3 0)] ⟨[(3,some ⟨[x0,x1,x2, .v (.p x3), .v kv],5⟩),(2,some z)],H'⟩) :
 wpLoop (CW tr.look) 34 m_Q10_0 l_Q10_0 (blkK 0 b_Q10_0 Q) [(1, .box 1 0),(2, .box 2 0),(3, .box 3 0),(4, .int .i64 0)] ⟨[(3,some ⟨[x0,x1,x2, .v (.p x3), .v (.p .nilslice)],5⟩),(2,some z),(1,some ⟨[c0,c1,c2,c3, .v (.p (kval t.kids))],5⟩)],H0⟩:=by
 refine zac (α:=Nat×IVal×Option Nat×List IBlk) (fun a=>[(1, .box 1 0),(2, .box 2 0),(3, .box 3 0),(4, .int .i64 a.1)]) (fun a=>⟨[(3,some ⟨[x0,x1,x2, .v (.p x3), .v a.2.1],5⟩),(2,some z),(1,some ⟨[c0,c1,c2,c3, .v (.p (kval t.kids))],5⟩)],a.2.2.2⟩)
  (fun a=>a.1≤(klist t.kids).length∧VS a.2.2.2 a.2.2.1 5 a.1 a.2.1 (pcells (kcells (((klist t.kids).take a.1).map Tree.norm)))∧((a.1=0∧a.2.2.1=none)∨(0<a.1∧∃k,a.2.2.1=some k))) (fun a=>(klist t.kids).length-a.1) ?_ (0, .p .nilslice,none,H0) ⟨Nat.zero_le _,VS.nil, .inl ⟨rfl,rfl⟩⟩
 rintro⟨j,kv,o,H⟩ ⟨hj,hV,ho⟩ R hR
 dsimp only at hj hV ho hR ⊢
 dsimp only[l_Q10_0]
 have ht:=zag t
 have hkl:=zal (klist t.kids)
 have hup:=hV.up
 have hne:kv≠.undef:=by rintro rfl;exact absurd hV.pass (by decide)
 by_cases hc:j<(klist t.kids).length
 ·have hcc:=hk _ (List.getElem_mem hc)
  obtain⟨kv',H',o',a1,a2,a3,a4,a5,k',rfl⟩:=hV.append1 (ys:=pcells (klist t.kids)[j].norm.cells) (by simp[Tree.zax]) (by omega)
  have hup':=a2.up
  have hne':kv'≠.undef:=by rintro rfl;exact absurd a2.pass (by decide)
  have hco:=a2.cells
  have e:pcells (klist t.kids)[j].norm.cells=[.p (.int .i64 (klist t.kids)[j].norm.kind), .p (.str (klist t.kids)[j].norm.name), .p (.str (klist t.kids)[j].norm.text), .p (aval (klist t.kids)[j].norm.attrs), .p (kval (klist t.kids)[j].norm.kids)]:=by rw[Tree.zav];rfl
  rw[e]at a1
  simp(disch:=omega) [zck,zad,hcc,hne,a1,hup',zpo hco hup',zaa]
  refine hR (j+1,kv',some k',H') ⟨by dsimp only;omega,?_, .inr ⟨by dsimp only;omega,_,rfl⟩⟩ (by dsimp only;omega)
  dsimp only
  rw[List.take_add_one,List.getElem?_eq_getElem hc,Option.toList_some,List.map_append,zso,zmp]
  simpa[kcells]using a2
 ·obtain rfl:j=(klist t.kids).length:=by omega
  rw[List.take_length]at hV
  simp(disch:=omega) []
  refine hQ H kv hup hne ?_ hV.cells
  rw[zqk]
  unfold nk
  rcases ho with⟨h1,rfl⟩|⟨h1,k,rfl⟩
  ·obtain⟨rfl,_,_⟩:=hV
   rw[List.length_eq_zero_iff.1 h1];rfl
  ·have:(klist t.kids).map Tree.norm≠[]:=by
    intro e;have:=congrArg List.length e;simp at this;rw[this]at h1;simp at h1
   rw[zia hV,if_neg this,kval,List.length_map]
theorem zase:∀(n:Nat) (t:Tree),t.size<n→Fine t→∀H,CW tr.look F_Q10 [tagg t] H=some (tagg t.norm,H):=by
 intro n
 induction n with
 |zero=>intro t h;omega
 |succ n ih =>
  intro t h hf H
  have ht:=zag t
  refine zai look_Q10 rfl (by simp) rfl ?_
  dsimp only[i_Q10,c_Q10]
  have ha:=fun H=>zamg t.attrs (by have:=hf.2 t (ziy t);omega) H
  simp(disch:=omega) [ha]
  refine⟨rfl,?_⟩
  refine zahw t hf.1 (fun u hu H=>ih u (by have:=zam hu;omega) (hf.kid hu) H) _ _ ?_
  intro H' kv h1 h2 h3 h4
  simp(disch:=omega) []
  simp[freezeOne,freezeList,h3,tagg,norm_eq,Tree.zav]
  simp[Tree.kind,Tree.name,Tree.text,Tree.attrs,Tree.kids]
end Go.Ideal

namespace Go.Ideal
open Go
set_option maxHeartbeats 4000000
set_option maxRecDepth 20000
attribute [-simp] getElem?_pos
theorem zamh (a b:Tree):PI a b (sortP (alikeN a b 2)):=by
 have h:=zxb a b 2
 have hp:=zas (alikeN a b 2)
 refine⟨(hp.map _).nodup_iff.2 h.nx,(hp.map _).nodup_iff.2 h.nz,fun p hm=>?_⟩
 obtain⟨h1,h2,h3⟩:=h.ok p (hp.mem_iff.1 hm)
 have:=(ziz.1 h3).1
 exact⟨h1,h2,this.1,this.2.1⟩
theorem zxm {a b:Tree} {L:List (Nat×Nat)} (h:MF a b L):(sortP L)[0]? = some (0,0):=by
 have hm:=(zas L).mem_iff.2 h.root
 cases hs:sortP L with
 |nil=>rw[hs]at hm;cases hm
 |cons p R =>
  rw[List.getElem?_cons_zero]
  have hsd:=zdv L
  rw[hs]at hm hsd
  have hp:p∈L:=(zas L).mem_iff.1 (by rw[hs];simp)
  have h0:p.1=0:=by
   rcases List.mem_cons.1 hm with e|hm
   ·rw[← e]
   ·have:=(List.pairwise_cons.1 hsd).1 _ hm
    simp at this;omega
  rw[zafp h.pi.nx hp h.root h0]
theorem zahx {a b:Tree} {L:List (Nat×Nat)} (h:MF a b L):∀k p,(sortP L)[k]? = some p→VP a b ((sortP L).take k) p:=by
 intro k p hp
 have hpm:=zas L
 have hnx:((sortP L).map (·.1)).Nodup:=(hpm.map _).nodup_iff.2 h.pi.nx
 have hnz:((sortP L).map (·.2)).Nodup:=(hpm.map _).nodup_iff.2 h.pi.nz
 have hsd:=zdv L
 obtain⟨h1,h2,h3⟩:=h.pi.ok p (hpm.mem_iff.1 (List.mem_of_getElem? hp))
 have hin:∀f:Nat×Nat→Nat,f p∈((sortP L).drop k).map f:=fun f=>List.mem_map.2 ⟨p,List.mem_iff_getElem?.2 ⟨0,by rw[List.getElem?_drop];simpa using hp⟩,rfl⟩
 have hsp:p∈(sortP L).drop k:=List.mem_iff_getElem?.2 ⟨0,by rw[List.getElem?_drop];simpa using hp⟩
 rw[← List.take_append_drop k (sortP L)]at hnx hnz hsd
 rw[List.map_append,List.nodup_append]at hnx hnz
 refine⟨?_,h1,h2,fun hm=>hnz.2.2 _ hm _ (hin (·.2)) rfl,h3⟩
 unfold lst
 cases hl:((sortP L).take k).getLast? with
 |none=>simp only;omega
 |some q =>
  have hq:q∈(sortP L).take k:=List.mem_of_getLast? hl
  have e1:=(List.pairwise_append.1 hsd).2.2 q hq p hsp
  have e2:q.1≠p.1:=fun e=>hnx.2.2 q.1 (List.mem_map.2 ⟨q,hq,rfl⟩) p.1 (hin (·.1)) e
  simp only;omega
theorem zadr {a b:Tree} {L:List (Nat×Nat)} (h:PI a b L):(sortP L).length≤a.size:=by
 rw[(zas L).length_eq]
 have:=zgg a.size _ h.nx (fun x hx=>by obtain⟨p,hp,rfl⟩:=List.mem_map.1 hx;exact(h.ok p hp).1)
 simpa using this
theorem zahy {a b:Tree} (fa:Fine a) (fb:Fine b) (ca:checkB a=true) (cb:checkB b=true) {L:List (Nat×Nat)} (h:MF a b L) {pv:PVal} (hpv:PV pv (sortP L)) (H:List IBlk):CW tr.look F_Q29 [tagg a,tagg b, .p pv] H=some (.p (.bool true),H) :=
 zahu a b fa fb ca cb hpv (zxm h) (by have:=zadr h.pi;have:=fa.1;omega) (sortP L).length (Nat.le_refl _) (fun k p _ hp=>zahx h k p hp) true (.inl ⟨rfl,rfl⟩) H
def tA (x:UInt8):Tree := .mk 1 [] [] none (some [.mk 3 [] [x] none none])
theorem zads {a b:Tree} (hs:SameT a b) {L:List (Nat×Nat)} (h:MF a b L):sortP L=pairsN 0 0 a.size:=by
 obtain⟨X,hX⟩:=h.pre
 have hal:sortP (alikeN a b 2)=pairsN 0 0 a.size:=by
  have:alikeN a b 2=pairsN 0 0 a.size:=by unfold alikeN;rw[if_pos hs]
  rw[this]
  exact zul (zgw _ _ _)
 rw[hal]at hX
 have hnx:=h.pi.nx
 rw[hX,List.map_append,List.nodup_append,zer]at hnx
 have hnil:X=[]:=by
  cases X with
  |nil=>rfl
  |cons p X =>
   exfalso
   have:=(h.pi.ok p (by rw[hX];simp)).1
   exact hnx.2.2 p.1 (List.mem_range'_1.2 ⟨by omega,by omega⟩) p.1 (by simp) rfl
 rw[hnil,List.append_nil]at hX
 rw[hX]
 exact zul (zgw _ _ _)
end Go.Ideal

namespace Go.Ideal
open Go
set_option maxHeartbeats 4000000
set_option maxRecDepth 20000
attribute [-simp] getElem?_pos
structure NR where
 par:Int
 t:Tree
 kids:List Nat
abbrev KV:=Option Nat×IVal
def ncell (i:Nat) (r:NR) (v:IVal):List IVal:=[.p (.int .i64 i), .p (.int .i64 r.par), .p (.int .i64 r.t.kind), .p (.str r.t.name), .p (.str r.t.text), .p (aval r.t.attrs), .p .nilslice,v]
def ncells:Nat→List NR→List KV→List IVal
 |i,r::N,k::K=>ncell i r k.2++ncells (i+1) N K
 |_,_,_=>[]
theorem zmb:∀(N:List NR) (K:List KV) (i:Nat),K.length=N.length→(ncells i N K).length=N.length*8
 | [],_,i,_=>by simp[ncells]
 |r::N,[],i,h=>by simp at h
 |r::N,k::K,i,h=>by
  simp only[ncells,List.length_append,List.length_cons,zmb N K (i+1) (by simpa using h)]
  simp only[ncell,List.length_cons,List.length_nil]
  omega
theorem zmc:∀ {N:List NR} {K:List KV} {i j f:Nat} {r:NR} {k:KV},N[j]? = some r→K[j]? = some k→f<8→(ncells i N K)[j*8+f]? = (ncell (i+j) r k.2)[f]?
 | [],K,i,j,f,r,k,h,_,_=>by simp at h
 |r::N,[],i,j,f,_,k,_,h,_=>by simp at h
 |r::N,k::K,i,0,f,r',k',h1,h2,hf=>by
  rw[List.getElem?_cons_zero,Option.some.injEq]at h1 h2
  subst h1 h2
  simp only[ncells,Nat.zero_mul,Nat.zero_add,Nat.add_zero]
  rw[List.getElem?_append_left (by simp only[ncell,List.length_cons,List.length_nil];omega)]
 |r::N,k::K,i,j+1,f,r',k',h1,h2,hf=>by
  have:=zmc (i:=i+1) (f:=f) (N:=N) (K:=K) (j:=j) (by simpa using h1) (by simpa using h2) hf
  simp only[ncells]
  rw[List.getElem?_append_right (by simp only[ncell,List.length_cons,List.length_nil];omega)]
  rw[show(j+1)*8+f-(ncell i r k.2).length=j*8+f by simp only[ncell,List.length_cons,List.length_nil];omega,this,show i+(j+1)=i+1+j by omega]
theorem zqm:∀ {N:List NR} {K:List KV} {i j:Nat} {r:NR} {k:KV},N[j]? = some r→K[j]? = some k→((ncells i N K).drop (j*8)).take 8=ncell (i+j) r k.2
 | [],K,i,j,r,k,h,_=>by simp at h
 |r::N,[],i,j,_,k,_,h=>by simp at h
 |r::N,k::K,i,0,r',k',h1,h2=>by
  rw[List.getElem?_cons_zero,Option.some.injEq]at h1 h2
  subst h1 h2
  simp only[ncells,Nat.zero_mul,List.drop_zero,Nat.add_zero]
  rw[show(8:Nat)=(ncell i r k.2).length by simp[ncell],List.take_left]
 |r::N,k::K,i,j+1,r',k',h1,h2=>by
  have:=zqm (i:=i+1) (N:=N) (K:=K) (j:=j) (by simpa using h1) (by simpa using h2)
  simp only[ncells]
  rw[show(j+1)*8=(ncell i r k.2).length+j*8 by simp only[ncell,List.length_cons,List.length_nil];omega,List.drop_append,List.drop_of_length_le (by omega),Nat.add_sub_cancel_left,List.nil_append,this,show i+(j+1)=i+1+j by omega]
theorem zsp:∀ {N:List NR} {K:List KV} {i j:Nat} {r:NR} {k:KV} (ks:List Nat) (k':KV),N[j]? = some r→K[j]? = some k→(ncells i N K).set (j*8+7) k'.2=ncells i (N.set j { r with kids:=ks }) (K.set j k')
 | [],K,i,j,r,k,_,_,h,_=>by simp at h
 |r::N,[],i,j,_,k,_,_,_,h=>by simp at h
 |r::N,k::K,i,0,r',k',ks,k2,h1,h2=>by
  rw[List.getElem?_cons_zero,Option.some.injEq]at h1 h2
  subst h1 h2
  simp only[ncells,Nat.zero_mul,Nat.zero_add,List.set_cons_zero]
  rw[List.set_append_left _ _ (by simp[ncell])]
  rfl
 |r::N,k::K,i,j+1,r',k',ks,k2,h1,h2=>by
  have:=zsp (i:=i+1) (N:=N) (K:=K) (j:=j) ks k2 (by simpa using h1) (by simpa using h2)
  simp only[ncells,List.set_cons_succ]
  rw[List.set_append_right _ _ (by simp only[ncell,List.length_cons,List.length_nil];omega)]
  rw[show(j+1)*8+7-(ncell i r k.2).length=j*8+7 by simp only[ncell,List.length_cons,List.length_nil];omega,this]
theorem zsq:∀(N:List NR) (K:List KV) (i:Nat) (r:NR) (k:KV),K.length=N.length→ncells i (N++[r]) (K++[k])=ncells i N K++ncell (i+N.length) r k.2
 | [],[],i,r,k,_=>by simp[ncells]
 | [],k'::K,i,r,k,h=>by simp at h
 |r'::N,[],i,r,k,h=>by simp at h
 |r'::N,k'::K,i,r,k,h=>by
  simp only[List.cons_append,ncells,zsq N K (i+1) r k (by simpa using h),List.append_assoc,List.length_cons]
  rw[show i+1+N.length=i+(N.length+1)by omega]
def idE (n:Nat):List (Int×IVal):=(List.range n).map fun(i:Nat)=>((i:Int), .p (.int .i64 i))
theorem zus (n:Nat):idE (n+1)=idE n++[((n:Int), .p (.int .i64 n))]:=by simp[idE,List.range_succ]
theorem zjg:∀(n i:Nat),mget (idE n) i=if i<n then some (.p (.int .i64 i))else none
 |0,i=>by simp[idE,mget,mfind]
 |n+1,i=>by
  rw[zus,zabr,zjg n i]
  by_cases h:i<n
  ·have h2:i<n+1:=Nat.lt_succ_of_lt h
   simp only[h,h2,if_true]
  ·rw[if_neg h]
   by_cases e:i=n
   ·subst e;simp
   ·have:¬((n:Int)=(i:Int)):=by omega
    simp only[this,if_false]
    rw[if_neg (by omega)]
structure DS (H:List IBlk) (d mp:Nat) (o:Option Nat) (lv:IVal) (N:List NR) (K:List KV):Prop where
 hd:H[d]? = some (.cells [lv, .map mp] 2 0 false)
 hm:H[mp]? = some (imap (idE N.length))
 hv:VS H o 8 N.length lv (ncells 0 N K)
 kl:K.length=N.length
 kv:∀(i:Nat) (r:NR) (k:KV),N[i]? = some r→K[i]? = some k→VS H k.1 1 r.kids.length k.2 (pcells (nints r.kids))
 dm:d≠mp
 od:o≠some d
 om:o≠some mp
 kd:∀(i:Nat) (k:KV) (b:Nat),K[i]? = some k→k.1=some b→b≠d∧b≠mp∧o≠some b
 kk:∀(i j:Nat) (k l:KV) (b:Nat),K[i]? = some k→K[j]? = some l→k.1=some b→l.1=some b→i=j
def DK (d mp:Nat) (o:Option Nat):Nat→Prop:=fun x=>x=d∨x=mp∨o=some x
set_option maxHeartbeats 8000000 in
theorem zaya {H:List IBlk} {d mp:Nat} {o:Option Nat} {lv:IVal} {N:List NR} {K:List KV} (h:DS H d mp o lv N K) (t:Tree) (p:Int) (ha:(alist t.attrs).length<1000000) (hN:N.length<1000000) :
 ∃H' o' lv',CW tr.look F_Q111 [.ptr (.heap d) 0 0, .p (.int .i64 N.length), .p (.int .i64 p),tagg t] H=some (.tup [],H')∧DS H' d mp o' lv' (N++[⟨p,t,[]⟩]) (K++[(none, .p .nilslice)])∧Keep (DK d mp o) H H'∧(o'=o∨∃k,o'=some k∧H.length≤k):=by
 have hcl:=zns t.attrs ha
 have l0:=zab (bx:=[]) (off:=0) h.hd rfl
 have l1:=zab (bx:=[]) (off:=1) h.hd rfl
 have hlen:=h.hv.len
 have hup:=h.hv.up
 have hupd:=zny h.hm (k:=(N.length:Int)) (by rw[zjg,if_neg (by omega)]) (v := .p (.int .i64 N.length)) rfl
 have hdl:=(List.getElem?_eq_some_iff.1 h.hd).1
 have hml:=(List.getElem?_eq_some_iff.1 h.hm).1
 rw[← zus]at hupd
 obtain⟨H1,hH1⟩:∃H1,H1=H.set mp (imap (idE (N.length+1))):=⟨_,rfl⟩
 rw[← hH1]at hupd
 have k1:Keep (fun x=>x=mp) H H1:=by rw[hH1];exact Keep.set (.inl rfl)
 have hd1:H1[d]? = some (.cells [lv, .map mp] 2 0 false):=by rw[k1.2 d hdl h.dm];exact h.hd
 have hv1:=h.hv.keep k1 (fun k e hk=>h.om (by rw[e,hk]))
 have m0:=zab (bx:=[]) (off:=0) hd1 rfl
 have m1:=zab (bx:=[]) (off:=1) hd1 rfl
 obtain⟨lv',H2,o',a1,a2,a3,a4,a5,a6⟩:=hv1.append1 (ys:=ncell N.length ⟨p,t,[]⟩ (.p .nilslice)) rfl (by omega)
 dsimp only[ncell]at a1
 have hd2:H2[d]? = some (.cells [lv, .map mp] 2 0 false):=by rw[a3.2 d (by rw[hH1];simpa using hdl) h.od];exact hd1
 have n0:=zab (bx:=[]) (off:=0) hd2 rfl
 have hw:=zan (bx:=[]) (off:=0) (new:=[lv']) hd2 (by simp)
 have hck:∀kl:List SV→Prop,cellsK (.v lv') 1 kl=kl [.v lv']:=fun kl=>by rw[zaaz,a2.cells];simp[ups,a2.up]
 obtain⟨r,H',e1,e2,e3⟩:=zaw (args:=[.ptr (.heap d) 0 0, .p (.int .i64 N.length), .p (.int .i64 p),tagg t]) (H:=H) (Q:=fun r H'=>r = .tup []∧H'=H2.set d (.cells [lv', .map mp] 2 0 false)) look_Q111 rfl rfl (by
  dsimp only[i_Q111,c_Q111]
  simp(disch:=omega) [hcl,l0,l1,hlen,hup,hupd,m0,a1,a2.up,hck,hw]
  rfl)
 refine⟨H',o',lv',by rw[e1,e2],?_,?_,?_⟩
 ·subst hH1
  have hl1:H.length≤H2.length:=by have:=a4;simp at this;omega
  have hk2:∀x,x<H.length→x≠mp→o≠some x→H2[x]? = H[x]? := fun x hx h1 h2=>by rw[a3.2 x (by simpa using hx) h2,k1.2 x hx h1]
  have ho':∀x,x<H.length→o≠some x→o'≠some x:=fun x hx h1 h2=>by
   rcases a5 with e|⟨k,e,hk⟩
   ·exact h1 (by rw[← e,h2])
   ·rw[h2]at e;injection e with e;simp at hk;omega
  have hH3:Keep (fun x=>x=d) H2 H':=by rw[e3];exact Keep.set (.inl rfl)
  have hd3:H'[d]? = some (.cells [lv', .map mp] 2 0 false):=by rw[e3];exact zap (by omega)
  refine⟨hd3,?_,?_,by simp[h.kl],?_,h.dm,ho' d hdl h.od,ho' mp hml h.om,?_,?_⟩
  ·rw[hH3.2 mp (by omega) (Ne.symm h.dm),a3.2 mp (by simpa using hml) h.om,zap hml]
   simp
  ·have:=a2.keep hH3 (fun k e hk=>ho' d hdl h.od (by rw[e,hk]))
   rw[zsq N K 0 _ _ h.kl,Nat.zero_add,List.length_append]
   exact this
  ·intro i r k hr hk
   by_cases hi:i<N.length
   ·rw[List.getElem?_append_left hi]at hr
    rw[List.getElem?_append_left (by rw[h.kl];exact hi)]at hk
    have hv:=h.kv i r k hr hk
    refine hv.keep (H':=H') (S:=fun x=>H'[x]? ≠ H[x]?) ⟨by have:=hH3.1;omega,fun x _ hx=>Classical.byContradiction fun e=>hx e⟩ fun b hb e=>e ?_
    obtain⟨g1,g2,g3⟩:=h.kd i k b hk hb
    have hbl:b<H.length:=by rw[hb]at hv;exact hv.lt
    rw[hH3.2 b (by omega) g1,hk2 b hbl g2 g3]
   ·rw[List.getElem?_append_right (by omega)]at hr
    rw[List.getElem?_append_right (by rw[h.kl];omega),h.kl]at hk
    cases hj:i-N.length with
    |succ j=>rw[hj]at hr;simp at hr
    |zero =>
     rw[hj,List.getElem?_cons_zero,Option.some.injEq]at hr hk
     subst hr hk
     exact VS.nil
  ·intro i k b hk hb
   by_cases hi:i<N.length
   ·rw[List.getElem?_append_left (by rw[h.kl];exact hi)]at hk
    obtain⟨g1,g2,g3⟩:=h.kd i k b hk hb
    obtain⟨r,hr⟩:∃r,N[i]? = some r:=⟨_,List.getElem?_eq_getElem hi⟩
    have hv:=h.kv i r k hr hk
    rw[hb]at hv
    exact⟨g1,g2,ho' b hv.lt g3⟩
   ·rw[List.getElem?_append_right (by rw[h.kl];omega),h.kl]at hk
    cases hj:i-N.length with
    |succ j=>rw[hj]at hk;simp at hk
    |zero =>
     rw[hj,List.getElem?_cons_zero,Option.some.injEq]at hk
     subst hk
     cases hb
  ·intro i j k l b hk hl hb hc
   have key:∀(i:Nat) (k:KV),(K++[(none, .p .nilslice)])[i]? = some k→k.1=some b→K[i]? = some k:=by
    intro i k hk hb
    by_cases hi:i<K.length
    ·rw[List.getElem?_append_left hi]at hk;exact hk
    ·rw[List.getElem?_append_right (by omega)]at hk
     cases hj:i-K.length with
     |succ j=>rw[hj]at hk;simp at hk
     |zero =>
      rw[hj,List.getElem?_cons_zero,Option.some.injEq]at hk
      subst hk
      cases hb
   exact h.kk i j k l b (key i k hk hb) (key j l hl hc) hb hc
 ·refine⟨?_,fun x hx hs=>?_⟩
  ·rw[e3,List.length_set]
   have:=a4
   rw[hH1,List.length_set]at this
   omega
  ·have h1:x≠d:=fun e=>hs (.inl e)
   have h2:x≠mp:=fun e=>hs (.inr (.inl e))
   have h3:o≠some x:=fun e=>hs (.inr (.inr e))
   rw[e3,List.getElem?_set_ne (Ne.symm h1),a3.2 x (by rw[hH1];simpa using hx) h3,k1.2 x hx h2]
 ·rcases a5 with e|⟨k,e,hk⟩
  ·exact .inl e
  ·exact .inr ⟨k,e,by rw[hH1]at hk;simpa using hk⟩
end Go.Ideal

namespace Go.Ideal
open Go
set_option maxHeartbeats 4000000
set_option maxRecDepth 20000
attribute [-simp] getElem?_pos
theorem DS.kid {H:List IBlk} {d mp:Nat} {o:Option Nat} {lv:IVal} {N:List NR} {K:List KV} (h:DS H d mp o lv N K) {i:Nat} {r:NR} {k:KV} (hr:N[i]? = some r) (hk:K[i]? = some k) (x:Nat) (hb:r.kids.length<1000000) :
 ∃v' H2 H3 o2 ver ob,lv = .slice ob ver 0 N.length∧o=some ob∧loadVal ⟨[],H⟩ none (.ptr (.heap ob) ver (i*8+7))=some k.2 ∧
  evalAppend ⟨[],H++[.cells [.p (.int .i64 x)] 1 0 false]⟩ 1 k.2 (.slice H.length 0 0 1)=some (v',⟨[],H2⟩)∧H2[d]? = some (.cells [lv, .map mp] 2 0 false) ∧
  (∀ kl:List SV→Prop,cellsK (.v v') 1 kl=kl [.v v'])∧up v' = .v v'∧up k.2 = .v k.2 ∧
  writeCells ⟨[],H2⟩ (.ptr (.heap ob) ver (i*8+7)) [v']=some ⟨[],H3⟩ ∧
  DS H3 d mp o lv (N.set i { r with kids:=r.kids++[x] }) (K.set i (o2,v'))∧Keep (fun z=>z=ob∨k.1=some z) H H3∧(o2=k.1∨∃z,o2=some z∧H.length≤z):=by
 have hi:=(List.getElem?_eq_some_iff.1 hr).1
 have hik:=(List.getElem?_eq_some_iff.1 hk).1
 obtain⟨ob,rfl⟩:∃ob,o=some ob:=by
  cases o with
  |none=>have:=h.hv;obtain⟨_,e,_⟩:=this;omega
  |some ob=>exact⟨ob,rfl⟩
 have hv:=h.hv
 obtain⟨ver,cs,op,rfl,hkk,hnn,hxs⟩:=hv
 have hv:HS H ob 8 N.length (.slice ob ver 0 N.length) (ncells 0 N K):=⟨ver,cs,op,rfl,hkk,hnn,hxs⟩
 have hobl:=hv.lt
 have hkv:=h.kv i r k hr hk
 obtain⟨v',H2,o2,a1,a2,a3,a4,a5,a6⟩:=hkv.append1 (ys:=[.p (.int .i64 x)]) rfl (by omega)
 have hdl:=(List.getElem?_eq_some_iff.1 h.hd).1
 have hml:=(List.getElem?_eq_some_iff.1 h.hm).1
 have n1:k.1≠some d:=fun e=>(h.kd i k d hk e).1 rfl
 have n2:k.1≠some mp:=fun e=>(h.kd i k mp hk e).2.1 rfl
 have n3:k.1≠some ob:=fun e=>(h.kd i k ob hk e).2.2 rfl
 have m1:o2≠some ob:=by
  rcases a5 with e|⟨z,e,hz⟩
  ·rw[e];exact n3
  ·rw[e];intro e;injection e with e;omega
 have m2:o2≠some d:=by
  rcases a5 with e|⟨z,e,hz⟩
  ·rw[e];exact n1
  ·rw[e];intro e;injection e with e;omega
 have m3:o2≠some mp:=by
  rcases a5 with e|⟨z,e,hz⟩
  ·rw[e];exact n2
  ·rw[e];intro e;injection e with e;omega
 have hd2:H2[d]? = some (.cells [.slice ob ver 0 N.length, .map mp] 2 0 false):=by rw[a3.2 d hdl n1];exact h.hd
 have hv2:HS H2 ob 8 N.length (.slice ob ver 0 N.length) (ncells 0 N K):=hv.keep (a3.2 ob hobl n3)
 obtain⟨b,w1,w2⟩:=hv2.store (bx:=[]) (off:=i*8+7) (new:=[v']) (by simp;omega)
 have k3:Keep (fun z=>z=ob) H2 (H2.set ob b):=Keep.set (.inl rfl)
 have hob2:ob<H2.length:=by omega
 have hck:∀kl:List SV→Prop,cellsK (.v v') 1 kl=kl [.v v']:=fun kl=>by rw[zaaz,a2.cells];simp[ups,a2.up]
 have hfld:(ncells 0 N K)[i*8+7]? = some k.2:=by rw[zmc hr hk (by omega)];rfl
 have hdb:d≠ob:=fun e=>h.od (by rw[e])
 have hmb:mp≠ob:=fun e=>h.om (by rw[e])
 have getN:∀(j:Nat) (r':NR),(N.set i { r with kids:=r.kids++[x] })[j]? = some r'→(j=i∧r'={ r with kids:=r.kids++[x] })∨(j≠i∧N[j]? = some r'):=by
  intro j r' e
  by_cases hj:i=j
  ·subst hj;rw[List.getElem?_set_self hi]at e;injection e with e;exact .inl ⟨rfl,e.symm⟩
  ·rw[List.getElem?_set_ne hj]at e;exact .inr ⟨Ne.symm hj,e⟩
 have getK:∀(j:Nat) (k':KV),(K.set i (o2,v'))[j]? = some k'→(j=i∧k'=(o2,v'))∨(j≠i∧K[j]? = some k'):=by
  intro j k' e
  by_cases hj:i=j
  ·subst hj;rw[List.getElem?_set_self hik]at e;injection e with e;exact .inl ⟨rfl,e.symm⟩
  ·rw[List.getElem?_set_ne hj]at e;exact .inr ⟨Ne.symm hj,e⟩
 have old:∀(j:Nat) (k':KV) (z:Nat),K[j]? = some k'→k'.1=some z→z<H.length:=by
  intro j k' z hj hz
  have hjl:=(List.getElem?_eq_some_iff.1 hj).1
  obtain⟨r',hr'⟩:∃r',N[j]? = some r':=⟨_,List.getElem?_eq_getElem (by rw[← h.kl];exact hjl)⟩
  have:=h.kv j r' k' hr' hj
  rw[hz]at this
  exact this.lt
 refine⟨v',H2,_,o2,ver,ob,rfl,rfl,hv.field hfld,a1,hd2,hck,a2.up,hkv.up,w1,?_,?_,?_⟩
 ·refine⟨by rw[k3.2 d (by omega) hdb];exact hd2,?_,?_,by simp[h.kl],?_,h.dm,h.od,h.om,?_,?_⟩
  ·rw[k3.2 mp (by omega) hmb,a3.2 mp hml n2,List.length_set];exact h.hm
  ·rw[List.length_set]
   rw[zgf (by rw[zmb N K 0 h.kl];omega),zsp (r.kids++[x]) (o2,v') hr hk]at w2
   exact w2
  ·intro j r' k' hj hj'
   rcases getN j r' hj with⟨rfl,rfl⟩|⟨hne,hj⟩
   ·rcases getK j k' hj' with⟨_,rfl⟩|⟨hne,_⟩
    ·have:=a2.keep k3 (fun z e hz=>m1 (by rw[e,hz]))
     simpa[nints,pcells]using this
    ·exact absurd rfl hne
   ·rcases getK j k' hj' with⟨e,_⟩|⟨_,hj'⟩
    ·exact absurd e hne
    ·have hv':=h.kv j r' k' hj hj'
     refine(hv'.keep a3 fun z hz e=>hne (h.kk j i k' k z hj' hk hz e)).keep k3 fun z hz e=>?_
     exact(h.kd j k' z hj' hz).2.2 (by rw[e])
  ·intro j k' z hj hz
   rcases getK j k' hj with⟨rfl,rfl⟩|⟨hne,hj⟩
   ·exact⟨fun e=>m2 (by rw[← e];exact hz),fun e=>m3 (by rw[← e];exact hz),fun e=>m1 (by rw[← hz]at e;exact e.symm)⟩
   ·exact h.kd j k' z hj hz
  ·intro j l k' l' z hj hl hz hz'
   rcases getK j k' hj with⟨rfl,rfl⟩|⟨hne,hj2⟩
   ·rcases getK l l' hl with⟨rfl,_⟩|⟨hne',hl2⟩
    ·rfl
    ·exfalso
     rcases a5 with e|⟨y,e,hy⟩
     ·exact hne' (h.kk l j l' k z hl2 hk hz' (by rw[← e];exact hz))
     ·have:=old l l' z hl2 hz'
      have hz:o2=some z:=hz
      rw[e]at hz;injection hz with hz;omega
   ·rcases getK l l' hl with⟨rfl,rfl⟩|⟨hne',hl2⟩
    ·exfalso
     rcases a5 with e|⟨y,e,hy⟩
     ·exact hne (h.kk j l k' k z hj2 hk hz (by rw[← e];exact hz'))
     ·have:=old j k' z hj2 hz
      have hz':o2=some z:=hz'
      rw[e]at hz';injection hz' with hz';omega
    ·exact h.kk j l k' l' z hj2 hl2 hz hz'
 ·refine⟨by rw[List.length_set];omega,fun z hz hs=>?_⟩
  rw[List.getElem?_set_ne (fun e=>hs (.inl e.symm)),a3.2 z hz fun e=>hs (.inr e)]
 ·exact a5
end Go.Ideal

namespace Go.Ideal
open Go
set_option maxHeartbeats 4000000
set_option maxRecDepth 20000
attribute [-simp] getElem?_pos
def kidN:List Tree→Nat→List Nat
 | [],_=>[]
 |c::r,m=>m::kidN r (m+c.size)
def nrOf (x:Vis×Nat):NR:=⟨x.1.parent,x.1.t,kidN (klist x.1.t.kids) (x.2+1)⟩
def layV (L:List Vis) (m:Nat):List NR:=(L.zipIdx m).map nrOf
theorem zaae (L:List Vis) (m:Nat):(layV L m).length=L.length:=by simp[layV]
theorem zaaf (A B:List Vis) (m:Nat):layV (A++B) m=layV A m++layV B (m+A.length):=by
 simp[layV,List.zipIdx_append]
theorem zahz (v:Vis) (B:List Vis) (m:Nat):layV (v::B) m=nrOf (v,m)::layV B (m+1):=by
 simp[layV]
theorem zxn:∀(l:List Tree) (c:Tree) (m:Nat),kidN (l++[c]) m=kidN l m++[m+lsize l]
 | [],c,m=>by simp[kidN,lsize]
 |t::l,c,m=>by
  simp only[List.cons_append,kidN,zxn l c,lsize]
  rw[show m+t.size+lsize l=m+(t.size+lsize l)by omega]
theorem zkl:∀(l:List Tree) (m:Nat),(kidN l m).length=l.length
 | [],m=>rfl
 |t::l,m=>by simp[kidN,zkl l]
theorem zim:∀(l:List Tree) (id p d pl:Nat),(visL l id p d pl).length=lsize l
 | [],_,_,_,_=>rfl
 |u::l,id,p,d,pl=>by simp only[visL,lsize,List.length_append,zae,zim l]
theorem zxo:∀(l:List Tree) (c:Tree) (id p d pl:Nat),visL (l++[c]) id p d pl=visL l id p d pl++visT c (id+lsize l) p d (pl+l.length)
 | [],c,id,p,d,pl=>by simp[visL,lsize]
 |t::l,c,id,p,d,pl=>by
  simp only[List.cons_append,visL,zxo l c,lsize,List.append_assoc,List.length_cons]
  rw[show id+t.size+lsize l=id+(t.size+lsize l)by omega,show pl+1+l.length=pl+(l.length+1)by omega]
theorem zayb (d mp:Nat):∀(n:Nat) (t:Tree),t.size<n→Fine t→∀ {H:List IBlk} {o:Option Nat} {lv:IVal} {N:List NR} {K:List KV} (_:DS H d mp o lv N K) (p:Int) (dd pl:Nat),N.length+t.size<1000000 →
 ∃H' o' lv' K',CW tr.look F_Q65 [.ptr (.heap d) 0 0,tagg t, .p (.int .i64 p)] H=some (.p (.int .i64 N.length),H') ∧
  DS H' d mp o' lv' (N++layV (visT t N.length p dd pl) N.length) (K++K')∧Keep (DK d mp o) H H'∧(o'=o∨∃k,o'=some k∧H.length≤k):=by
 intro n
 induction n with
 |zero=>intro t h;omega
 |succ n ih =>
  intro t ht hf H o lv N K h p dd pl hb
  have hts:=zag t
  have l0:=zab (bx:=[]) (off:=0) h.hd rfl
  have hlen:=h.hv.len
  have hup:=h.hv.up
  have hkl:=zal (klist t.kids)
  obtain⟨H1,o1,lv1,c1,d1,k1,q1⟩:=zaya h t p (hf.2 t (ziy t)) (by omega)
  obtain⟨r,H',e1,e2,e3⟩:=zaw (args:=[.ptr (.heap d) 0 0,tagg t, .p (.int .i64 p)]) (H:=H)
   (Q:=fun r H'=>r = .p (.int .i64 N.length)∧∃o' lv' K',DS H' d mp o' lv' (N++layV (visT t N.length p dd pl) N.length) (K++K')∧Keep (DK d mp o) H H'∧(o'=o∨∃k,o'=some k∧H.length≤k)) look_Q65 rfl rfl (by
   dsimp only[i_Q65,c_Q65]
   simp(disch:=omega) [zad,l0,hlen,hup,c1]
   refine zac (α:=Nat×List IBlk×Option Nat×IVal×KV×List KV) (fun a=>[(0, .v (.ptr (.heap d) 0 0)),(7, .int .i64 N.length),(22, .v (.p (kval t.kids))),(23, .int .i64 (klist t.kids).length),(24, .int .i64 a.1)]) (fun a=>⟨[],a.2.1⟩)
    (fun a=>a.1≤(klist t.kids).length∧DS a.2.1 d mp a.2.2.1 a.2.2.2.1 (N++(⟨p,t,kidN ((klist t.kids).take a.1) (N.length+1)⟩::layV (visL ((klist t.kids).take a.1) (N.length+1) N.length (dd+1) 0) (N.length+1))) (K++(a.2.2.2.2.1::a.2.2.2.2.2)) ∧
     Keep (DK d mp o) H a.2.1∧(a.2.2.1=o∨∃k,a.2.2.1=some k∧H.length≤k)∧(∀ b,a.2.2.2.2.1.1=some b→H.length≤b)) (fun a=>(klist t.kids).length-a.1) ?_ (0,H1,o1,lv1,(none, .p .nilslice),[]) ⟨Nat.zero_le _,by simpa[kidN,visL,layV]using d1,k1,q1,fun b e=>by cases e⟩
   rintro⟨j,Hj,oj,lvj,kv,Kj⟩ ⟨hj,hD,hK,ho,hkv⟩ R hR
   dsimp only at hj hD hK ho hkv hR ⊢
   dsimp only[l_Q65_0]
   by_cases hc:j<(klist t.kids).length
   ·have hmem:=List.getElem_mem hc
    have hsu:=zam hmem
    have htk:(klist t.kids).take (j+1)=(klist t.kids).take j++[(klist t.kids)[j]]:=by rw[List.take_add_one,List.getElem?_eq_getElem hc];rfl
    have hls:lsize ((klist t.kids).take j)+(klist t.kids)[j].size≤lsize (klist t.kids):=by
     have:=zaj ((klist t.kids).take (j+1)) ((klist t.kids).drop (j+1))
     rw[List.take_append_drop,htk,zaj]at this
     simp only[lsize]at this
     omega
    have hNl:(N++(⟨p,t,kidN ((klist t.kids).take j) (N.length+1)⟩::layV (visL ((klist t.kids).take j) (N.length+1) N.length (dd+1) 0) (N.length+1))).length=N.length+1+lsize ((klist t.kids).take j):=by
     simp only[List.length_append,List.length_cons,zaae,zim];omega
    obtain⟨H2,o2,lv2,K2,c2,d2,k2,q2⟩:=ih (klist t.kids)[j] (by omega) (hf.kid hmem) hD N.length (dd+1) j (by rw[hNl];omega)
    have hm1:(N++(⟨p,t,kidN ((klist t.kids).take j) (N.length+1)⟩::layV (visL ((klist t.kids).take j) (N.length+1) N.length (dd+1) 0) (N.length+1))++layV (visT (klist t.kids)[j] (N.length+1+lsize ((klist t.kids).take j)) N.length (dd+1) j) (N.length+1+lsize ((klist t.kids).take j)))[N.length]? = some ⟨p,t,kidN ((klist t.kids).take j) (N.length+1)⟩:=by
     rw[List.append_assoc,List.getElem?_append_right (Nat.le_refl _),Nat.sub_self];rfl
    have hm2:(K++(kv::Kj)++K2)[N.length]? = some kv:=by
     rw[List.append_assoc,List.getElem?_append_right (by rw[h.kl];exact Nat.le_refl _),h.kl,Nat.sub_self];rfl
    rw[hNl]at c2 d2
    have hkl2:=List.length_take_le j (klist t.kids)
    obtain⟨v',H3,H4,o3,ver,ob,hlv,hob,x1,x2,x3,x4,x5,x6,x7,x8,x9,x10⟩:=d2.kid hm1 hm2 (N.length+1+lsize ((klist t.kids).take j)) (by rw[zkl];omega)
    have y0:=zab (bx:=[]) (off:=0) d2.hd rfl
    have y1:=zab (bx:=[]) (off:=0) x3 rfl
    have hNl2:N.length<(N++(⟨p,t,kidN ((klist t.kids).take j) (N.length+1)⟩::layV (visL ((klist t.kids).take j) (N.length+1) N.length (dd+1) 0) (N.length+1))++layV (visT (klist t.kids)[j] (N.length+1+lsize ((klist t.kids).take j)) N.length (dd+1) j) (N.length+1+lsize ((klist t.kids).take j))).length:=(List.getElem?_eq_some_iff.1 hm1).1
    have y2:=zau (e:=8) (k:=ob) (v:=ver) (o:=0) hNl2
    rw[Nat.zero_add,←hlv]at y2
    have y3:=d2.hv.up
    push_cast at x2
    have y4:¬lv2 = .undef:=by rw[hlv];intro e;cases e
    simp(disch:=omega) [zck,zad,c2,y0,y1,y2,y3,x1,x2,x4,x5,x6,x7,y4,zaa]
    have hset:∀(A B:List NR) (r r':NR) (M:List NR),(A++(r::M)++B).set A.length r'=A++(r'::(M++B)):=fun A B r r' M=>by
     rw[List.append_assoc,List.set_append_right _ _ (Nat.le_refl _),Nat.sub_self];rfl
    have hset2:∀(A B:List KV) (r r':KV) (M:List KV) (n:Nat),A.length=n→(A++(r::M)++B).set n r'=A++(r'::(M++B)):=fun A B r r' M n hn=>by
     rw[List.append_assoc,List.set_append_right _ _ (by omega),hn,Nat.sub_self];rfl
    rw[hset,hset2 _ _ _ _ _ _ h.kl]at x8
    refine hR (j+1,H4,o2,lv2,(o3,v'),Kj++K2) ⟨by dsimp only;omega,?_,?_,?_,?_⟩ (by dsimp only;omega)
    ·dsimp only
     rw[htk,zxn,zxo,zaaf,zim,List.length_take,Nat.min_eq_left (by omega),Nat.zero_add]
     exact x8
    ·dsimp only
     refine⟨Nat.le_trans hK.1 (Nat.le_trans k2.1 x9.1),fun x hx hs=>?_⟩
     have h1:oj≠some x:=fun e=>by
      rcases ho with e2|⟨z,e2,hz⟩
      ·exact hs (.inr (.inr (by rw[← e2];exact e)))
      ·rw[e2]at e;injection e with e;omega
     have h2:x≠ob:=fun e=>by
      rw[← e]at hob
      rcases q2 with e2|⟨z,e2,hz⟩
      ·exact h1 (by rw[← e2];exact hob)
      ·rw[hob]at e2;injection e2 with e2;have:=hK.1;omega
     have h3:kv.1≠some x:=fun e=>by have:=hkv x e;omega
     have hx1:x<Hj.length:=Nat.lt_of_lt_of_le hx hK.1
     rw[x9.2 x (Nat.lt_of_lt_of_le hx1 k2.1) (fun e=>e.elim h2 h3),k2.2 x hx1 (fun e=>by
      rcases e with e|e|e
      ·exact hs (.inl e)
      ·exact hs (.inr (.inl e))
      ·exact h1 e),hK.2 x hx hs]
    ·dsimp only
     rcases q2 with e|⟨z,e,hz⟩
     ·rw[e];exact ho
     ·exact .inr ⟨z,e,Nat.le_trans hK.1 hz⟩
    ·intro b hb
     dsimp only at hb
     rcases x10 with e|⟨z,e,hz⟩
     ·exact hkv b (by rw[← e];exact hb)
     ·rw[hb]at e;injection e with e;have:=hK.1;have:=k2.1;omega
   ·obtain rfl:j=(klist t.kids).length:=by omega
    simp(disch:=omega) []
    refine⟨oj,⟨lvj,kv::Kj,?_⟩,hK,ho⟩
    rw[List.take_length]at hD
    rw[zbp,zahz]
    exact hD)
  obtain⟨o',lv',K',g1,g2,g3⟩:=e3
  exact⟨H',o',lv',K',by rw[e1,e2],g1,g2,g3⟩
end Go.Ideal

namespace Go.Ideal
open Go
set_option maxHeartbeats 4000000
set_option maxRecDepth 20000
attribute [-simp] getElem?_pos
theorem zayc (t:Tree) (hf:Fine t) (hc:∀H,CW tr.look F_Q44 [tagg t] H=some (.p (.bool true),H)) (H:List IBlk) :
 ∃H' o lv K,CW tr.look F_Q31 [tagg t] H=some (.tup [.ptr (.heap (H.length+1)) 0 0, .p (.int .i64 0)],H')∧DS H' (H.length+1) H.length o lv (layV (visT t 0 (-1) 0 0) 0) K∧Keep (fun _=>False) H H':=by
 have h0:DS (H++[.map [] 0]++[.cells [.p .nilslice, .map H.length] 2 0 false]) (H.length+1) H.length none (.p .nilslice) [] []:=by
  refine⟨?_,?_,VS.nil,rfl,fun i r k h=>by simp at h,by omega,by simp,by simp,fun i k b h=>by simp at h,fun i j k l b h=>by simp at h⟩
  ·have:=zbh (H:=H++[.map [] 0]) (b := .cells [.p .nilslice, .map H.length] 2 0 false)
   simpa using this
  ·rw[List.append_assoc,List.getElem?_append_right (Nat.le_refl _),Nat.sub_self];rfl
 obtain⟨H',o,lv,K,c1,d1,k1,q1⟩:=zayb (H.length+1) H.length (t.size+1) t (Nat.lt_succ_self _) hf h0 (-1) 0 0 (by have:=hf.1;simpa using this)
 simp only[List.length_nil,List.nil_append,List.append_assoc,List.cons_append]at c1 d1
 have kk:Keep (fun _=>False) H H':=by
  refine⟨by have:=k1.1;simp at this;omega,fun x hx _=>?_⟩
  rw[k1.2 x (by simp;omega) (fun e=>by rcases e with e|e|e<;>first|omega|cases e),List.append_assoc,List.getElem?_append_left hx]
 obtain⟨r,H2,e1,e2,e3⟩:=zaw (args:=[tagg t]) (H:=H) (Q:=fun r H2=>r = .tup [.ptr (.heap (H.length+1)) 0 0, .p (.int .i64 0)]∧H2=H') look_Q31 rfl rfl (by
  dsimp only[i_Q31,c_Q31]
  simp(disch:=omega) [zad,hc,c1])
 exact⟨H',o,lv,K,by rw[e1,e2,e3],d1,kk⟩
theorem zaag {H:List IBlk} {d mp:Nat} {o:Option Nat} {lv:IVal} {N:List NR} {K:List KV} (h:DS H d mp o lv N K) {i:Nat} (hi:i<N.length) :
 ∃ob ver,o=some ob∧lv = .slice ob ver 0 N.length∧CW tr.look F_Q112 [.ptr (.heap d) 0 0, .p (.int .i64 i)] H=some (.ptr (.heap ob) ver (i*8),H):=by
 have hv:=h.hv
 obtain⟨ob,rfl⟩:∃ob,o=some ob:=by
  cases o with
  |none=>obtain⟨_,e,_⟩:=hv;omega
  |some ob=>exact⟨ob,rfl⟩
 obtain⟨ver,cs,op,hlv,hkk,hnn,hxs⟩:=hv
 have l0:=zab (bx:=[]) (off:=0) h.hd rfl
 have l1:=zab (bx:=[]) (off:=1) h.hd rfl
 have y2:=zau (e:=8) (k:=ob) (v:=ver) (o:=0) hi
 rw[Nat.zero_add,←hlv]at y2
 have y3:=h.hv.up
 have g1:=zfe (k:=(i:Int)) h.hm (.p (.int .i64 0))
 rw[zjg,if_pos hi]at g1
 simp only[Option.getD_some,Option.isSome_some]at g1
 refine⟨ob,ver,rfl,hlv,?_⟩
 obtain⟨r,H2,e1,e2,e3⟩:=zaw (args:=[.ptr (.heap d) 0 0, .p (.int .i64 i)]) (H:=H) (Q:=fun r H2=>r = .ptr (.heap ob) ver (i*8)∧H2=H) look_Q112 rfl rfl (by
  dsimp only[i_Q112,c_Q112]
  simp(disch:=omega) [l0,l1,y2,y3,g1])
 rw[e1,e2,e3]
theorem zxp {H:List IBlk} {d mp:Nat} {o:Option Nat} {lv:IVal} {N:List NR} {K:List KV} (h:DS H d mp o lv N K) {i:Nat} {r:NR} (hr:N[i]? = some r) :
 CW tr.look F_Q72 [.ptr (.heap d) 0 0, .p (.int .i64 i)] H=some (.p (.int .i64 r.par),H):=by
 have hi:=(List.getElem?_eq_some_iff.1 hr).1
 obtain⟨ob,ver,rfl,rfl,c1⟩:=zaag h hi
 obtain⟨k,hk⟩:∃k,K[i]? = some k:=⟨_,List.getElem?_eq_getElem (by rw[h.kl];exact hi)⟩
 have hv:HS H ob 8 N.length (.slice ob ver 0 N.length) (ncells 0 N K):=h.hv
 have f1:=hv.field (bx:=[]) (off:=i*8+1) (by rw[zmc hr hk (by omega)];rfl)
 have hn:evalNilPtr (.ptr (.heap ob) ver (i*8)) (.p .nilptr)=some false:=rfl
 obtain⟨r',H2,e1,e2,e3⟩:=zaw (args:=[.ptr (.heap d) 0 0, .p (.int .i64 i)]) (H:=H) (Q:=fun r' H2=>r' = .p (.int .i64 r.par)∧H2=H) look_Q72 rfl rfl (by
  dsimp only[i_Q72,c_Q72]
  simp(disch:=omega) [c1,f1,hn])
 rw[e1,e2,e3]
theorem zadt {H:List IBlk} {d mp:Nat} {o:Option Nat} {lv:IVal} {N:List NR} {K:List KV} (h:DS H d mp o lv N K) {i:Nat} {r:NR} (hr:N[i]? = some r) (ha:(alist r.t.attrs).length<1000000) :
 CW tr.look F_Q74 [.ptr (.heap d) 0 0, .p (.int .i64 i)] H=some (.tup [tagg r.t.bare, .p (.bool true)],H):=by
 have hi:=(List.getElem?_eq_some_iff.1 hr).1
 obtain⟨ob,ver,rfl,rfl,c1⟩:=zaag h hi
 obtain⟨k,hk⟩:∃k,K[i]? = some k:=⟨_,List.getElem?_eq_getElem (by rw[h.kl];exact hi)⟩
 have hv:HS H ob 8 N.length (.slice ob ver 0 N.length) (ncells 0 N K):=h.hv
 obtain⟨ver',cs,op,e,hkk,hnn,hxs⟩:=hv
 injection e with _ e _ _
 subst e
 have hcl:=zns r.t.attrs ha
 have hn:evalNilPtr (.ptr (.heap ob) ver (i*8)) (.p .nilptr)=some false:=rfl
 have f1:=zdc (bx:=[]) (off:=i*8+2) (n:=5) hkk (by omega)
 have f2:((cs.drop (i*8+2)).take 5)=[.p (.int .i64 r.t.kind), .p (.str r.t.name), .p (.str r.t.text), .p (aval r.t.attrs), .p .nilslice]:=by
  have g:=zqm (i:=0) hr hk
  rw[← hxs,List.drop_take,List.take_take,Nat.min_eq_left (by omega)]at g
  have g2:=congrArg (fun l=>(l.drop 2).take 5) g
  simp only[List.drop_take,List.take_take,List.drop_drop]at g2
  simpa[ncell]using g2
 rw[f2]at f1
 have hcl2:=zns r.t.bare.attrs (by rw[show r.t.bare.attrs=r.t.attrs by cases r.t;rfl];exact ha)
 have hb:IVal.agg [.p (.int .i64 r.t.kind), .p (.str r.t.name), .p (.str r.t.text), .p (aval r.t.attrs), .p .nilslice]=tagg r.t.bare:=by cases r.t;rfl
 obtain⟨r',H2,e1,e2,e3⟩:=zaw (args:=[.ptr (.heap d) 0 0, .p (.int .i64 i)]) (H:=H) (Q:=fun r' H2=>r' = .tup [tagg r.t.bare, .p (.bool true)]∧H2=H) look_Q74 rfl rfl (by
  dsimp only[i_Q74,c_Q74]
  simp(disch:=omega) [c1,f1,hn,hcl2,hb]
  exact zad _)
 rw[e1,e2,e3]
def ixOf (x:Nat):List Nat→Nat→Int
 | [],_ => -1
 |a::l,i=>if x=a then i else ixOf x l (i+1)
def kslc (l:List Nat):Option Nat→PVal
 |none=>.nilslice
 |some _=>.slice 1 l.length (nints l)
theorem zami (l:List Nat) (b:Option Nat) (hb:b=none→l=[]) (x:Nat) (hl:l.length<1000000) (H:List IBlk):CW tr.look F_Q123 [.p (kslc l b), .p (.int .i64 x)] H=some (.p (.int .i64 (ixOf x l 0)),H):=by
 have hlen:sliceLen (.p (kslc l b))=some l.length:=by
  cases b with
  |none=>rw[hb rfl];rfl
  |some _=>rfl
 have hup:up (.p (kslc l b)) = .v (.p (kslc l b)):=by cases b<;>rfl
 refine zai look_Q123 rfl (by simp) rfl ?_
 dsimp only[i_Q123,c_Q123]
 simp(disch:=omega) [hlen,hup]
 refine zac (α:=Nat) (fun j=>[(0, .v (.p (kslc l b))),(1, .int .i64 x),(7, .int .i64 l.length),(8, .int .i64 j)]) (fun _=>⟨[],[]⟩) (fun j=>j≤l.length∧ixOf x l 0=ixOf x (l.drop j) j) (fun j=>l.length-j) ?_ 0 ⟨Nat.zero_le _,rfl⟩
 rintro j ⟨hj,he⟩ R hR
 dsimp only[l_Q123_0]
 by_cases hc:j<l.length
 ·have hd:l.drop j=l[j]::l.drop (j+1):=List.drop_eq_getElem_cons hc
  have hbs:∃z,b=some z:=by
   cases b with
   |none=>rw[hb rfl]at hc;simp at hc
   |some z=>exact⟨z,rfl⟩
  obtain⟨z,rfl⟩:=hbs
  have hix:idxS 1 (.p (kslc l (some z))) (.p (.int .i64 j))=some (.p (.ptr (.int .i64 l[j]::(nints l).drop (j+1)))):=by
   rw[kslc,zcb hc]
   congr 3
   rw[Nat.mul_one,nints,←List.map_drop,hd,List.map_cons,List.map_drop]
  rw[hd]at he
  simp only[ixOf]at he
  by_cases hx:x=l[j]
  ·rw[if_pos hx]at he
   have hx':(x:Int)=(l[j]:Int):=by rw[hx]
   simp(disch:=omega) [hix,hx',he]
  ·rw[if_neg hx]at he
   have hx':¬(x:Int)=(l[j]:Int):=by omega
   simp(disch:=omega) [hix,zaa]
   exact hR (j+1) ⟨by omega,he⟩ (by omega)
 ·obtain rfl:j=l.length:=by omega
  rw[List.drop_length]at he
  simp(disch:=omega) [he,ixOf]
theorem zamj {H:List IBlk} {d mp:Nat} {o:Option Nat} {lv:IVal} {N:List NR} {K:List KV} (h:DS H d mp o lv N K) {i q:Nat} {r s:NR} (hr:N[i]? = some r) (hq:r.par=q) (hs:N[q]? = some s) (hl:s.kids.length<1000000) :
 CW tr.look F_Q73 [.ptr (.heap d) 0 0, .p (.int .i64 i)] H=some (.p (.int .i64 (ixOf i s.kids 0)),H):=by
 have hi:=(List.getElem?_eq_some_iff.1 hs).1
 have c0:=zxp h hr
 rw[hq]at c0
 obtain⟨ob,ver,rfl,rfl,c1⟩:=zaag h hi
 obtain⟨k,hk⟩:∃k,K[q]? = some k:=⟨_,List.getElem?_eq_getElem (by rw[h.kl];exact hi)⟩
 have hv:HS H ob 8 N.length (.slice ob ver 0 N.length) (ncells 0 N K):=h.hv
 have f1:=hv.field (bx:=[]) (off:=q*8+7) (by rw[zmc hs hk (by omega)];rfl)
 have hn:evalNilPtr (.ptr (.heap ob) ver (q*8)) (.p .nilptr)=some false:=rfl
 have hkv:=h.kv q s k hs hk
 have hfz:freezeCell H 100 k.2=some (kslc s.kids k.1):=by
  obtain⟨kb,kw⟩:=k
  cases kb<;>exact zia hkv
 have hix:CW tr.look F_Q123 [k.2, .p (.int .i64 i)] H=some (.p (.int .i64 (ixOf i s.kids 0)),H):=by
  refine zzm (al:=[.p (kslc s.kids k.1), .p (.int .i64 i)]) look_Q123 rfl ?_ (by cases k.1<;>rfl) rfl (zami s.kids k.1 (fun e=>by rw[e]at hkv;obtain⟨_,e2,_⟩:=hkv;exact List.length_eq_zero_iff.1 e2) i hl [])
  have:freezeOne H k.2=some (.p (kslc s.kids k.1)):=by
   have hna:∀cs,k.2≠.agg cs:=fun cs e=>by
    cases h1:k.1 with
    |none=>rw[h1]at hkv;obtain⟨e2,_⟩:=hkv;rw[e]at e2;cases e2
    |some z=>rw[h1]at hkv;obtain⟨_,_,_,e2,_⟩:=hkv;rw[e]at e2;cases e2
   unfold freezeOne
   split
   ·rename_i cs e;exact absurd e (hna cs)
   ·rw[hfz]
  rw[freezeAll,this];rfl
 have hup:=hkv.up
 obtain⟨r',H2,e1,e2,e3⟩:=zaw (args:=[.ptr (.heap d) 0 0, .p (.int .i64 i)]) (H:=H) (Q:=fun r' H2=>r' = .p (.int .i64 (ixOf i s.kids 0))∧H2=H) look_Q73 rfl rfl (by
  dsimp only[i_Q73,c_Q73]
  simp(disch:=omega) [c0,c1,f1,hn,hix,hup,hkv.pass])
 rw[e1,e2,e3]
end Go.Ideal

namespace Go.Ideal
open Go
set_option maxHeartbeats 4000000
set_option maxRecDepth 20000
attribute [-simp] getElem?_pos
theorem zqn (t:Tree):∀(id:Nat) (p:Int) (d pl:Nat) (i:Nat) (v:Vis),(visT t id p d pl)[i]? = some v→(i=0∧v=⟨t,p,d,pl⟩) ∨
 ∃q w,v.parent=((id+q:Nat):Int)∧q<i∧(visT t id p d pl)[q]? = some w∧ixOf (id+i) (kidN (klist w.t.kids) (id+q+1)) 0=v.place:=by
 have key:∀(n:Nat) (t:Tree),t.size<n→∀(id:Nat) (p:Int) (d pl:Nat) (i:Nat) (v:Vis),(visT t id p d pl)[i]? = some v→(i=0∧v=⟨t,p,d,pl⟩) ∨
  ∃q w,v.parent=((id+q:Nat):Int)∧q<i∧(visT t id p d pl)[q]? = some w∧ixOf (id+i) (kidN (klist w.t.kids) (id+q+1)) 0=v.place:=by
  intro n
  induction n with
  |zero=>intro t h;omega
  |succ n ih =>
   intro t h id p d pl i v hv
   have ht:=zag t
   have hl:∀(l:List Tree) (id p d pl:Nat),lsize l<n→∀(i:Nat) (v:Vis),(visL l id p d pl)[i]? = some v→(v.parent=(p:Int)∧ixOf (id+i) (kidN l id) pl=v.place) ∨
    ∃q w,v.parent=((id+q:Nat):Int)∧q<i∧(visL l id p d pl)[q]? = some w∧ixOf (id+i) (kidN (klist w.t.kids) (id+q+1)) 0=v.place:=by
    intro l
    induction l with
    |nil=>intro id p d pl _ i v hv;simp[visL]at hv
    |cons u l ih2 =>
     intro id p d pl hl i v hv
     simp only[lsize]at hl
     have hu1:=zaf u
     simp only[visL]at hv ⊢
     by_cases hi:i<u.size
     ·rw[List.getElem?_append_left (by rw[zae];exact hi)]at hv
      rcases ih u (by omega) id p d pl i v hv with⟨rfl,rfl⟩|⟨q,w,h1,h2,h3,h4⟩
      ·left
       refine⟨rfl,?_⟩
       simp only[kidN,ixOf,Nat.add_zero,if_true]
      ·right
       exact⟨q,w,h1,h2,by rw[List.getElem?_append_left (by rw[zae];omega)];exact h3,h4⟩
     ·rw[List.getElem?_append_right (by rw[zae];omega),zae]at hv
      rcases ih2 (id+u.size) p d (pl+1) (by omega) _ v hv with⟨h1,h2⟩|⟨q,w,h1,h2,h3,h4⟩
      ·left
       refine⟨h1,?_⟩
       rw[show id+u.size+(i-u.size)=id+i by omega]at h2
       simp only[kidN,ixOf]
       rw[if_neg (by omega)]
       exact h2
      ·right
       refine⟨q+u.size,w,by rw[h1];congr 1;omega,by omega,?_,?_⟩
       ·rw[List.getElem?_append_right (by rw[zae];omega),zae,Nat.add_sub_cancel];exact h3
       ·rw[show id+u.size+(i-u.size)=id+i by omega]at h4
        rw[show id+(q+u.size)+1=id+u.size+q+1 by omega]
        exact h4
   rw[zbp]at hv ⊢
   cases i with
   |zero =>
    simp only[List.getElem?_cons_zero,Option.some.injEq]at hv
    exact .inl ⟨rfl,hv.symm⟩
   |succ i =>
    right
    rw[List.getElem?_cons_succ]at hv
    rcases hl (klist t.kids) (id+1) id (d+1) 0 (by omega) i v hv with⟨h1,h2⟩|⟨q,w,h1,h2,h3,h4⟩
    ·refine⟨0,⟨t,p,d,pl⟩,by rw[h1];rfl,by omega,rfl,?_⟩
     rw[show id+1+i=id+(i+1)by omega]at h2
     exact h2
    ·refine⟨q+1,w,by rw[h1];congr 1;omega,by omega,by rw[List.getElem?_cons_succ];exact h3,?_⟩
     rw[show id+1+i=id+(i+1)by omega]at h4
     rw[show id+(q+1)+1=id+1+q+1 by omega]
     exact h4
 exact key _ t (Nat.lt_succ_self _)
theorem zaia {t:Tree} {i:Nat} {v:Vis} (h:(visT t 0 (-1) 0 0)[i]? = some v):(layV (visT t 0 (-1) 0 0) 0)[i]? = some ⟨v.parent,v.t,kidN (klist v.t.kids) (i+1)⟩:=by
 simp[layV,List.getElem?_zipIdx,h,nrOf]
theorem zxq {t u:Tree} (h:u∈t.nodes):u.size≤t.size:=by
 obtain⟨k,hk⟩:=List.mem_iff_getElem?.1 h
 cases k with
 |zero =>
  rw[zbl,List.getElem?_cons_zero]at hk
  injection hk with hk
  rw[← hk];exact Nat.le_refl _
 |succ k=>have:=(znj _ t (Nat.lt_succ_self _) _ u hk (by omega)).2;omega
theorem zayd {H:List IBlk} {d mp:Nat} {o:Option Nat} {lv:IVal} {t:Tree} {K:List KV} (hf:Fine t) (h:DS H d mp o lv (layV (visT t 0 (-1) 0 0) 0) K) {i:Nat} {v:Vis} (hv:(visT t 0 (-1) 0 0)[i]? = some v) (hi:0<i) :
 CW tr.look F_Q72 [.ptr (.heap d) 0 0, .p (.int .i64 i)] H=some (.p (.int .i64 v.parent),H) ∧
 CW tr.look F_Q73 [.ptr (.heap d) 0 0, .p (.int .i64 i)] H=some (.p (.int .i64 v.place),H) ∧
 CW tr.look F_Q74 [.ptr (.heap d) 0 0, .p (.int .i64 i)] H=some (.tup [tagg v.t.bare, .p (.bool true)],H):=by
 have hr:=zaia hv
 have hmem:v.t∈t.nodes:=by
  rw[← zbj t 0 (-1) 0 0]
  exact List.mem_map_of_mem (List.mem_of_getElem? hv)
 refine⟨zxp h hr,?_,zadt h hr (hf.2 v.t hmem)⟩
 rcases zqn t 0 (-1) 0 0 i v hv with⟨e,_⟩|⟨q,w,h1,h2,h3,h4⟩
 ·omega
 ·have hs:=zaia h3
  have hwm:w.t∈t.nodes:=by
   rw[← zbj t 0 (-1) 0 0]
   exact List.mem_map_of_mem (List.mem_of_getElem? h3)
  have hws:w.t.size≤t.size:=zxq hwm
  have hk:=zal (klist w.t.kids)
  have:=zag w.t
  have:=hf.1
  have hp:=zamj h hr (q:=q) (by rw[h1];simp) hs (by rw[zkl];omega)
  simp only[Nat.zero_add]at h4
  rw[h4]at hp
  exact hp
end Go.Ideal

namespace Go.Ideal
open Go
set_option maxHeartbeats 4000000
set_option maxRecDepth 20000
attribute [-simp] getElem?_pos
def attrF (name:Bytes):List (Bytes×Bytes)→Option Bytes
 | []=>none
 |a::l=>if a.1=name then some a.2 else attrF name l
def NamesU (l:List (Bytes×Bytes)):Prop:=∀(i j:Nat) (a b:Bytes×Bytes),l[i]? = some a→l[j]? = some b→a.1=b.1→i=j
theorem zaby:∀ {l:List (Bytes×Bytes)} {i:Nat} {a:Bytes×Bytes},NamesU l→l[i]? = some a→attrF a.1 l=some a.2
 | [],i,a,_,h=>by simp at h
 |b::l,0,a,_,h=>by
  rw[List.getElem?_cons_zero,Option.some.injEq]at h
  subst h
  simp[attrF]
 |b::l,i+1,a,hu,h=>by
  have hne:b.1≠a.1:=fun e=>by have:=hu 0 (i+1) b a rfl h e;omega
  rw[attrF,if_neg hne]
  rw[List.getElem?_cons_succ]at h
  exact zaby (fun i j x y hx hy e=>by
   have:=hu (i+1) (j+1) x y (by rw[List.getElem?_cons_succ];exact hx) (by rw[List.getElem?_cons_succ];exact hy) e
   omega) h
theorem zasf (t:Tree) (name:Bytes) (hs:(alist t.attrs).length<1000000) (H:List IBlk) :
 CW tr.look F_Q75 [tagg t, .p (.str name)] H=some (.tup [.p (.str ((attrF name (alist t.attrs)).getD [])), .p (.bool (attrF name (alist t.attrs)).isSome)],H):=by
 refine zai look_Q75 rfl (by simp) rfl ?_
 dsimp only[i_Q75,c_Q75]
 simp(disch:=omega) []
 refine zac (α:=Nat) (fun j=>[(1, .str name),(9, .v (.p (aval t.attrs))),(10, .int .i64 (alist t.attrs).length),(11, .int .i64 j)]) (fun _=>⟨[],[]⟩) (fun j=>j≤(alist t.attrs).length∧attrF name (alist t.attrs)=attrF name ((alist t.attrs).drop j)) (fun j=>(alist t.attrs).length-j) ?_ 0 ⟨Nat.zero_le _,rfl⟩
 rintro j ⟨hj,he⟩ R hR
 dsimp only[l_Q75_0]
 by_cases hc:j<(alist t.attrs).length
 ·rw[List.drop_eq_getElem_cons hc,attrF]at he
  by_cases hx:(alist t.attrs)[j].1=name
  ·rw[if_pos hx]at he
   simp(disch:=omega) [zbk,hx,he]
  ·rw[if_neg hx]at he
   simp(disch:=omega) [zbk,hx,zaa]
   exact hR (j+1) ⟨by omega,he⟩ (by omega)
 ·obtain rfl:j=(alist t.attrs).length:=by omega
  rw[List.drop_length]at he
  simp(disch:=omega) [he,attrF]
structure MS (H:List IBlk) (m d to:Nat) (b:Tree) (nx lv:IVal):Prop where
 hm:H[m]? = some (.cells [.ptr (.heap d) 0 0, .p (ival b), .map to,nx,lv, .p (.bool false)] 6 0 false)
 ht:H[to]? = some (imap (idE b.size))
theorem zqo {b:Tree} {j:Nat} {v:Vis} (hv:(visT b 0 (-1) 0 0)[j]? = some v):b.items[j]? = some (fullOf v):=by
 rw[Tree.items,zdd,List.getElem?_map,hv];rfl
theorem zamk {H:List IBlk} {m d mp to:Nat} {o:Option Nat} {nx lv lw:IVal} {b:Tree} {K:List KV} (hf:Fine b) (hD:DS H d mp o lv (layV (visT b 0 (-1) 0 0) 0) K) (hM:MS H m d to b nx lw) (hu:∀u∈b.nodes,NamesU (alist u.attrs)) {j:Nat} {v:Vis} (hv:(visT b 0 (-1) 0 0)[j]? = some v) (hj:0<j) :
 CW tr.look F_Q34 [.ptr (.heap m) 0 0, .p (.int .i64 j)] H=some (.tup [],H):=by
 obtain⟨q,hq1,hq2⟩:∃q:Nat,v.parent=q∧q<j:=by
  rcases zqn b 0 (-1) 0 0 j v hv with⟨e,_⟩|⟨q,w,h1,h2,_⟩
  ·omega
  ·exact⟨q,by rw[h1];simp,h2⟩
 have hjs:j<b.size:=by
  have:=(List.getElem?_eq_some_iff.1 hv).1
  rw[zae]at this;exact this
 obtain⟨c1,c2,c3⟩:=zayd hf hD hv hj
 rw[hq1]at c1
 have ix:=zbc (zqo hv)
 have l0:=zab (bx:=[]) (off:=0) hM.hm rfl
 have l1:=zab (bx:=[]) (off:=1) hM.hm rfl
 have l2:=zab (bx:=[]) (off:=2) hM.hm rfl
 have g1:=zjf (k:=(q:Int)) hM.ht (.p (.int .i64 0))
 rw[zjg,if_pos (by omega)]at g1
 have g2:=zfe (k:=(j:Int)) hM.ht (.p (.int .i64 0))
 rw[zjg,if_pos hjs]at g2
 simp only[Option.getD_some,Option.isSome_some]at g1 g2
 have hmem:v.t∈b.nodes:=by
  rw[← zbj b 0 (-1) 0 0]
  exact List.mem_map_of_mem (List.mem_of_getElem? hv)
 have hun:=hu _ hmem
 have hsz:=hf.2 _ hmem
 have hba:v.t.bare.attrs=v.t.attrs:=by cases v.t;rfl
 have hat:∀(i:Nat) (hi:i<(alist v.t.bare.attrs).length) (H:List IBlk),CW tr.look F_Q75 [tagg v.t.bare, .p (.str (alist v.t.bare.attrs)[i].1)] H=some (.tup [.p (.str (alist v.t.bare.attrs)[i].2), .p (.bool true)],H):=fun i hi H=>by
  have h1:=zasf v.t.bare (alist v.t.bare.attrs)[i].1 (by rw[hba];exact hsz) H
  rw[zaby (by rw[hba];exact hun) (List.getElem?_eq_getElem hi)]at h1
  exact h1
 have hb:IVal.agg [.p (.int .i64 v.t.bare.kind), .p (.str v.t.bare.name), .p (.str v.t.bare.text), .p (aval v.t.bare.attrs), .p .nilslice]=tagg v.t.bare:=by cases v.t;rfl
 have hb2:=zad v.t.bare
 have hsz2:(alist v.t.bare.attrs).length<1000000:=by rw[hba];exact hsz
 obtain⟨r',H2,e1,e2,e3⟩:=zaw (args:=[.ptr (.heap m) 0 0, .p (.int .i64 j)]) (H:=H) (Q:=fun r' H2=>r' = .tup []∧H2=H) look_Q34 rfl rfl (by
  dsimp only[i_Q34,c_Q34]
  simp(disch:=omega) [l0,l1,l2,ix,fullOf,hq1,g1,g2,c1,c2,c3]
  refine zac (α:=Nat) (fun i=>[(0, .v (.ptr (.heap m) 0 0)),(4, .box 4 0),(6, .int .i64 j),(8, .box 8 0),(127, .v (.p (aval v.t.bare.attrs))),(128, .int .i64 (alist v.t.bare.attrs).length),(129, .int .i64 i)])
   (fun _=>⟨[(8,some ⟨[.int .i64 v.t.bare.kind, .str v.t.bare.name, .str v.t.bare.text, .v (.p (aval v.t.bare.attrs)), .v (.p (kval v.t.bare.kids))],5⟩),(4,some ⟨[.int .i64 q, .int .i64 v.t.size, .int .i64 v.depth, .int .i64 v.t.height, .int .i64 v.place, .int .i64 v.t.bare.kind, .str v.t.bare.name, .str v.t.bare.text, .v (.p (aval v.t.bare.attrs)), .v (.p .nilslice)],10⟩)],H⟩)
   (fun i=>i≤(alist v.t.bare.attrs).length) (fun i=>(alist v.t.bare.attrs).length-i) ?_ 0 (Nat.zero_le _)
  rintro i hi R hR
  dsimp only[l_Q34_0]
  by_cases hc:i<(alist v.t.bare.attrs).length
  ·have a1:=hat i hc
   simp(disch:=omega) [zbk,hb,a1,zaa]
   exact hR (i+1) (by omega) (by omega)
  ·obtain rfl:i=(alist v.t.bare.attrs).length:=by omega
   simp(disch:=omega) []
   refine zac (α:=Nat) (fun i=>[(0, .v (.ptr (.heap m) 0 0)),(6, .int .i64 j),(8, .box 8 0),(152, .v (.p (aval v.t.bare.attrs))),(153, .int .i64 (alist v.t.bare.attrs).length),(154, .int .i64 i)])
    (fun _=>⟨[(8,some ⟨[.int .i64 v.t.bare.kind, .str v.t.bare.name, .str v.t.bare.text, .v (.p (aval v.t.bare.attrs)), .v (.p (kval v.t.bare.kids))],5⟩)],H⟩)
    (fun i=>i≤(alist v.t.bare.attrs).length) (fun i=>(alist v.t.bare.attrs).length-i) ?_ 0 (Nat.zero_le _)
   rintro i hi R hR
   dsimp only[l_Q34_1]
   by_cases hc:i<(alist v.t.bare.attrs).length
   ·have a1:=hat i hc
    simp(disch:=omega) [zbk,hb2,a1,zaa]
    exact hR (i+1) (by omega) (by omega)
   ·obtain rfl:i=(alist v.t.bare.attrs).length:=by omega
    simp(disch:=omega) [])
 rw[e1,e2,e3]
end Go.Ideal
