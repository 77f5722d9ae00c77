import Derived.Test.YtjlnpggbekondaaW7
import Derived.Test.YtjlnpggbekondaaW4
import Derived.Test.YtjlnpggbekondaaW6
import Derived.Test.YtjlnpggbekondaaW5
namespace Go.Ideal
open Go
set_option maxHeartbeats 4000000
set_option maxRecDepth 20000
attribute [-simp] getElem?_pos
theorem zll (c0 c1 c2 c3 c4 k:Int) (n x:Bytes) (a z:PVal) (H:List IBlk) :
 CW tr.look F_Q34 [.agg [.p (.int .i64 c0), .p (.int .i64 c1), .p (.int .i64 c2), .p (.int .i64 c3), .p (.int .i64 c4), .p (.int .i64 k), .p (.str n), .p (.str x), .p a, .p z]] H=some (.agg [.p (.int .i64 k), .p (.str n)],H):=by
 refine zak look_Q34 rfl (by simp[plainArgs,plainArg,cellsPlain]) rfl ?_
 dsimp only[i_Q34,c_Q34]
 simp -implicitDefEqProofs (disch:=omega) []
 rfl
theorem zde {t:Tree} {j:Nat} (hj:j<t.size):∃v,t.vis[j]? = some v∧t.items[j]? = some (fullOf v)∧subT t j=v.t∧par t j=v.parent:=by
 obtain⟨v,hv⟩:∃v,t.vis[j]? = some v:=⟨_,List.getElem?_eq_getElem (by rw[zbb];exact hj)⟩
 refine⟨v,hv,?_,zib hv,by simp[par,hv]⟩
 rw[Tree.items,zdl,List.getElem?_map]
 have hv':(visT t 0 (-1) 0 0)[j]? = some v:=hv
 rw[hv'];rfl
theorem zaac {t:Tree} {j:Nat} (hj:j<t.size):(j=0∧par t j = -1)∨(0≤par t j∧par t j<j):=by
 obtain⟨v,hv,_,_,hp⟩:=zde hj
 rw[hp]
 rcases zre t 0 (-1) 0 0 j v hv with h|h
 ·exact .inl h
 ·exact .inr ⟨by omega,by omega⟩
def CB (E:List (Int×IVal)) (B:Nat):Prop:=∀q:Int,∃c:Nat,(mget E q).getD (.p (.int .i64 0))=vI c∧c≤B
theorem CB.mono {E:List (Int×IVal)} {B C:Nat} (h:CB E B) (hb:B≤C):CB E C:=fun q=>by obtain⟨c,h1,h2⟩:=h q;exact⟨c,h1,by omega⟩
theorem zapk {H:List IBlk} {m:Nat} {E:List (Int×IVal)} (hm:H[m]? = some (imap E)) (k:Int) {v:IVal} (hv:v.passOK=true):∃E',mapUpdF kI (.map m) (.p (.int .i64 k)) v H=some (.tup [],H.set m (imap E'))∧∀q,mget E' q=if k=q then some v else mget E q:=by
 cases hk:mfind k E 0 with
 |none =>
  have h0:mget E k=none:=by simp[mget,hk]
  refine⟨_,zzz hm h0 hv,fun q=>?_⟩
  rw[zajm]
  by_cases e:k=q
  ·subst e;rw[h0];try simp
  ·simp only[e,if_false]
   try (cases mget E q<;>rfl)
 |some p =>
  obtain⟨j,u⟩:=p
  exact⟨_,zvz hm hk hv,fun q=>zajn hk q⟩
theorem zwc {a b:Tree} {L:List (Nat×Nat)} (i k:Nat) (kk B:Nat) (hB:B<100000) (_:b.size<1000000) (H0:List IBlk) (hkk:2<kk) (j:Int) (hj : -1≤j∧j<b.size) (E0:List (Int×IVal)) (hM0:MM a b L H0) (hE0:H0[kk]? = some (imap E0)) (hC0:∀q:Int,∃c:Nat,(mget E0 q).getD (.p (.int .i64 0))=vI c∧c+(j+1).toNat≤B) (Q:IExit→Env→KM→Prop)
 (hQ:∀E H,MM a b L H→H[kk]? = some (imap E)→CB E B→H.length=H0.length→(∀ x,x≠kk→H[x]? = H0[x]?)→Q .normal [(0, .v mptr),(1, .int .i64 i),(5, .v (.map kk)),(6, .int .i64 k)] ⟨[],H⟩) :
 wpLoop (CW tr.look) 61 m_Q51_0 l_Q51_0 (blkK 2 b_Q51_2 Q) [(0, .v mptr),(1, .int .i64 i),(5, .v (.map kk)),(6, .int .i64 k),(9, .int .i64 j)] ⟨[],H0⟩:=by
 refine zad (α:=Int×List (Int×IVal)×List IBlk) (fun s=>[(0, .v mptr),(1, .int .i64 i),(5, .v (.map kk)),(6, .int .i64 k),(9, .int .i64 s.1)]) (fun s=>⟨[],s.2.2⟩)
  (fun s => -1≤s.1∧s.1<b.size∧MM a b L s.2.2∧s.2.2[kk]? = some (imap s.2.1)∧(∀ q:Int,∃c:Nat,(mget s.2.1 q).getD (.p (.int .i64 0))=vI c∧c+(s.1+1).toNat≤B)∧s.2.2.length=H0.length∧∀x,x≠kk→s.2.2[x]? = H0[x]?) (fun s=>(s.1+1).toNat) ?_ (j,E0,H0) ⟨hj.1,hj.2,hM0,hE0,hC0,rfl,fun _ _=>rfl⟩
 rintro⟨p,E,H⟩ ⟨h1,h2,hM,hE,hC,hl,hx⟩ R hR
 dsimp only at h1 h2 hM hE hC hl hx hR ⊢
 dsimp only[l_Q51_0]
 by_cases hp:0≤p
 ·obtain⟨n,rfl⟩:=Int.eq_ofNat_of_zero_le hp
  have hn:n<b.size:=by omega
  obtain⟨v,hv,hit,_,hpar⟩:=zde hn
  have ix:=zbo hit
  obtain⟨_,l1,_,_,_,_⟩:=hM.ld
  obtain⟨c,hc,hcb⟩:=hC n
  have g1:=zmb (k:=(n:Int)) hE (.p (.int .i64 0))
  rw[hc]at g1
  obtain⟨E',g2,g3⟩:=zapk hE (n:Int) (v := .p (.int .i64 ((c:Int)+1))) rfl
  obtain⟨H',hH'⟩:∃H',H.set kk (imap E')=H':=⟨_,rfl⟩
  rw[hH']at g2
  have hkl:=(List.getElem?_eq_some_iff.1 hE).1
  have hx':∀x,x≠kk→H'[x]? = H[x]? := fun x hne=>by rw[← hH',List.getElem?_set_ne (Ne.symm hne)]
  have hM':MM a b L H':=⟨by rw[hx' 0 (by omega)];exact hM.to,by rw[hx' 1 (by omega)];exact hM.bye,by rw[hx' 2 (by omega)];exact hM.blk⟩
  obtain⟨_,l1',_,_,_,_⟩:=hM'.ld
  have hpl:=zaac hn
  rw[hpar]at hpl
  have hpos:(0:Int)≤(n:Int):=by omega
  simp -implicitDefEqProofs (disch:=omega) [l1',g1,g2,ix,zaa,vI,fullOf]
  refine hR (v.parent,E',H') ⟨by dsimp only;omega,by dsimp only;omega,hM',by rw[← hH'];exact zao hkl,fun q=>?_,by rw[← hH',List.length_set];exact hl,fun x hne=>(hx' x hne).trans (hx x hne)⟩ (by dsimp only;omega)
  dsimp only
  rw[g3 q]
  by_cases e:(n:Int)=q
  ·rw[if_pos e]
   exact⟨c+1,rfl,by omega⟩
  ·rw[if_neg e]
   obtain⟨c2,h3,h4⟩:=hC q
   exact⟨c2,h3,by omega⟩
 ·have hp':p = -1:=by omega
  subst hp'
  simp -implicitDefEqProofs (disch:=omega) []
  exact hQ E H hM hE (fun q=>by obtain⟨c,h3,h4⟩:=hC q;exact⟨c,h3,by omega⟩) hl hx
def CommonQ (a b:Tree) (L:List (Nat×Nat)) (H:List IBlk) (r:IVal) (H':List IBlk):Prop:=∃E,r = .map H.length∧H'[H.length]? = some (imap E)∧CB E 3600∧MM a b L H'∧H'.length=H.length+1∧∀x,x<H.length→H'[x]? = H[x]?
theorem zafr {a b:Tree} {L:List (Nat×Nat)} {H:List IBlk} (h:MM a b L H) (hL:∀p∈L,p.2<b.size) (sa:a.size≤60) (sb:b.size≤60) (i:Nat) (hi:i<a.size):∃r H',CW tr.look F_Q51 [mptr, .p (.int .i64 i)] H=some (r,H')∧CommonQ a b L H r H':=by
 have hlt:=h.lt
 obtain⟨v,hv,hit,hsub,hpar⟩:=zde hi
 have ix:=zbo hit
 have hend:i+v.t.size≤a.size:=by
  have:=zdi hi
  rw[hsub]at this;exact this
 have hs1:=zac v.t
 refine zbg look_Q51 rfl rfl ?_
 dsimp only[i_Q51,c_Q51]
 simp -implicitDefEqProofs (disch:=omega) [zaa]
 refine zad (α:=Nat×List (Int×IVal)×List IBlk) (fun s=>[(0, .v mptr),(1, .int .i64 i),(5, .v (.map H.length)),(6, .int .i64 s.1)]) (fun s=>⟨[],s.2.2⟩)
  (fun s=>i+1≤s.1∧s.1≤i+v.t.size∧MM a b L s.2.2∧s.2.2[H.length]? = some (imap s.2.1)∧CB s.2.1 (60*(s.1-(i+1)))∧s.2.2.length=H.length+1∧∀x,x<H.length→s.2.2[x]? = H[x]?) (fun s=>i+v.t.size-s.1) ?_ (i+1,[],H++[.map [] 0]) ?_
 ·rintro⟨k,E,K⟩ ⟨h1,h2,hM,hE,hC,hl,hx⟩ R hR
  dsimp only at h1 h2 hM hE hC hl hx hR ⊢
  dsimp only[l_Q51_1]
  obtain⟨l0,l1,_,_,l4,_⟩:=hM.ld
  by_cases hk:k<i+v.t.size
  ·have hk':(k:Int)<(i:Int)+(v.t.size:Int):=by omega
   have g1:=zid (k:=(k:Int)) hM.to (.p (.int .i64 0))
   rw[zli,zwb]at g1
   cases ht:toN L k with
   |none =>
    rw[ht]at g1
    simp -implicitDefEqProofs (disch:=omega) [l0,l4,ix,g1,zaa,vI,fullOf]
    exact hR (k+1,E,K) ⟨by dsimp only;omega,by dsimp only;omega,hM,hE,hC.mono (by dsimp only;omega),hl,hx⟩ (by dsimp only;omega)
   |some j =>
    rw[ht]at g1
    have hj:j<b.size:=by
     simp only[toN,Option.map_eq_some_iff]at ht
     obtain⟨p,hp1,hp2⟩:=ht
     have:=hL p (List.mem_of_find?_eq_some hp1)
     omega
    obtain⟨w,hw,hitw,_,hparw⟩:=zde hj
    have ixj:=zbo hitw
    have hpl:=zaac hj
    rw[hparw]at hpl
    simp -implicitDefEqProofs (disch:=omega) [l0,l1,l4,ix,ixj,g1,zaa,vI,fullOf]
    refine zwc i k H.length (60*(k-(i+1))+60) (by omega) (by omega) K (by omega) w.parent (by omega) E hM hE (fun q=>?_) _ fun E2 K2 g2 g3 g4 g5 g6=>?_
    ·obtain⟨c,h3,h4⟩:=hC q
     exact⟨c,h3,by omega⟩
    ·simp -implicitDefEqProofs (disch:=omega) [zaa]
     exact hR (k+1,E2,K2) ⟨by dsimp only;omega,by dsimp only;omega,g2,g3,g4.mono (by dsimp only;omega),by dsimp only;omega,fun x hx'=>by dsimp only;rw[g6 x (by omega)];exact hx x hx'⟩ (by dsimp only;omega)
  ·have hk':¬(k:Int)<(i:Int)+(v.t.size:Int):=by omega
   simp -implicitDefEqProofs (disch:=omega) [l0,ix,zaa,fullOf]
   exact⟨E,rfl,hE,hC.mono (by omega),hM,hl,hx⟩
 ·refine⟨by dsimp only;omega,by dsimp only;omega,h.keep fun k hk=>List.getElem?_append_left hk,by dsimp only;exact zaz,fun q=>⟨0,rfl,by omega⟩,by simp,fun x hx=>List.getElem?_append_left hx⟩
end Go.Ideal

namespace Go.Ideal
open Go
set_option maxHeartbeats 4000000
set_option maxRecDepth 20000
attribute [-simp] getElem?_pos
theorem zajq {a b:Tree} {L:List (Nat×Nat)} {K:List IBlk} (h:MM a b L K) (sa:a.size≤60) (sb:b.size≤60) (i h2 h3:Nat) (hi:i<a.size) (g2:K[h2]? = some (.cells [mptr] 1 0 false)) (g3:K[h3]? = some (.cells [.p (.int .i64 i)] 1 0 false)) (j:Nat) (hj:j<b.size) :
 ∃S:Nat,S≤200∧CW tr.look F_Q52 [.p (.int .i64 j), .ptr (.heap h2) 0 0, .ptr (.heap h3) 0 0] K=some (.p (.int .i64 S),K):=by
 obtain⟨v,_,hitv,hsv,_⟩:=zde hi
 obtain⟨w,_,hitw,hsw,_⟩:=zde hj
 have ixv:=zbo hitv
 have ixw:=zbo hitw
 obtain⟨l0,l1,_,_,_,_⟩:=h.ld
 have e1:loadVal ⟨[],K⟩ none (.ptr (.heap h2) 0 0)=some mptr:=zab g2 rfl
 have e2:loadVal ⟨[],K⟩ none (.ptr (.heap h3) 0 0)=some (.p (.int .i64 i)):=zab g3 rfl
 have s1:=zac v.t
 have s2:=zac w.t
 have b1:=zdi hi
 have b2:=zdi hj
 rw[hsv]at b1
 rw[hsw]at b2
 refine⟨v.t.size+w.t.size-2,by omega,?_⟩
 have e:((v.t.size+w.t.size-2:Nat):Int)=(v.t.size:Int)+(w.t.size:Int)-2:=by omega
 rw[e]
 obtain⟨r,H',q1,q2,q3⟩:=zbg (args:=[.p (.int .i64 j), .ptr (.heap h2) 0 0, .ptr (.heap h3) 0 0]) (H:=K) (Q:=fun r H'=>r = .p (.int .i64 ((v.t.size:Int)+(w.t.size:Int)-2))∧H'=K) look_Q52 rfl rfl (by
  dsimp only[i_Q52,c_Q52]
  simp -implicitDefEqProofs (disch:=omega) [e1,e2,l0,l1,ixv,ixw,zaa,fullOf])
 rw[q1,q2,q3]
def kinT (t u:Tree):Prop:=t.kind=u.kind∧t.name=u.name
instance (t u:Tree):Decidable (kinT t u):=by unfold kinT;infer_instance
def BestQ (a b:Tree) (L:List (Nat×Nat)) (i:Nat) (H:List IBlk) (r:IVal) (H':List IBlk):Prop:=MM a b L H'∧H.length≤H'.length∧(∀ x,x<H.length→H'[x]? = H[x]?) ∧
 (r = .p (.int .i64 (-1))∨∃j:Nat,r = .p (.int .i64 j)∧j<b.size∧frE L i j=true∧kinT (subT a i) (subT b j))
theorem zpp {t:Tree} {j:Nat} {v:Vis} (hit:t.items[j]? = some (fullOf v)):∃rest,idxS 10 (.p (ival t)) (.p (.int .i64 j))=some (.p (.ptr (.int .i64 v.parent :: .int .i64 v.t.size :: .int .i64 v.depth :: .int .i64 v.t.height :: .int .i64 v.place :: .int .i64 v.t.kind :: .str v.t.name :: .str v.t.text::aval v.t.attrs :: .nilslice::rest))):=⟨_,zbo hit⟩
theorem zapl {a b:Tree} {L:List (Nat×Nat)} {H:List IBlk} (h:MM a b L H) (hL:∀p∈L,p.2<b.size) (sa:a.size≤60) (sb:b.size≤60) (i:Nat) (hi:i<a.size):∃r H',CW tr.look F_Q27 [mptr, .p (.int .i64 i)] H=some (r,H')∧BestQ a b L i H r H':=by
 have hlt:=h.lt
 obtain⟨H1,hH1⟩:∃H1,H++[IBlk.cells [mptr] 1 0 false]=H1:=⟨_,rfl⟩
 have hl1:H1.length=H.length+1:=by rw[← hH1];simp
 obtain⟨H2,hH2⟩:∃H2,H1++[IBlk.cells [.p (.int .i64 i)] 1 0 false]=H2:=⟨_,rfl⟩
 have hl2:H2.length=H.length+2:=by rw[← hH2];simp[hl1]
 have k1:∀x,x<H.length→H1[x]? = H[x]? := fun x hx=>by rw[← hH1,List.getElem?_append_left hx]
 have k2:∀x,x<H.length→H2[x]? = H[x]? := fun x hx=>by rw[← hH2,List.getElem?_append_left (by omega),k1 x hx]
 have M2:MM a b L H2:=h.keep k2
 have b0:H2[H.length]? = some (.cells [mptr] 1 0 false):=by rw[← hH2,List.getElem?_append_left (by omega),←hH1];exact zaz
 have b1:H2[H.length+1]? = some (.cells [.p (.int .i64 i)] 1 0 false):=by rw[← hl1,←hH2];exact zaz
 obtain⟨rc,K,c1,E,rfl,c2,c3,M3,c4,c5⟩:=zafr M2 hL sa sb i hi
 have d0:K[H.length]? = some (.cells [mptr] 1 0 false):=by rw[c5 _ (by omega)];exact b0
 have d1:K[H.length+1]? = some (.cells [.p (.int .i64 i)] 1 0 false):=by rw[c5 _ (by omega)];exact b1
 have e1:loadVal ⟨[],H2⟩ none (.ptr (.heap H.length) 0 0)=some mptr:=zab b0 rfl
 have e2:loadVal ⟨[],H2⟩ none (.ptr (.heap (H.length+1)) 0 0)=some (.p (.int .i64 i)):=zab b1 rfl
 have f1:loadVal ⟨[],K⟩ none (.ptr (.heap H.length) 0 0)=some mptr:=zab d0 rfl
 have f2:loadVal ⟨[],K⟩ none (.ptr (.heap (H.length+1)) 0 0)=some (.p (.int .i64 i)):=zab d1 rfl
 obtain⟨l0,l1,_,_,_,_⟩:=M3.ld
 obtain⟨v,_,hitv,hsv,_⟩:=zde hi
 have ixv:=zbo hitv
 have hcnt:∃c:Nat→Nat,∀q:Nat,lookupF false (.p (.int .i64 0)) kI (.map H2.length) (.p (.int .i64 q)) K=some (.p (.int .i64 (c q)))∧c q≤3600:=by
  have:∀q:Nat,∃c:Nat,lookupF false (.p (.int .i64 0)) kI (.map H2.length) (.p (.int .i64 q)) K=some (.p (.int .i64 c))∧c≤3600:=fun q=>by
   obtain⟨c,g1,g2⟩:=c3 q
   have:=zmb (k:=(q:Int)) c2 (.p (.int .i64 0))
   rw[g1]at this
   exact⟨c,this,g2⟩
  exact⟨fun q=>(this q).choose,fun q=>(this q).choose_spec⟩
 obtain⟨c,hc⟩:=hcnt
 have hsum:∃S:Nat→Nat,∀j,j<b.size→S j≤200∧CW tr.look F_Q52 [.p (.int .i64 j), .ptr (.heap H.length) 0 0, .ptr (.heap (H.length+1)) 0 0] K=some (.p (.int .i64 (S j)),K):=by
  have:∀j,∃S:Nat,j<b.size→S≤200∧CW tr.look F_Q52 [.p (.int .i64 j), .ptr (.heap H.length) 0 0, .ptr (.heap (H.length+1)) 0 0] K=some (.p (.int .i64 S),K):=fun j=>by
   by_cases hj:j<b.size
   ·obtain⟨S,g1,g2⟩:=zajq M3 sa sb i _ _ hi d0 d1 j hj
    exact⟨S,fun _=>⟨g1,g2⟩⟩
   ·exact⟨0,fun h=>absurd h hj⟩
  exact⟨fun j=>(this j).choose,fun j=>(this j).choose_spec⟩
 obtain⟨S,hS⟩:=hsum
 have kK:∀x,x<H.length→K[x]? = H[x]? := fun x hx=>(c5 x (by omega)).trans (k2 x hx)
 refine zbg look_Q27 rfl rfl ?_
 dsimp only[i_Q27,c_Q27]
 have hb1:(some mptr:Option IVal)=some mptr:=rfl
 have c1':CW tr.look F_Q51 [.ptr (.heap 2) 0 0, .p (.int .i64 i)] H2=some (.map H2.length,K):=c1
 simp -implicitDefEqProofs (disch:=omega) [hH1,hH2,hl1,e1,e2,f1,c1',l1]
 refine zad (α:=Nat×Int) (fun s=>[(2, .v (.ptr (.heap H.length) 0 0)),(3, .v (.ptr (.heap (H.length+1)) 0 0)),(5, .v (.map H2.length)),(6, .v (.func F_Q52 [.ptr (.heap H.length) 0 0, .ptr (.heap (H.length+1)) 0 0])),(7, .int .i64 s.2),(17, .int .i64 b.size),(18, .int .i64 s.1)]) (fun _=>⟨[],K⟩)
  (fun s=>s.1≤b.size∧(s.2 = -1∨∃m:Nat,s.2=m∧m<b.size∧frE L i m=true∧kinT (subT a i) (subT b m))) (fun s=>b.size-s.1) ?_ (0, -1) ⟨Nat.zero_le _, .inl rfl⟩
 rintro⟨j,r⟩ ⟨hj,hr⟩ R hR
 dsimp only at hj hr hR ⊢
 dsimp only[l_Q27_0]
 by_cases hjl:j<b.size
 ·have hlt:(j:Int)<(b.size:Int):=by omega
  obtain⟨w,_,hitw,hsw,_⟩:=zde hjl
  obtain⟨rw1,ixw⟩:=zpp hitw
  obtain⟨rv1,ixv⟩:=zpp hitv
  have g1:=(hc j).1
  have gb:=(hc j).2
  have fr:=zte M3 i j
  have fr':CW tr.look F_Q29 [.ptr (.heap 2) 0 0, .p (.int .i64 i), .p (.int .i64 j)] K=some (.p (.bool (frE L i j)),K):=fr
  have hskip:=hR (j+1,r) ⟨by dsimp only;omega,hr⟩ (by dsimp only;omega)
  by_cases c0:c j=0
  ·rw[c0]at g1
   have g1':lookupF false (.p (.int .i64 0)) kI (.map H2.length) (.p (.int .i64 j)) K=some (.p (.int .i64 0)):=g1
   simp -implicitDefEqProofs (disch:=omega) [g1',zaa]
   exact hskip
  ·have c0':¬(c j:Int)=0:=by omega
   cases hf:frE L i j with
   |false =>
    rw[hf]at fr'
    simp -implicitDefEqProofs (disch:=omega) [g1,f1,f2,fr',zaa]
    exact hskip
   |true =>
    rw[hf]at fr'
    by_cases hk:kinT v.t w.t
    ·obtain⟨hk1,hk2⟩:=hk
     have hk1':(v.t.kind==w.t.kind)=true:=by simp[hk1]
     have hk2':(v.t.name==w.t.name)=true:=by simp[hk2]
     have hkin:kinT (subT a i) (subT b j):=by rw[hsv,hsw];exact⟨hk1,hk2⟩
     have htake:=hR (j+1,(j:Int)) ⟨by dsimp only;omega, .inr ⟨j,rfl,hjl,hf,hkin⟩⟩ (by dsimp only;omega)
     rcases hr with rfl|⟨m,rfl,hm,hmf,hmk⟩
     ·simp -implicitDefEqProofs (disch:=omega) [g1,f1,f2,fr',l0,l1,ixv,ixw,zll,eqVals,eqCls,clsEq,hk1',hk2',negIf,zaa]
      exact htake
     ·obtain⟨s1,s2⟩:=hS j hjl
      obtain⟨s3,s4⟩:=hS m hm
      have g2:=(hc m).1
      have gb2:=(hc m).2
      have hd:=zaov (c j) (S j) (c m) (S m) (by omega) (by omega) (by omega) (by omega)
      have hm0:¬(m:Int)<0:=by omega
      by_cases hdp:0<dice (c j) (S j) (c m) (S m)
      ·simp -implicitDefEqProofs (disch:=omega) [g1,g2,f1,f2,fr',l0,l1,ixv,ixw,zll,eqVals,eqCls,clsEq,hk1',hk2',negIf,zaa,s2,s4,hd]
       exact htake
      ·simp -implicitDefEqProofs (disch:=omega) [g1,g2,f1,f2,fr',l0,l1,ixv,ixw,zll,eqVals,eqCls,clsEq,hk1',hk2',negIf,zaa,s2,s4,hd]
       exact hskip
    ·have hne:(decide (v.t.kind=w.t.kind)&&decide (v.t.name=w.t.name))=false:=by
      cases h:(decide (v.t.kind=w.t.kind)&&decide (v.t.name=w.t.name))
      ·rfl
      ·simp at h;exact absurd h hk
     have hex:¬(v.t.kind=w.t.kind∧v.t.name=w.t.name):=hk
     by_cases hk1:v.t.kind=w.t.kind
     ·have hk1':(v.t.kind==w.t.kind)=true:=by simp[hk1]
      have hk2':(v.t.name==w.t.name)=false:=by
       cases h:v.t.name==w.t.name with
       |false=>rfl
       |true=>exact absurd ⟨hk1,by simpa using h⟩ hk
      simp -implicitDefEqProofs (disch:=omega) [g1,f1,f2,fr',l0,l1,ixv,ixw,zll,eqVals,eqCls,clsEq,hk1',hk2',negIf,zaa]
      exact hskip
     ·have hk1':(v.t.kind==w.t.kind)=false:=by simp[hk1]
      simp -implicitDefEqProofs (disch:=omega) [g1,f1,f2,fr',l0,l1,ixv,ixw,zll,eqVals,eqCls,clsEq,hk1',negIf,zaa]
      exact hskip
 ·have hlt:¬(j:Int)<(b.size:Int):=by omega
  have hbase:MM a b L K∧H.length≤K.length∧∀x,x<H.length→K[x]? = H[x]? := ⟨M3,by rw[c4,hl2];omega,kK⟩
  simp -implicitDefEqProofs (disch:=omega) []
  rcases hr with rfl|⟨m,rfl,hm,hmf,hmk⟩
  ·simp -implicitDefEqProofs (disch:=omega) []
   exact⟨hbase.1,hbase.2.1,hbase.2.2, .inl rfl⟩
  ·obtain⟨s3,s4⟩:=hS m hm
   have g2:=(hc m).1
   have gb2:=(hc m).2
   have hm0:¬(m:Int)<0:=by omega
   have hh:=zaow (c m) (S m) (by omega) (by omega)
   cases hhv:half (c m) (S m)with
   |false =>
    rw[hhv]at hh
    simp -implicitDefEqProofs (disch:=omega) [hm0,g2,s4,hh]
    exact⟨hbase.1,hbase.2.1,hbase.2.2, .inl rfl⟩
   |true =>
    rw[hhv]at hh
    simp -implicitDefEqProofs (disch:=omega) [hm0,g2,s4,hh]
    exact⟨hbase.1,hbase.2.1,hbase.2.2, .inr ⟨m,rfl,hm,hmf,hmk⟩⟩
end Go.Ideal

namespace Go.Ideal
open Go
set_option maxHeartbeats 4000000
set_option maxRecDepth 20000
attribute [-simp] getElem?_pos
theorem zaad (s t:Tree):(pr (postT s 0) (postT t 0) 0 0 [s] [t]).Pairwise (Fit s t)∧∀p∈pr (postT s 0) (postT t 0) 0 0 [s] [t],p.1<s.size∧p.2<t.size∧cost (nd s p.1) (nd t p.2)<3:=by
 have e:pr (postT s 0) (postT t 0) 0 0 [s] [t]=prT [(s,0)] [(t,0)]:=zavb s t 0 0 [(s,0)] [(t,0)] (RepT.root s) (RepT.root t)
 obtain⟨h1,h2,h3,h4⟩:=zavc s t 0 0 [(s,0)] [(t,0)] (RepT.root s) (RepT.root t) (List.pairwise_singleton _ _) (List.pairwise_singleton _ _)
 rw[e]
 exact⟨h2,h3⟩
theorem zajr (s t:Tree):((pr (postT s 0) (postT t 0) 0 0 [s] [t]).map (·.1)).Nodup:=by
 refine List.pairwise_map.2 ((zaad s t).1.imp fun h=>?_)
 rcases h with h|h
 ·have:=h.1;omega
 ·have:=h.1;omega
theorem zyk {s t:Tree} {p:Nat×Nat} (h:p∈mapping s t):p.1<s.size∧p.2<t.size∧cost (nd s p.1) (nd t p.2)<3:=(zaad s t).2 p ((zay _).mem_iff.1 h)
theorem zacb (s t:Tree) (hs:Fine s) (ht:Fine t) (h8:s.size≤8∧t.size≤8):∃pv,PV pv (mapping s t)∧∀H,CW tr.look F_Q56 [tagg s,tagg t] H=some (.tup [.p pv, .p (.int .i64 0)],H):=by
 obtain⟨H1,k,a1,⟨ka,kb,km,ma,mb,b1,b2,b3,b4,b5,b6,b7,b8⟩,a3⟩:=zzn s t hs ht []
 have hs1:=zaj s
 have ht1:=zaj t
 have m1:ka<ma:=by obtain⟨_,_,_,_,_,_,_,h,_⟩:=b3.blk;exact h
 have hP:Pair H1 k km s t:=⟨ka,kb,ma,mb,[],0,b1,b2,by simp[Memo],b3,b4,b5,b7,by omega⟩
 obtain⟨H2,v,o,c1,c2,c3,c4,c5⟩:=zvk s t hs ht _ H1 k km 0 0 [s] [t] hP (Rep.root s) (Rep.root t) (Nat.lt_succ_self _)
 have hlen:=zpn s t
 rw[mapping,(zay _).length_eq]at hlen
 obtain⟨H3,d1,d2⟩:=zafm (g:=F_Q67) (by simp) v o _ (zajr s t) (by omega) H2 (by rw[← zpm];exact c4)
 have z1:someF 0 ((s.size:Int)-1)=rng 0 (lsize [s]):=by rw[← zbs,zpc];congr 1;omega
 have z2:someF 0 ((t.size:Int)-1)=rng 0 (lsize [t]):=by rw[← zbs,zpc];congr 1;omega
 rw[z1,z2]at a1
 have e1:decide (s.size≤8)=true:=decide_eq_true h8.1
 have e2:decide (t.size≤8)=true:=decide_eq_true h8.2
 rw[e1,e2]at a1
 simp only[fv]at a1 c1
 have hup:=c4.up
 have hps:=c4.pass
 have hne:v≠.undef:=by rintro rfl;exact absurd hps (by decide)
 have hfr:=zhu d2
 obtain⟨pv,hpv,hfp⟩:∃pv,PV pv (mapping s t)∧freezeCell H3 100 v=some pv:=by
  refine⟨_,?_,hfr⟩
  cases o with
  |none =>
   left
   refine⟨rfl,?_⟩
   have h1:=d2.2.1
   exact List.length_eq_zero_iff.1 (by rw[mapping,(zay _).length_eq];exact h1)
  |some k=>right;rw[mapping,(zay _).length_eq]
 have hfo:freezeOne H3 v=some (.p pv):=by
  cases o with
  |none =>
   obtain⟨rfl,_,_⟩:=c4
   have h1:freezeCell H3 100 (.p .nilslice)=some .nilslice:=rfl
   rw[h1]at hfp
   injection hfp with hfp
   rw[← hfp];rfl
  |some k2 =>
   obtain⟨ver,cs,op,rfl,_⟩:=c4
   rw[zfb,hfp];rfl
 refine⟨pv,hpv,fun H=>?_⟩
 refine zak look_Q56 rfl (by simp) rfl ?_
 dsimp only[i_Q56,c_Q56]
 simp -implicitDefEqProofs (disch:=omega) [zae,a1,c1,d1,hup,hps,hfo]
theorem zyl (s t:Tree) (hs:Fine s) (ht:Fine t) (H:List IBlk) (h8:¬(s.size≤8∧t.size≤8)):CW tr.look F_Q56 [tagg s,tagg t] H=some (.tup [.p .nilslice, .p (.int .i64 2)],H):=by
 refine zak look_Q56 rfl (by simp) rfl ?_
 obtain⟨H1,k,a1,_⟩:=zzn s t hs ht []
 have d1:(decide (s.size≤8)&&decide (t.size≤8))=false:=by
  cases h:(decide (s.size≤8)&&decide (t.size≤8))
  ·rfl
  ·simp at h;exact absurd h h8
 rw[d1]at a1
 simp only[fv]at a1
 dsimp only[i_Q56,c_Q56]
 simp -implicitDefEqProofs (disch:=omega) [zae,a1]
end Go.Ideal

namespace Go.Ideal
open Go
set_option maxHeartbeats 4000000
set_option maxRecDepth 20000
attribute [-simp] getElem?_pos
structure PI (a b:Tree) (L:List (Nat×Nat)):Prop where
 nx:(L.map (·.1)).Nodup
 nz:(L.map (·.2)).Nodup
 ok:∀p∈L,p.1<a.size∧p.2<b.size∧kinT (subT a p.1) (subT b p.2)
theorem PI.add {a b:Tree} {L:List (Nat×Nat)} (h:PI a b L) {i j:Nat} (hi:i<a.size) (hj:j<b.size) (hf:frE L i j=true) (hk:kinT (subT a i) (subT b j)):PI a b (L++[(i,j)]):=by
 simp only[frE,Bool.and_eq_true,Option.isNone_iff_eq_none,zlj,ztc]at hf
 refine⟨?_,?_,fun p hp=>?_⟩
 ·rw[List.map_append,List.nodup_append]
  exact⟨h.nx,by simp,fun x hx y hy=>by simp at hy;subst hy;exact fun e=>hf.1 (e ▸ hx)⟩
 ·rw[List.map_append,List.nodup_append]
  exact⟨h.nz,by simp,fun x hx y hy=>by simp at hy;subst hy;exact fun e=>hf.2 (e ▸ hx)⟩
 ·rcases List.mem_append.1 hp with hp|hp
  ·exact h.ok p hp
  ·simp at hp;subst hp;exact⟨hi,hj,hk⟩
def MStep (a b:Tree) (L:List (Nat×Nat)) (H':List IBlk) (P:List (Nat×Nat)→Prop):Prop:=∃X,MM a b (L++X) H'∧PI a b (L++X)∧P X
theorem zalq (t:Tree) {i:Nat} (hi:i<t.size):nd t i=subT t i:=by
 obtain⟨v,hv,_,hs,_⟩:=zde hi
 rw[hs];unfold nd;rw[hv]
theorem zajs {t u:Tree} (h:cost t u<3):kinT t u:=by
 unfold cost at h
 by_cases hk:kin t u
 ·exact hk
 ·simp[hk]at h
theorem zym (s t:Tree) (hs:Fine s) (ht:Fine t):∃pv P e,PV pv P∧(∀ p∈P,p.1<s.size∧p.2<t.size∧kinT (subT s p.1) (subT t p.2))∧P.length≤s.size∧∀H,CW tr.look F_Q56 [tagg s,tagg t] H=some (.tup [.p pv, .p (.int .i64 e)],H):=by
 by_cases h8:s.size≤8∧t.size≤8
 ·obtain⟨pv,h1,h2⟩:=zacb s t hs ht h8
  refine⟨pv,_,0,h1,fun p hp=>?_,zpn s t,h2⟩
  obtain⟨g1,g2,g3⟩:=zyk hp
  rw[zalq s g1,zalq t g2]at g3
  exact⟨g1,g2,zajs g3⟩
 ·exact⟨.nilslice,[],2, .inl ⟨rfl,rfl⟩,by simp,by simp,fun H=>zyl s t hs ht H h8⟩
theorem MM.trees {a b:Tree} {L:List (Nat×Nat)} {H:List IBlk} (h:MM a b L H):loadVal ⟨[],H⟩ (some 5) (.ptr (.heap 2) 0 0)=some (tagg a)∧loadVal ⟨[],H⟩ (some 5) (.ptr (.heap 2) 0 5)=some (tagg b):=by
 have hb:=h.blk
 rw[ztd]at hb
 have e1:=zcm (bx:=[]) (n:=5) (off:=0) hb (by simp)
 have e2:=zcm (bx:=[]) (n:=5) (off:=5) hb (by simp)
 refine⟨?_,?_⟩
 ·rw[e1];simp[tagg,Tree.zar,pcells]
 ·rw[e2];simp[tagg,Tree.zar,pcells]
def SmallQ (a b:Tree) (L:List (Nat×Nat)) (r:IVal) (H':List IBlk):Prop:=r = .tup []∧MStep a b L H' fun _=>True
theorem zafs {a b:Tree} (fa:Fine a) (fb:Fine b) {L:List (Nat×Nat)} {H:List IBlk} (h:MM a b L H) (hP:PI a b L) (sa:a.size≤60) (sb:b.size≤60) (i j:Nat) (hi:i<a.size) (hj:j<b.size):∃r H',CW tr.look F_Q28 [mptr, .p (.int .i64 i), .p (.int .i64 j)] H=some (r,H')∧SmallQ a b L r H':=by
 obtain⟨t1,t2⟩:=h.trees
 have u1:=zaez a (by omega) i hi
 have u2:=zaez b (by omega) j hj
 obtain⟨pv,P,e,hpv,hpm,hpl,hz⟩:=zym (subT a i) (subT b j) (fa.sub hi) (fb.sub hj)
 have hup:=hpv.up
 have hln:=hpv.len
 have ea:=zdi hi
 have eb:=zdi hj
 refine zbg look_Q28 rfl rfl ?_
 dsimp only[i_Q28,c_Q28]
 simp -implicitDefEqProofs (disch:=omega) [t1,t2,u1,u2,zae,hz,hup,hln]
 refine zad (α:=Nat×List (Nat×Nat)×List IBlk) (fun s=>[(0, .v mptr),(1, .int .i64 i),(2, .int .i64 j),(38, .v (.p pv)),(39, .int .i64 P.length),(40, .int .i64 s.1)]) (fun s=>⟨[],s.2.2⟩)
  (fun s=>s.1≤P.length∧MM a b (L++s.2.1) s.2.2∧PI a b (L++s.2.1)) (fun s=>P.length-s.1) ?_ (0,[],H) ⟨Nat.zero_le _,by rw[List.append_nil];exact h,by rw[List.append_nil];exact hP⟩
 rintro⟨k,X,K⟩ ⟨hk,hM,hI⟩ R hR
 dsimp only at hk hM hI hR ⊢
 dsimp only[l_Q28_0]
 by_cases hkl:k<P.length
 ·have hlt:(k:Int)<(P.length:Int):=by omega
  obtain⟨p,hp⟩:∃p,P[k]? = some p:=⟨_,List.getElem?_eq_getElem hkl⟩
  have ix:=hpv.idx hp
  obtain⟨g1,g2,g3⟩:=hpm p (List.mem_of_getElem? hp)
  have fr:=zte hM (i+p.1) (j+p.2)
  have fr':CW tr.look F_Q29 [.ptr (.heap 2) 0 0, .p (.int .i64 ((i:Int)+p.1)), .p (.int .i64 ((j:Int)+p.2))] K=some (.p (.bool (frE (L++X) (i+p.1) (j+p.2))),K):=by
   have:=fr
   push_cast at this
   exact this
  cases hf:frE (L++X) (i+p.1) (j+p.2)with
  |false =>
   rw[hf]at fr'
   simp -implicitDefEqProofs (disch:=omega) [ix,fr',zaa]
   exact hR (k+1,X,K) ⟨by dsimp only;omega,hM,hI⟩ (by dsimp only;omega)
  |true =>
   rw[hf]at fr'
   obtain⟨K',q1,q2,q3,q4⟩:=zlk hM (i+p.1) (j+p.2) hf
   push_cast at q1
   have q1':CW tr.look F_Q25 [.ptr (.heap 2) 0 0, .p (.int .i64 ((i:Int)+p.1)), .p (.int .i64 ((j:Int)+p.2))] K=some (.tup [],K'):=q1
   simp -implicitDefEqProofs (disch:=omega) [ix,fr',q1',zaa]
   rw[List.append_assoc]at q2
   refine hR (k+1,X++[(i+p.1,j+p.2)],K') ⟨by dsimp only;omega,q2,?_⟩ (by dsimp only;omega)
   dsimp only
   rw[← List.append_assoc]
   exact hI.add (by omega) (by omega) hf (by rw[sub_sub hi g1,sub_sub hj g2];exact g3)
 ·obtain rfl:k=P.length:=by omega
  simp -implicitDefEqProofs (disch:=omega) []
  exact⟨rfl,X,hM,hI,trivial⟩
theorem zmd {t:Tree} {i c:Nat}:c∈kidsOf t i↔c<t.size∧par t c=i:=by simp[kidsOf]
theorem zaft {t:Tree} {i:Nat} (hi:i<t.size):∃rest,idxS 1 (.p (kv2 t)) (.p (.int .i64 i))=some (.p (.ptr (islice (kidsOf t i)::rest))):=by
 refine⟨((List.range t.size).map fun i=>islice (kidsOf t i)).drop (i+1),?_⟩
 rw[kv2,zcl hi,Nat.mul_one,List.drop_eq_getElem_cons (by simpa using hi),List.getElem_map,List.getElem_range]
theorem zpq (l:List Nat):up (.p (islice l)) = .v (.p (islice l)):=by unfold islice;split<;>rfl
theorem zrm (l:List Nat):sliceLen (.p (islice l))=some l.length:=by
 unfold islice;split
 ·rename_i h;subst h;rfl
 ·rfl
theorem zrn {l:List Nat} {j:Nat} {c:Nat} (h:l[j]? = some c):∃rest,idxS 1 (.p (islice l)) (.p (.int .i64 j))=some (.p (.ptr (.int .i64 c::rest))):=by
 obtain⟨h1,h2⟩:=List.getElem?_eq_some_iff.1 h
 unfold islice
 rw[if_neg (fun e=>by rw[e]at h1;simp at h1),zcl h1]
 refine⟨(l.map fun(i:Nat)=>PVal.int .i64 i).drop (j+1),?_⟩
 rw[Nat.mul_one,List.drop_eq_getElem_cons (by simpa using h1),List.getElem_map,h2]
end Go.Ideal

namespace Go.Ideal
open Go
set_option maxHeartbeats 4000000
set_option maxRecDepth 20000
attribute [-simp] getElem?_pos
@[simp] theorem zayd {t:Tree}:up (.p (kv2 t)) = .v (.p (kv2 t)):=rfl
def Shut (a b:Tree) (L:List (Nat×Nat)) (c:Nat) (D:List Nat):Prop:=∀d∈D,¬(frE L c d=true∧kinT (subT a c) (subT b d))
theorem zapm {L X:List (Nat×Nat)} {c d:Nat} (h:frE (L++X) c d=true):frE L c d=true:=by
 simp only[frE,Bool.and_eq_true,Option.isNone_iff_eq_none,zlj,ztc,List.map_append,List.mem_append,not_or]at h ⊢
 exact⟨h.1.1,h.2.1⟩
theorem Shut.app {a b:Tree} {L X:List (Nat×Nat)} {c:Nat} {D:List Nat} (h:Shut a b L c D):Shut a b (L++X) c D:=fun d hd hh=>h d hd ⟨zapm hh.1,hh.2⟩
theorem zyn (a b:Tree) (L X:List (Nat×Nat)) (c q:Nat) (D:List Nat):Shut a b (L++(c,q)::X) c D:=fun d _ hh=>by
 have:=hh.1
 simp only[frE,Bool.and_eq_true,Option.isNone_iff_eq_none,zlj]at this
 exact this.1 (by simp)
theorem zacc {a b:Tree} (sb:b.size≤60) {L:List (Nat×Nat)} {K:List IBlk} (hM:MM a b L K) (hI:PI a b L) (j k:Nat) (hk:k<a.size) (sl:IVal) (sn sx:Nat) (Q:IExit→Env→KM→Prop)
 (hQ:∀X K',MM a b (L++X) K'→PI a b (L++X)→Shut a b (L++X) k (kidsOf b j)→(∀ p∈X,p.1=k)→Q .normal [(0, .v mptr),(2, .int .i64 j),(17, .v sl),(18, .int .i64 sn),(19, .int .i64 sx)] ⟨[],K'⟩) (_:up sl = .v sl) :
 wpLoop (CW tr.look) 65 m_Q30_0 l_Q30_0 (blkK 2 b_Q30_2 Q) [(0, .v mptr),(2, .int .i64 j),(7, .int .i64 k),(17, .v sl),(18, .int .i64 sn),(19, .int .i64 sx),(30, .v (.p (islice (kidsOf b j)))),(31, .int .i64 (kidsOf b j).length),(32, .int .i64 0)] ⟨[],K⟩:=by
 have hup:=zpq (kidsOf b j)
 obtain⟨l0,l1,_,_,_,_⟩:=hM.ld
 obtain⟨v,_,hitv,hsv,_⟩:=zde hk
 obtain⟨rv1,ixv⟩:=zpp hitv
 have hkl:(kidsOf b j).length≤b.size:=by
  have:=List.length_filter_le (fun c=>decide (par b c=(j:Int))) (List.range b.size)
  simpa[kidsOf]using this
 refine zad (α:=Nat) (fun n=>[(0, .v mptr),(2, .int .i64 j),(7, .int .i64 k),(17, .v sl),(18, .int .i64 sn),(19, .int .i64 sx),(30, .v (.p (islice (kidsOf b j)))),(31, .int .i64 (kidsOf b j).length),(32, .int .i64 n)]) (fun _=>⟨[],K⟩)
  (fun n=>n≤(kidsOf b j).length∧Shut a b L k ((kidsOf b j).take n)) (fun n=>(kidsOf b j).length-n) ?_ 0 ⟨Nat.zero_le _,fun d hd=>by simp at hd⟩
 rintro n ⟨hn,hS⟩ R hR
 dsimp only[l_Q30_0]
 by_cases hnl:n<(kidsOf b j).length
 ·have hlt:(n:Int)<((kidsOf b j).length:Int):=by omega
  obtain⟨q,hq⟩:∃q,(kidsOf b j)[n]? = some q:=⟨_,List.getElem?_eq_getElem hnl⟩
  obtain⟨rest,ix⟩:=zrn hq
  have hqm:=List.mem_of_getElem? hq
  have hqb:=(zmd.1 hqm).1
  obtain⟨w,_,hitw,hsw,_⟩:=zde hqb
  obtain⟨rw1,ixw⟩:=zpp hitw
  have fr:CW tr.look F_Q29 [.ptr (.heap 2) 0 0, .p (.int .i64 k), .p (.int .i64 q)] K=some (.p (.bool (frE L k q)),K):=zte hM k q
  have htk:(kidsOf b j).take (n+1)=(kidsOf b j).take n++[q]:=by rw[List.take_add_one,hq];rfl
  have hnext:¬(frE L k q=true∧kinT (subT a k) (subT b q))→R [(0, .v mptr),(2, .int .i64 j),(7, .int .i64 k),(17, .v sl),(18, .int .i64 sn),(19, .int .i64 sx),(30, .v (.p (islice (kidsOf b j)))),(31, .int .i64 (kidsOf b j).length),(32, .int .i64 ((n+1:Nat)))] ⟨[],K⟩:=fun hne=>hR (n+1) ⟨by omega,fun d hd=>by
   rw[htk]at hd
   rcases List.mem_append.1 hd with hd|hd
   ·exact hS d hd
   ·simp at hd;subst hd;exact hne⟩ (by omega)
  cases hf:frE L k q with
  |false =>
   rw[hf]at fr
   have hr:=hnext (by rw[hf];simp)
   simp -implicitDefEqProofs (disch:=omega) [ix,fr,zaa]
   exact hr
  |true =>
   rw[hf]at fr
   by_cases hk1:v.t.kind=w.t.kind
   ·have hk1':(v.t.kind==w.t.kind)=true:=by simp[hk1]
    by_cases hk2:v.t.name=w.t.name
    ·have hk2':(v.t.name==w.t.name)=true:=by simp[hk2]
     have hkin:kinT (subT a k) (subT b q):=by rw[hsv,hsw];exact⟨hk1,hk2⟩
     obtain⟨K',q1,q2,q3,q4⟩:=zlk hM k q hf
     have q1':CW tr.look F_Q25 [.ptr (.heap 2) 0 0, .p (.int .i64 k), .p (.int .i64 q)] K=some (.tup [],K'):=q1
     simp -implicitDefEqProofs (disch:=omega) [ix,fr,l0,l1,ixv,ixw,zll,eqVals,eqCls,clsEq,hk1',hk2',negIf,q1']
     exact hQ [(k,q)] K' q2 (hI.add hk hqb hf hkin) (zyn a b L [] k q _) (by simp)
    ·have hk2':(v.t.name==w.t.name)=false:=by
      cases h:v.t.name==w.t.name with
      |false=>rfl
      |true=>exact absurd (by simpa using h) hk2
     have hr:=hnext (fun h=>hk2 (by have:=h.2.2;rw[hsv,hsw]at this;exact this))
     simp -implicitDefEqProofs (disch:=omega) [ix,fr,l0,l1,ixv,ixw,zll,eqVals,eqCls,clsEq,hk1',hk2',negIf,zaa]
     exact hr
   ·have hk1':(v.t.kind==w.t.kind)=false:=by simp[hk1]
    have hr:=hnext (fun h=>hk1 (by have:=h.2.1;rw[hsv,hsw]at this;exact this))
    simp -implicitDefEqProofs (disch:=omega) [ix,fr,l0,l1,ixv,ixw,zll,eqVals,eqCls,clsEq,hk1',negIf,zaa]
    exact hr
 ·obtain rfl:n=(kidsOf b j).length:=by omega
  rw[List.take_length]at hS
  simp -implicitDefEqProofs (disch:=omega) []
  have:=hQ [] K (by rw[List.append_nil];exact hM) (by rw[List.append_nil];exact hI) (by rw[List.append_nil];exact hS) (by simp)
  exact this
def DownQ (a b:Tree) (L:List (Nat×Nat)) (i j:Nat) (r:IVal) (H':List IBlk):Prop:=r = .tup []∧∃X,MM a b (L++X) H'∧PI a b (L++X)∧(∀ c∈kidsOf a i,Shut a b (L++X) c (kidsOf b j))∧∀p∈X,p.1∈kidsOf a i
theorem zajt {a b:Tree} {L:List (Nat×Nat)} {H:List IBlk} (h:MM a b L H) (hP:PI a b L) (sa:a.size≤60) (sb:b.size≤60) (i j:Nat) (hi:i<a.size) (hj:j<b.size):∃r H',CW tr.look F_Q30 [mptr, .p (.int .i64 i), .p (.int .i64 j)] H=some (r,H')∧DownQ a b L i j r H':=by
 obtain⟨_,_,l2,_,_,_⟩:=h.ld
 obtain⟨rk,ixk⟩:=zaft hi
 obtain⟨rk2,ixk2⟩:=zaft hj
 have hupa:=zpq (kidsOf a i)
 have hupb:=zpq (kidsOf b j)
 have hla:=zrm (kidsOf a i)
 have hlb:=zrm (kidsOf b j)
 have hkl:(kidsOf a i).length≤a.size:=by
  have:=List.length_filter_le (fun c=>decide (par a c=(i:Int))) (List.range a.size)
  simpa[kidsOf]using this
 refine zbg look_Q30 rfl rfl ?_
 dsimp only[i_Q30,c_Q30]
 simp -implicitDefEqProofs (disch:=omega) [l2,ixk,hupa,hla]
 refine zad (α:=Nat×List (Nat×Nat)×List IBlk) (fun s=>[(0, .v mptr),(2, .int .i64 j),(17, .v (.p (islice (kidsOf a i)))),(18, .int .i64 (kidsOf a i).length),(19, .int .i64 s.1)]) (fun s=>⟨[],s.2.2⟩)
  (fun s=>s.1≤(kidsOf a i).length∧MM a b (L++s.2.1) s.2.2∧PI a b (L++s.2.1)∧(∀ c∈(kidsOf a i).take s.1,Shut a b (L++s.2.1) c (kidsOf b j))∧∀p∈s.2.1,p.1∈kidsOf a i) (fun s=>(kidsOf a i).length-s.1) ?_ (0,[],H) ⟨Nat.zero_le _,by rw[List.append_nil];exact h,by rw[List.append_nil];exact hP,fun c hc=>by simp at hc,by simp⟩
 rintro⟨n,X,K⟩ ⟨hn,hM,hI,hS,hX⟩ R hR
 dsimp only at hn hM hI hS hX hR ⊢
 dsimp only[l_Q30_1]
 by_cases hnl:n<(kidsOf a i).length
 ·have hlt:(n:Int)<((kidsOf a i).length:Int):=by omega
  obtain⟨k,hk⟩:∃k,(kidsOf a i)[n]? = some k:=⟨_,List.getElem?_eq_getElem hnl⟩
  obtain⟨rest,ix⟩:=zrn hk
  have hkm:=List.mem_of_getElem? hk
  have hka:=(zmd.1 hkm).1
  obtain⟨_,_,_,l3,_,_⟩:=hM.ld
  have htk:(kidsOf a i).take (n+1)=(kidsOf a i).take n++[k]:=by rw[List.take_add_one,hk];rfl
  simp -implicitDefEqProofs (disch:=omega) [ix,l3,ixk2,hupb,hlb]
  refine zacc sb hM hI j k hka _ _ _ _ (fun Y K' g1 g2 g3 g4=>?_) hupa
  simp -implicitDefEqProofs (disch:=omega) [zaa]
  rw[List.append_assoc]at g1 g2 g3
  refine hR (n+1,X++Y,K') ⟨by dsimp only;omega,g1,g2,fun c hc=>?_,fun p hp=>?_⟩ (by dsimp only;omega)
  ·dsimp only at hc ⊢
   rw[htk]at hc
   rcases List.mem_append.1 hc with hc|hc
   ·rw[← List.append_assoc];exact(hS c hc).app
   ·simp at hc;subst hc;exact g3
  ·dsimp only at hp
   rcases List.mem_append.1 hp with hp|hp
   ·exact hX p hp
   ·rw[g4 p hp];exact hkm
 ·obtain rfl:n=(kidsOf a i).length:=by omega
  rw[List.take_length]at hS
  simp -implicitDefEqProofs (disch:=omega) []
  exact⟨rfl,X,hM,hI,hS,hX⟩
end Go.Ideal

namespace Go.Ideal
open Go
set_option maxHeartbeats 4000000
set_option maxRecDepth 20000
attribute [-simp] getElem?_pos
theorem HS.set1 {H:List IBlk} {k n:Nat} {v:IVal} {X:List IVal} (h:HS H k 1 n v X) {j:Nat} (hj:j<n) (x:IVal):∃ver B,idxS 1 v (.p (.int .i64 j))=some (.ptr (.heap k) ver j)∧writeCells ⟨[],H⟩ (.ptr (.heap k) ver j) [x]=some ⟨[],H.set k B⟩∧HS (H.set k B) k 1 n v (X.set j x):=by
 have hl:=h.xlen
 have h0:=h
 obtain⟨ver,cs,op,rfl,_⟩:=h
 obtain⟨B,w1,w2⟩:=h0.store (bx:=[]) (off:=j) (new:=[x]) (by simp;omega)
 refine⟨ver,B,by have:=zax (e:=1) (k:=k) (v:=ver) (o:=0) (n:=n) (j:=j) hj;simpa using this,w1,?_⟩
 have:X.set j x=splice X j [x]:=by
  rw[List.set_eq_take_append_cons_drop,if_pos (by omega)]
  rfl
 rw[this]
 exact w2
theorem HS.get1 {H:List IBlk} {k n:Nat} {v:IVal} {X:List IVal} (h:HS H k 1 n v X) {j:Nat} {x:IVal} (hx:X[j]? = some x):∃ver,idxS 1 v (.p (.int .i64 j))=some (.ptr (.heap k) ver j)∧loadVal ⟨[],H⟩ none (.ptr (.heap k) ver j)=some x:=by
 have hl:=h.xlen
 have hj:=(List.getElem?_eq_some_iff.1 hx).1
 have h0:=h
 obtain⟨ver,cs,op,rfl,_⟩:=h
 refine⟨ver,by have:=zax (e:=1) (k:=k) (v:=ver) (o:=0) (n:=n) (j:=j) (by omega);simpa using this,h0.field hx⟩
theorem All2.zalr {R:IVal→PVal→Prop}:∀ {l:List IVal} {m:List PVal},l.length=m.length→(∀ (q:Nat) (v:IVal) (p:PVal),l[q]? = some v→m[q]? = some p→R v p)→All2 R l m
 | [],[],_,_=>rfl
 | [],_::_,h,_=>by simp at h
 |_::_,[],h,_=>by simp at h
 |v::l,p::m,h,hr=>⟨p,m,rfl,hr 0 v p rfl rfl,All2.zalr (by simpa using h) fun q v' p' h1 h2=>hr (q+1) v' p' h1 h2⟩
def ks (t:Tree) (j q:Nat):List Nat:=(List.range j).filter fun c=>decide (par t c=(q:Int))
def idl (l:List Nat):List PVal:=l.map fun(i:Nat)=>.int .i64 i
structure KS (t:Tree) (j:Nat) (o:Nat→Option Nat) (C:List IVal) (H:List IBlk):Prop where
 out:HS H 0 1 t.size (.slice 0 0 0 t.size) C
 len:C.length=t.size
 row:∀q v,C[q]? = some v→VS H (o q) 1 (ks t j q).length v (pcells (idl (ks t j q)))
 inj:∀q q' k,o q=some k→o q'=some k→q=q'
 off:∀q k,o q=some k→k≠0
 lt:∀q k,o q=some k→k<H.length
 ne:∀q k,o q=some k→ks t j q≠[]
theorem zpr (t:Tree) (j q:Nat):ks t (j+1) q=ks t j q++if par t j=(q:Int)then[j]else[]:=by
 unfold ks
 rw[List.range_succ,List.filter_append]
 congr 1
 by_cases h:par t j=(q:Int)<;>simp[h]
theorem zaae (t:Tree) (hs:t.size≤60) (H:List IBlk):CW tr.look F_Q23 [.p (ival t)] H=some (.p (kv2 t),H):=by
 refine zak look_Q23 rfl (by simp) rfl ?_
 dsimp only[i_Q23,c_Q23]
 have hle:(t.size:Int)≤4294967296:=by omega
 have hrep:∀n:Nat,repl n [.nilslice]=List.replicate n (IVal.p .nilslice):=fun n=>by
  induction n with
  |zero=>rfl
  |succ n ih=>rw[repl,ih];rfl
 simp -implicitDefEqProofs (disch:=omega) [hle,hrep]
 refine zad (α:=Nat×(Nat→Option Nat)×List IVal×List IBlk) (fun s=>[(3, .v (.slice 0 0 0 t.size)),(9, .v (.p (ival t))),(10, .int .i64 t.size),(11, .int .i64 s.1)]) (fun s=>⟨[],s.2.2.2⟩)
  (fun s=>s.1≤t.size∧KS t s.1 s.2.1 s.2.2.1 s.2.2.2) (fun s=>t.size-s.1) ?_ (0,fun _=>none,List.replicate t.size (.p .nilslice),_) ⟨Nat.zero_le _,⟨⟨0,_,_,rfl,rfl,by simp,by rw[List.take_of_length_le (by simp)]⟩,by simp,fun q v hv=>?_,fun _ _ _ h=>(by cases h),fun _ _ h=>(by cases h),fun _ _ h=>(by cases h),fun _ _ h=>(by cases h)⟩⟩
 ·rintro⟨j,o,C,K⟩ ⟨hj,hK⟩ R hR
  dsimp only at hj hK hR ⊢
  dsimp only[l_Q23_0]
  by_cases hjl:j<t.size
  ·have hlt:(j:Int)<(t.size:Int):=by omega
   obtain⟨v,_,hit,_,hpar⟩:=zde hjl
   obtain⟨rest,ix⟩:=zpp hit
   have hpl:=zaac hjl
   rw[hpar]at hpl
   by_cases hp0:0≤v.parent
   ·obtain⟨p,hp⟩:∃p:Nat,v.parent=p:=⟨v.parent.toNat,by omega⟩
    have hpn:p<t.size:=by omega
    obtain⟨x,hx⟩:∃x,C[p]? = some x:=⟨_,List.getElem?_eq_getElem (by rw[hK.len];exact hpn)⟩
    obtain⟨ver,i1,i2⟩:=hK.out.get1 hx
    have hver:ver=0:=by
     have:=zax (e:=1) (k:=0) (v:=0) (o:=0) (n:=t.size) (j:=p) hpn
     rw[this]at i1
     injection i1 with i1
     injection i1 with _ i1 _
     exact i1.symm
    subst hver
    have hrow:=hK.row p x hx
    have hup:=hrow.up
    have hps:=hrow.pass
    have hln:(ks t j p).length≤j:=by
     have:=List.length_filter_le (fun c=>decide (par t c=(p:Int))) (List.range j)
     simpa[ks]using this
    obtain⟨x',K',o',a1,a2,a3,a4,a5,⟨k',a6⟩⟩:=hrow.append1 (ys:=[.p (.int .i64 j)]) rfl (by omega)
    obtain⟨u1,rfl⟩:∃u1,x' = .slice k' u1 0 ((ks t j p).length+1):=by
     have a2':=a2
     rw[a6]at a2'
     obtain⟨ver',cs',op',e,_⟩:=a2'
     exact⟨ver',e⟩
    have hklt:k'<K'.length:=by rw[a6]at a2;exact VS.lt a2
    have hup':=a2.up
    have hps':=a2.pass
    have h0:K'[0]? = K[0]? := a3.2 0 (by have:=hK.out.lt;omega) (fun e=>hK.off p 0 e rfl)
    have hout':HS K' 0 1 t.size (.slice 0 0 0 t.size) C:=hK.out.keep h0
    obtain⟨ver2,B,w1,w2,w3⟩:=hout'.set1 hpn (.slice k' u1 0 ((ks t j p).length+1))
    have hver2:ver2=0:=by
     rw[i1]at w1
     injection w1 with w1
     injection w1 with _ w1 _
     exact w1.symm
    subst hver2
    have hne:x≠.undef:=by rintro rfl;exact absurd hps (by decide)
    have hpi:(0:Int)≤(p:Int):=by omega
    simp -implicitDefEqProofs (disch:=omega) [ix,hp,i1,i2,hup,a1,hup',w2,zaa]
    refine hR (j+1,fun q=>if q=p then o' else o q,C.set p (.slice k' u1 0 ((ks t j p).length+1)),K'.set 0 B) ⟨by dsimp only;omega,⟨w3,by dsimp only;rw[List.length_set];exact hK.len,fun q u hu=>?_,fun q q' k h1 h2=>?_,fun q k h1=>?_,fun q k h1=>?_,fun q k h1=>?_⟩⟩ (by dsimp only;omega)
    ·dsimp only at hu ⊢
     by_cases hq:q=p
     ·subst hq
      rw[if_pos rfl]
      rw[List.getElem?_set_self (by rw[hK.len];exact hpn)]at hu
      injection hu with hu
      subst hu
      rw[zpr,hpar,hp,if_pos rfl]
      have:pcells (idl (ks t j q++[j]))=pcells (idl (ks t j q))++[.p (.int .i64 j)]:=by simp[idl,pcells]
      rw[List.length_append,List.length_singleton,this]
      rw[a6]at a2 ⊢
      refine HS.keep a2 (List.getElem?_set_ne ?_)
      rcases a5 with a5|⟨k2,a5,a7⟩
      ·rw[a6]at a5
       exact fun e=>hK.off q k' a5.symm e.symm
      ·rw[a6]at a5
       injection a5 with a5
       have:=hK.out.lt
       omega
     ·rw[if_neg hq]
      rw[List.getElem?_set_ne (fun e=>hq e.symm)]at hu
      have hnp:¬par t j=(q:Int):=by rw[hpar,hp];omega
      rw[zpr,if_neg hnp,List.append_nil]
      have h1:=(hK.row q u hu).keep a3 (fun k hk=>fun e=>hq (hK.inj q p k hk e))
      cases ho:o q with
      |none=>rw[ho]at h1;exact h1
      |some k =>
       rw[ho]at h1
       exact HS.keep h1 (List.getElem?_set_ne (fun e=>hK.off q k ho e.symm))
    ·dsimp only at h1 h2
     by_cases hq:q=p<;>by_cases hq':q'=p
     ·rw[hq,hq']
     ·rw[if_pos hq]at h1
      rw[if_neg hq']at h2
      rcases a5 with a5|⟨k2,a5,a7⟩
      ·rw[a5]at h1;exact hq ▸ (hK.inj p q' k h1 h2)
      ·rw[h1]at a5
       injection a5 with a5
       have:=hK.lt q' k h2
       omega
     ·rw[if_neg hq]at h1
      rw[if_pos hq']at h2
      rcases a5 with a5|⟨k2,a5,a7⟩
      ·rw[a5]at h2;exact hq' ▸ (hK.inj q p k h1 h2)
      ·rw[h2]at a5
       injection a5 with a5
       have:=hK.lt q k h1
       omega
     ·rw[if_neg hq]at h1
      rw[if_neg hq']at h2
      exact hK.inj q q' k h1 h2
    ·dsimp only at h1
     by_cases hq:q=p
     ·rw[if_pos hq]at h1
      rcases a5 with a5|⟨k2,a5,a7⟩
      ·rw[a5]at h1;exact hK.off p k h1
      ·rw[h1]at a5
       injection a5 with a5
       have:=hK.out.lt
       omega
     ·rw[if_neg hq]at h1
      exact hK.off q k h1
    ·dsimp only at h1 ⊢
     rw[List.length_set]
     by_cases hq:q=p
     ·rw[if_pos hq,a6]at h1
      injection h1 with h1
      omega
     ·rw[if_neg hq]at h1
      have:=hK.lt q k h1
      omega
    ·dsimp only at h1 ⊢
     rw[zpr,hpar,hp]
     by_cases hq:q=p
     ·subst hq;rw[if_pos rfl];simp
     ·rw[if_neg hq]at h1
      have:=hK.ne q k h1
      simp[this]
   ·have hneg:¬(0:Int)≤v.parent:=hp0
    simp -implicitDefEqProofs (disch:=omega) [ix,zaa]
    refine hR (j+1,o,C,K) ⟨by dsimp only;omega,⟨hK.out,hK.len,fun q u hu=>?_,hK.inj,hK.off,hK.lt,fun q k hk=>?_⟩⟩ (by dsimp only;omega)
    ·have hnp:¬par t j=(q:Int):=by rw[hpar];omega
     dsimp only
     rw[zpr,if_neg hnp,List.append_nil]
     exact hK.row q u hu
    ·have hnp:¬par t j=(q:Int):=by rw[hpar];omega
     dsimp only
     rw[zpr,if_neg hnp,List.append_nil]
     exact hK.ne q k hk
  ·obtain rfl:j=t.size:=by omega
   simp -implicitDefEqProofs (disch:=omega) []
   have hfz:frzP (fun _=>True) K 3 (.slice 0 0 0 t.size) (kv2 t):=by
    refine HS.frz (n:=2) hK.out trivial (All2.zalr (by simp[hK.len]) fun q v p hv hp=>?_)
    rw[List.getElem?_map]at hp
    obtain⟨h1,_⟩:=List.getElem?_eq_some_iff.1 hv
    rw[hK.len]at h1
    rw[List.getElem?_range h1]at hp
    injection hp with hp
    subst hp
    have hrow:=hK.row q v hv
    show frzP _ K 2 v (islice (kidsOf t q))
    have hkk:ks t t.size q=kidsOf t q:=rfl
    rw[hkk]at hrow
    cases ho:o q with
    |none =>
     rw[ho]at hrow
     obtain⟨rfl,h2,_⟩:=hrow
     have:kidsOf t q=[]:=List.length_eq_zero_iff.1 h2
     rw[islice,if_pos this]
     exact rfl
    |some k =>
     rw[ho]at hrow
     have hnz:kidsOf t q≠[]:=hK.ne q k ho
     rw[islice,if_neg hnz]
     exact HS.frz (n:=1) hrow trivial (All2.plain (n:=0) _)
   have:=zgr (zas (m:=100) (by omega) hfz)
   exact this
 ·have:v = .p .nilslice:=by
   rw[List.getElem?_replicate]at hv
   split at hv
   ·injection hv with hv;exact hv.symm
   ·cases hv
  subst this
  exact⟨rfl,by simp[ks],by simp[ks,idl,pcells]⟩
end Go.Ideal

namespace Go.Ideal
open Go
set_option maxHeartbeats 4000000
set_option maxRecDepth 20000
attribute [-simp] getElem?_pos
theorem zyo {L:List (Nat×Nat)} {i j:Nat}:frE L i j=true↔i∉L.map (·.1)∧j∉L.map (·.2):=by
 simp only[frE,Bool.and_eq_true,Option.isNone_iff_eq_none,zlj,ztc]
theorem zaju {a b:Tree} {P:List (Nat×Nat)} {pv:PVal} (hpv:PV pv P) (hP:PI a b P) (hl:P.length≤1000) (z:KB) {H1:List IBlk} (hM:MM a b [] H1) (Q:IExit→Env→KM→Prop)
 (hQ:∀K,MM a b P K→Q .normal [(2, .box 2 0),(5, .v mptr)] ⟨[(2,some z)],K⟩) :
 wpLoop (CW tr.look) 143 m_Q9_0 l_Q9_0 (blkK 0 b_Q9_0 Q) [(2, .box 2 0),(5, .v mptr),(53, .v (.p pv)),(54, .int .i64 P.length),(55, .int .i64 0)] ⟨[(2,some z)],H1⟩:=by
 have hup:=hpv.up
 refine zad (α:=Nat×List IBlk) (fun s=>[(2, .box 2 0),(5, .v mptr),(53, .v (.p pv)),(54, .int .i64 P.length),(55, .int .i64 s.1)]) (fun s=>⟨[(2,some z)],s.2⟩)
  (fun s=>s.1≤P.length∧MM a b (P.take s.1) s.2) (fun s=>P.length-s.1) ?_ (0,H1) ⟨Nat.zero_le _,hM⟩
 rintro⟨k,K⟩ ⟨hk,hK⟩ R hR
 dsimp only at hk hK hR ⊢
 dsimp only[l_Q9_0]
 by_cases hkl:k<P.length
 ·have hlt:(k:Int)<(P.length:Int):=by omega
  obtain⟨p,hp⟩:∃p,P[k]? = some p:=⟨_,List.getElem?_eq_getElem hkl⟩
  have ix:=hpv.idx hp
  have htk:P.take (k+1)=P.take k++[p]:=by rw[List.take_add_one,hp];rfl
  have hf:frE (P.take k) p.1 p.2=true:=by
   have hin1:∀f:Nat×Nat→Nat,f p∈(P.drop k).map f:=fun f=>List.mem_map.2 ⟨p,List.mem_iff_getElem?.2 ⟨0,by rw[List.getElem?_drop];simpa using hp⟩,rfl⟩
   have hn1:=hP.nx
   have hn2:=hP.nz
   rw[← List.take_append_drop k P,List.map_append,List.nodup_append]at hn1 hn2
   exact zyo.2 ⟨fun hm=>hn1.2.2 _ hm _ (hin1 (·.1)) rfl,fun hm=>hn2.2.2 _ hm _ (hin1 (·.2)) rfl⟩
  obtain⟨K',q1,q2,_,_⟩:=zlk hK p.1 p.2 hf
  have q1':CW tr.look F_Q25 [.ptr (.heap 2) 0 0, .p (.int .i64 p.1), .p (.int .i64 p.2)] K=some (.tup [],K'):=q1
  simp -implicitDefEqProofs (disch:=omega) [ix,q1',zaa]
  exact hR (k+1,K') ⟨by dsimp only;omega,by dsimp only;rw[htk];exact q2⟩ (by dsimp only;omega)
 ·obtain rfl:k=P.length:=by omega
  rw[List.take_length]at hK
  simp -implicitDefEqProofs (disch:=omega) []
  exact hQ K hK
theorem zafu {N:List Nat} {k i:Nat} (h:N[k]? = some i):∃rest,idxS 1 (.p (nval N)) (.p (.int .i64 k))=some (.p (.ptr (.int .i64 i::rest))):=by
 obtain⟨h1,h2⟩:=List.getElem?_eq_some_iff.1 h
 refine⟨(nints N).drop (k+1),?_⟩
 have hlen:(nints N).length=N.length:=by simp[nints]
 rw[nval,zcl h1,Nat.mul_one,List.drop_eq_getElem_cons (by omega)]
 congr 4
 simp[nints,h2]
theorem zajv {a b:Tree} (fa:Fine a) (fb:Fine b) (sa:a.size≤60) (sb:b.size≤60) {P:List (Nat×Nat)} (hP:PI a b P) (N:List Nat) (hN:∀i∈N,i<a.size) (hNl:N.length≤60) {H1:List IBlk} (hM:MM a b P H1) (Q:IExit→Env→KM→Prop)
 (hQ:∀X K,MM a b (P++X) K→PI a b (P++X)→Q .normal [(5, .v mptr)] ⟨[],K⟩) :
 wpLoop (CW tr.look) 143 m_Q9_1 l_Q9_1 (blkK 2 b_Q9_2 Q) [(5, .v mptr),(67, .v (.p (nval N))),(68, .int .i64 N.length),(69, .int .i64 0)] ⟨[],H1⟩:=by
 have hup:up (.p (nval N)) = .v (.p (nval N)):=rfl
 refine zad (α:=Nat×List (Nat×Nat)×List IBlk) (fun s=>[(5, .v mptr),(67, .v (.p (nval N))),(68, .int .i64 N.length),(69, .int .i64 s.1)]) (fun s=>⟨[],s.2.2⟩)
  (fun s=>s.1≤N.length∧MM a b (P++s.2.1) s.2.2∧PI a b (P++s.2.1)) (fun s=>N.length-s.1) ?_ (0,[],H1) ⟨Nat.zero_le _,by rw[List.append_nil];exact hM,by rw[List.append_nil];exact hP⟩
 rintro⟨k,X,K⟩ ⟨hk,hK,hI⟩ R hR
 dsimp only at hk hK hI hR ⊢
 dsimp only[l_Q9_1]
 by_cases hkl:k<N.length
 ·have hlt:(k:Int)<(N.length:Int):=by omega
  obtain⟨i,hi⟩:∃i,N[k]? = some i:=⟨_,List.getElem?_eq_getElem hkl⟩
  obtain⟨rest,ix⟩:=zafu hi
  have hia:=hN i (List.mem_of_getElem? hi)
  obtain⟨_,_,_,_,l4,_⟩:=hK.ld
  have g1:=zid (k:=(i:Int)) hK.to (.p (.int .i64 0))
  rw[zli,zwb]at g1
  have hskip:∀K',MM a b (P++X) K'→R [(5, .v mptr),(67, .v (.p (nval N))),(68, .int .i64 N.length),(69, .int .i64 ((k+1:Nat)))] ⟨[],K'⟩:=fun K' hK'=>hR (k+1,X,K') ⟨by dsimp only;omega,hK',hI⟩ (by dsimp only;omega)
  cases ht:toN (P++X) i with
  |some j =>
   rw[ht]at g1
   have hr:=hskip K hK
   simp -implicitDefEqProofs (disch:=omega) [ix,l4,g1,zaa,vI]
   exact hr
  |none =>
   rw[ht]at g1
   obtain⟨r,K1,b1,b2,b3,b4,b5⟩:=zapl hK (fun p hp=>(hI.ok p hp).2.1) sa sb i hia
   have b1':CW tr.look F_Q27 [.ptr (.heap 2) 0 0, .p (.int .i64 i)] K=some (r,K1):=b1
   rcases b5 with rfl|⟨j,rfl,hj,hf,hkin⟩
   ·have hr:=hskip K1 b2
    simp -implicitDefEqProofs (disch:=omega) [ix,l4,g1,zaa,vI,b1']
    exact hr
   ·obtain⟨K2,c1,c2,_,_⟩:=zlk b2 i j hf
    have c1':CW tr.look F_Q25 [.ptr (.heap 2) 0 0, .p (.int .i64 i), .p (.int .i64 j)] K1=some (.tup [],K2):=c1
    have hI2:=hI.add hia hj hf hkin
    obtain⟨r3,K3,d1,rfl,Y,d2,d3,_⟩:=zafs fa fb c2 hI2 sa sb i j hia hj
    have d1':CW tr.look F_Q28 [.ptr (.heap 2) 0 0, .p (.int .i64 i), .p (.int .i64 j)] K2=some (.tup [],K3):=d1
    have hj0:(0:Int)≤(j:Int):=by omega
    simp -implicitDefEqProofs (disch:=omega) [ix,l4,g1,zaa,vI,b1',c1',d1']
    have e:P++X++[(i,j)]++Y=P++(X++([(i,j)]++Y)):=by simp
    rw[e]at d2 d3
    exact hR (k+1,X++([(i,j)]++Y),K3) ⟨by dsimp only;omega,d2,d3⟩ (by dsimp only;omega)
 ·obtain rfl:k=N.length:=by omega
  simp -implicitDefEqProofs (disch:=omega) []
  exact hQ X K hK hI
def KidsShut (a b:Tree) (L:List (Nat×Nat)) (n:Nat):Prop:=∀p∈L,p.1<n→∀c∈kidsOf a p.1,Shut a b L c (kidsOf b p.2)
theorem zaaf {a b:Tree} (sa:a.size≤60) (sb:b.size≤60) {P:List (Nat×Nat)} (hP:PI a b P) {H1:List IBlk} (hM:MM a b P H1) (Q:IExit→Env→KM→Prop)
 (hQ:∀X K,MM a b (P++X) K→PI a b (P++X)→KidsShut a b (P++X) a.size→Q .normal [(5, .v mptr)] ⟨[],K⟩) :
 wpLoop (CW tr.look) 143 m_Q9_2 l_Q9_2 (blkK 4 b_Q9_4 Q) [(5, .v mptr),(105, .int .i64 a.size),(106, .int .i64 0)] ⟨[],H1⟩:=by
 refine zad (α:=Nat×List (Nat×Nat)×List IBlk) (fun s=>[(5, .v mptr),(105, .int .i64 a.size),(106, .int .i64 s.1)]) (fun s=>⟨[],s.2.2⟩)
  (fun s=>s.1≤a.size∧MM a b (P++s.2.1) s.2.2∧PI a b (P++s.2.1)∧KidsShut a b (P++s.2.1) s.1) (fun s=>a.size-s.1) ?_ (0,[],H1) ⟨Nat.zero_le _,by rw[List.append_nil];exact hM,by rw[List.append_nil];exact hP,fun p _ h=>by omega⟩
 rintro⟨i,X,K⟩ ⟨hk,hK,hI,hC⟩ R hR
 dsimp only at hk hK hI hC hR ⊢
 dsimp only[l_Q9_2]
 by_cases hil:i<a.size
 ·have hlt:(i:Int)<(a.size:Int):=by omega
  obtain⟨_,_,_,_,l4,_⟩:=hK.ld
  have g1:=zid (k:=(i:Int)) hK.to (.p (.int .i64 0))
  rw[zli,zwb]at g1
  cases ht:toN (P++X) i with
  |none =>
   rw[ht]at g1
   simp -implicitDefEqProofs (disch:=omega) [l4,g1,zaa,vI]
   refine hR (i+1,X,K) ⟨by dsimp only;omega,hK,hI,fun p hp hpi=>?_⟩ (by dsimp only;omega)
   have:p.1≠i:=fun e=>zlj.1 ht (by rw[← e];exact List.mem_map.2 ⟨p,hp,rfl⟩)
   exact hC p hp (by dsimp only at hpi;omega)
  |some j =>
   rw[ht]at g1
   have hmem:=(zaab hI.nx).1 ht
   have hj:=(hI.ok _ hmem).2.1
   obtain⟨r,K',d1,rfl,Y,d2,d3,d4,d5⟩:=zajt hK hI sa sb i j hil hj
   have d1':CW tr.look F_Q30 [.ptr (.heap 2) 0 0, .p (.int .i64 i), .p (.int .i64 j)] K=some (.tup [],K'):=d1
   simp -implicitDefEqProofs (disch:=omega) [l4,g1,d1',zaa,vI]
   rw[List.append_assoc]at d2 d3 d4
   refine hR (i+1,X++Y,K') ⟨by dsimp only;omega,d2,d3,fun p hp hpi=>?_⟩ (by dsimp only;omega)
   dsimp only at hp hpi ⊢
   rw[← List.append_assoc]at hp
   rcases List.mem_append.1 hp with hp|hp
   ·by_cases e:p.1=i
    ·have:p.2=j:=by
      have h1:=(zaab hI.nx (i:=p.1) (j:=p.2)).2 hp
      rw[e,ht]at h1
      injection h1 with h1
      exact h1.symm
     rw[e,this]
     exact d4
    ·intro c hc
     rw[← List.append_assoc]
     exact(hC p hp (by omega) c hc).app
   ·have hkid:=zmd.1 (d5 p hp)
    have hpl:=zaac hkid.1
    omega
 ·obtain rfl:i=a.size:=by omega
  simp -implicitDefEqProofs (disch:=omega) []
  exact hQ X K hK hI hC
end Go.Ideal

namespace Go.Ideal
open Go
set_option maxHeartbeats 4000000
set_option maxRecDepth 20000
attribute [-simp] getElem?_pos
section
variable {C:Oracle} {n i:Nat} {blk:IBlk} {Q:IVal→List IBlk→Prop} {T:Env} {M:KM}
theorem zajw {k v:IVal} {s:Nat} {σ:List Ent}:rndK C i_Q9 n i blk Q ((k,v,s)::σ) T M=maskS m_Q9_90 T M fun T M=>lookE T 128 = .v (.opq n)∧wp C 143 (.block 7 b_Q9_91 (.seq (.reg [] c_Q9_73) c_Q9_71)) (fun e T M=>e = .normal∧M.H[i]? = some blk∧rndK C i_Q9 n i blk Q σ T M) (putK 143 (putK 143 (putK 143 T (some 129) (up (.tup [.p (.bool true),k,v]))) (some 130) (.bool true)) (some 131) (up (.tup [k,v]))) M:=rfl
theorem zapn:rndK C i_Q9 n i blk Q [] T M=maskS m_Q9_90 T M fun T M=>lookE T 128 = .v (.opq n)∧maskS b_Q9_92 (putK 143 (putK 143 T (some 129) .U) (some 130) (.bool false)) M fun T M=>wp C 143 c_Q9_72 (retK [.tmp 4] Q) T M:=rfl
end
def entP (e:Ent):Nat×Nat:=match e with
 |(.p (.int _ a), .p (.int _ b),_)=>(a.toNat,b.toNat)
 |_=>(0,0)
theorem zaag:∀(L:List (Nat×Nat)) (n:Nat),∀e∈ME0 n (toE L),∃p∈L,∃s,e=(vI p.1,vI p.2,s)
 | [],n,e,h=>by simp[toE,ME0]at h
 |p::L,n,e,h=>by
  simp only[toE,List.map_cons,ME0]at h
  rcases List.mem_cons.1 h with rfl|h
  ·exact⟨p,by simp,n,rfl⟩
  ·obtain⟨q,hq,s,hs⟩:=zaag L (n+1) e h
   exact⟨q,List.mem_cons_of_mem _ hq,s,hs⟩
theorem zaah:∀(L:List (Nat×Nat)) (n:Nat),(ME0 n (toE L)).map entP=L
 | [],n=>rfl
 |p::L,n=>by
  have:=zaah L (n+1)
  simp only[toE,List.map_cons,ME0]at this ⊢
  rw[this]
  simp[entP,vI]
theorem zjx:∀(E:List (Int×IVal)) (n:Nat),(ME0 n E).map (·.2.2)=List.range' n E.length
 | [],n=>rfl
 |(k,v)::E,n=>by simp only[ME0,List.map_cons,zjx E (n+1),List.length_cons,List.range'_succ]
theorem ztf (E:List (Int×IVal)):stamps (ME0 0 E) E.length:=by
 refine⟨by rw[zjx];exact List.nodup_range',fun e he=>?_⟩
 have:e.2.2∈(ME0 0 E).map (·.2.2):=List.mem_map.2 ⟨e,he,rfl⟩
 rw[zjx,List.mem_range'_1]at this
 omega
theorem zwd (n:Nat) (blk:IBlk) (Q:IVal→List IBlk→Prop):∀(σ:List Ent) (D:List (Nat×Nat)) (lv:IVal) (o:Option Nat) (K:List IBlk) (T:Env) (B:List (Nat×Option KB)),
 (∀ e∈σ,∃p:Nat×Nat,∃s,e=(vI p.1,vI p.2,s))→D.length+σ.length<1000000→lookE T 16 = .v lv→lookE T 128 = .v (.opq n)→K[0]? = some blk→VS K o 2 D.length lv (pcells (prc D))→o≠some 0 →
 (∀ K' lv' o',K'[0]? = some blk→VS K' o' 2 (D++σ.map entP).length lv' (pcells (prc (D++σ.map entP)))→∃K2,CW tr.look F_Q31 [lv', .p (.func F_Q32)] K'=some (.tup [],K2)∧Q lv' K2) →
 rndK (CW tr.look) i_Q9 n 0 blk Q σ T ⟨B,K⟩
 | [],D,lv,o,K,T,B,_,_,hT,hn,hb,hv,ho,hQ=>by
   rw[zapn]
   obtain⟨K2,q1,q2⟩:=hQ K lv o hb (by simpa using hv)
   have hup:=hv.up
   have hps:=hv.pass
   simp -implicitDefEqProofs (disch:=omega) [hT,hn,c_Q9_72,q1,hps,q2]
 |e::σ,D,lv,o,K,T,B,hs,hl,hT,hn,hb,hv,ho,hQ=>by
  obtain⟨p,s,rfl⟩:=hs e (by simp)
  rw[zajw]
  have hup:=hv.up
  have hps:=hv.pass
  obtain⟨lv2,K2,o2,a1,a2,a3,a4,a5,⟨k2,a6⟩⟩:=hv.append1 (ys:=[.p (.int .i64 p.1), .p (.int .i64 p.2)]) rfl (by simp at hl;omega)
  have hup2:=a2.up
  simp -implicitDefEqProofs (disch:=omega) [hT,hn,c_Q9_73,c_Q9_71,vI,a1,hup2]
  have hkl:=(List.getElem?_eq_some_iff.1 hb).1
  have hb2:K2[0]? = some blk:=by rw[a3.2 0 hkl ho];exact hb
  have hprc:pcells (prc (D++[p]))=pcells (prc D)++[.p (.int .i64 p.1), .p (.int .i64 p.2)]:=by simp[prc,pcells]
  have hmap:D++((vI p.1,vI p.2,s)::σ).map entP=(D++[p])++σ.map entP:=by
   simp[entP,vI]
  refine⟨hb2,zwd n blk Q σ (D++[p]) lv2 o2 K2 _ _ (fun e he=>hs e (List.mem_cons_of_mem _ he)) (by simp at hl ⊢;omega) rfl rfl hb2 (by rw[hprc,List.length_append,List.length_singleton];exact a2) ?_ (fun K' lv' o' g1 g2=>hQ K' lv' o' g1 (by rw[hmap];exact g2))⟩
  rcases a5 with rfl|⟨k,rfl,hk⟩
  ·exact ho
  ·intro h
   injection h with h
   omega
theorem zafv {k:Int} {n x:Bytes} (h:leafB k n x=true):k≠1:=by
 unfold leafB at h
 intro e
 subst e
 simp at h
theorem zro:∀(n:Nat) (t:Tree),t.size<n→nodeB t=true→∀u∈t.nodes,u.kind≠1
 |0,t,h,_=>by omega
 |n+1,t,h,hb=>by
  intro u hu
  rw[zir]at hb
  rw[zbn]at hu
  have hts:=zaf t
  by_cases hk:t.kind=2
  ·rw[if_pos hk]at hb
   simp only[Bool.and_eq_true]at hb
   rcases List.mem_cons.1 hu with rfl|hu
   ·rw[hk];decide
   ·obtain⟨c,hc,huc⟩:=zeq.1 hu
    have hcb:∀(l:List Tree) (r:Bool),kidsB r l=true→∀c∈l,nodeB c=true:=by
     intro l r
     induction l with
     |nil=>intro _ c hc;cases hc
     |cons x l ih =>
      intro h c hc
      simp only[kidsB,Bool.and_eq_true]at h
      rcases List.mem_cons.1 hc with rfl|hc
      ·exact h.1.1
      ·exact ih h.2 c hc
    exact zro n c (by have:=zam hc;omega) (hcb _ _ hb.2 c hc) u huc
  ·rw[if_neg hk]at hb
   simp only[Bool.and_eq_true,decide_eq_true_eq]at hb
   have hnil:klist t.kids=[]:=List.length_eq_zero_iff.1 hb.1.2
   rw[hnil]at hu
   simp[lnodes]at hu
   subst hu
   exact zafv hb.2
theorem zaai {r:Bool}:∀ {l:List Tree},kidsB r l=true→∀c∈l,nodeB c=true
 | [],_,c,hc=>by cases hc
 |x::l,h,c,hc=>by
  simp only[kidsB,Bool.and_eq_true]at h
  rcases List.mem_cons.1 hc with rfl|hc
  ·exact h.1.1
  ·exact zaai h.2 c hc
theorem zgb {t:Tree} (hc:checkB t=true) {i:Nat} (hi:i<t.size):(subT t i).kind=1↔i=0:=by
 simp only[checkB,Bool.and_eq_true,decide_eq_true_eq]at hc
 constructor
 ·intro hk
  rcases Nat.eq_zero_or_pos i with h|h
  ·exact h
  ·exfalso
   have hg:=zek hi
   rw[zbn]at hg
   obtain⟨j,rfl⟩:∃j,i=j+1:=⟨i-1,by omega⟩
   rw[List.getElem?_cons_succ]at hg
   obtain⟨c,hcm,huc⟩:=zeq.1 (List.mem_of_getElem? hg)
   exact zro _ c (Nat.lt_succ_self _) (zaai hc.2 c hcm) _ huc hk
 ·rintro rfl
  rw[zpf];exact hc.1.1.1.1.1
end Go.Ideal

namespace Go.Ideal
open Go
set_option maxHeartbeats 4000000
set_option maxRecDepth 20000
attribute [-simp] getElem?_pos
structure MF (a b:Tree) (L:List (Nat×Nat)):Prop where
 pi:PI a b L
 root:(0,0)∈L
 shut:KidsShut a b L a.size
 pre:∃X,L=sortP (alikeN a b 2)++X
def MQT (a b:Tree) (s n:Nat) (xs:List IVal):Prop:=∃L,s=2∧n=(sortP L).length∧xs=pcells (prc (sortP L))∧MF a b L
theorem zapo {t:Tree} {i:Nat} (h:i∈postT t 0):i<t.size:=by
 obtain⟨k,hk⟩:=List.mem_iff_getElem?.1 h
 obtain⟨_,_,_,_,_,_,h5⟩:=zoz hk
 exact h5
theorem zafw {a b:Tree} (ca:checkB a=true) (cb:checkB b=true) {L:List (Nat×Nat)} (hI:PI a b L) (h:frE L 0 0=false):(0,0)∈L:=by
 have hn:¬(0∉L.map (·.1)∧0∉L.map (·.2)):=fun hh=>by rw[zyo.2 hh]at h;cases h
 have key:∀p∈L,(p.1=0↔p.2=0):=fun p hp=>by
  obtain⟨h1,h2,h3⟩:=hI.ok p hp
  rw[← zgb ca h1,←zgb cb h2,h3.1]
 by_cases h1:0∈L.map (·.1)
 ·obtain⟨p,hp,e⟩:=List.mem_map.1 h1
  have:=(key p hp).1 e
  obtain⟨x,y⟩:=p
  simp only at e this
  subst e this
  exact hp
 ·have h2:0∈L.map (·.2):=by
   refine Classical.byContradiction fun h2=>hn ⟨h1,h2⟩
  obtain⟨p,hp,e⟩:=List.mem_map.1 h2
  have:=(key p hp).2 e
  obtain⟨x,y⟩:=p
  simp only at e this
  subst e this
  exact hp
theorem zajx {H:List IBlk} {o:Option Nat} {L:List (Nat×Nat)} {v:IVal} (h:VS H o 2 L.length v (pcells (prc L))) (h0:L≠[]):TV 2 L.length (pcells (prc L)) v H:=by
 cases o with
 |none=>obtain⟨_,h2,_⟩:=h;exact absurd (List.length_eq_zero_iff.1 h2) h0
 |some k =>
  obtain⟨ver,cs,op,rfl,h1,h2,h3⟩:=h
  exact⟨k,ver,cs,op,rfl,h1,h2,h3⟩
theorem zaaj:∀L:List (Nat×Nat),scalCells (pcells (prc L))=true
 | []=>rfl
 |_::L=>zaaj L
theorem zwe {a b:Tree} (sa:a.size≤60) {L:List (Nat×Nat)} {K:List IBlk} (hM:MM a b L K) (hF:MF a b L) {T:Env} (h1:lookE T 127 = .v (.map 0)) (h2:lookE T 16 = .v (.p .nilslice)):rngT (CW tr.look) i_Q9 (MQT a b) .normal T ⟨[],K⟩:=by
 have hne:sortP L≠[]:=fun e=>by
  have:=(zay L).mem_iff.2 hF.root
  rw[e]at this;cases this
 have hlen:(sortP L).length=L.length:=(zay L).length_eq
 have hLl:L.length≤60:=by
  have:=zga a.size _ hF.pi.nx (fun x hx=>by obtain⟨p,hp,rfl⟩:=List.mem_map.1 hx;exact(hF.pi.ok p hp).1)
  simp at this;omega
 refine⟨2,(sortP L).length,pcells (prc (sortP L)),zaaj _,⟨L,rfl,rfl,rfl,hF⟩,0,ME0 0 (toE L),(toE L).length,?_,hM.to,ztf _,by decide,by decide,fun n σ hσ=>?_⟩
 ·show(lookE T 127).den=_
  rw[h1];rfl
 ·have hmem:∀e∈σ,∃p:Nat×Nat,∃s,e=(vI p.1,vI p.2,s):=fun e he=>by
   obtain⟨p,_,s,hs⟩:=zaag L 0 e (hσ.mem_iff.1 he)
   exact⟨p,s,hs⟩
  have hmap:(σ.map entP).Perm L:=by
   have:=hσ.map entP
   rw[zaah]at this
   exact this
  refine zwd n _ _ σ [] (.p .nilslice) none K _ _ hmem (by rw[hσ.length_eq,zalo];simp[toE];omega) ?_ ?_ hM.to ⟨rfl,rfl,rfl⟩ (by simp) fun K' lv' o' g1 g2=>?_
  ·show lookE (putK 143 T (some 128) (.v (.opq n))) 16=_
   simpa[putK,lookE]using h2
  ·show lookE (putK 143 T (some 128) (.v (.opq n))) 128=_
   simp[lookE]
  ·rw[List.nil_append]at g2
   have hnd:((σ.map entP).map (·.1)).Nodup:=(hmap.map _).nodup_iff.2 hF.pi.nx
   have hsl:(σ.map entP).length=L.length:=hmap.length_eq
   obtain⟨K2,q1,q2⟩:=zafm (g:=F_Q32) (by simp) lv' o' _ hnd (by omega) K' g2
   have hun:sortP (σ.map entP)=sortP L:=zht hF.pi.nx ((zay _).trans hmap) (zfk _)
   rw[hun,hsl,←hlen]at q2
   exact⟨K2,q1,zajx q2 hne⟩
theorem zaak (a b:Tree) (fa:Fine a) (fb:Fine b) (na:StrT a) (nb:StrT b) (ca:checkB a=true) (cb:checkB b=true) (sa:a.size≤60) (sb:b.size≤60) (hal:PI a b (sortP (alikeN a b 2))) :
 ∃L,(∀ args H,freezeAll H args=some [tagg a,tagg b]→CW tr.look F_Q9 args H=some (.slice H.length 0 0 (sortP L).length,H++[.cells (pcells (prc (sortP L))) 2 0 true]))∧MF a b L:=by
 suffices hh:∃s n xs,(∀ args H,freezeAll H args=some [tagg a,tagg b]→CW tr.look F_Q9 args H=some (.slice H.length 0 0 n,H++[.cells xs s 0 true]))∧MQT a b s n xs by
  obtain⟨_,_,_,h1,L,rfl,rfl,rfl,h2⟩:=hh
  exact⟨L,h1,h2⟩
 have h1:=zco a fa.1
 have h2:=zco b fb.1
 rw[ca]at h1
 rw[cb]at h2
 have f1:=zch a fa
 have f2:=zch b fb
 have k1:=zaae a sa
 have k2:=zaae b sb
 have hpo:=zoy a fa
 obtain⟨pv,hpv,ha⟩:=zajl a b fa fb na nb 2 ca cb
 have hup:=hpv.up
 have hln:=hpv.len
 have hPl:(sortP (alikeN a b 2)).length≤1000:=by
  have:=zga a.size _ hal.nx (fun x hx=>by obtain⟨p,hp,rfl⟩:=List.mem_map.1 hx;exact(hal.ok p hp).1)
  simp at this;omega
 refine zadt none_Q9 (fun C args H r h=>⟨rfl,h⟩) rfl ?_
 show wp (CW tr.look) 143 c_Q9_70 (rngT (CW tr.look) i_Q9 (MQT a b)) _ _
 dsimp only[c_Q9_70]
 simp -implicitDefEqProofs (disch:=omega) [zae,h1,h2,f1,f2]
 refine⟨⟨⟨_,rfl,rfl⟩,⟨_,rfl,rfl⟩⟩,⟨⟨_,rfl,rfl⟩,⟨_,rfl,rfl⟩⟩,?_⟩
 obtain⟨H0,hH0⟩:∃H0,[IBlk.map [] 0,IBlk.map [] 0,IBlk.cells [IVal.p (PVal.int IntKind.i64 a.kind),IVal.p (PVal.str a.name),IVal.p (PVal.str a.text),IVal.p (aval a.attrs),IVal.p (kval a.kids),IVal.p (PVal.int IntKind.i64 b.kind),IVal.p (PVal.str b.name),IVal.p (PVal.str b.text),IVal.p (aval b.attrs),IVal.p (kval b.kids),IVal.p (ival a),IVal.p (ival b),IVal.p PVal.nilslice,IVal.p PVal.nilslice,IVal.map 0,IVal.map 1] 16 0 false]=H0:=⟨_,rfl⟩
 have l10:loadVal ⟨[],H0⟩ none (.ptr (.heap 2) 0 10)=some (.p (ival a)):=by rw[← hH0];rfl
 have l11:loadVal ⟨[],H0⟩ none (.ptr (.heap 2) 0 11)=some (.p (ival b)):=by rw[← hH0];rfl
 obtain⟨H1,hH1⟩:∃H1,[IBlk.map [] 0,IBlk.map [] 0,mB a b 0 1]=H1:=⟨_,rfl⟩
 have w12:writeCells ⟨[],H0⟩ (.ptr (.heap 2) 0 12) [.p (kv2 a), .p (kv2 b)]=some ⟨[],H1⟩:=by rw[← hH0,←hH1,ztd];rfl
 have hM:MM a b [] H1:=by rw[← hH1];exact⟨rfl,rfl,rfl⟩
 rw[hH0]
 simp -implicitDefEqProofs (disch:=omega) [l10,l11,k1,k2,w12,ha,hup,hln,zae]
 refine zaju hpv hal hPl _ hM _ fun K0 hK0=>?_
 have hpl:sliceLen (.p (nval (postT a 0)))=some (postT a 0).length:=rfl
 have hupn:up (.p (nval (postT a 0))) = .v (.p (nval (postT a 0))):=rfl
 simp -implicitDefEqProofs (disch:=omega) [zae,hpo,hpl,hupn]
 refine zajv fa fb sa sb hal (postT a 0) (fun i hi=>zapo hi) (by rw[zbf];exact sa) hK0 _ fun X K1 hK1 hI1=>?_
 have fr:CW tr.look F_Q29 [.ptr (.heap 2) 0 0, .p (.int .i64 0), .p (.int .i64 0)] K1=some (.p (.bool (frE (sortP (alikeN a b 2)++X) 0 0)),K1):=zte hK1 0 0
 cases hf:frE (sortP (alikeN a b 2)++X) 0 0 with
 |false =>
  rw[hf]at fr
  have hroot:=zafw ca cb hI1 hf
  have l10':=hK1.ld.1
  simp -implicitDefEqProofs (disch:=omega) [fr,l10']
  refine zaaf sa sb hI1 hK1 _ fun Y K2 hK2 hI2 hC=>?_
  have l14:=hK2.ld.2.2.2.2.1
  simp -implicitDefEqProofs (disch:=omega) [l14]
  exact zwe sa hK2 ⟨hI2,List.mem_append_left _ hroot,hC,⟨X++Y,by rw[List.append_assoc]⟩⟩ rfl rfl
 |true =>
  rw[hf]at fr
  obtain⟨K2,c1,c2,_,_⟩:=zlk hK1 0 0 hf
  have c1':CW tr.look F_Q25 [.ptr (.heap 2) 0 0, .p (.int .i64 0), .p (.int .i64 0)] K1=some (.tup [],K2):=c1
  have oa:=zac a
  have ob:=zac b
  have k00:kinT (subT a 0) (subT b 0):=by
   have e1:=(zgb ca (i:=0) (by omega)).2 rfl
   have e2:=(zgb cb (i:=0) (by omega)).2 rfl
   refine⟨by rw[e1,e2],?_⟩
   rw[zpf,zpf]
   simp only[checkB,Bool.and_eq_true,decide_eq_true_eq]at ca cb
   rw[ca.1.1.2.1,cb.1.1.2.1]
  have hI2:=hI1.add (by omega) (by omega) hf k00
  have l10':=c2.ld.1
  simp -implicitDefEqProofs (disch:=omega) [fr,c1',l10']
  refine zaaf sa sb hI2 c2 _ fun Y K3 hK3 hI3 hC=>?_
  have l14:=hK3.ld.2.2.2.2.1
  simp -implicitDefEqProofs (disch:=omega) [l14]
  exact zwe sa hK3 ⟨hI3,List.mem_append_left _ (List.mem_append_right _ (by simp)),hC,⟨X++([(0,0)]++Y),by simp⟩⟩ rfl rfl
end Go.Ideal

namespace Go.Ideal
open Go
set_option maxHeartbeats 4000000
set_option maxRecDepth 20000
attribute [-simp] getElem?_pos
def lst (l:List (Nat×Nat)):Int:=match l.getLast? with
 |none => -1
 |some p=>p.1
theorem zapp (l:List (Nat×Nat)) (p:Nat×Nat):lst (l++[p])=p.1:=by simp[lst]
def thE (L:List (Nat×Nat)):List (Int×IVal):=L.map fun p=>((p.2:Int), .p (.bool true))
theorem zajy (j:Nat):∀L:List (Nat×Nat),(mget (thE L) j).getD (.p (.bool false)) = .p (.bool (decide (j∈L.map (·.2)))):=by
 have key:∀(L:List (Nat×Nat)) (n:Nat),((mfind (j:Int) (thE L) n).map (·.2)).getD (.p (.bool false)) = .p (.bool (decide (j∈L.map (·.2)))):=by
  intro L
  induction L with
  |nil=>intro n;simp[thE,mfind]
  |cons p L ih =>
   intro n
   simp only[thE,List.map_cons,mfind]
   by_cases h:p.2=j
   ·subst h;simp
   ·have h':¬(p.2:Int)=j:=by omega
    simp only[h',if_false]
    have:=ih (n+1)
    simp only[thE]at this
    rw[this]
    have hne:¬j=p.2:=fun e=>h e.symm
    simp[hne]
 exact fun L=>key L 0
theorem ztg {j:Nat} {L:List (Nat×Nat)} (h:j∉L.map (·.2)):mget (thE L) j=none:=by
 have key:∀(L:List (Nat×Nat)) (n:Nat),j∉L.map (·.2)→mfind (j:Int) (thE L) n=none:=by
  intro L
  induction L with
  |nil=>intro n _;rfl
  |cons p L ih =>
   intro n h
   simp only[List.map_cons,List.mem_cons,not_or]at h
   have h':¬(p.2:Int)=j:=by omega
   simp only[thE,List.map_cons,mfind,h',if_false]
   exact ih (n+1) h.2
 simp[mget,key L 0 h]
structure VP (a b:Tree) (l:List (Nat×Nat)) (p:Nat×Nat):Prop where
 lt:lst l<p.1
 ba:p.1<a.size
 bb:p.2<b.size
 nw:p.2∉l.map (·.2)
 kn:kinT (subT a p.1) (subT b p.2)
theorem zwf (a b:Tree) (fa:Fine a) (fb:Fine b) (ca:checkB a=true) (cb:checkB b=true) {pv:PVal} {Rl:List (Nat×Nat)} (hpv:PV pv Rl) (h0:Rl[0]? = some (0,0)) (hlb:Rl.length<2000000) (m:Nat) (hm:m≤Rl.length)
 (hv:∀k p,k<m→Rl[k]? = some p→VP a b (Rl.take k) p) (res:Bool) (hres:m=Rl.length∧res=true∨m<Rl.length∧res=false∧∀p,Rl[m]? = some p→(p.1:Int)≤lst (Rl.take m)) (H:List IBlk) :
 CW tr.look F_Q10 [tagg a,tagg b, .p pv] H=some (.p (.bool res),H):=by
 have h1:=zco a fa.1
 have h2:=zco b fb.1
 rw[ca]at h1
 rw[cb]at h2
 have f1:=zch a fa
 have f2:=zch b fb
 have hup:=hpv.up
 have hln:=hpv.len
 have ix0:idxS 2 (.p pv) (.p (.int .i64 0))=_:=hpv.idx h0
 have hl0:0<Rl.length:=(List.getElem?_eq_some_iff.1 h0).1
 have hl0':¬Rl.length=0:=by omega
 have hfa:=fa.1
 have hfb:=fb.1
 have hnil:¬Rl=[]:=fun e=>by rw[e]at hl0;simp at hl0
 refine zak look_Q10 rfl (by simp) rfl ?_
 dsimp only[i_Q10,c_Q10]
 simp -implicitDefEqProofs (disch:=omega) [zae,h1,h2,hup,hln,ix0,eqVals,eqCls,clsEq,negIf,f1,f2]
 refine zad (α:=Nat×List IBlk) (fun s=>[(7, .v (.p (ival a))),(8, .v (.p (ival b))),(9, .int .i64 (lst (Rl.take s.1))),(10, .v (.map 0)),(38, .v (.p pv)),(39, .int .i64 Rl.length),(40, .int .i64 s.1)]) (fun s=>⟨[],s.2⟩)
  (fun s=>s.1≤m∧s.2[0]? = some (imap (thE (Rl.take s.1)))) (fun s=>Rl.length-s.1) ?_ (0,[.map [] 0]) ⟨Nat.zero_le _,rfl⟩
 rintro⟨k,K⟩ ⟨hk,hK⟩ R hR
 dsimp only at hk hK hR ⊢
 dsimp only[l_Q10_0]
 by_cases hkl:k<Rl.length
 ·have hlt:(k:Int)<(Rl.length:Int):=by omega
  obtain⟨p,hp⟩:∃p,Rl[k]? = some p:=⟨_,List.getElem?_eq_getElem hkl⟩
  have ix:=hpv.idx hp
  have htk:Rl.take (k+1)=Rl.take k++[p]:=by rw[List.take_add_one,hp];rfl
  by_cases hkm:k<m
  ·obtain⟨q1,q2,q3,q4,q5⟩:=hv k p hkm hp
   obtain⟨v,_,hitv,hsv,_⟩:=zde q2
   obtain⟨rv1,ixv⟩:=zpp hitv
   obtain⟨w,_,hitw,hsw,_⟩:=zde q3
   obtain⟨rw1,ixw⟩:=zpp hitw
   rw[hsv,hsw]at q5
   have hk1':(v.t.kind==w.t.kind)=true:=by simp[q5.1]
   have hk2':(v.t.name==w.t.name)=true:=by simp[q5.2]
   have g1:=zmb (k:=(p.2:Int)) hK (.p (.bool false))
   rw[zajy,decide_eq_false q4]at g1
   have g2:=zzz (k:=(p.2:Int)) hK (ztg q4) (v := .p (.bool true)) rfl
   have e1:¬(p.1:Int)≤lst (Rl.take k):=by omega
   have e2:¬(a.size:Int)≤(p.1:Int):=by omega
   have e3:¬(b.size:Int)≤(p.2:Int):=by omega
   simp -implicitDefEqProofs (disch:=omega) [ix,g1,ixv,ixw,zll,eqVals,eqCls,clsEq,hk1',hk2',negIf,g2,zaa]
   have hn:=hR (k+1,K.set 0 (imap (thE (Rl.take k)++[((p.2:Int), .p (.bool true))]))) ⟨by dsimp only;omega,by dsimp only;rw[htk];simp only[thE,List.map_append,List.map_cons,List.map_nil];exact zao (List.getElem?_eq_some_iff.1 hK).1⟩ (by dsimp only;omega)
   rw[htk,zapp]at hn
   exact hn
  ·have hkm':k=m:=by omega
   subst hkm'
   rcases hres with⟨e,_⟩|⟨_,rfl,h3⟩
   ·omega
   ·have e1:=h3 p hp
    simp -implicitDefEqProofs (disch:=omega) [ix]
 ·have hkl':k=Rl.length:=by omega
  have hmk:m=Rl.length:=by omega
  rcases hres with⟨_,rfl⟩|⟨h3,_⟩
  ·subst hkl'
   simp -implicitDefEqProofs (disch:=omega) []
  ·omega
theorem zafx (a b:Tree) (fa:Fine a) (fb:Fine b) (ca:checkB a=true) (cb:checkB b=true) (H:List IBlk):CW tr.look F_Q10 [tagg a,tagg b, .p .nilslice] H=some (.p (.bool false),H):=by
 have h1:=zco a fa.1
 have h2:=zco b fb.1
 rw[ca]at h1
 rw[cb]at h2
 refine zak look_Q10 rfl (by simp) rfl ?_
 dsimp only[i_Q10,c_Q10]
 simp -implicitDefEqProofs (disch:=omega) [zae,h1,h2]
end Go.Ideal

namespace Go.Ideal
open Go
def cnt (n:Nat):IBlk := .cells [.p (.int .i64 n)] 1 0 false
end Go.Ideal

namespace Go.Ideal
open Go
set_option maxHeartbeats 4000000
set_option maxRecDepth 20000
attribute [-simp] getElem?_pos
theorem zajz (x n:Nat) (hn:0<n) (H:List IBlk):CW tr.look F_Q15 [.p (.int .i64 x), .p (.int .i64 n)] H=some (.p (.int .i64 (x % n:Nat)),H):=by
 refine zak look_Q15 rfl (by simp) rfl ?_
 dsimp only[i_Q15,c_Q15]
 have h0:(n:Int)≠0:=by omega
 have h1:¬n=0:=by omega
 have e:(x:Int).tmod (n:Int)=((x % n:Nat):Int):=by
  rw[Int.tmod_eq_emod_of_nonneg (by omega)];simp
 have h2:¬((x % n:Nat):Int)<0:=by omega
 simp only[Int.natCast_emod]at e h2 ⊢
 simp -implicitDefEqProofs (disch:=omega) [h1,e]
theorem zth (v:PVal) (L:List Int) (hv:IV v L) (iat a:Nat) (H:List IBlk) (h:H[iat]? = some (cnt a)) (ha:a<1000000) :
 ∃n a':Nat,n<1099511627776∧a≤a'∧a'≤a+1∧CW tr.look F_Q16 [.p v, .ptr (.heap iat) 0 0] H=some (.p (.int .i64 n),H.set iat (cnt a')):=by
 have hup:=hv.up
 have hlen:=hv.len
 have hlt:=(List.getElem?_eq_some_iff.1 h).1
 by_cases hL:L.length=0
 ·refine⟨0,a,by omega,Nat.le_refl _,by omega,?_⟩
  have hsame:H.set iat (cnt a)=H:=by
   apply List.ext_getElem?
   intro i
   by_cases hi:i=iat
   ·subst hi;rw[zao hlt];exact h.symm
   ·rw[List.getElem?_set_ne (Ne.symm hi)]
  obtain⟨r,H',e1,rfl,rfl⟩:=zbg (args:=[.p v, .ptr (.heap iat) 0 0]) (H:=H) (Q:=fun r H'=>r = .p (.int .i64 0)∧H'=H) look_Q16 rfl rfl (by
   dsimp only[i_Q16,c_Q16]
   simp -implicitDefEqProofs (disch:=omega) [hup,hlen,hL])
  rw[hsame];exact e1
 ·obtain⟨tt,htt⟩:∃tt,(a+1)*5+(a+1) / L.length=tt:=⟨_,rfl⟩
  obtain⟨j,hj⟩:∃j,tt % L.length=j:=⟨_,rfl⟩
  have hjl:j<L.length:=by rw[← hj];exact Nat.mod_lt _ (by omega)
  obtain⟨r,hix⟩:=hv.idx hjl
  obtain⟨n,hn,hand⟩:=zajo L[j]
  refine⟨n,a+1,hn,by omega,Nat.le_refl _,?_⟩
  have hpl:=zajz tt L.length (by omega)
  rw[hj]at hpl
  have l0:loadVal ⟨[],H⟩ none (.ptr (.heap iat) 0 0)=some (.p (.int .i64 a)):=zab h rfl
  have hw:=zap (bx:=[]) (off:=0) (new:=[.p (.int .i64 ((a:Int)+1))]) h (by simp)
  have hsp:splice [IVal.p (.int .i64 (a:Int))] 0 [.p (.int .i64 ((a:Int)+1))]=[.p (.int .i64 ((a:Int)+1))]:=rfl
  rw[hsp]at hw
  have h2:(H.set iat (.cells [.p (.int .i64 ((a:Int)+1))] 1 0 false))[iat]? = some (.cells [.p (.int .i64 ((a:Int)+1))] 1 0 false):=zao hlt
  have l2:loadVal ⟨[],H.set iat (.cells [.p (.int .i64 ((a:Int)+1))] 1 0 false)⟩ none (.ptr (.heap iat) 0 0)=some (.p (.int .i64 ((a:Int)+1))):=zab h2 rfl
  have hL0:¬(L.length:Int)=0:=by omega
  have hq:((a:Int)+1).tdiv (L.length:Int)=(((a+1) / L.length:Nat):Int):=by
   rw[Int.tdiv_eq_ediv_of_nonneg (by omega)];simp
  have hqb:(a+1) / L.length≤a+1:=Nat.div_le_self _ _
  have hsum:((a:Int)+1)*5+(((a+1) / L.length:Nat):Int)=(tt:Int):=by omega
  have htb:tt≤6*(a+1):=by omega
  clear htt
  generalize (a+1) / L.length=qq at *
  have hcnt:cnt (a+1) = .cells [.p (.int .i64 ((a:Int)+1))] 1 0 false:=rfl
  rw[hcnt]
  generalize hK:H.set iat (.cells [.p (.int .i64 ((a:Int)+1))] 1 0 false)=K at *
  obtain⟨r2,H',e1,rfl,rfl⟩:=zbg (args:=[.p v, .ptr (.heap iat) 0 0]) (H:=H) (Q:=fun r H'=>r = .p (.int .i64 n)∧H'=K) look_Q16 rfl rfl (by
   dsimp only[i_Q16,c_Q16]
   simp -implicitDefEqProofs (disch:=omega) [hup,hlen,hL,l0,zaa,hw,l2,hq,hsum,hpl,hix]
   simpa using hand)
  exact e1
end Go.Ideal

namespace Go.Ideal
open Go
set_option maxHeartbeats 4000000
set_option maxRecDepth 20000
attribute [-simp] getElem?_pos
def NS (t:Tree):Prop:=t.name.length≤10∧t.text.length≤10∧(alist t.attrs).length≤2∧∀p∈alist t.attrs,p.1.length≤10∧p.2.length≤10
structure GT (t:Tree) (m dp:Nat):Prop where
 sz:t.size≤m
 dp:t.height≤dp
 ns:∀u∈t.nodes,NS u
def NV (t:Tree):Prop:=NS t∧nodeB t=true∧t.kind≠5
structure GV (t:Tree) (m dp:Nat):Prop where
 sz:t.size≤m
 dp:t.height≤dp
 ns:∀u∈t.nodes,NV u
theorem zps {u:Tree} {l:List Tree} (h:u∈l):u∈lnodes l:=zeq.2 ⟨u,h,by rw[zbn];simp⟩
theorem zti:∀ {l:List Tree} {r:Bool},(∀ u∈l,NV u)→kidsB r l=true
 | [],r,_=>rfl
 |t::l,r,h=>by
  have h1:=h t (by simp)
  have h2:=zti (r:=r) fun u hu=>h u (List.mem_cons_of_mem _ hu)
  simp only[kidsB,h1.2.1,h2,Bool.and_true,Bool.true_and,Bool.or_eq_true,decide_eq_true_eq]
  exact .inl h1.2.2
def GrownSays (v:PVal) (deep:Nat):Prop:=∀(iat inn a n:Nat) (H:List IBlk),iat≠inn→H[iat]? = some (cnt a)→H[inn]? = some (cnt n)→n<40→a≤n+1 →
 ∃(cs:List IVal) (H':List IBlk) (a' n':Nat) (t:Tree),CW tr.look F_Q17 [.p v, .ptr (.heap iat) 0 0, .ptr (.heap inn) 0 0, .p (.int .i64 deep)] H=some (.agg cs,H')∧H'[iat]? = some (cnt a')∧H'[inn]? = some (cnt n')∧n<n'∧n'≤40∧a'≤n'+1 ∧
  (∀ x,x<H.length→x≠iat→x≠inn→H'[x]? = H[x]?)∧H.length≤H'.length∧All2 (frzP (fun k=>H.length≤k) H' (20-deep)) cs t.cells∧cs.length=5∧GV t (n'-n) (7-deep)
def GrownQ (iat inn n deep:Nat) (H:List IBlk) (r:IVal) (H':List IBlk):Prop:=∃(cs:List IVal) (a' n':Nat) (t:Tree),r = .agg cs∧H'[iat]? = some (cnt a')∧H'[inn]? = some (cnt n')∧n<n'∧n'≤40∧a'≤n'+1 ∧
    (∀ x,x<H.length→x≠iat→x≠inn→H'[x]? = H[x]?)∧H.length≤H'.length∧All2 (frzP (fun k=>H.length≤k) H' (20-deep)) cs t.cells∧cs.length=5∧GV t (n'-n) (7-deep)
structure GInv (H0:List IBlk) (iat inn n0 deep:Nat) (AL:List (Bytes×Bytes)) (av kv:IVal) (ts:List Tree) (a n:Nat) (G:List IBlk):Prop where
 ha:G[iat]? = some (cnt a)
 hn:G[inn]? = some (cnt n)
 b1:n0≤n
 b2:n≤40
 b3:a≤n+1
 le:H0.length≤G.length
 fr:∀x,x<H0.length→x≠iat→x≠inn→G[x]? = H0[x]?
 va:av = .p .nilslice∧AL=[]∨∃ka,H0.length≤ka∧HS G ka 2 AL.length av (pcells (acells AL))∧(∀ kb c d e,kv = .slice kb c d e→ka≠kb)∧AL≠[]
 vk:kv = .p .nilslice∧ts=[]∨∃kb X,H0.length≤kb∧HS G kb 5 ts.length kv X∧All2 (frzP (fun k=>H0.length≤k∧k≠kb) G (19-deep)) X (kcells ts)∧ts≠[]
 sz:lsize ts+n0≤n
 hh:lheight ts≤6-deep
 ns:∀u∈lnodes ts,NV u
theorem zpt:∀(ts:List Tree) (t:Tree),kcells (ts++[t])=kcells ts++t.cells
 | [],t=>by simp[kcells]
 |u::ts,t=>by simp only[List.cons_append,kcells,zpt ts t,List.append_assoc]
theorem zna:∀(ts:List Tree) (t:Tree),lheight (ts++[t])=max (lheight ts) t.height
 | [],t=>by simp[lheight]
 |u::ts,t=>by simp only[List.cons_append,lheight,zna ts t];omega
theorem zpu:∀(ts:List Tree) (t:Tree),lnodes (ts++[t])=lnodes ts++t.nodes
 | [],t=>by simp[lnodes]
 |u::ts,t=>by simp only[List.cons_append,lnodes,zpu ts t,List.append_assoc]
theorem GInv.kid {H0:List IBlk} {iat inn n0 deep:Nat} {AL:List (Bytes×Bytes)} {av kv:IVal} {ts:List Tree} {a n:Nat} {G:List IBlk} (h:GInv H0 iat inn n0 deep AL av kv ts a n G) (hi:iat<H0.length∧inn<H0.length) (_:deep≤5)
 {cs:List IVal} {G':List IBlk} {a' n':Nat} {t:Tree} (e1:G'[iat]? = some (cnt a')) (e2:G'[inn]? = some (cnt n')) (e3:n<n') (e4:n'≤40) (e5:a'≤n'+1)
 (e6:∀x,x<G.length→x≠iat→x≠inn→G'[x]? = G[x]?) (e7:G.length≤G'.length) (e8:All2 (frzP (fun k=>G.length≤k) G' (19-deep)) cs t.cells) (e9:cs.length=5) (e10:GV t (n'-n) (6-deep)) :
 up kv = .v kv∧∃kv' G2,evalAppend ⟨[],G'++[.cells cs 5 0 false]⟩ 5 kv (.slice G'.length 0 0 1)=some (kv',⟨[],G2⟩)∧(∃ a b c,kv' = .slice a b 0 c)∧GInv H0 iat inn n0 deep AL av kv' (ts++[t]) a' n' G2:=by
 have hle:=h.le
 have htl:ts.length≤lsize ts:=by
  have:∀l:List Tree,l.length≤lsize l:=by
   intro l
   induction l with
   |nil=>simp
   |cons x l ih=>have:=zac x;simp only[lsize,List.length_cons];omega
  exact this ts
 have hsz:=h.sz
 have hb2:=h.b2
 obtain⟨X,hX⟩:∃X,(kv = .p .nilslice∧ts.length=0∧X=[]∧ts=[])∨∃kb,H0.length≤kb∧kb<G.length∧HS G' kb 5 ts.length kv X∧All2 (frzP (fun k=>(H0.length≤k∧k≠kb)∧k<G.length) G' (19-deep)) X (kcells ts):=by
  rcases h.vk with⟨h1,h2⟩|⟨kb,X,h1,h2,h3,_⟩
  ·exact⟨[], .inl ⟨h1,by simp[h2],rfl,h2⟩⟩
  ·refine⟨X, .inr ⟨kb,h1,h2.lt,h2.keep (e6 kb h2.lt (by omega) (by omega)),h3.imp fun v p hv=>zba (fun k hk hl=>⟨⟨hk,hl⟩,e6 k hl (by omega) (by omega)⟩) hv⟩⟩
 obtain⟨hup,kv',G2,kl,f1,⟨u1,u2,u3,rfl⟩,f3,f4,f5,f6⟩:=zlh (H:=G') (v:=kv) (e:=5) (n:=ts.length) (X:=X) (ys:=cs) (by
  rcases hX with⟨h1,h2,h3,_⟩|⟨kb,_,_,h2,_⟩
  ·exact .inl ⟨h1,h2,h3⟩
  ·exact .inr ⟨kb,h2⟩) e9 (by omega)
 have hkl:(G'.length≤kl)∨(H0.length≤kl∧kl<G.length∧∃c d e,kv = .slice kl c d e):=by
  rcases f6 with f6|f6
  ·exact .inl f6
  ·rcases hX with⟨rfl,_⟩|⟨kb,q1,q2,q3,_⟩
   ·obtain⟨_,_,_,hh,_⟩:=f6;cases hh
   ·obtain⟨_,_,_,hh,_⟩:=f6
    obtain⟨_,_,_,hh2,_⟩:=q3
    rw[hh]at hh2
    cases hh2
    exact .inr ⟨q1,q2,_,_,_,hh⟩
 have hklH:H0.length≤kl:=by rcases hkl with h1|h1<;>omega
 have hu:u1=kl:=by obtain⟨_,_,_,hh,_⟩:=f4;cases hh;rfl
 have hG2:∀y,y<G'.length→y≠kl→G2[y]? = G'[y]? := f5
 refine⟨hup,_,G2,f1,⟨_,_,_,rfl⟩,?_⟩
 refine⟨by rw[hG2 iat (by omega) (by omega)];exact e1,by rw[hG2 inn (by omega) (by omega)];exact e2,by have:=h.b1;omega,e4,e5,by omega,fun x hx h1 h2=>?_,?_,?_,?_,?_,?_⟩
 ·rw[hG2 x (by omega) (by omega),e6 x (by omega) h1 h2];exact h.fr x hx h1 h2
 ·rcases h.va with h1|⟨ka,h1,h2,h3,hA⟩
  ·exact .inl h1
  ·have hne:ka≠kl:=by
    rcases hkl with h4|⟨_,_,c,d,e,h4⟩
    ·have:=h2.lt;omega
    ·exact h3 _ _ _ _ h4
   refine .inr ⟨ka,h1,h2.keep ?_,fun kb c d e he=>?_,hA⟩
   ·have:=h2.lt
    rw[hG2 ka (by omega) hne,e6 ka this (by omega) (by omega)]
   ·cases he;rw[hu];exact hne
 ·refine .inr ⟨kl,X++cs,hklH,by rw[List.length_append];exact f4,?_,by simp⟩
  rw[zpt]
  refine All2.append ?_ (e8.imp fun v p hv=>zba (fun k hk hl=>?_) hv)
  ·rcases hX with⟨_,_,rfl,rfl⟩|⟨kb,q1,q2,q3,q4⟩
   ·rfl
   ·refine q4.imp fun v p hv=>zba (fun k hk hl=>?_) hv
    have hne:k≠kl:=by
     rcases hkl with h4|⟨_,_,c,d,e,h4⟩
     ·omega
     ·obtain⟨_,_,_,hh,_⟩:=q3
      rw[h4]at hh;cases hh;exact hk.1.2
    exact⟨⟨hk.1.1,hne⟩,hG2 k (by omega) hne⟩
  ·have hne:k≠kl:=by rcases hkl with h4|⟨_,h4,_⟩<;>omega
   exact⟨⟨by omega,hne⟩,hG2 k hl hne⟩
 ·have:=e10.sz
  rw[zah]
  simp only[lsize];omega
 ·rw[zna]
  have:=h.hh
  have:=e10.dp
  omega
 ·intro u hu
  rw[zpu]at hu
  rcases List.mem_append.1 hu with h1|h1
  ·exact h.ns u h1
  ·exact e10.ns u h1
def nonil {α:Type} (l:List α):Option (List α):=if l=[]then none else some l
theorem zcc (l:List Tree):klist (nonil l)=l:=by
 unfold nonil
 split
 ·rename_i h;rw[h];rfl
 ·rfl
theorem zjy (l:List (Bytes×Bytes)):alist (nonil l)=l:=by
 unfold nonil
 split
 ·rename_i h;rw[h];rfl
 ·rfl
theorem GInv.done {H0:List IBlk} {iat inn n0 deep:Nat} {AL:List (Bytes×Bytes)} {av kv:IVal} {ts:List Tree} {a n:Nat} {G:List IBlk} (h:GInv H0 iat inn (n0+1) deep AL av kv ts a n G) (hd:deep≤5) (nm:Bytes) (hnm:nm.length≤10) (hnb:nameB nm=true) (hab:attrsB AL=true) (hAL:AL.length≤2∧∀p∈AL,p.1.length≤10∧p.2.length≤10) :
 up av = .v av∧up kv = .v kv∧GrownQ iat inn n0 deep H0 (.agg [.p (.int .i64 2), .p (.str nm), .p (.str []),av,kv]) G:=by
 have ua:up av = .v av:=by rcases h.va with⟨rfl,_⟩|⟨_,_,⟨_,_,_,rfl,_⟩,_⟩<;>rfl
 have uk:up kv = .v kv:=by rcases h.vk with⟨rfl,_⟩|⟨_,_,_,⟨_,_,_,rfl,_⟩,_⟩<;>rfl
 refine⟨ua,uk,_,a,n, .mk 2 nm [] (nonil AL) (nonil ts),rfl,h.ha,h.hn,h.b1,h.b2,h.b3,h.fr,h.le,?_,rfl,?_,?_,?_⟩
 ·rw[Tree.zar]
  refine⟨_,_,rfl,zas (n:=1) (by omega) rfl,_,_,rfl,zas (n:=1) (by omega) rfl,_,_,rfl,zas (n:=1) (by omega) rfl,_,_,rfl,?_,_,_,rfl,?_,rfl⟩
  ·show frzP _ _ _ av (aval (nonil AL))
   rcases h.va with⟨rfl,rfl⟩|⟨ka,h1,h2,_,hn⟩
   ·exact zas (n:=1) (by omega) rfl
   ·unfold nonil
    rw[if_neg hn]
    exact zas (n:=2) (by omega) (h2.frz h1 (All2.plain (n:=0) _))
  ·show frzP _ _ _ kv (kval (nonil ts))
   rcases h.vk with⟨rfl,rfl⟩|⟨kb,X,h1,h2,h3,hn⟩
   ·exact zas (n:=1) (by omega) rfl
   ·unfold nonil
    rw[if_neg hn]
    exact zas (n:=19-deep+1) (by omega) (h2.frz h1 (h3.imp fun v p hv=>zba (fun k hk _=>⟨hk.1,rfl⟩) hv))
 ·have:=h.sz
  rw[zaf]
  show lsize (klist (nonil ts))+1≤_
  rw[zcc];omega
 ·have:=h.hh
  rw[zbr]
  show lheight (klist (nonil ts))+1≤_
  rw[zcc];omega
 ·intro u hu
  rw[zbn]at hu
  rcases List.mem_cons.1 hu with rfl|hu
  ·refine⟨⟨hnm,by simp[Tree.text],?_,?_⟩,?_,by simp[Tree.kind]⟩
   ·show(alist (nonil AL)).length≤2
    rw[zjy];exact hAL.1
   ·show ∀p∈alist (nonil AL),_
    rw[zjy];exact hAL.2
   ·rw[zir,if_pos (show(Tree.mk 2 nm [] (nonil AL) (nonil ts)).kind=2 from rfl)]
    show(nameB nm&&decide (([]:Bytes)=[])&&attrsB (alist (nonil AL))&&kidsB false (klist (nonil ts)))=true
    rw[zjy,zcc,hnb,hab,zti fun u hu=>h.ns u (zps hu)]
    simp
  ·have:klist (Tree.mk 2 nm [] (nonil AL) (nonil ts)).kids=ts:=zcc ts
   rw[this]at hu
   exact h.ns u hu
theorem zit (v:PVal) (_:up (.p v) = .v (.p v)) (deep:Nat) (hd:deep≤5) (IH:GrownSays v (deep+1)) (H0:List IBlk) (iat inn n0:Nat) (hne:iat≠inn) (hi:iat<H0.length∧inn<H0.length) (AL:List (Bytes×Bytes)) (av:IVal) (nm:Bytes) (z:KB) (Q:IExit→Env→KM→Prop)
 (hQ:∀kv ts a n G,GInv H0 iat inn n0 deep AL av kv ts a n G→Q .normal [(8, .box 8 0),(10, .box 10 0)] ⟨[(10,some ⟨[.int .i64 2, .str nm, .str [], .v av, .v kv],5⟩),(8,some z)],G⟩) :
 ∀(k:Nat) (kv:IVal) (ts:List Tree) (a n:Nat) (G:List IBlk),k≤3→GInv H0 iat inn n0 deep AL av kv ts a n G →
 wpLoop (CW tr.look) 109 m_Q17_0 l_Q17_0 (blkK 1 b_Q17_1 Q) [(0, .v (.p v)),(1, .v (.ptr (.heap iat) 0 0)),(2, .v (.ptr (.heap inn) 0 0)),(3, .int .i64 deep),(8, .box 8 0),(10, .box 10 0),(11, .int .i64 k)] ⟨[(10,some ⟨[.int .i64 2, .str nm, .str [], .v av, .v kv],5⟩),(8,some z)],G⟩:=by
 intro k
 induction k with
 |zero =>
  intro kv ts a n G hk hG
  refine zbi ?_
  dsimp only[l_Q17_0]
  simp -implicitDefEqProofs (disch:=omega) []
  exact hQ kv ts a n G hG
 |succ k ih =>
  intro kv ts a n G hk hG
  refine zbi ?_
  dsimp only[l_Q17_0]
  have l0:loadVal ⟨[],G⟩ none (.ptr (.heap inn) 0 0)=some (.p (.int .i64 n)):=zab hG.hn rfl
  have hpos:(0:Int)<((k+1:Nat):Int):=by omega
  by_cases hn:n<40
  ·have hn':(n:Int)<40:=by omega
   obtain⟨cs,G',a',n',t,e0,e1,e2,e3,e4,e5,e6,e7,e8,e9,e10⟩:=IH iat inn a n G hne hG.ha hG.hn hn hG.b3
   obtain⟨uk,kv',G2,f1,⟨u1,u2,u3,rfl⟩,f2⟩:=hG.kid hi hd e1 e2 e3 e4 e5 e6 e7 (by rw[show 19-deep=20-(deep+1)by omega];exact e8) e9 (by rw[show 6-deep=7-(deep+1)by omega];exact e10)
   have e0':CW tr.look F_Q17 [.p v, .ptr (.heap iat) 0 0, .ptr (.heap inn) 0 0, .p (.int .i64 ((deep:Int)+1))] G=some (.agg cs,G'):=e0
   obtain⟨c0,c1,c2,c3,c4,rfl⟩:∃c0 c1 c2 c3 c4,cs=[c0,c1,c2,c3,c4]:=by
    match cs,e9 with
    | [c0,c1,c2,c3,c4],_=>exact⟨c0,c1,c2,c3,c4,rfl⟩
   have hc:((k+1:Nat):Int)-1=(k:Int):=by omega
   simp only[Int.natCast_add,Int.cast_ofNat_Int]at hpos hc
   have hku:kv≠.undef:=by rcases hG.vk with⟨rfl,_⟩|⟨_,_,_,⟨_,_,_,rfl,_⟩,_⟩<;>simp
   simp -implicitDefEqProofs (disch:=omega) [l0,hku,zey,zaa,e0',f1,hc]
   exact ih _ _ _ _ _ (by omega) f2
  ·have hn':¬(n:Int)<40:=by omega
   simp -implicitDefEqProofs (disch:=omega) [l0]
   exact hQ kv ts a n G hG
theorem attrs1 {n t:Bytes} (hn:n=[105,100]∨n=[120]) (ht:t.length≤10):attrsB [(n,t)]=true:=by
 have:t.length≤4096:=by omega
 have h1:bytesLess [] n=true∧nameB n=true:=by rcases hn with rfl|rfl<;>exact⟨by decide,by decide⟩
 simp[attrsB,attrsG,h1.1,h1.2,this]
theorem attrs2 {t u:Bytes} (ht:t.length≤10) (hu:u.length≤10):attrsB [([105,100],t),([120],u)]=true:=by
 have h1:t.length≤4096:=by omega
 have h2:u.length≤4096:=by omega
 have h3:bytesLess [] [105,100]=true:=by decide
 have h4:nameB [105,100]=true:=by decide
 have h5:bytesLess [105,100] [120]=true:=by decide
 have h6:nameB [120]=true:=by decide
 simp[attrsB,attrsG,h1,h2,h3,h4,h5,h6]
theorem zaal (v:PVal) (L:List Int) (hv:IV v L) (deep:Nat) (hd:deep≤6) (IH:deep≤5→GrownSays v (deep+1)):GrownSays v deep:=by
 intro iat inn a n H hne hia hin hn ha
 have hup:=hv.up
 have l0:loadVal ⟨[],H⟩ none (.ptr (.heap inn) 0 0)=some (.p (.int .i64 n)):=zab hin rfl
 have hw:=zap (bx:=[]) (off:=0) (new:=[.p (.int .i64 ((n:Int)+1))]) hin (by simp)
 have hsp:splice [IVal.p (.int .i64 (n:Int))] 0 [.p (.int .i64 ((n:Int)+1))]=[.p (.int .i64 ((n:Int)+1))]:=rfl
 rw[hsp]at hw
 obtain⟨K,hK⟩:∃K,H.set inn (.cells [.p (.int .i64 ((n:Int)+1))] 1 0 false)=K:=⟨_,rfl⟩
 rw[hK]at hw
 have hKa:K[iat]? = some (cnt a):=by rw[← hK,List.getElem?_set_ne (Ne.symm hne)];exact hia
 obtain⟨x,a',hx,a1,a2,hnext⟩:=zth v L hv iat a K hKa (by omega)
 have e:∃r H',CW tr.look F_Q17 [.p v, .ptr (.heap iat) 0 0, .ptr (.heap inn) 0 0, .p (.int .i64 deep)] H=some (r,H')∧GrownQ iat inn n deep H r H':=by
  refine zbg look_Q17 rfl rfl ?_
  dsimp only[i_Q17,c_Q17]
  have e7:(x:Int).tmod 7=((x % 7:Nat):Int):=by rw[Int.tmod_eq_emod_of_nonneg (by omega)];simp
  have e74:((x:Int) / 7).tmod 4=((x / 7 % 4:Nat):Int):=by rw[Int.tmod_eq_emod_of_nonneg (by omega)];simp
  have e76:((x:Int) / 7).tmod 6=((x / 7 % 6:Nat):Int):=by rw[Int.tmod_eq_emod_of_nonneg (by omega)];simp
  have b7:x % 7<7:=Nat.mod_lt _ (by omega)
  have b74:x / 7 % 4<4:=Nat.mod_lt _ (by omega)
  have b76:x / 7 % 6<6:=Nat.mod_lt _ (by omega)
  have e28:((x:Int) / 28).tmod 3=((x / 28 % 3:Nat):Int):=by rw[Int.tmod_eq_emod_of_nonneg (by omega)];simp
  have e285:((x:Int) / 28).tmod 5=((x / 28 % 5:Nat):Int):=by rw[Int.tmod_eq_emod_of_nonneg (by omega)];simp
  have e844:((x:Int) / 84).tmod 4=((x / 84 % 4:Nat):Int):=by rw[Int.tmod_eq_emod_of_nonneg (by omega)];simp
  have e843:((x:Int) / 84).tmod 3=((x / 84 % 3:Nat):Int):=by rw[Int.tmod_eq_emod_of_nonneg (by omega)];simp
  have e512:((x:Int) / 512).tmod 4=((x / 512 % 4:Nat):Int):=by rw[Int.tmod_eq_emod_of_nonneg (by omega)];simp
  have b844:x / 84 % 4<4:=Nat.mod_lt _ (by omega)
  have b843:x / 84 % 3<3:=Nat.mod_lt _ (by omega)
  have b512:x / 512 % 4<4:=Nat.mod_lt _ (by omega)
  generalize x % 7=y7 at *
  generalize x / 7 % 4=y74 at *
  generalize x / 7 % 6=y76 at *
  generalize x / 28 % 3=y283 at *
  generalize x / 28 % 5=y285 at *
  generalize x / 84 % 4=y844 at *
  generalize x / 84 % 3=y843 at *
  generalize x / 512 % 4=y512 at *
  have hKn:K[inn]? = some (cnt (n+1)):=by rw[← hK];exact zao (List.getElem?_eq_some_iff.1 hin).1
  have hKl:K.length=H.length:=by rw[← hK,List.length_set]
  obtain⟨K1,hK1⟩:∃K1,K.set iat (cnt a')=K1:=⟨_,rfl⟩
  rw[hK1]at hnext
  have h1a:K1[iat]? = some (cnt a'):=by rw[← hK1];exact zao (List.getElem?_eq_some_iff.1 hKa).1
  have h1n:K1[inn]? = some (cnt (n+1)):=by rw[← hK1,List.getElem?_set_ne hne];exact hKn
  have h1l:K1.length=H.length:=by rw[← hK1,List.length_set];exact hKl
  have h1k:∀y,y<H.length→y≠iat→y≠inn→K1[y]? = H[y]? := fun y _ h1 h2=>by
   rw[← hK1,List.getElem?_set_ne (Ne.symm h1),←hK,List.getElem?_set_ne (Ne.symm h2)]
  have leaf:∀(k:Int) (s:Bytes),s.length≤10→(k=4∨k=3∧s≠[])→GrownQ iat inn n deep H (.agg [.p (.int .i64 k), .p (.str []), .p (.str s), .p .nilslice, .p .nilslice]) K1:=fun k s hs hl=>by
   refine⟨_,a',n+1, .mk k [] s none none,rfl,h1a,h1n,by omega,by omega,by omega,h1k,by omega,?_,rfl,⟨?_,?_,fun u hu=>?_⟩⟩
   ·rw[show 20-deep=(19-deep)+1 by omega]
    exact All2.plain [.int .i64 k, .str [], .str s, .nilslice, .nilslice]
   ·simp only[Tree.size,ksize];omega
   ·simp only[Tree.height,kheight];omega
   ·have:u = .mk k [] s none none:=by simpa[Tree.nodes,knodes]using hu
    subst this
    refine⟨⟨by simp[Tree.name],hs,by simp[Tree.attrs,alist],by simp[Tree.attrs,alist]⟩,?_,?_⟩
    ·rcases hl with rfl|⟨rfl,hl⟩
     ·have:s.length≤4096:=by omega
      simp[nodeB,leafB,alist,this]
     ·have:s.length≤4096:=by omega
      simp[nodeB,leafB,alist,this,hl]
    ·rcases hl with rfl|⟨rfl,hl⟩<;>simp[Tree.kind]
  by_cases c7:y7=0
  ·subst c7
   have s1:=zmz (s:=[120,121,122]) (h:=(y74:Int)) (by omega) (by simp;omega)
   simp -implicitDefEqProofs (disch:=omega) [hup,l0,hw,zaa,hnext,e7,e74,s1]
   exact leaf _ _ (by simp<;>omega) (.inl rfl)
  ·have c7':¬(y7:Int)=0:=by omega
   by_cases ct:y7<3∨5<deep
   ·have s2:=zfp (s:=[97,98,99,100,101,102]) (l:=(y76:Int)) (h:=(y76:Int)+1) (by omega) (by omega) (by simp;omega)
    by_cases c3:(y7:Int)<3
    ·simp -implicitDefEqProofs (disch:=omega) [hup,l0,hw,zaa,hnext,e7,e76,s2]
     exact leaf _ _ (by simp<;>omega) (.inr ⟨rfl,fun h=>by have:=congrArg List.length h;simp at this;omega⟩)
    ·have c5:(5:Int)<(deep:Int):=by omega
     simp -implicitDefEqProofs (disch:=omega) [hup,l0,hw,zaa,hnext,e7,e76,s2]
     exact leaf _ _ (by simp<;>omega) (.inr ⟨rfl,fun h=>by have:=congrArg List.length h;simp at this;omega⟩)
   ·have c3:¬(y7:Int)<3:=by omega
    have c5:¬(5:Int)<(deep:Int):=by omega
    have c4:(0:Int)≤(y74:Int)∧(y74:Int)<4:=by omega
    obtain⟨nm,hnm,hnl,hnb⟩:∃nm:Bytes,nth [SV.str [98],SV.str [112],SV.str [100,105,118],SV.str [108,105]] y74=some (.str nm)∧nm.length≤10∧nameB nm=true:=by
     rcases(show y74=0∨y74=1∨y74=2∨y74=3 by omega)with rfl|rfl|rfl|rfl
     ·exact⟨[98],rfl,by simp,by decide⟩
     ·exact⟨[112],rfl,by simp,by decide⟩
     ·exact⟨[100,105,118],rfl,by simp,by decide⟩
     ·exact⟨[108,105],rfl,by simp,by decide⟩
    obtain⟨t3,ht3,s3⟩:∃t3:Bytes,t3.length≤10∧sliceStrF (.p (.str [48,49,50,51])) (some (.p (.int .i64 (y844:Int)))) (some (.p (.int .i64 ((y844:Int)+1))))=some (.p (.str t3)):=⟨_,by simp;omega,zfp (by omega) (by omega) (by simp;omega)⟩
    obtain⟨t4,ht4,s4⟩:∃t4:Bytes,t4.length≤10∧sliceStrF (.p (.str [117,118])) none (some (.p (.int .i64 (y843:Int))))=some (.p (.str t4)):=⟨_,by simp;omega,zmz (by omega) (by simp;omega)⟩
    have p0:(.p .nilslice:IVal) = .p .nilslice∧(0:Nat)=0∧([]:List IVal)=[]:=⟨rfl,rfl,rfl⟩
    have hiH:iat<H.length∧inn<H.length:=⟨(List.getElem?_eq_some_iff.1 hia).1,(List.getElem?_eq_some_iff.1 hin).1⟩
    have base:∀(AL:List (Bytes×Bytes)) (av:IVal) (G:List IBlk) (hGl:H.length≤G.length) (hG:∀y,y<H.length→G[y]? = K1[y]?) (hva:av = .p .nilslice∧AL=[]∨∃ka,H.length≤ka∧HS G ka 2 AL.length av (pcells (acells AL))∧AL≠[]),GInv H iat inn (n+1) deep AL av (.p .nilslice) [] a' (n+1) G:=by
     intro AL av G hGl hG hva
     refine⟨by rw[hG _ hiH.1];exact h1a,by rw[hG _ hiH.2];exact h1n,by omega,by omega,by omega,hGl,fun y hy h1 h2=>by rw[hG y hy];exact h1k y hy h1 h2,?_, .inl ⟨rfl,rfl⟩,by simp[lsize],by simp[lheight],by simp[lnodes]⟩
     rcases hva with h|⟨ka,h1,h2,h3⟩
     ·exact .inl h
     ·exact .inr ⟨ka,h1,h2,(fun kb c d e he=>by simp at he),h3⟩
    by_cases c28:y283=0
    ·obtain⟨_,v1,G1,k1,f1,⟨u1,u2,u3,rfl⟩,f3,f4,f5,f6⟩:=zlh (H:=K1) (e:=2) (ys:=[.p (.str [105,100]), .p (.str t3)]) (.inl p0) rfl (by omega)
     have hk1:K1.length≤k1:=by
      rcases f6 with f6|⟨_,_,_,h,_⟩
      ·exact f6
      ·cases h
     by_cases c285:y285=0
     ·obtain⟨_,v2,G2,k2,g1,⟨w1,w2,w3,rfl⟩,g3,g4,g5,g6⟩:=zlh (H:=G1) (e:=2) (ys:=[.p (.str [120]), .p (.str t4)]) (.inr ⟨k1,f4⟩) rfl (by omega)
      have hk2:H.length≤k2:=by
       rcases g6 with g6|g6
       ·omega
       ·obtain⟨_,_,_,h,_⟩:=g6
        obtain⟨_,_,_,h2,_⟩:=f4
        rw[h]at h2;cases h2;omega
      simp -implicitDefEqProofs (disch:=omega) [hup,l0,hw,zaa,hnext,e7,e74,c4,hnm,e28,e285,e844,e843,e512,c28,c285,s3,s4,f1,g1]
      refine zit v hup deep (by omega) (IH (by omega)) H iat inn (n+1) hne hiH [([105,100],t3),([120],t4)] _ nm _ _ (fun kv ts a n0 G hG=>?_) y512 _ [] a' (n+1) G2 (by omega) (base _ _ _ (by omega) (fun y hy=>by rw[g5 y (by omega) (by omega),f5 y (by omega) (by omega)]) (.inr ⟨k2,hk2,g4,by simp⟩))
      obtain⟨q1,q2,q3⟩:=hG.done (by omega) nm hnl hnb (attrs2 ht3 ht4) (by simp<;>omega)
      simp -implicitDefEqProofs (disch:=omega) []
      exact q3
     ·have c285':¬(y285:Int)=0:=by omega
      simp -implicitDefEqProofs (disch:=omega) [hup,l0,hw,zaa,hnext,e7,e74,c4,hnm,e28,e285,e844,e512,c28,s3,f1]
      refine zit v hup deep (by omega) (IH (by omega)) H iat inn (n+1) hne hiH [([105,100],t3)] _ nm _ _ (fun kv ts a n0 G hG=>?_) y512 _ [] a' (n+1) G1 (by omega) (base _ _ _ (by omega) (fun y hy=>by rw[f5 y (by omega) (by omega)]) (.inr ⟨k1,by omega,f4,by simp⟩))
      obtain⟨q1,q2,q3⟩:=hG.done (by omega) nm hnl hnb (attrs1 (.inl rfl) ht3) (by simp<;>omega)
      simp -implicitDefEqProofs (disch:=omega) []
      exact q3
    ·have c28':¬(y283:Int)=0:=by omega
     by_cases c285:y285=0
     ·obtain⟨_,v2,G2,k2,g1,⟨w1,w2,w3,rfl⟩,g3,g4,g5,g6⟩:=zlh (H:=K1) (e:=2) (ys:=[.p (.str [120]), .p (.str t4)]) (.inl p0) rfl (by omega)
      have hk2:K1.length≤k2:=by
       rcases g6 with g6|⟨_,_,_,h,_⟩
       ·exact g6
       ·cases h
      simp -implicitDefEqProofs (disch:=omega) [hup,l0,hw,zaa,hnext,e7,e74,c4,hnm,e28,e285,e843,e512,c285,s4,g1]
      refine zit v hup deep (by omega) (IH (by omega)) H iat inn (n+1) hne hiH [([120],t4)] _ nm _ _ (fun kv ts a n0 G hG=>?_) y512 _ [] a' (n+1) G2 (by omega) (base _ _ _ (by omega) (fun y hy=>by rw[g5 y (by omega) (by omega)]) (.inr ⟨k2,by omega,g4,by simp⟩))
      obtain⟨q1,q2,q3⟩:=hG.done (by omega) nm hnl hnb (attrs1 (.inr rfl) ht4) (by simp<;>omega)
      simp -implicitDefEqProofs (disch:=omega) []
      exact q3
     ·have c285':¬(y285:Int)=0:=by omega
      simp -implicitDefEqProofs (disch:=omega) [hup,l0,hw,zaa,hnext,e7,e74,c4,hnm,e28,e285,e512]
      refine zit v hup deep (by omega) (IH (by omega)) H iat inn (n+1) hne hiH [] _ nm _ _ (fun kv ts a n0 G hG=>?_) y512 _ [] a' (n+1) K1 (by omega) (base _ _ _ (by omega) (fun y _=>rfl) (.inl ⟨rfl,rfl⟩))
      obtain⟨q1,q2,q3⟩:=hG.done (by omega) nm hnl hnb rfl (by simp<;>omega)
      simp -implicitDefEqProofs (disch:=omega) []
      exact q3
 obtain⟨r,H',e1,cs,a2,n2,t,rfl,q⟩:=e
 exact⟨cs,H',a2,n2,t,e1,q⟩
end Go.Ideal

namespace Go.Ideal
open Go
set_option maxHeartbeats 4000000
set_option maxRecDepth 20000
attribute [-simp] getElem?_pos
theorem zwg (v:PVal) (L:List Int) (hv:IV v L):∀(k deep:Nat),deep+k=6→GrownSays v deep
 |0,deep,h=>zaal v L hv deep (by omega) (fun h=>by omega)
 |k+1,deep,h=>zaal v L hv deep (by omega) (fun _=>zwg v L hv k (deep+1) (by omega))
theorem ztj (v:PVal) (_:up (.p v) = .v (.p v)) (IH:GrownSays v 1) (z:KB) (Q:IExit→Env→KM→Prop)
 (hQ:∀kv ts a n G,GInv [cnt 0,cnt 0] 0 1 0 0 [] (.p .nilslice) kv ts a n G→Q .normal [(2, .box 2 0),(5, .box 5 0)] ⟨[(5,some ⟨[.int .i64 1, .str [], .str [], .v (.p .nilslice), .v kv],5⟩),(2,some z)],G⟩) :
 ∀(k:Nat) (kv:IVal) (ts:List Tree) (a n:Nat) (G:List IBlk),k≤4→GInv [cnt 0,cnt 0] 0 1 0 0 [] (.p .nilslice) kv ts a n G →
 wpLoop (CW tr.look) 27 m_Q7_0 l_Q7_0 (blkK 0 b_Q7_0 Q) [(0, .v (.p v)),(2, .box 2 0),(3, .v (.ptr (.heap 0) 0 0)),(4, .v (.ptr (.heap 1) 0 0)),(5, .box 5 0),(6, .int .i64 ((k:Int)-1))] ⟨[(5,some ⟨[.int .i64 1, .str [], .str [], .v (.p .nilslice), .v kv],5⟩),(2,some z)],G⟩:=by
 intro k
 induction k with
 |zero =>
  intro kv ts a n G hk hG
  refine zbi ?_
  dsimp only[l_Q7_0]
  simp -implicitDefEqProofs (disch:=omega) []
  exact hQ kv ts a n G hG
 |succ k ih =>
  intro kv ts a n G hk hG
  refine zbi ?_
  dsimp only[l_Q7_0]
  have l0:loadVal ⟨[],G⟩ none (.ptr (.heap 1) 0 0)=some (.p (.int .i64 n)):=zab hG.hn rfl
  have hc:((k+1:Nat):Int)-1=(k:Int):=by omega
  rw[hc]
  by_cases hn:n<40
  ·have hn':(n:Int)<40:=by omega
   obtain⟨cs,G',a',n',t,e0,e1,e2,e3,e4,e5,e6,e7,e8,e9,e10⟩:=IH 0 1 a n G (by omega) hG.ha hG.hn hn hG.b3
   obtain⟨uk,kv',G2,f1,⟨u1,u2,u3,rfl⟩,f2⟩:=hG.kid (by simp) (by omega) e1 e2 e3 e4 e5 e6 e7 e8 e9 e10
   have e0':CW tr.look F_Q17 [.p v, .ptr (.heap 0) 0 0, .ptr (.heap 1) 0 0, .p (.int .i64 1)] G=some (.agg cs,G'):=e0
   obtain⟨c0,c1,c2,c3,c4,rfl⟩:∃c0 c1 c2 c3 c4,cs=[c0,c1,c2,c3,c4]:=by
    match cs,e9 with
    | [c0,c1,c2,c3,c4],_=>exact⟨c0,c1,c2,c3,c4,rfl⟩
   have hku:kv≠.undef:=by rcases hG.vk with⟨rfl,_⟩|⟨_,_,_,⟨_,_,_,rfl,_⟩,_⟩<;>simp
   simp -implicitDefEqProofs (disch:=omega) [l0,hku,zey,zaa,e0',f1]
   exact ih _ _ _ _ _ (by omega) f2
  ·have hn':¬(n:Int)<40:=by omega
   simp -implicitDefEqProofs (disch:=omega) [l0]
   exact hQ kv ts a n G hG
theorem zafy {k:Int} {n x:Bytes} {a:Option Attrs} {c:Option (List Tree)}:IVal.agg [.p (.int .i64 k), .p (.str n), .p (.str x), .p (aval a), .p (kval c)]=tagg (.mk k n x a c):=rfl
theorem zyp (t:Tree):t.deep=t.height:=by
 have key:∀(n:Nat) (t:Tree),t.size<n→t.deep=t.height:=by
  intro n
  induction n with
  |zero=>intro t h;omega
  |succ n ih =>
   intro t h
   have hts:=zaf t
   rw[zlx,zbr]
   have:∀l:List Tree,lsize l<n→ldeep l=lheight l:=by
    intro l
    induction l with
    |nil=>intro _;rfl
    |cons x l ihl =>
     intro hl
     simp only[lsize]at hl
     simp only[ldeep,lheight,ih x (by omega),ihl (by omega)]
   rw[this _ (by omega)]
 exact key _ t (Nat.lt_succ_self _)
theorem zyq (v:PVal) (L:List Int) (hv:IV v L):∃t,GT t 41 7∧checkB t=true∧∀H,CW tr.look F_Q7 [.p v] H=some (tagg t,H):=by
 have hup:=hv.up
 obtain⟨x,a',hx,a1,a2,hnext⟩:=zth v L hv 0 0 [cnt 0,cnt 0] rfl (by omega)
 have e4:(x:Int).tmod 4=((x % 4:Nat):Int):=by rw[Int.tmod_eq_emod_of_nonneg (by omega)];simp
 have b4:x % 4<4:=Nat.mod_lt _ (by omega)
 generalize x % 4=y at *
 obtain⟨r,e1,t,rfl,e2,e3⟩:∃r,CW tr.look F_Q7 [.p v] []=some (r,[])∧∃t,r=tagg t∧GT t 41 7∧checkB t=true:=by
  refine zdg look_Q7 rfl (zbc (by simp)) rfl ?_
  dsimp only[i_Q7,c_Q7]
  have hnext':CW tr.look F_Q16 [.p v, .ptr (.heap 0) 0 0] [IBlk.cells [.p (.int .i64 0)] 1 0 false,IBlk.cells [.p (.int .i64 0)] 1 0 false]=some (.p (.int .i64 x),[cnt a',cnt 0]):=hnext
  have w1:writeCells ⟨[],[IBlk.cells [.p (.int .i64 0)] 1 0 false,IBlk.cells [.p (.int .i64 0)] 1 0 false]⟩ (.ptr (.heap 0) 0 0) [.p (.int .i64 0)]=some ⟨[],[IBlk.cells [.p (.int .i64 0)] 1 0 false,IBlk.cells [.p (.int .i64 0)] 1 0 false]⟩:=rfl
  have w2:writeCells ⟨[],[IBlk.cells [.p (.int .i64 0)] 1 0 false,IBlk.cells [.p (.int .i64 0)] 1 0 false]⟩ (.ptr (.heap 1) 0 0) [.p (.int .i64 0)]=some ⟨[],[IBlk.cells [.p (.int .i64 0)] 1 0 false,IBlk.cells [.p (.int .i64 0)] 1 0 false]⟩:=rfl
  simp -implicitDefEqProofs (disch:=omega) [hup,hnext',w1,w2,e4]
  have hc:(y:Int)=((y+1:Nat):Int)-1:=by omega
  rw[hc]
  have h0:GInv [cnt 0,cnt 0] 0 1 0 0 [] (.p .nilslice) (.p .nilslice) [] a' 0 [cnt a',cnt 0]:=by
   refine⟨rfl,rfl,Nat.le_refl _,by omega,by omega,by simp,fun x hx h1 h2=>?_, .inl ⟨rfl,rfl⟩, .inl ⟨rfl,rfl⟩,by simp[lsize],by simp[lheight],by simp[lnodes]⟩
   simp at hx;omega
  refine ztj v hup (zwg v L hv 5 1 rfl) _ _ (fun kv ts a n G hG=>?_) (y+1) _ [] a' 0 _ (by omega) h0
  have uk:up kv = .v kv:=by rcases hG.vk with⟨rfl,_⟩|⟨_,_,_,⟨_,_,_,rfl,_⟩,_⟩<;>rfl
  have hfz:freezeCell G 100 kv=some (kval (nonil ts)):=by
   rcases hG.vk with⟨rfl,rfl⟩|⟨kb,X,h1,h2,h3,hn⟩
   ·rfl
   ·unfold nonil
    rw[if_neg hn]
    exact zgr (zas (n:=20) (by omega) (h2.frz h1 (h3.imp fun v p hv=>zba (fun k hk _=>⟨hk.1,rfl⟩) hv)))
  have hagg:freezeOne G (.agg [.p (.int .i64 1), .p (.str []), .p (.str []), .p .nilslice,kv])=some (tagg (.mk 1 [] [] none (nonil ts))):=by
   rw[← zafy]
   have p:∀x:PVal,freezeCell G 100 (.p x)=some x:=fun _=>rfl
   simp only[freezeOne,freezeList,p,hfz,pcells,List.map_cons,List.map_nil]
   rfl
  simp -implicitDefEqProofs (disch:=omega) []
  rw[hagg]
  have hsz:(Tree.mk 1 [] [] none (nonil ts)).size≤41:=by
   have:=hG.sz
   have:=hG.b2
   rw[zaf]
   show lsize (klist (nonil ts))+1≤_
   rw[zcc];omega
  have hhh:(Tree.mk 1 [] [] none (nonil ts)).height≤7:=by
   have:=hG.hh
   rw[zbr]
   show lheight (klist (nonil ts))+1≤_
   rw[zcc];omega
  refine⟨_,rfl,_,rfl,⟨hsz,hhh,fun u hu=>?_⟩,?_⟩
  ·rw[zbn]at hu
   rcases List.mem_cons.1 hu with rfl|hu
   ·exact⟨by simp[Tree.name],by simp[Tree.text],by simp[Tree.attrs,alist],by simp[Tree.attrs,alist]⟩
   ·have:klist (Tree.mk 1 [] [] none (nonil ts)).kids=ts:=zcc ts
    rw[this]at hu
    exact(hG.ns u hu).1
  ·have hk:kidsB true (klist (nonil ts))=true:=by
    rw[zcc]
    exact zti fun u hu=>hG.ns u (zps hu)
   have hd:(Tree.mk 1 [] [] none (nonil ts)).deep≤60:=by rw[zyp];omega
   have hs3:(Tree.mk 1 [] [] none (nonil ts)).size≤300:=by omega
   show(decide ((1:Int)=1)&&decide ((Tree.mk 1 [] [] none (nonil ts)).size≤300)&&decide ((Tree.mk 1 [] [] none (nonil ts)).deep≤60)&&(decide (([]:Bytes)=[])&&decide (([]:Bytes)=[]))&&decide ((alist none).length=0)&&kidsB true (klist (nonil ts)))=true
   rw[hk,decide_eq_true hd,decide_eq_true hs3]
   simp[alist]
 exact⟨t,e2,e3,fun H=>zlz look_Q7 rfl (by simp) e1⟩
theorem GT.fine {t:Tree} {m d:Nat} (h:GT t m d) (hm:m<1000000):Fine t:=⟨by have:=h.sz;omega,fun u hu=>by have:=(h.ns u hu).2.2.1;omega⟩
theorem GT.str {t:Tree} {m d:Nat} (h:GT t m d):∀u∈t.nodes,NodeStr u:=fun u hu=>by
 obtain⟨h1,h2,h3,h4⟩:=h.ns u hu
 exact⟨by omega,by omega,by omega,fun p hp=>by have:=h4 p hp;omega⟩
end Go.Ideal

/-
  A COPY OF A TREE: what the laws' Tree makes: plain laws.
-/
namespace Go.Ideal
open Go
attribute [-simp] getElem?_pos
def nk (l:List Tree):Option (List Tree):=if l=[]then none else some l
mutual
def Tree.norm:Tree→Tree
 | .mk k n x a ks=>.mk k n x (nattr a) (normK ks)
def normK:Option (List Tree)→Option (List Tree)
 |none=>none
 |some l=>nk (normL l)
def normL:List Tree→List Tree
 | []=>[]
 |t::r=>t.norm::normL r
end
theorem norm_eq (t:Tree):t.norm = .mk t.kind t.name t.text (nattr t.attrs) (nk (normL (klist t.kids))):=by
 obtain⟨k,n,x,a,ks⟩:=t
 cases ks<;>rfl
theorem zpv:∀l:List Tree,normL l=l.map Tree.norm
 | []=>rfl
 |t::l=>by rw[normL,zpv l];rfl
theorem zaka (l:List Tree):klist (nk l)=l:=by
 unfold nk
 split
 ·rename_i h;rw[h];rfl
 ·rfl
theorem zgc (t:Tree):klist t.norm.kids=(klist t.kids).map Tree.norm:=by
 rw[norm_eq]
 show klist (nk _)=_
 rw[zaka,zpv]
theorem zwh (t:Tree):t.norm.size=t.size:=by
 have key:∀(n:Nat) (t:Tree),t.size<n→t.norm.size=t.size:=by
  intro n
  induction n with
  |zero=>intro t h;omega
  |succ n ih =>
   intro t h
   have ht:=zaf t
   have hl:∀l:List Tree,lsize l<n→lsize (l.map Tree.norm)=lsize l:=by
    intro l
    induction l with
    |nil=>intro _;rfl
    |cons u l ih2 =>
     intro hl
     simp only[lsize]at hl
     simp only[List.map_cons,lsize,ih u (by omega),ih2 (by omega)]
   rw[zaf,zgc,hl _ (by omega),ht]
 exact key _ t (Nat.lt_succ_self _)
theorem zgd (t:Tree):t.norm.attrs=nattr t.attrs:=by rw[norm_eq];rfl
theorem zie (t:Tree):t.norm.kind=t.kind∧t.norm.name=t.name∧t.norm.text=t.text:=by rw[norm_eq];exact⟨rfl,rfl,rfl⟩
theorem zacd (t:Tree):t.norm.nodes=t.nodes.map Tree.norm:=by
 have key:∀(n:Nat) (t:Tree),t.size<n→t.norm.nodes=t.nodes.map Tree.norm:=by
  intro n
  induction n with
  |zero=>intro t h;omega
  |succ n ih =>
   intro t h
   have ht:=zaf t
   have hl:∀(l:List Tree),lsize l<n→lnodes (l.map Tree.norm)=(lnodes l).map Tree.norm:=by
    intro l
    induction l with
    |nil=>intro _;rfl
    |cons u l ih2 =>
     intro hl
     simp only[lsize]at hl
     simp only[List.map_cons,lnodes,List.map_append,ih u (by omega),ih2 (by omega)]
   rw[zbn,zbn,zgc,List.map_cons,hl _ (by omega)]
 exact key _ t (Nat.lt_succ_self _)
theorem zafz (t:Tree):SameT t.norm t:=by
 have key:∀(n:Nat) (t:Tree),t.size<n→SameT t.norm t:=by
  intro n
  induction n with
  |zero=>intro t h;omega
  |succ n ih =>
   intro t h
   have ht:=zaf t
   obtain⟨a1,a2,a3⟩:=zie t
   rw[zio,zgc]
   refine⟨⟨a1,a2,a3,by rw[zgd,zaw]⟩,by simp,fun j a b ha hb=>?_⟩
   rw[List.getElem?_map,hb]at ha
   injection ha with ha
   subst ha
   have h1:=zam (List.mem_of_getElem? hb)
   exact ih b (by omega)
 exact key _ t (Nat.lt_succ_self _)
theorem zyr (t:Tree):t.norm.height=t.height:=(zafz t).height
end Go.Ideal
