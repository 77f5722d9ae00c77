/- MatchAll returns true for every input and leaves its arguments as they are; no condition. -/
import Derived.Test.YtjlnpggbekondaaGreatW8
import Derived.Test.YtjlnpggbekondaaGreatW7
import Derived.Test.YtjlnpggbekondaaGreatW6
import Derived.Test.YtjlnpggbekondaaGreatW2
import Derived.Test.YtjlnpggbekondaaGreatW3
import Derived.Test.YtjlnpggbekondaaGreatChecked
import Derived.Shelf.SlSortCmp.NoneTotal
import Derived.Test.YtjlnpggbekondaaGreatRows
import Derived.WalkKit
import Derived.ProofKit
import Derived.OpenShut
namespace Go.Ideal
open Go
set_option maxHeartbeats 4000000
set_option maxRecDepth 20000
attribute [-simp] getElem?_pos
section
variable {a b:Tree} {k0 ka kb kw:Nat}
theorem zacm (sb:b.size<=60) {L:J1} {H:J2} (h:WM a b L kw k0 ka kb H) (hP:PI a b L) (i j n:Nat) (k:Nat) (hkn:(kidsOf a i)[n]? = some k) (hk:k<a.size) (Q:J0)
 (h1:Shut a b L k (kidsOf b j)->Q .normal [(0, .v (J5 kw 0 0)),(3, .int .i64 i),(4, .v (.p (islice (kidsOf a i)))),(5, .v (.p (islice (kidsOf b j)))),(6, .int .i64 n)] ⟨[],H⟩)
 (h2:∀m q K,(kidsOf b j)[m]? = some q->frE L k q=true->kinT (subT a k) (subT b q)->Shut a b L k ((kidsOf b j).take m)->WM a b (L++[(k,q)]) kw k0 ka kb K->∀E B,lookE E 2 = .bool true->Q .ret E ⟨B,K⟩) :
 wpLoop (CW tr.look) 129 m_Q39_0 l_Q39_0 (blkK 4 b_Q39_4 Q) [(0, .v (J5 kw 0 0)),(3, .int .i64 i),(4, .v (.p (islice (kidsOf a i)))),(5, .v (.p (islice (kidsOf b j)))),(6, .int .i64 n),(7, .int .i64 0)] ⟨[],H⟩:=by
 have hupa:=zdu (kidsOf a i)
 have hupb:=zdu (kidsOf b j)
 have hlb:=zkb (kidsOf b j)
 have lx:=h.lx
 have ly:=h.ly
 have lm:=h.lm
 obtain⟨av,la,ua,hA⟩:=h.ga
 obtain⟨bv,lb,ub,hB⟩:=h.gb
 obtain⟨va,a1,a2⟩:=hA k hk hP.nx
 obtain⟨v,rest,_,_,_,_,_,_,hv,hsv,ixv⟩:=zji hk
 obtain⟨restk,ixk⟩:=zkc hkn
 have hkl:(kidsOf b j).length<=b.size:=by
  have:=BF (fun c=>decide (par b c=(j:Int))) (List.range b.size)
  simpa[kidsOf]using this
 refine zab (α:=Nat) (fun m=>[(0, .v (J5 kw 0 0)),(3, .int .i64 i),(4, .v (.p (islice (kidsOf a i)))),(5, .v (.p (islice (kidsOf b j)))),(6, .int .i64 n),(7, .int .i64 m)]) (fun _=>⟨[],H⟩)
  (fun m=>m<=(kidsOf b j).length/\Shut a b L k ((kidsOf b j).take m)) (fun m=>(kidsOf b j).length-m) ?_ 0 ⟨AU _,fun d hd=>by simp at hd⟩
 rintro m ⟨hm,hS⟩ R hR
 dsimp only[l_Q39_0]
 by_cases hml:m<(kidsOf b j).length
 ·have hlt:(m:Int)<((kidsOf b j).length:Int):=by omega
  obtain⟨q,hq⟩:∃q,(kidsOf b j)[m]? = some q:=⟨_,Ac hml⟩
  obtain⟨restq,ixq⟩:=zkc hq
  have hqb:=(zco.1 (Ao hq)).1
  obtain⟨w,restw,_,_,_,_,_,_,hw,hsw,ixw⟩:=zji hqb
  obtain⟨vb,x,b1,b2,b3⟩:=hB q hqb hP.nz
  have htk:(kidsOf b j).take (m+1)=(kidsOf b j).take m++[q]:=by rw[AE,hq];rfl
  have hnext:=fun(hne:¬(frE L k q=true/\kinT (subT a k) (subT b q)))=>hR (m+1) ⟨by omega,fun d hd=>by
   rw[htk]at hd
   rcases Ar.1 hd with hd|hd
   ·exact hS d hd
   ·simp at hd;subst hd;exact hne⟩ (by omega)
  cases ht:toN L k with
  |some z =>
   rw[ht]at a2
   have a2':loadVal ⟨[],H⟩ none (J5 ka va k)=some (J4 z):=a2
   have hz:¬(z:Int)<0:=by omega
   have hn:=hnext (fun hh=>by have:=hh.1;unfold frE at this;rw[ht]at this;simp at this)
   simp(disch:=omega) [hlb,lm,la,ua,ixk,a1,a2',zaa]
   exact hn
  |none =>
   rw[ht]at a2
   have a2':loadVal ⟨[],H⟩ none (J5 ka va k)=some (J4 (-1)):=a2
   have hfr:=zacl (k:=q) ht
   by_cases hx:0<=x
   ·have hx':¬x<0:=by omega
    have hn:=hnext (fun hh=>by have:=hh.1;rw[hfr,b3.1 hx]at this;cases this)
    simp(disch:=omega) [hlb,lm,la,ua,lb,ub,ixk,ixq,a1,a2',b1,b2,zaa]
    exact hn
   ·have hx':x<0:=by omega
    have hf:frE L k q=true:=by
     rw[hfr]
     cases hh:(byN L q).isNone with
     |true=>rfl
     |false=>exact absurd (b3.2 hh) hx
    have kin:=fun y1 y2 z1 z2 u1 u2=>zack v.t.kind w.t.kind v.t.name w.t.name y1 y2 z1 z2 u1 u2 H
    by_cases hkin:kinT v.t w.t
    ·obtain⟨hk1,hk2⟩:=hkin
     have hdec:(decide (v.t.kind=w.t.kind)&&decide (v.t.name=w.t.name))=true:=by simp[hk1,hk2]
     rw[hdec]at kin
     obtain⟨K,q1,q2⟩:=h.add hk hqb
     have hfin:=h2 m q K hq hf (by rw[hsv,hsw];exact⟨hk1,hk2⟩) hS q2
     simp(disch:=omega) [hlb,lx,ly,lm,la,ua,lb,ub,ixk,ixq,ixv,ixw,a1,a2',b1,b2,kin,zej,q1]
     exact hfin _ _ rfl
    ·have hdec:(decide (v.t.kind=w.t.kind)&&decide (v.t.name=w.t.name))=false:=by
      cases hh:(decide (v.t.kind=w.t.kind)&&decide (v.t.name=w.t.name))with
      |false=>rfl
      |true=>simp at hh;exact absurd hh hkin
     rw[hdec]at kin
     have hn:=hnext (fun hh=>hkin (by have:=hh.2;rw[hsv,hsw]at this;exact this))
     simp(disch:=omega) [hlb,lx,ly,lm,la,ua,lb,ub,ixk,ixq,ixv,ixw,a1,a2',b1,b2,kin,zej,zaa]
     exact hn
 ·obtain rfl:m=(kidsOf b j).length:=by omega
  rw[AT]at hS
  simp(disch:=omega) [hlb]
  exact h1 hS
theorem zalo (sa:a.size<=60) (sb:b.size<=60) {L:J1} {H:J2} (h:WM a b L kw k0 ka kb H) (hP:PI a b L) (i j:Nat) (hij:(i,j)∈L) (hKS:KidsShut a b L i) (Q:J0)
 (h1:(∀ c∈kidsOf a i,Shut a b L c (kidsOf b j))->Q .normal [(0, .v (J5 kw 0 0)),(3, .int .i64 i)] ⟨[],H⟩)
 (h2:∀L' K,DS a b L L'->WM a b L' kw k0 ka kb K->PI a b L'->∀E B,lookE E 2 = .bool true->Q .ret E ⟨B,K⟩) :
 wpLoop (CW tr.look) 129 m_Q39_1 l_Q39_1 (blkK 2 b_Q39_2 Q) [(0, .v (J5 kw 0 0)),(3, .int .i64 i),(4, .v (.p (islice (kidsOf a i)))),(5, .v (.p (islice (kidsOf b j)))),(6, .int .i64 0)] ⟨[],H⟩:=by
 have hupa:=zdu (kidsOf a i)
 have hupb:=zdu (kidsOf b j)
 have hla:=zkb (kidsOf a i)
 have hkl:(kidsOf a i).length<=a.size:=by
  have:=BF (fun c=>decide (par a c=(i:Int))) (List.range a.size)
  simpa[kidsOf]using this
 refine zab (α:=Nat) (fun n=>[(0, .v (J5 kw 0 0)),(3, .int .i64 i),(4, .v (.p (islice (kidsOf a i)))),(5, .v (.p (islice (kidsOf b j)))),(6, .int .i64 n)]) (fun _=>⟨[],H⟩)
  (fun n=>n<=(kidsOf a i).length/\∀c∈(kidsOf a i).take n,Shut a b L c (kidsOf b j)) (fun n=>(kidsOf a i).length-n) ?_ 0 ⟨AU _,fun d hd=>by simp at hd⟩
 rintro n ⟨hn,hS⟩ R hR
 dsimp only[l_Q39_1]
 by_cases hnl:n<(kidsOf a i).length
 ·have hlt:(n:Int)<((kidsOf a i).length:Int):=by omega
  obtain⟨k,hk⟩:∃k,(kidsOf a i)[n]? = some k:=⟨_,Ac hnl⟩
  have hka:=(zco.1 (Ao hk)).1
  have htk:(kidsOf a i).take (n+1)=(kidsOf a i).take n++[k]:=by rw[AE,hk];rfl
  simp(disch:=omega) [hla]
  refine zacm sb h hP i j n k hk hka _ (fun g1=>?_) fun m q K g1 g2 g3 g4 g5 E B hE=>?_
  ·have hr:=hR (n+1) ⟨by omega,fun c hc=>by
    rw[htk]at hc
    rcases Ar.1 hc with hc|hc
    ·exact hS c hc
    ·simp at hc;subst hc;exact g1⟩ (by omega)
   simp(disch:=omega) [zaa]
   exact hr
  ·have hqb:=(zco.1 (Ao g1)).1
   have hfin:=h2 _ K ⟨i,j,n,k,m,q,hij,hk,g1,g2,g3,rfl,hKS,hS,g4⟩ g5 (hP.add hka hqb g2 g3) E B hE
   simp(disch:=omega) []
   exact hfin
 ·obtain rfl:n=(kidsOf a i).length:=by omega
  rw[AT]at hS
  simp(disch:=omega) [hla]
  exact h1 hS
theorem KidsShut.next {L:J1} {i:Nat} (hn:(L.map (·.1)).Nodup) (h:KidsShut a b L i) (g:∀j,toN L i=some j->∀c∈kidsOf a i,Shut a b L c (kidsOf b j)):KidsShut a b L (i+1):=fun p hp hi c hc=>by
 by_cases e:p.1=i
 ·have:=g p.2 ((zef hn).2 (by rw[<- e];exact hp))
  rw[e]at hc
  exact this c hc
 ·exact h p hp (by omega) c hc
def RDownQ (a b:Tree) (L:J1) (kw k0 ka kb:Nat) (H:J2) (r:IVal) (H':J2):Prop :=
 (r = .p (.bool false)/\H'=H/\KidsShut a b L a.size)\/(r = .p (.bool true)/\∃L',DS a b L L'/\WM a b L' kw k0 ka kb H'/\PI a b L')
theorem zaql (sa:a.size<=60) (sb:b.size<=60) {L:J1} {H:J2} (h:WM a b L kw k0 ka kb H) (hP:PI a b L):∃r H',CW tr.look F_Q39 [J5 kw 0 0] H=some (r,H')/\RDownQ a b L kw k0 ka kb H r H':=by
 have lx:=h.lx
 have ly:=h.ly
 have lm:=h.lm
 obtain⟨av,la,ua,hA⟩:=h.ga
 refine zat look_Q39 rfl rfl ?_
 dsimp only[i_Q39,c_Q39]
 simp(disch:=omega) []
 refine zab (α:=Nat) (fun i=>[(0, .v (J5 kw 0 0)),(3, .int .i64 i)]) (fun _=>⟨[],H⟩)
  (fun i=>i<=a.size/\KidsShut a b L i) (fun i=>a.size-i) ?_ 0 ⟨AU _,fun p _ h=>by omega⟩
 rintro i ⟨hi,hK⟩ R hR
 dsimp only[l_Q39_2]
 by_cases hil:i<a.size
 ·have hlt:(i:Int)<(a.size:Int):=by omega
  obtain⟨va,a1,a2⟩:=hA i hil hP.nx
  cases ht:toN L i with
  |none =>
   rw[ht]at a2
   have a2':loadVal ⟨[],H⟩ none (J5 ka va i)=some (J4 (-1)):=a2
   have hr:=hR (i+1) ⟨by omega,hK.next hP.nx fun j hj=>by rw[ht]at hj;cases hj⟩ (by omega)
   simp(disch:=omega) [lx,lm,la,ua,a1,a2',zaa]
   exact hr
  |some j =>
   rw[ht]at a2
   have a2':loadVal ⟨[],H⟩ none (J5 ka va i)=some (J4 j):=a2
   have hj0:¬(j:Int)<0:=by omega
   have hij:=(zef hP.nx).1 ht
   have hjb:=(hP.ok _ hij).2.1
   have kA:=zaep a sa i hil H
   have kB:=zaep b sb j hjb H
   have hupa:=zdu (kidsOf a i)
   have hupb:=zdu (kidsOf b j)
   simp(disch:=omega) [lx,ly,lm,la,ua,a1,a2',kA,kB,hupa,hupb]
   refine⟨by rintro rfl;simp[idxS]at a1,?_⟩
   refine zalo sa sb h hP i j hij hK _ (fun g1=>?_) fun L' K g1 g2 g3 E B hE=>?_
   ·have hr:=hR (i+1) ⟨by omega,hK.next hP.nx fun j' hj'=>by rw[ht]at hj';injection hj' with hj';subst hj';exact g1⟩ (by omega)
    simp(disch:=omega) [zaa]
    exact hr
   ·simp(disch:=omega) [hE]
    exact .inr ⟨rfl,L',g1,g2,g3⟩
 ·obtain rfl:i=a.size:=by omega
  simp(disch:=omega) [lx]
  exact .inl ⟨rfl,rfl,hK⟩
end
theorem zalp {n:Nat} {L M:J1} (hn:(L.map (·.1)).Nodup) (hp:M.Perm L):mapA n L=mapA n M:=by
 have hm:=(hp.map (·.1)).nodup_iff.2 hn
 refine Bt fun i=>?_
 by_cases hi:i<n
 ·rcases zjy L hn i hi with⟨j,h1,h2⟩|⟨h1,h2⟩<;>rcases zjy M hm i hi with⟨j',g1,g2⟩|⟨g1,g2⟩
  ·have:=(zef hn).2 h1
   have:=(zef hn).2 (hp.mem_iff.1 g1)
   simp_all
  ·exact absurd (AF.2 ⟨_,hp.mem_iff.2 h1,rfl⟩) g1
  ·exact absurd (AF.2 ⟨_,hp.mem_iff.1 g1,rfl⟩) h1
  ·rw[h2,g2]
 ·rw[AR (by rw[zff];omega),AR (by rw[zff];omega)]
theorem zalq {n:Nat} {L M:J1} (hn:(L.map (·.2)).Nodup) (hp:M.Perm L):mapB n L=mapB n M:=by
 have hm:=(hp.map (·.2)).nodup_iff.2 hn
 have key:∀(l:J1),(l.map (·.2)).Nodup->∀i i' j,(i,j)∈l->(i',j)∈l->i=i':=by
  intro l
  induction l with
  |nil=>intro _ i i' j h;simp at h
  |cons x l ih =>
   intro hnd i i' j h1 h2
   obtain⟨n1,n2⟩:=Bn.1 hnd
   rcases Ak.1 h1 with e1|h1'<;>rcases Ak.1 h2 with e2|h2'
   ·rw[<- e1]at e2;injection e2 with e2;exact e2.symm
   ·subst e1;exact absurd (AF.2 ⟨(i',j),h2',rfl⟩:j∈l.map (·.2)) n1
   ·subst e2;exact absurd (AF.2 ⟨(i,j),h1',rfl⟩:j∈l.map (·.2)) n1
   ·exact ih n2 i i' j h1' h2'
 refine Bt fun i=>?_
 by_cases hi:i<n
 ·rcases zpk L hn i hi with⟨j,h1,h2⟩|⟨h1,h2⟩<;>rcases zpk M hm i hi with⟨j',g1,g2⟩|⟨g1,g2⟩
  ·rw[h2,g2,key L hn j j' i h1 (hp.mem_iff.1 g1)]
  ·exact absurd (AF.2 ⟨_,hp.mem_iff.2 h1,rfl⟩) g1
  ·exact absurd (AF.2 ⟨_,hp.mem_iff.1 g1,rfl⟩) h1
  ·rw[h2,g2]
 ·rw[AR (by rw[zhr];omega),AR (by rw[zhr];omega)]
theorem PI.len {a b:Tree} {L:J1} (h:PI a b L):L.length<=a.size:=by
 have:=zfx a.size _ h.nx (fun x hx=>by obtain⟨p,hp,rfl⟩:=AF.1 hx;exact(h.ok p hp).1)
 simpa using this
theorem zzr {a b:Tree} {kw k0 ka kb:Nat} (fa:Fine a) (fb:Fine b) (sa:a.size<=60) (sb:b.size<=60) {P:J1} (hP:PI a b P) (N:List Nat) (hN:∀i∈N,i<a.size) (hNl:N.length<=60) {H1:J2} (hM:WM a b P kw k0 ka kb H1) (Q:J0)
 (hQ:∀K,WM a b (N.foldl (upN a b) P) kw k0 ka kb K->PI a b (N.foldl (upN a b) P)->Q .normal [(5, .v (J5 kw 0 0))] ⟨[],K⟩) :
 wpLoop (CW tr.look) 73 m_Q10_0 l_Q10_0 (blkK 0 b_Q10_0 Q) [(5, .v (J5 kw 0 0)),(6, .v (.p (nval N))),(7, .int .i64 0)] ⟨[],H1⟩:=by
 have hup:up (.p (nval N)) = .v (.p (nval N)):=rfl
 have hln:sliceLen (.p (nval N))=some N.length:=rfl
 refine zab (α:=Nat×J2) (fun s=>[(5, .v (J5 kw 0 0)),(6, .v (.p (nval N))),(7, .int .i64 s.1)]) (fun s=>⟨[],s.2⟩)
  (fun s=>s.1<=N.length/\WM a b ((N.take s.1).foldl (upN a b) P) kw k0 ka kb s.2/\PI a b ((N.take s.1).foldl (upN a b) P)) (fun s=>N.length-s.1) ?_ (0,H1) ⟨AU _,hM,hP⟩
 rintro⟨k,K⟩ ⟨hk,hK,hI⟩ R hR
 dsimp only at hk hK hI hR ⊢
 dsimp only[l_Q10_0]
 by_cases hkl:k<N.length
 ·have hlt:(k:Int)<(N.length:Int):=by omega
  obtain⟨i,hi⟩:∃i,N[k]? = some i:=⟨_,Ac hkl⟩
  obtain⟨rest,ix⟩:=zzg hi
  have htk:(N.take (k+1)).foldl (upN a b) P=upN a b ((N.take k).foldl (upN a b) P) i:=by rw[AE,hi,BY];rfl
  obtain⟨K',u1,u2,u3⟩:=zbck fa fb hK hI sa sb i (hN i (Ao hi))
  have hn:=hR (k+1,K') ⟨by dsimp only;omega,by dsimp only;rw[htk];exact u2,by dsimp only;rw[htk];exact u3⟩ (by dsimp only;omega)
  simp(disch:=omega) [hln,ix,u1,zaa]
  exact hn
 ·obtain rfl:k=N.length:=by omega
  rw[AT]at hK hI
  simp(disch:=omega) [hln]
  exact hQ K hK hI
theorem zoy {a b:Tree} {kw k0 ka kb:Nat} (sa:a.size<=60) (sb:b.size<=60) (S:J1) {P:J1} (hP:PI a b P) (hS:DSs a b S P) {H1:J2} (hM:WM a b P kw k0 ka kb H1) (Q:J0)
 (hQ:∀L K,WM a b L kw k0 ka kb K->PI a b L->DSs a b S L->KidsShut a b L a.size->Q .normal [(5, .v (J5 kw 0 0))] ⟨[],K⟩) :
 wpLoop (CW tr.look) 73 m_Q10_1 l_Q10_1 (blkK 2 b_Q10_2 Q) [(5, .v (J5 kw 0 0))] ⟨[],H1⟩:=by
 refine zab (α:=J1×J2) (fun s=>[(5, .v (J5 kw 0 0))]) (fun s=>⟨[],s.2⟩)
  (fun s=>WM a b s.1 kw k0 ka kb s.2/\PI a b s.1/\DSs a b S s.1) (fun s=>a.size-s.1.length) ?_ (P,H1) ⟨hM,hP,hS⟩
 rintro⟨L,K⟩ ⟨hK,hI,hD⟩ R hR
 dsimp only at hK hI hD hR ⊢
 dsimp only[l_Q10_1]
 obtain⟨r,K',e1,e2⟩:=zaql sa sb hK hI
 rcases e2 with⟨rfl,rfl,hC⟩|⟨rfl,L',d1,d2,d3⟩
 ·simp(disch:=omega) [e1]
  exact hQ L K' hK hI hD hC
 ·have hlen:L'.length=L.length+1:=by obtain⟨_,_,_,_,_,_,_,_,_,_,_,rfl,_⟩:=d1;simp
  have hle:=d3.len
  have hn:=hR (L',K') ⟨d2,d3,hD.snoc d1⟩ (by dsimp only;omega)
  simp(disch:=omega) [e1]
  exact hn
theorem zaqm {a b:Tree} (ca:checkB a=true) (cb:checkB b=true):kinT (subT a 0) (subT b 0):=by
 have oa:=zac a
 have ob:=zac b
 have e1:=(zen ca (i:=0) (by omega)).2 rfl
 have e2:=(zen cb (i:=0) (by omega)).2 rfl
 refine⟨by rw[e1,e2],?_⟩
 rw[zfw,zfw]
 simp only[checkB,Al,decide_eq_true_eq]at ca cb
 rw[ca.1.1.2.1,cb.1.1.2.1]
theorem DSs.mem {a b:Tree} {L M:J1} {p:Nat×Nat} (hp:p∈L) (h:DSs a b L M):p∈M:=by
 induction h with
 |refl=>exact hp
 |snoc _ g ih=>obtain⟨_,_,_,_,_,_,_,_,_,_,_,rfl,_⟩:=g;exact Ba _ ih
theorem zalr (a b:Tree) (fa:Fine a) (fb:Fine b) (ca:checkB a=true) (cb:checkB b=true) (sa:a.size<=60) (sb:b.size<=60) (hal:PI a b (sortP (alikeN a b 2))) :
 ∃pv L,PV pv (sortP L)/\MFX a b L/\∀H,CW tr.look F_Q10 [tagg a,tagg b] H=some (.p pv,H):=by
 have h1:=zha a fa.1
 have h2:=zha b fb.1
 rw[ca]at h1
 rw[cb]at h2
 have f1:=zcx a fa
 have f2:=zcx b fb
 have hpo:=zoa a fa
 have oa:=zac a
 have ob:=zac b
 have hsp:=zaw (alikeN a b 2)
 have nx:=(hsp.map (·.1)).nodup_iff.1 hal.nx
 have nz:=(hsp.map (·.2)).nodup_iff.1 hal.nz
 suffices hh:∃r,CW tr.look F_Q10 [tagg a,tagg b] []=some (r,[])/\∃pv L,r = .p pv/\PV pv (sortP L)/\MFX a b L by
  obtain⟨r,g1,pv,L,rfl,g2,g3⟩:=hh
  exact⟨pv,L,g2,g3,fun H=>zns look_Q10 rfl (by simp) g1⟩
 obtain⟨H1,e1,ka,kb,e2,e3⟩:=zakr a b fa fb 2 []
 rw[zalp nx hsp,zalq nz hsp]at e3
 have hne:=e3
 obtain⟨av0,bv0,hb0,hs1,hs2,ne1,ne2,ne3⟩:=hne
 have l0:=(Aa.1 hb0).1
 have l1:=hs1.lt
 have l2:=hs2.lt
 obtain⟨H2,hH2⟩:∃H2,H1++[.cells [.p (rval a), .p (rval b), J5 0 0 0] 3 0 false]=H2:=⟨_,rfl⟩
 have hW:WM a b (sortP (alikeN a b 2)) H1.length 0 ka kb H2:=by
  have kp:∀x,x<H1.length->H2[x]? = H1[x]? := fun x hx=>by rw[<- hH2,Ab hx]
  refine⟨by rw[<- hH2];exact zaz,⟨av0,bv0,?_,hs1.keep (kp _ l1),hs2.keep (kp _ l2),ne1,ne2,ne3⟩,?_,by omega,by omega⟩
  ·rw[kp 0 l0];exact hb0
  ·have:(0:Nat)<H1.length:=l0
   omega
 refine zfk look_Q10 rfl (zbn (by simp)) rfl ?_
 dsimp only[i_Q10,c_Q10]
 have e1':CW tr.look F_Q35 [tagg a,tagg b, J4 2] []=some (J5 0 0 0,H1):=e1
 simp(disch:=omega) [zad,h1,h2,f1,f2,e1',hpo,hH2]
 refine zzr fa fb sa sb hal (postT a 0) (fun i hi=>zaeh hi) (by rw[zal];exact sa) hW _ fun K1 hK1 hI1=>?_
 have hst:startN a b=topN ((postT a 0).foldl (upN a b) (sortP (alikeN a b 2))):=rfl
 generalize (postT a 0).foldl (upN a b) (sortP (alikeN a b 2))=L1 at *
 have lm:=hK1.lm
 obtain⟨av,la,ua,hA⟩:=hK1.ga
 obtain⟨bv,lb,ub,hB⟩:=hK1.gb
 obtain⟨va,a1,a2⟩:=hA 0 (by omega) hI1.nx
 obtain⟨vb,x,b1,b2,b3⟩:=hB 0 (by omega) hI1.nz
 have a1':idxS 1 av (J4 0)=some (J5 ka va 0):=a1
 have b1':idxS 1 bv (J4 0)=some (J5 kb vb 0):=b1
 have hav:¬av = .undef:=by rintro rfl;simp[idxS]at a1
 have fin:∀L K2,WM a b L H1.length 0 ka kb K2->PI a b L->DSs a b (startN a b) L->KidsShut a b L a.size->(0,0)∈L->∃K3 lv,CW tr.look F_Q40 [J5 0 0 0] K2=some (lv,K3)/\up lv = .v lv/\lv.passOK=true/\lv.passOK=true/\∃r,freezeRes K3 lv=some r/\∃pv L,r = .p pv/\PV pv (sortP L)/\MFX a b L:=by
  intro L K2 k1 k2 k3 k4 k0
  obtain⟨K3,lv,p1,p2,p3,⟨pv,p4,p5⟩,_⟩:=zakv k1.m (by rw[zff];omega)
  rw[zff,zakn k2.nx (fun p hp=>(k2.ok p hp).1)]at p5
  refine⟨K3,lv,p1,p2,p3,p3, .p pv,?_,pv,L,rfl,p5,k2,k0,k4,k3⟩
  cases lv with
  |tup l=>simp[freezeOne,freezeCell]at p4
  |_=>exact p4
 cases hf:frE L1 0 0 with
 |false =>
  unfold topN at hst
  rw[hf]at hst
  have hst:startN a b=L1:=hst
  have hroot:=ztu ca cb hI1 hf
  have ht:=(zef hI1.nx).2 hroot
  rw[ht]at a2
  have a2':loadVal ⟨[],K1⟩ none (J5 ka va 0)=some (J4 0):=a2
  simp(disch:=omega) [lm,la,ua,a1',a2']
  refine zoy sa sb (startN a b) hI1 (by rw[hst];exact .refl) hK1 _ fun L K2 k1 k2 k3 k4=>?_
  obtain⟨K3,lv,p1,p2,p3,p4⟩:=fin L K2 k1 k2 k3 k4 (DSs.mem (by rw[<- hst]at hroot;exact hroot) k3)
  have lm2:=k1.lm
  simp(disch:=omega) [lm2,p1,p2,p3]
  obtain⟨_,r,z1,pv,L',z2,z3⟩:=p4
  exact⟨r,z1,pv,z2,L',z3⟩
 |true =>
  unfold topN at hst
  rw[hf]at hst
  have hst:startN a b=L1++[(0,0)]:=hst
  have hk0:=zaqm ca cb
  have hI2:=hI1.add (by omega) (by omega) hf hk0
  obtain⟨K2,q1,q2⟩:=hK1.add (i:=0) (j:=0) (by omega) (by omega)
  have q1':CW tr.look F_Q38 [J5 0 0 0, J4 0, J4 0] K1=some (.tup [],K2):=q1
  have ht:toN L1 0=none:=by
   unfold frE at hf
   cases h:toN L1 0 with
   |none=>rfl
   |some x=>rw[h]at hf;simp at hf
  rw[ht]at a2
  have a2':loadVal ⟨[],K1⟩ none (J5 ka va 0)=some (J4 (-1)):=a2
  have hx:x<0:=by
   refine Bd fun hx=>?_
   have:=b3.1 (by omega)
   rw[zacl ht,this]at hf
   cases hf
  simp(disch:=omega) [lm,la,ua,lb,ub,a1',a2',b1',b2,q1']
  refine zoy sa sb (startN a b) hI2 (by rw[hst];exact .refl) q2 _ fun L K3 k1 k2 k3 k4=>?_
  obtain⟨K4,lv,p1,p2,p3,p4⟩:=fin L K3 k1 k2 k3 k4 (DSs.mem (by rw[hst];simp) k3)
  have lm2:=k1.lm
  simp(disch:=omega) [lm2,p1,p2,p3]
  obtain⟨_,r,z1,pv,L',z2,z3⟩:=p4
  exact⟨r,z1,pv,z2,L',z3⟩
theorem DS.det {a b:Tree} {L L1 L2:J1} (hn:(L.map (·.1)).Nodup) (h:DS a b L L1) (g:DS a b L L2):L1=L2:=by
 obtain⟨i,j,n,k,m,q,h1,h2,h3,h4,h5,rfl,h6,h7,h8⟩:=h
 obtain⟨i',j',n',k',m',q',g1,g2,g3,g4,g5,rfl,g6,g7,g8⟩:=g
 have ei:i=i':=by
  rcases Di i i' with h|h|h
  ·exact absurd ⟨h4,h5⟩ (g6 _ h1 h k (Ao h2) q (Ao h3))
  ·exact h
  ·exact absurd ⟨g4,g5⟩ (h6 _ g1 h k' (Ao g2) q' (Ao g3))
 subst ei
 have ej:j=j':=by
  have e1:=(zef hn).2 h1
  have e2:=(zef hn).2 g1
  rw[e1]at e2;injection e2
 subst ej
 have take_mem:∀ {l:List Nat} {x y c:Nat},l[x]? = some c->x<y->c∈l.take y:=fun {l x y c} h hl=>by
  refine Ao (i:=x) ?_
  rw[BO hl];exact h
 have en:n=n':=by
  rcases Di n n' with h|h|h
  ·exact absurd ⟨h4,h5⟩ (g7 k (take_mem h2 h) q (Ao h3))
  ·exact h
  ·exact absurd ⟨g4,g5⟩ (h7 k' (take_mem g2 h) q' (Ao g3))
 subst en
 have ek:k=k':=by rw[h2]at g2;injection g2
 subst ek
 have em:m=m':=by
  rcases Di m m' with h|h|h
  ·exact absurd ⟨h4,h5⟩ (g8 q (take_mem h3 h))
  ·exact h
  ·exact absurd ⟨g4,g5⟩ (h8 q' (take_mem g3 h))
 subst em
 have eq:q=q':=by rw[h3]at g3;injection g3
 subst eq
 rfl
theorem DS.open {a b:Tree} {L L':J1} (hI:PI a b L) (h:DS a b L L'):¬KidsShut a b L a.size:=fun hK=>by
 obtain⟨i,j,n,k,m,q,h1,h2,h3,h4,h5,_⟩:=h
 exact hK _ h1 (hI.ok _ h1).1 k (Ao h2) q (Ao h3) ⟨h4,h5⟩
theorem DS.len {a b:Tree} {L L':J1} (h:DS a b L L'):L'.length=L.length+1:=by
 obtain⟨_,_,_,_,_,_,_,_,_,_,_,rfl,_⟩:=h;simp
inductive DSf (a b:Tree):J1->J1->Prop
 |refl {L}:DSf a b L L
 |cons {L L1 L2} (h:DS a b L L1) (g:DSf a b L1 L2):DSf a b L L2
theorem DSf.snoc {a b:Tree} {L L1 L2:J1} (h:DSf a b L L1) (g:DS a b L1 L2):DSf a b L L2:=by
 induction h with
 |refl=>exact .cons g .refl
 |cons h _ ih=>exact .cons h (ih g)
theorem DSs.front {a b:Tree} {L M:J1} (h:DSs a b L M):DSf a b L M:=by
 induction h with
 |refl=>exact .refl
 |snoc _ g ih=>exact ih.snoc g
theorem DS.pi {a b:Tree} {L L':J1} (hI:PI a b L) (h:DS a b L L'):PI a b L':=by
 obtain⟨i,j,n,k,m,q,h1,h2,h3,h4,h5,rfl,_⟩:=h
 exact hI.add (zco.1 (Ao h2)).1 (zco.1 (Ao h3)).1 h4 h5
theorem DSf.det {a b:Tree} {S L:J1} (h:DSf a b S L):∀ {M},DSf a b S M->PI a b S->KidsShut a b L a.size->KidsShut a b M a.size->L=M:=by
 induction h with
 |refl =>
  intro M g hI h1 h2
  cases g with
  |refl=>rfl
  |cons g _=>exact absurd h1 (g.open hI)
 |cons h _ ih =>
  intro M g hI h1 h2
  cases g with
  |refl=>exact absurd h2 (h.open hI)
  |cons g g' =>
   have:=DS.det hI.nx h g
   subst this
   exact ih g' (h.pi hI) h1 h2
theorem PI.front {a b:Tree} {S X:J1} (h:PI a b (S++X)):PI a b S:=by
 refine⟨?_,?_,fun p hp=>h.ok p (Ba _ hp)⟩
 ·have:=h.nx;rw[Ay]at this;exact(Bb.1 this).1
 ·have:=h.nz;rw[Ay]at this;exact(Bb.1 this).1
theorem MFX.one {a b:Tree} {L M:J1} (h:MFX a b L) (g:MFX a b M):L=M:=by
 obtain⟨X,hX⟩:=h.ds.zru
 have hS:PI a b (startN a b):=by have:=h.pi;rw[hX]at this;exact this.front
 exact h.ds.front.det g.ds.front hS h.shut g.shut
section
variable {L:J1} {a b:Tree}
theorem zhu {t:Tree} {i:Nat} (hi:i<t.size):kidsOf t.norm i=kidsOf t i:=by
 rw[zrt (by rw[zap];exact hi),zrt hi]
 unfold kidN
 rw[zbh,zct,A4]
 refine Ci fun j _=>?_
 rw[<- List.map_take,zfn]
theorem zpl {t u:Tree}:kinT t.norm u.norm↔kinT t u:=by
 unfold kinT
 obtain⟨a1,a2,_⟩:=zbl t
 obtain⟨b1,b2,_⟩:=zbl u
 rw[a1,a2,b1,b2]
theorem zaeq (b:Tree) (L:J1) (q i n:Nat):comN b.norm L q i n=comN b L q i n:=by
 have:hitB b.norm L q=hitB b L q:=by
  funext k
  unfold hitB
  rw[zbh,zap]
 unfold comN
 rw[this]
theorem zaer (a b:Tree) (i j:Nat):sumN a.norm b.norm i j=sumN a b i j:=by
 unfold sumN
 rw[zbh,zbh,zap,zap]
theorem zahd (a b:Tree) (L:J1) (i:Nat):bstep a.norm b.norm L i=bstep a b L i:=by
 funext acc j
 unfold bstep
 simp only[zaeq,zaer,zbh,zap,zpl]
theorem zals (a b:Tree) (L:J1) (i:Nat):bestN a.norm b.norm L i=bestN a b L i:=by
 unfold bestN bfold
 rw[zahd,zap]
 simp only[zaeq,zaer,zbh,zap]
theorem zalt (s t:Tree):mapN s.norm t.norm=mapN s t:=by
 unfold mapN
 rw[zap,zap,zzq]
theorem zaqn (a b:Tree):upN a.norm b.norm=upN a b:=by
 funext L i
 unfold upN smallN
 simp only[zals,zbh,zalt]
theorem zahe (a b:Tree):startN a.norm b.norm=startN a b:=by
 unfold startN
 rw[zaqn,zabz,zob]
theorem zawn:PI a.norm b.norm L↔PI a b L:=by
 have key:∀p:Nat×Nat,(p.1<a.norm.size/\p.2<b.norm.size/\kinT (subT a.norm p.1) (subT b.norm p.2))↔(p.1<a.size/\p.2<b.size/\kinT (subT a p.1) (subT b p.2)):=fun p=>by
  rw[zap,zap,zbh,zbh,zpl]
 exact⟨fun h=>⟨h.nx,h.nz,fun p hp=>(key p).1 (h.ok p hp)⟩,fun h=>⟨h.nx,h.nz,fun p hp=>(key p).2 (h.ok p hp)⟩⟩
theorem zsb {c:Nat} {D:List Nat}:Shut a.norm b.norm L c D↔Shut a b L c D:=by
 unfold Shut
 simp only[zbh,zpl]
theorem ztw (hI:PI a b L) {n:Nat} (h:KidsShut a.norm b.norm L n):KidsShut a b L n:=fun p hp hn c hc=>by
 obtain⟨h1,h2,_⟩:=hI.ok p hp
 have:=h p hp hn c (by rw[zhu h1];exact hc)
 rw[zhu h2]at this
 exact zsb.1 this
theorem zawo {L':J1} (hI:PI a b L) (h:DS a.norm b.norm L L'):DS a b L L':=by
 obtain⟨i,j,n,k,m,q,h1,h2,h3,h4,h5,h6,h7,h8,h9⟩:=h
 obtain⟨i1,i2,_⟩:=hI.ok _ h1
 rw[zhu i1]at h2 h8
 rw[zhu i2]at h3 h8 h9
 rw[zbh,zbh,zpl]at h5
 exact⟨i,j,n,k,m,q,h1,h2,h3,h4,h5,h6,ztw hI h7,fun c hc=>zsb.1 (h8 c hc),zsb.1 h9⟩
theorem zaqo {S:J1} (hI:PI a b S) (h:DSs a.norm b.norm S L):DSs a b S L/\PI a b L:=by
 induction h with
 |refl=>exact⟨.refl,hI⟩
 |snoc _ g ih =>
  have:=zawo ih.2 g
  exact⟨ih.1.snoc this,this.pi ih.2⟩
theorem zaqp (h:MFX a.norm b.norm L):MFX a b L:=by
 have hI:=zawn.1 h.pi
 have hd:=h.ds
 rw[zahe]at hd
 obtain⟨X,hX⟩:=hd.zru
 have hS:PI a b (startN a b):=by have:=hI;rw[hX]at this;exact this.front
 have hs:=ztw hI h.shut
 rw[zap]at hs
 exact⟨hI,h.root,hs,(zaqo hS hd).1⟩
end
def pc2 (p:Int×Int):List PVal:=[.int .i64 p.1, .int .i64 p.2]
def PW (v:PVal) (L:List (Int×Int)):Prop:=v = .nilslice/\L=[]\/v = .slice 2 L.length (L.flatMap pc2)
theorem zalu:∀L:List (Int×Int),(L.flatMap pc2).length=L.length*2
 | []=>rfl
 |p::L=>by rw[AD,Af,zalu L];show 2+_=_;simp;omega
theorem PW.len {v:PVal} {L:List (Int×Int)} (h:PW v L):sliceLen (.p v)=some L.length:=by
 rcases h with⟨rfl,rfl⟩|rfl<;>rfl
theorem PW.up {v:PVal} {L:List (Int×Int)} (h:PW v L):up (.p v) = .v (.p v):=by
 rcases h with⟨rfl,rfl⟩|rfl<;>rfl
theorem zaqq {L:List (Int×Int)} {j:Nat} {p:Int×Int} (h:L[j]? = some p):(L.flatMap pc2).drop (j*2) = .int .i64 p.1 :: .int .i64 p.2::(L.flatMap pc2).drop (j*2+2):=by
 induction L generalizing j with
 |nil=>simp at h
 |cons q L ih =>
  cases j with
  |zero =>
   simp only[AK,Ag]at h
   subst h;rfl
  |succ j =>
   rw[Ax]at h
   rw[AD,show(j+1)*2=j*2+2 by omega]
   show(L.flatMap pc2).drop (j*2)=_::_::(L.flatMap pc2).drop (j*2+2)
   exact ih h
theorem PW.idx {v:PVal} {L:List (Int×Int)} (h:PW v L) {j:Nat} {p:Int×Int} (hj:L[j]? = some p):∃r,idxS 2 (.p v) (J4 j)=some (.p (.ptr (.int .i64 p.1 :: .int .i64 p.2::r))):=by
 have hl:=(Aa.1 hj).1
 rcases h with⟨rfl,rfl⟩|rfl
 ·simp at hl
 ·exact⟨_,by rw[zcm hl,zaqq hj]⟩
def kinI (a b:Tree) (p:Int×Int):Bool:=decide ((subT a p.1.toNat).kind=(subT b p.2.toNat).kind)&&decide ((subT a p.1.toNat).name=(subT b p.2.toNat).name)
def okP (a b:Tree) (last:Int) (seen:List Int) (p:Int×Int):Bool :=
 decide (last<p.1)&&(decide (p.1<a.size)&&(decide (0<=p.2)&&(decide (p.2<b.size)&&(decide (p.2∉seen)&&kinI a b p))))
def goodB (a b:Tree):Int->List Int->List (Int×Int)->Bool
 |_,_,[]=>true
 |last,seen,p::r=>okP a b last seen p&&goodB a b p.1 (seen++[p.2]) r
def checkM (a b:Tree) (L:List (Int×Int)):Bool:=checkB a&&(checkB b&&(decide (L.head? = some (0,0))&&goodB a b (-1) [] L))
def lstI (l:List (Int×Int)):Int:=match l.getLast? with
 |some p=>p.1
 |none => -1
theorem znc (l:List (Int×Int)) (p:Int×Int):lstI (l++[p])=p.1:=by simp[lstI]
theorem zzs (a b:Tree) (L:List (Int×Int)):∀ {j:Nat} {p:Int×Int},L[j]? = some p->goodB a b (lstI (L.take j)) ((L.take j).map (·.2)) (L.drop j)=(okP a b (lstI (L.take j)) ((L.take j).map (·.2)) p&&goodB a b (lstI (L.take (j+1))) ((L.take (j+1)).map (·.2)) (L.drop (j+1))):=by
 intro j p h
 obtain⟨hl,he⟩:=Aa.1 h
 rw[As hl,goodB,he,AE,h]
 simp only[Cq,Ay,Aq,BG,znc]
def thI (S:List Int):List (Int×IVal):=S.map fun x=>(x, .p (.bool true))
theorem zaqr (x:Int):∀S:List Int,(mget (thI S) x).getD (.p (.bool false)) = .p (.bool (decide (x∈S))):=by
 have key:∀(S:List Int) (n:Nat),((mfind x (thI S) n).map (·.2)).getD (.p (.bool false)) = .p (.bool (decide (x∈S))):=by
  intro S
  induction S with
  |nil=>intro n;simp[thI,mfind]
  |cons y S ih =>
   intro n
   simp only[thI,Aq,mfind]
   by_cases h:y=x
   ·subst h;simp
   ·simp only[h,if_false]
    have:=ih (n+1)
    simp only[thI]at this
    rw[this]
    have hne:¬x=y:=fun e=>h e.symm
    simp[hne]
 exact fun S=>key S 0
theorem zwa {x:Int} {S:List Int} (h:x∉S):mget (thI S) x=none:=by
 have key:∀(S:List Int) (n:Nat),x∉S->mfind x (thI S) n=none:=by
  intro S
  induction S with
  |nil=>intro n _;rfl
  |cons y S ih =>
   intro n h
   simp only[thI,Aq,mfind]
   rw[if_neg (fun e=>h (by rw[e];simp))]
   exact ih (n+1) fun hh=>h (An _ hh)
 unfold mget
 rw[key S 0 h];rfl
theorem zalv (a b:Tree):∀(L:List (Int×Int)) (last:Int) (S:List Int), -1<=last->goodB a b last S L=true->∀p∈L,last<p.1
 | [],_,_,_,_,p,hp=>by simp at hp
 |q::L,last,S,h0,h,p,hp=>by
  simp only[goodB,Al,okP,decide_eq_true_eq]at h
  rcases Ak.1 hp with rfl|hp
  ·exact h.1.1
  ·have:=zalv a b L q.1 _ (by omega) h.2 p hp
   have:=h.1.1
   omega
theorem zacn (a b:Tree) (fa:Fine a) (fb:Fine b) (ca:checkB a=true) (cb:checkB b=true) {pv:PVal} {L:List (Int×Int)} (hpv:PW pv L) (h0:L.head? = some (0,0)) (hlb:L.length<2000000) (H:J2) :
 CW tr.look F_Q11 [tagg a,tagg b, .p pv] H=some (.p (.bool (goodB a b (-1) [] L)),H):=by
 have h1:=zbx a fa.1
 have h2:=zbx b fb.1
 rw[ca]at h1
 rw[cb]at h2
 have f1:=zby a fa
 have f2:=zby b fb
 have hup:=hpv.up
 have hln:=hpv.len
 have hz:L[0]? = some (0,0):=by rw[<- List.head?_eq_getElem?];exact h0
 obtain⟨r0,ix0⟩:=hpv.idx hz
 have ix0':idxS 2 (.p pv) (J4 0)=some (.p (.ptr (.int .i64 0 :: .int .i64 0::r0))):=ix0
 have hl0:0<L.length:=(Aa.1 hz).1
 have hnil:¬L=[]:=fun e=>by rw[e]at hl0;simp at hl0
 have hfa:=fa.1
 have hfb:=fb.1
 obtain⟨G,hG⟩:∃G,goodB a b (-1) [] L=G:=⟨_,rfl⟩
 rw[hG]
 refine zaj look_Q11 rfl (by simp) rfl ?_
 dsimp only[i_Q11,c_Q11]
 simp(disch:=omega) [zad,h1,h2,hup,hln,ix0',eqVals,eqCls,clsEq,negIf,f1,f2]
 refine zab (α:=Nat×J2) (fun s=>[(7, .v (.p (ival a))),(8, .v (.p (ival b))),(9, .int .i64 (lstI (L.take s.1))),(10, .v (.map 0)),(38, .v (.p pv)),(39, .int .i64 L.length),(40, .int .i64 s.1)]) (fun s=>⟨[],s.2⟩)
  (fun s=>s.1<=L.length /\ -1<=lstI (L.take s.1)/\goodB a b (lstI (L.take s.1)) ((L.take s.1).map (·.2)) (L.drop s.1)=G/\s.2[0]? = some (imap (thI ((L.take s.1).map (·.2))))) (fun s=>L.length-s.1) ?_ (0,[.map [] 0]) ⟨AU _,by show(-1:Int) <= -1;omega,hG,rfl⟩
 rintro⟨k,K⟩ ⟨hk,hla,hg,hK⟩ R hR
 dsimp only at hk hla hg hK hR ⊢
 dsimp only[l_Q11_0]
 by_cases hkl:k<L.length
 ·have hlt:(k:Int)<(L.length:Int):=by omega
  obtain⟨p,hp⟩:∃p,L[k]? = some p:=⟨_,Ac hkl⟩
  obtain⟨rr,ix⟩:=hpv.idx hp
  rw[zzs a b L hp]at hg
  by_cases e1:p.1<=lstI (L.take k)
  ·have hG0:G=false:=by
    rw[<- hg];unfold okP;rw[decide_eq_false (by omega)];rfl
   subst hG0
   simp(disch:=omega) [ix]
  ·by_cases e2:(a.size:Int)<=p.1
   ·have hG0:G=false:=by
     rw[<- hg];unfold okP;rw[decide_eq_false (show ¬p.1<a.size by omega)];simp
    subst hG0
    simp(disch:=omega) [ix]
   ·by_cases e3:p.2<0
    ·have hG0:G=false:=by
      rw[<- hg];unfold okP;rw[decide_eq_false (show ¬0<=p.2 by omega)];simp
     subst hG0
     simp(disch:=omega) [ix]
    ·by_cases e4:(b.size:Int)<=p.2
     ·have hG0:G=false:=by
       rw[<- hg];unfold okP;rw[decide_eq_false (show ¬p.2<b.size by omega)];simp
      subst hG0
      simp(disch:=omega) [ix]
     ·have g1:=zjx (k:=p.2) hK (.p (.bool false))
      rw[zaqr]at g1
      by_cases e5:p.2∈(L.take k).map (·.2)
      ·have hG0:G=false:=by
        rw[<- hg];unfold okP;rw[decide_eq_false (show ¬p.2∉(L.take k).map (·.2)from fun h=>h e5)];simp
       subst hG0
       rw[decide_eq_true e5]at g1
       simp(disch:=omega) [ix,g1]
      ·rw[decide_eq_false e5]at g1
       obtain⟨x,hx⟩:=BS (show 0<=p.1 by omega)
       obtain⟨y,hy⟩:=BS (show 0<=p.2 by omega)
       obtain⟨v,_,hitv,hsv,_⟩:=zca (t:=a) (j:=x) (by omega)
       obtain⟨rv1,ixv⟩:=zmy hitv
       obtain⟨w,_,hitw,hsw,_⟩:=zca (t:=b) (j:=y) (by omega)
       obtain⟨rw1,ixw⟩:=zmy hitw
       rw[<- hx]at ixv
       rw[<- hy]at ixw
       have hkn:kinI a b p=((v.t.kind==w.t.kind)&&(v.t.name==w.t.name)):=by
        unfold kinI
        rw[hx,hy,show((x:Int)).toNat=x by omega,show((y:Int)).toNat=y by omega,hsv,hsw]
        by_cases c1:v.t.kind=w.t.kind<;>by_cases c2:v.t.name=w.t.name<;>simp[c1,c2]
       have hok:okP a b (lstI (L.take k)) ((L.take k).map (·.2)) p=kinI a b p:=by
        unfold okP
        rw[decide_eq_true (show lstI (L.take k)<p.1 by omega),decide_eq_true (show p.1<a.size by omega),decide_eq_true (show 0<=p.2 by omega),decide_eq_true (show p.2<b.size by omega),decide_eq_true e5]
        simp
       rw[hok,hkn]at hg
       cases hk1:(v.t.kind==w.t.kind)with
       |false =>
        rw[hk1]at hg
        have hG0:G=false:=by rw[<- hg];rfl
        subst hG0
        simp(disch:=omega) [ix,g1,ixv,ixw,zhy,eqVals,eqCls,clsEq,hk1,negIf]
       |true =>
        cases hk2:(v.t.name==w.t.name)with
        |false =>
         rw[hk1,hk2]at hg
         have hG0:G=false:=by rw[<- hg];rfl
         subst hG0
         simp(disch:=omega) [ix,g1,ixv,ixw,zhy,eqVals,eqCls,clsEq,hk1,hk2,negIf]
        |true =>
         rw[hk1,hk2]at hg
         have g2:=zvk (k:=p.2) hK (zwa e5) (v := .p (.bool true)) rfl
         have htk:L.take (k+1)=L.take k++[p]:=by rw[AE,hp];rfl
         have hn:=hR (k+1,K.set 0 (imap (thI ((L.take k).map (·.2))++[(p.2, .p (.bool true))]))) ⟨by dsimp only;omega,by dsimp only;rw[htk,znc];omega,by dsimp only;simpa using hg,by dsimp only;rw[htk];simp only[thI,Ay,Aq,BG];exact zaq (Aa.1 hK).1⟩ (by dsimp only;omega)
         dsimp only at hn
         rw[htk,znc,List.map_take]at hn
         simp(disch:=omega) [ix,g1,ixv,ixw,zhy,eqVals,eqCls,clsEq,hk1,hk2,negIf,g2,zaa]
         exact hn
 ·obtain rfl:k=L.length:=by omega
  rw[BV]at hg
  have hG1:G=true:=by rw[<- hg];rfl
  subst hG1
  simp(disch:=omega) []
theorem zahf (a b:Tree) (fa:Fine a) (fb:Fine b) {pv:PVal} {L:List (Int×Int)} (hpv:PW pv L) (hlb:L.length<2000000) (H:J2) :
 CW tr.look F_Q11 [tagg a,tagg b, .p pv] H=some (.p (.bool (checkM a b L)),H):=by
 have h1:=zbx a fa.1
 have h2:=zbx b fb.1
 have hup:=hpv.up
 have hln:=hpv.len
 unfold checkM
 cases ca:checkB a with
 |false =>
  rw[ca]at h1
  refine zaj look_Q11 rfl (by simp) rfl ?_
  dsimp only[i_Q11,c_Q11]
  simp(disch:=omega) [zad,h1]
 |true =>
  cases cb:checkB b with
  |false =>
   rw[ca]at h1
   rw[cb]at h2
   refine zaj look_Q11 rfl (by simp) rfl ?_
   dsimp only[i_Q11,c_Q11]
   simp(disch:=omega) [zad,h1,h2]
  |true =>
   by_cases h0:L.head? = some (0,0)
   ·rw[zacn a b fa fb ca cb hpv h0 hlb H,decide_eq_true h0];rfl
   ·rw[decide_eq_false h0]
    rw[ca]at h1
    rw[cb]at h2
    refine zaj look_Q11 rfl (by simp) rfl ?_
    dsimp only[i_Q11,c_Q11]
    cases L with
    |nil =>
     simp(disch:=omega) [zad,h1,h2,hup,hln]
    |cons p L =>
     obtain⟨r0,ix0⟩:=hpv.idx (j:=0) (p:=p) rfl
     have ix0':idxS 2 (.p pv) (J4 0)=some (.p (.ptr (.int .i64 p.1 :: .int .i64 p.2::r0))):=ix0
     by_cases hp1:p.1=0
     ·have hp2:¬p.2=0:=fun e=>h0 (by obtain⟨x,y⟩:=p;simp only at hp1 e;subst hp1 e;rfl)
      have hp1':(p.1==0)=true:=by simp[hp1]
      have hp2':(p.2==0)=false:=by simp[hp2]
      simp(disch:=omega) [zad,h1,h2,hup,hln,ix0',hp1',hp2',eqVals,eqCls,clsEq,negIf]
     ·have hp1':(p.1==0)=false:=by simp[hp1]
      simp(disch:=omega) [zad,h1,h2,hup,hln,ix0',hp1',eqVals,eqCls,clsEq,negIf]
theorem zoz (a b:Tree) {pv:PVal} {L:List (Int×Int)} (hpv:PW pv L) (hlb:L.length<2000000) (root:Bool) (i:Nat) (hi:i<L.length) (p:Int×Int) (Q:J0)
 (h1:p.2∉(L.take i).map (·.2)->Q .normal [(2, .v (.p pv)),(7, .v (.p (rval a))),(8, .v (.p (rval b))),(9, .bool root),(10, .int .i64 i),(11, .box 11 0)] ⟨[(11,some ⟨[.int .i64 p.1, .int .i64 p.2],2⟩)],[]⟩)
 (h2:p.2∈(L.take i).map (·.2)->∀E B,lookE E 6 = .bool false->Q .ret E ⟨B,[]⟩) :
 wpLoop (CW tr.look) 108 m_Q13_0 l_Q13_0 (blkK 2 b_Q13_2 Q) [(2, .v (.p pv)),(7, .v (.p (rval a))),(8, .v (.p (rval b))),(9, .bool root),(10, .int .i64 i),(11, .box 11 0),(12, .int .i64 0)] ⟨[(11,some ⟨[.int .i64 p.1, .int .i64 p.2],2⟩)],[]⟩:=by
 have hup:=hpv.up
 refine zab (α:=Nat) (fun k=>[(2, .v (.p pv)),(7, .v (.p (rval a))),(8, .v (.p (rval b))),(9, .bool root),(10, .int .i64 i),(11, .box 11 0),(12, .int .i64 k)]) (fun _=>⟨[(11,some ⟨[.int .i64 p.1, .int .i64 p.2],2⟩)],[]⟩)
  (fun k=>k<=i/\p.2∉(L.take k).map (·.2)) (fun k=>i-k) ?_ 0 ⟨AU _,by simp⟩
 rintro k ⟨hk,hn⟩ R hR
 dsimp only[l_Q13_0]
 by_cases hki:k<i
 ·have hlt:(k:Int)<(i:Int):=by omega
  obtain⟨q,hq⟩:∃q,L[k]? = some q:=⟨_,Ac (by omega)⟩
  obtain⟨r,ix⟩:=hpv.idx hq
  have htk:L.take (k+1)=L.take k++[q]:=by rw[AE,hq];rfl
  by_cases e:q.2=p.2
  ·have hm:p.2∈(L.take i).map (·.2):=by
    refine AF.2 ⟨q,Ao (i:=k) ?_,e⟩
    rw[BO hki];exact hq
   have hfin:=h2 hm
   simp(disch:=omega) [ix,e]
   exact hfin _ _ rfl
  ·have hn2:=hR (k+1) ⟨by omega,fun hm=>by
    rw[htk,Ay]at hm
    rcases Ar.1 hm with hm|hm
    ·exact hn hm
    ·simp at hm;exact e hm.symm⟩ (by omega)
   simp(disch:=omega) [ix,zaa]
   exact hn2
 ·obtain rfl:k=i:=by omega
  simp(disch:=omega) []
  exact h1 hn
def rootB (L:List (Int×Int)):Bool:=decide ((0,0)∈L)
theorem zaco (a b:Tree) {pv:PVal} {L:List (Int×Int)} (hpv:PW pv L) (hlb:L.length<2000000) (G:Bool) (hG:goodB a b (-1) [] L=G) (Q:J0)
 (h1:G=true->Q .normal [(9, .bool (rootB L))] ⟨[],[]⟩)
 (h2:G=false->∀E B,lookE E 6 = .bool false->Q .ret E ⟨B,[]⟩) :
 wpLoop (CW tr.look) 108 m_Q13_1 l_Q13_1 (blkK 0 b_Q13_0 Q) [(2, .v (.p pv)),(7, .v (.p (rval a))),(8, .v (.p (rval b))),(9, .bool false),(10, .int .i64 0)] ⟨[],[]⟩:=by
 have hup:=hpv.up
 have hln:=hpv.len
 refine zab (α:=Nat) (fun i=>[(2, .v (.p pv)),(7, .v (.p (rval a))),(8, .v (.p (rval b))),(9, .bool (rootB (L.take i))),(10, .int .i64 i)]) (fun _=>⟨[],[]⟩)
  (fun i=>i<=L.length/\(i=0/\lstI (L.take i) = -1\/0<i/\0<=lstI (L.take i))/\goodB a b (lstI (L.take i)) ((L.take i).map (·.2)) (L.drop i)=G) (fun i=>L.length-i) ?_ 0 ⟨AU _, .inl ⟨rfl,rfl⟩,hG⟩
 rintro i ⟨hi,hla,hg⟩ R hR
 dsimp only[l_Q13_1]
 by_cases hil:i<L.length
 ·have hlt:(i:Int)<(L.length:Int):=by omega
  obtain⟨p,hp⟩:∃p,L[i]? = some p:=⟨_,Ac hil⟩
  obtain⟨rr,ix⟩:=hpv.idx hp
  have htk:L.take (i+1)=L.take i++[p]:=by rw[AE,hp];rfl
  rw[zzs a b L hp]at hg
  have bad:okP a b (lstI (L.take i)) ((L.take i).map (·.2)) p=false->∀E B,lookE E 6 = .bool false->Q .ret E ⟨B,[]⟩:=fun h=>h2 (by rw[<- hg,h];rfl)
  by_cases e1:p.1<0
  ·have hfin:=bad (by unfold okP;rw[decide_eq_false (show ¬lstI (L.take i)<p.1 by omega)];rfl)
   simp(disch:=omega) [hln,ix]
   exact hfin _ _ rfl
  ·by_cases e2:(a.size:Int)<=p.1
   ·have hfin:=bad (by unfold okP;rw[decide_eq_false (show ¬p.1<a.size by omega)];simp)
    simp(disch:=omega) [hln,ix]
    exact hfin _ _ rfl
   ·by_cases e3:p.2<0
    ·have hfin:=bad (by unfold okP;rw[decide_eq_false (show ¬0<=p.2 by omega)];simp)
     simp(disch:=omega) [hln,ix]
     exact hfin _ _ rfl
    ·by_cases e4:(b.size:Int)<=p.2
     ·have hfin:=bad (by unfold okP;rw[decide_eq_false (show ¬p.2<b.size by omega)];simp)
      simp(disch:=omega) [hln,ix]
      exact hfin _ _ rfl
     ·obtain⟨x,hx⟩:=BS (show 0<=p.1 by omega)
      obtain⟨y,hy⟩:=BS (show 0<=p.2 by omega)
      obtain⟨v,rest,_,_,_,_,_,_,hv,hsv,ixv⟩:=zji (t:=a) (j:=x) (by omega)
      obtain⟨w,restw,_,_,_,_,_,_,hw,hsw,ixw⟩:=zji (t:=b) (j:=y) (by omega)
      rw[<- hx]at ixv
      rw[<- hy]at ixw
      have kin:=fun y1 y2 z1 z2 u1 u2=>zack v.t.kind w.t.kind v.t.name w.t.name y1 y2 z1 z2 u1 u2 []
      have hkn:kinI a b p=(decide (v.t.kind=w.t.kind)&&decide (v.t.name=w.t.name)):=by
       unfold kinI
       rw[hx,hy,show((x:Int)).toNat=x by omega,show((y:Int)).toNat=y by omega,hsv,hsw]
      have fin:lstI (L.take i)<p.1->R [(2, .v (.p pv)),(7, .v (.p (rval a))),(8, .v (.p (rval b))),(9, .bool (rootB (L.take (i+1)))),(10, .int .i64 ((i+1:Nat)))] ⟨[],[]⟩\/okP a b (lstI (L.take i)) ((L.take i).map (·.2)) p=false:=fun hl=>by
       cases hok:okP a b (lstI (L.take i)) ((L.take i).map (·.2)) p with
       |false=>exact .inr rfl
       |true =>
        rw[hok]at hg
        refine .inl (hR (i+1) ⟨by omega, .inr ⟨by omega,by rw[htk,znc];omega⟩,by simpa using hg⟩ (by omega))
      have hroot:rootB (L.take (i+1))=(rootB (L.take i)||(decide (p.1=0)&&decide (p.2=0))):=by
       unfold rootB
       rw[htk]
       have:((0:Int),(0:Int))∈L.take i++[p]↔((0,0)∈L.take i\/(p.1=0/\p.2=0)):=by
        rw[Ar,BI]
        obtain⟨p1,p2⟩:=p
        simp only[Prod.mk.injEq]
        exact⟨fun h=>h.imp id fun⟨x,y⟩=>⟨x.symm,y.symm⟩,fun h=>h.imp id fun⟨x,y⟩=>⟨x.symm,y.symm⟩⟩
       rw[decide_eq_decide.2 this,Bool.decide_or,Bool.decide_and]
      have body:lstI (L.take i)<p.1->kinI a b p=true->p.2∉(L.take i).map (·.2)->R [(2, .v (.p pv)),(7, .v (.p (rval a))),(8, .v (.p (rval b))),(9, .bool (rootB (L.take (i+1)))),(10, .int .i64 ((i+1:Nat)))] ⟨[],[]⟩:=fun c1 c2 c3=>by
       refine(fin c1).elim id fun h=>?_
       unfold okP at h
       rw[decide_eq_true c1,decide_eq_true (show p.1<a.size by omega),decide_eq_true (show 0<=p.2 by omega),decide_eq_true (show p.2<b.size by omega),decide_eq_true c3,c2]at h
       cases h
      have badk:kinI a b p=false->okP a b (lstI (L.take i)) ((L.take i).map (·.2)) p=false:=fun h=>by unfold okP;rw[h];simp
      have badm:p.2∈(L.take i).map (·.2)->okP a b (lstI (L.take i)) ((L.take i).map (·.2)) p=false:=fun h=>by unfold okP;rw[decide_eq_false (show ¬p.2∉(L.take i).map (·.2)from fun hh=>hh h)];simp
      by_cases hi0:i=0
      ·have hl1:lstI (L.take i)<p.1:=by omega
       cases hkv:kinI a b p with
       |false =>
        have hfin:=bad (badk hkv)
        rw[<- hkn,hkv]at kin
        simp(disch:=omega) [hln,ix,ixv,ixw,kin,zej]
        exact hfin _ _ rfl
       |true =>
        rw[<- hkn,hkv]at kin
        simp(disch:=omega) [hln,ix,ixv,ixw,kin,zej]
        refine zoz a b hpv hlb _ i hil p _ (fun hm=>?_) fun hm E B hE=>?_
        ·have hb:=body hl1 hkv hm
         rw[hroot]at hb
         have hrb:rootB (L.take i)=false:=by rw[hi0];rfl
         rw[hrb]at hb ⊢
         by_cases c1:p.1=0
         ·have c1':(p.1==0)=true:=by simp[c1]
          by_cases c2:p.2=0
          ·have c2':(p.2==0)=true:=by simp[c2]
           rw[decide_eq_true c1,decide_eq_true c2]at hb
           simp(disch:=omega) [c1',c2',eqVals,eqCls,clsEq,negIf,zaa]
           exact hb
          ·have c2':(p.2==0)=false:=by simp[c2]
           rw[decide_eq_true c1,decide_eq_false c2]at hb
           simp(disch:=omega) [c1',c2',eqVals,eqCls,clsEq,negIf,zaa]
           exact hb
         ·have c1':(p.1==0)=false:=by simp[c1]
          rw[decide_eq_false c1]at hb
          simp(disch:=omega) [c1',eqVals,eqCls,clsEq,negIf,zaa]
          exact hb
        ·have hfin:=bad (badm hm)
         simp(disch:=omega) []
         exact hfin E _ hE
      ·obtain⟨q,hq⟩:∃q,L[i-1]? = some q:=⟨_,Ac (by omega)⟩
       obtain⟨rq,ixq⟩:=hpv.idx hq
       rw[show((i-1:Nat):Int)=(i:Int)-1 by omega]at ixq
       have hlq:lstI (L.take i)=q.1:=by
        have:=znc (L.take (i-1)) q
        rw[<- show L.take (i-1+1)=L.take (i-1)++[q]by rw[AE,hq];rfl,show i-1+1=i by omega]at this
        exact this
       by_cases e5:p.1<=q.1
       ·have hfin:=bad (by unfold okP;rw[decide_eq_false (show ¬lstI (L.take i)<p.1 by omega)];rfl)
        simp(disch:=omega) [hln,ix,ixq,zaa]
        exact hfin _ _ rfl
       ·have hl1:lstI (L.take i)<p.1:=by omega
        cases hkv:kinI a b p with
        |false =>
         have hfin:=bad (badk hkv)
         rw[<- hkn,hkv]at kin
         simp(disch:=omega) [hln,ix,ixq,ixv,ixw,kin,zej,zaa]
         exact hfin _ _ rfl
        |true =>
         rw[<- hkn,hkv]at kin
         simp(disch:=omega) [hln,ix,ixq,ixv,ixw,kin,zej,zaa]
         refine zoz a b hpv hlb _ i hil p _ (fun hm=>?_) fun hm E B hE=>?_
         ·have hb:=body hl1 hkv hm
          rw[hroot]at hb
          cases hrb:rootB (L.take i)with
          |true =>
           rw[hrb]at hb
           simp(disch:=omega) [zaa]
           exact hb
          |false =>
           rw[hrb]at hb
           by_cases c1:p.1=0
           ·have c1':(p.1==0)=true:=by simp[c1]
            by_cases c2:p.2=0
            ·have c2':(p.2==0)=true:=by simp[c2]
             rw[decide_eq_true c1,decide_eq_true c2]at hb
             simp(disch:=omega) [c1',c2',eqVals,eqCls,clsEq,negIf,zaa]
             exact hb
            ·have c2':(p.2==0)=false:=by simp[c2]
             rw[decide_eq_true c1,decide_eq_false c2]at hb
             simp(disch:=omega) [c1',c2',eqVals,eqCls,clsEq,negIf,zaa]
             exact hb
           ·have c1':(p.1==0)=false:=by simp[c1]
            rw[decide_eq_false c1]at hb
            simp(disch:=omega) [c1',eqVals,eqCls,clsEq,negIf,zaa]
            exact hb
         ·have hfin:=bad (badm hm)
          simp(disch:=omega) []
          exact hfin E _ hE
 ·obtain rfl:i=L.length:=by omega
  rw[BV]at hg
  have hG1:G=true:=by rw[<- hg];rfl
  have:=h1 hG1
  simp(disch:=omega) [hln]
  exact this
theorem zalw (a b:Tree) (L:List (Int×Int)) (h:goodB a b (-1) [] L=true):rootB L=decide (L.head? = some (0,0)):=by
 unfold rootB
 refine decide_eq_decide.2 ⟨fun hm=>?_,fun hh=>List.mem_of_mem_head? hh⟩
 cases L with
 |nil=>simp at hm
 |cons p L =>
  rcases Ak.1 hm with e|hm
  ·rw[<- e];rfl
  ·simp only[goodB,Al,okP,decide_eq_true_eq]at h
   have:=zalv a b L p.1 _ (by omega) h.2 _ hm
   have:=h.1.1
   dsimp only at *
   omega
theorem zahg (a b:Tree) (fa:Fine a) (fb:Fine b) {pv:PVal} {L:List (Int×Int)} (hpv:PW pv L) (hlb:L.length<2000000) (H:J2) :
 CW tr.look F_Q13 [tagg a,tagg b, .p pv] H=some (.p (.bool (checkM a b L)),H):=by
 have h1:=zha a fa.1
 have h2:=zha b fb.1
 have f1:=zcx a fa
 have f2:=zcx b fb
 have hup:=hpv.up
 have hln:=hpv.len
 unfold checkM
 cases ca:checkB a with
 |false =>
  rw[ca]at h1
  refine zaj look_Q13 rfl (by simp) rfl ?_
  dsimp only[i_Q13,c_Q13]
  simp(disch:=omega) [zad,h1]
 |true =>
  cases cb:checkB b with
  |false =>
   rw[ca]at h1
   rw[cb]at h2
   refine zaj look_Q13 rfl (by simp) rfl ?_
   dsimp only[i_Q13,c_Q13]
   simp(disch:=omega) [zad,h1,h2]
  |true =>
   rw[ca]at h1
   rw[cb]at h2
   obtain⟨r,hr⟩:∃r,(true&&(true&&(decide (L.head? = some (0,0))&&goodB a b (-1) [] L)))=r:=⟨_,rfl⟩
   rw[hr]
   have hr2:(goodB a b (-1) [] L=true->r=rootB L)/\(goodB a b (-1) [] L=false->r=false):=by
    constructor
    ·intro h;rw[<- hr,zalw a b L h,h];simp
    ·intro h;rw[<- hr,h];simp
   refine zaj look_Q13 rfl (by simp) rfl ?_
   dsimp only[i_Q13,c_Q13]
   simp(disch:=omega) [zad,h1,h2,f1,f2,hup]
   refine zaco a b hpv hlb (goodB a b (-1) [] L) rfl _ (fun hG=>?_) fun hG E B hE=>?_
   ·rw[hr2.1 hG]
    simp(disch:=omega) []
   ·rw[hr2.2 hG]
    simp(disch:=omega) [hE]
theorem zahh {pv:PVal} {L:List (Int×Int)} (hpv:PW pv L) (hlb:L.length<2000000):∃pw,PW pw L/\∀H,CW tr.look F_Q12 [.p pv] H=some (.p pw,H):=by
 have hup:=hpv.up
 rcases hpv with⟨rfl,rfl⟩|rfl
 ·refine⟨.nilslice, .inl ⟨rfl,rfl⟩,fun H=>?_⟩
  refine zaj look_Q12 rfl (by simp) rfl ?_
  dsimp only[i_Q12,c_Q12]
  simp(disch:=omega) []
  refine⟨_,rfl,?_⟩
  simp(disch:=omega) []
 ·by_cases h0:L=[]
  ·subst h0
   refine⟨.nilslice, .inl ⟨rfl,rfl⟩,fun H=>?_⟩
   refine zaj look_Q12 rfl (by simp) rfl ?_
   dsimp only[i_Q12,c_Q12]
   simp(disch:=omega) []
   refine⟨_,rfl,?_⟩
   simp(disch:=omega) []
  ·have hn:L.length≠0:=fun e=>h0 (Av.1 e)
   refine⟨_, .inr rfl,fun H=>?_⟩
   refine zaj look_Q12 rfl (by simp) rfl ?_
   dsimp only[i_Q12,c_Q12]
   obtain⟨C,hC⟩:∃C,L.flatMap pc2=C:=⟨_,rfl⟩
   obtain⟨n,hn2⟩:∃n,L.length=n:=⟨_,rfl⟩
   have hCl:C.length=n*2:=by rw[<- hC,zalu,hn2]
   rw[hC,hn2]at hup ⊢
   rw[hn2]at hn hlb
   have hsrc:srcCells ⟨[],[]⟩ 2 (.p (.slice 2 n C))=some (pcells C):=rfl
   have ha:=append_nil (bx:=[]) (H:=[]) (esz:=2) hsrc (ny:=n) rfl (by omega) (by omega)
   have hV:VS [IBlk.cells (pcells C) 2 0 true] (some 0) 2 n (.slice 0 0 0 n) (pcells C):=⟨0,_,true,rfl,rfl,by rw[ziw,hCl];exact Am _,Au (by rw[ziw,hCl];exact Am _)⟩
   have hf:=zcz hV
   simp only at hf
   have hfr:freezeRes [IBlk.cells (pcells C) 2 0 true] (.slice 0 0 0 n)=some (.p (.slice 2 n C)):=by simp only[freezeRes,freezeOne,hf]
   simp(disch:=omega) [hup,ha]
   exact hf
theorem zzt (a b:Tree):∀(L:List (Int×Int)) (l:Int) (S:List Int),goodB a.norm b.norm l S L=goodB a b l S L
 | [],_,_=>rfl
 |p::L,l,S=>by
  have hk:kinI a.norm b.norm p=kinI a b p:=by
   unfold kinI
   rw[zbh,zbh,(zbl _).1,(zbl _).1,(zbl _).2.1,(zbl _).2.1]
  rw[goodB,goodB,zzt a b L,okP,okP,zap,zap,hk]
theorem zacp (a b:Tree) (L:List (Int×Int)):checkM a.norm b.norm L=checkM a b L:=by
 unfold checkM
 rw[zfo,zfo,zzt]
theorem zalx (a b:Tree) (ha:a.size<1000000) (hb:b.size<1000000) (hc:(checkB a&&checkB b)=false):∃r,(∀ args H,freezeAll H args=some [tagg a,tagg b]->CW tr.look F_Q9 args H=some (r,H))/\r = .p .nilslice:=by
 have h1:=zbx a ha
 have h2:=zbx b hb
 refine zxs none_Q9 (fun C args H r h=>⟨rfl,h⟩) rfl ?_
 show wp (CW tr.look) 143 c_Q9_70 (rngE (CW tr.look) i_Q9 _) _ _
 dsimp only[c_Q9_70]
 cases hca:checkB a
 ·rw[hca]at h1
  simp(disch:=omega) [zad,h1]
  exact⟨rfl,_,rfl,rfl,rfl⟩
 ·rw[hca]at h1 hc
  rw[show checkB b=false by simpa using hc]at h2
  simp(disch:=omega) [zad,h1,h2]
  exact⟨rfl,_,rfl,rfl,rfl⟩
theorem zahi (a b:Tree) (ha:a.size<1000000) (hb:b.size<1000000) (hc:(checkB a&&checkB b)=false) (H:J2):CW tr.look F_Q10 [tagg a,tagg b] H=some (.p .nilslice,H):=by
 have h1:=zha a ha
 have h2:=zha b hb
 refine zaj look_Q10 rfl (by simp) rfl ?_
 dsimp only[i_Q10,c_Q10]
 cases hca:checkB a
 ·rw[hca]at h1
  simp(disch:=omega) [zad,h1]
 ·rw[hca]at h1 hc
  rw[show checkB b=false by simpa using hc]at h2
  simp(disch:=omega) [zad,h1,h2]
theorem zaqs (a b:Tree) (fa:Fine a) (fb:Fine b) (na:∀u∈a.nodes,NodeStr u) (nb:∀u∈b.nodes,NodeStr u) (sa:a.size<=60) (sb:b.size<=60):∃pv pw L,PV pv L/\PV pw L/\L.length<=60 /\
 (∀ args H,freezeAll H args=some [tagg a.norm,tagg b.norm]->CW tr.look F_Q9 args H=some (.p pv,H))/\∀H,CW tr.look F_Q10 [tagg a,tagg b] H=some (.p pw,H):=by
 have za:a.norm.size<=60:=by rw[zap];exact sa
 have zb:b.norm.size<=60:=by rw[zap];exact sb
 cases hc:checkB a&&checkB b with
 |false =>
  obtain⟨r,h1,rfl⟩:=zalx a.norm b.norm (by omega) (by omega) (by rw[zfo,zfo];exact hc)
  exact⟨_,_,[], .inl ⟨rfl,rfl⟩, .inl ⟨rfl,rfl⟩,AU _,h1,zahi a b (by omega) (by omega) hc⟩
 |true =>
  obtain⟨ca,cb⟩:=(Al _ _).mp hc
  obtain⟨r,h1,pv,L,rfl,h2,h3⟩:=zzm a.norm b.norm (zhc fa) (zhc fb) (znv (zze na)) (znv (zze nb)) (by rw[zfo];exact ca) (by rw[zfo];exact cb) za zb (zvv _ _)
  obtain⟨pw,M,g1,g2,g3⟩:=zalr a b fa fb ca cb sa sb (zvv _ _)
  have e:=(zaqp h3).one g2
  subst e
  have:=h3.pi.len
  exact⟨pv,pw,_,h2,g1,by rw[(zaw L).length_eq];omega,h1,g3⟩
theorem zawp (a b:Tree) {pv:PVal} {L:List (Int×Int)} (hpv:PW pv L):CW tr.look F_Q3 [tagg a,tagg b, .p pv] []=some (.p (.bool true),[]):=by
 have h1:=zasi a
 have h2:=zasi b
 have hup:=hpv.up
 have hln:=hpv.len
 have haw:=zvw []
 refine zaj look_Q3 rfl (by simp) rfl ?_
 dsimp only[i_Q3,c_Q3]
 cases ha:fewB a with
 |false =>
  rw[ha]at h1
  simp(disch:=omega) [zad,h1,haw]
 |true =>
  cases hb:fewB b with
  |false =>
   rw[ha]at h1
   rw[hb]at h2
   simp(disch:=omega) [zad,h1,h2,haw]
  |true =>
   rw[ha]at h1
   rw[hb]at h2
   by_cases hl:100<L.length
   ·have:(L.length:Int)>100:=by omega
    simp(disch:=omega) [zad,h1,h2,haw,hup,hln]
   ·have hl':¬(L.length:Int)>100:=by omega
    obtain⟨fa,sa,na⟩:=zadx ha
    obtain⟨fb,sb,nb⟩:=zadx hb
    have ta:=zakt _ a (Ai _) fa
    have tb:=zakt _ b (Ai _) fb
    obtain⟨v,w,P,p1,p2,p3,hm,hr⟩:=zaqs a b fa fb na nb sa sb
    have hm':∀K,CW tr.look F_Q9 [tagg a.norm,tagg b.norm] K=some (.p v,K):=fun K=>hm _ K (zbn (by simp))
    have hs:=zzd v w P p1 p2 (by omega)
    obtain⟨pw,q1,q2⟩:=zahh hpv (by omega)
    have m1:=zahf a.norm b.norm (zhc fa) (zhc fb) q1 (by omega)
    have m2:=zahg a b fa fb hpv (by omega)
    rw[zacp]at m1
    have s1:=fun H=>zuv a.norm a (zhc fa) H
    have s2:=fun H=>zuv b.norm b (zhc fb) H
    rw[show decide (SameT a.norm a)=true from decide_eq_true (zro a)]at s1
    rw[show decide (SameT b.norm b)=true from decide_eq_true (zro b)]at s2
    have u1:=p1.up
    have u2:=p2.up
    have u3:=q1.up
    generalize checkM a b L=G at *
    simp(disch:=omega) [zad,h1,h2,hup,hln,ta,tb]
    refine⟨rfl,?_⟩
    simp(disch:=omega) [zad,zvw,hm',hr,hs,q2,m1,m2,s1,s2,u1,u2,u3,eqVals,clsEq,negIf]
end Go.Ideal
namespace Go.Ideal
open Go Go.ChangeShapes Go.WideShapes Go.RowKit
section
variable {H:Type} {enc:TypeId×Value->H} {P:Program} {W W':World}
end
end Go.Ideal
namespace Go.Ideal
open Go Go.Proofs Go.ChangeShapes Go.WideShapes Go.RowKit
theorem laidOut:laidOutB Tryz.prog=true:=by kernel_rfl
theorem own:ownKnob Tryz.prog.godebug=none:=by kernel_rfl
theorem treeT:TreeTypes Tryz.prog 25 3 9 22 92 23:=⟨⟨_,Tryz.underlying25,rfl,rfl,rfl,rfl,rfl⟩,⟨_,Tryz.underlying92,rfl,rfl⟩,Tryz.underlying3,Tryz.underlying9,Tryz.underlying22,Tryz.underlying23,by kernel_rfl,by kernel_rfl,by kernel_rfl,by kernel_rfl,by kernel_rfl,by kernel_rfl⟩
theorem readableT:Tryz.prog.readableRec 25=true/\25<Tryz.prog.types.size:=⟨by kernel_rfl,of_decide_eq_true (by kernel_rfl)⟩
theorem readablePs:Tryz.prog.readableRec 26=true/\26<Tryz.prog.types.size:=⟨by kernel_rfl,of_decide_eq_true (by kernel_rfl)⟩
theorem boolT:Tryz.prog.underlying 4=some .bool:=Tryz.underlying4
theorem intT:Tryz.prog.underlying 3=some (.int .i64):=Tryz.underlying3
theorem intC:Tryz.prog.cellsOf 3=1:=by kernel_rfl
theorem pairsT:Tryz.prog.underlying 26=some (.slice 41):=by kernel_rfl
theorem pairC:Tryz.prog.cellsOf 41=2:=by kernel_rfl
set_option maxRecDepth 100000
def pcell2 (p:Int×Int):List PVal:=[.int .i64 p.1, .int .i64 p.2]
def psl (o:Option (List (Int×Int))):PVal:=slval 2 pcell2 o
section
variable {H:Type} {enc:TypeId×Value->H} {W:World}
abbrev I64:={ i:Int // (Lit.int .i64 i).wf=true }
theorem zaqt (n:Nat):Opn enc Tryz.prog W n 41 (fun p:I64×I64=>pcell2 (p.1.1,p.2.1)):=by
 intro cs x hx
 cases n with
 |zero=>simp[DataW.trod]at hx
 |succ n =>
  have hu:=Tryz.underlying41
  have hl:=zus hu hx
  rw[pairC]at hl
  obtain⟨a,ha⟩:=zdo (i:=0) (off:=0) (u:=3) hu rfl (zaba intT) hx
  obtain⟨b,hb⟩:=zdo (i:=1) (off:=1) (u:=3) hu rfl (zaba intT) hx
  rw[intC]at ha hb
  exact⟨(a,b),crel2 hl ha hb⟩
theorem zzu {v:Value} {base:Nat} {d:DataW H} {ps:List MemPlace} (hv:Value.okWide Tryz.prog W .any base 26 v) (h:DataW.Trod enc Tryz.prog W 0 (fun _=>true) true 26 v d ps):∃o,Stands W (.p (psl o)) v:=by
 have hc:=pairC
 obtain⟨o,ho⟩:=zxo (u:=41) (e:=fun p:I64×I64=>pcell2 (p.1.1,p.2.1)) pairsT (fun _=>hc.symm) (by rw[hc];omega) zaqt hv h
 refine⟨o.map (·.map fun p=>(p.1.1,p.2.1)),?_⟩
 have:psl (o.map (·.map fun p=>(p.1.1,p.2.1)))=slval (Tryz.prog.cellsOf 41) (fun p:I64×I64=>pcell2 (p.1.1,p.2.1)) o:=by
  rw[hc]
  cases o with
  |none=>rfl
  |some l =>
   have:∀l:List (I64×I64),((l.map fun p=>(p.1.1,p.2.1)).flatMap pcell2)=l.flatMap fun p=>pcell2 (p.1.1,p.2.1):=by
    intro l
    induction l with
    |nil=>rfl
    |cons x l ih=>rw[Aq,AD,ih];rfl
   simp only[psl,AI,slval,A4,this]
 rw[this];exact ho
end
end Go.Ideal
namespace Go.Ideal
open Go
theorem zbcl (o:Option (List (Int×Int))):∃L,PW (psl o) L:=by
 cases o with
 |none=>exact⟨[], .inl ⟨rfl,rfl⟩⟩
 |some l=>exact⟨l, .inr rfl⟩
theorem zaqu (a b:Tree) (o:Option (List (Int×Int))) (H:J2):CW tr.look F_Q3 [tagg a,tagg b, .p (psl o)] H=some (.p (.bool true),H):=by
 obtain⟨L,hL⟩:=zbcl o
 exact zns look_Q3 rfl (by simp) (zawp a b hL)
end Go.Ideal
namespace Go.Proofs
open Go.Shelf
def Tryz.zzv:Go.Shelf.Ren:=⟨fun|6=>30|15=>67|14=>66|28=>96|29=>97|20=>88|21=>89|22=>90|23=>91|24=>92|25=>93|26=>94|27=>95|46=>117|47=>118|48=>119|49=>120|50=>121|57=>130|n=>n,fun|22=>26|24=>41|25=>60|3=>3|39=>114|0=>0|53=>145|55=>102|4=>4|46=>139|45=>138|50=>55|5=>5|9=>9|66=>170|70=>82|76=>184|77=>121|n=>n,fun|n=>n⟩
theorem Tryz.sortPair:SlLaysF0.n6 Tryz.prog Tryz.zzv where
 mixed:=by kernel_rfl
 f6:=⟨Tryz.f30.name,by kernel_rfl,Tryz.func30.trans (congrArg some (by kernel_rfl))⟩
 f14:=⟨Tryz.f66.name,by kernel_rfl,Tryz.func66.trans (congrArg some (by kernel_rfl))⟩
 f15:=Tryz.func67.trans (congrArg some (by kernel_rfl))
 f20:=⟨Tryz.f88.name,by kernel_rfl,Tryz.func88.trans (congrArg some (by kernel_rfl))⟩
 f21:=⟨Tryz.f89.name,by kernel_rfl,Tryz.func89.trans (congrArg some (by kernel_rfl))⟩
 f22:=⟨Tryz.f90.name,by kernel_rfl,Tryz.func90.trans (congrArg some (by kernel_rfl))⟩
 f23:=⟨Tryz.f91.name,by kernel_rfl,Tryz.func91.trans (congrArg some (by kernel_rfl))⟩
 f24:=⟨Tryz.f92.name,by kernel_rfl,Tryz.func92.trans (congrArg some (by kernel_rfl))⟩
 f25:=⟨Tryz.f93.name,by kernel_rfl,Tryz.func93.trans (congrArg some (by kernel_rfl))⟩
 f26:=⟨Tryz.f94.name,by kernel_rfl,Tryz.func94.trans (congrArg some (by kernel_rfl))⟩
 f27:=⟨Tryz.f95.name,by kernel_rfl,Tryz.func95.trans (congrArg some (by kernel_rfl))⟩
 f28:=Tryz.func96.trans (congrArg some (by kernel_rfl))
 f29:=Tryz.func97.trans (congrArg some (by kernel_rfl))
 f46:=⟨Tryz.f117.name,by kernel_rfl,Tryz.func117.trans (congrArg some (by kernel_rfl))⟩
 f47:=Tryz.func118.trans (congrArg some (by kernel_rfl))
 f48:=Tryz.func119.trans (congrArg some (by kernel_rfl))
 f49:=⟨Tryz.f120.name,by kernel_rfl,Tryz.func120.trans (congrArg some (by kernel_rfl))⟩
 f50:=⟨Tryz.f121.name,by kernel_rfl,Tryz.func121.trans (congrArg some (by kernel_rfl))⟩
 f57:=⟨Tryz.f130.name,by kernel_rfl,Tryz.func130.trans (congrArg some (by kernel_rfl))⟩
 t0:=Tryz.underlying0
 a0:=Tryz.isAgg0
 z0:=Tryz.sizeOf0
 v0:=Tryz.zeroValue0
 t3:=Tryz.underlying3
 a3:=Tryz.isAgg3
 z3:=Tryz.sizeOf3
 v3:=Tryz.zeroValue3
 t4:=Tryz.underlying4
 a4:=Tryz.isAgg4
 z4:=Tryz.sizeOf4
 v4:=Tryz.zeroValue4
 t5:=Tryz.underlying5
 a5:=Tryz.isAgg5
 z5:=Tryz.sizeOf5
 v5:=Tryz.zeroValue5
 t9:=Tryz.underlying9
 a9:=Tryz.isAgg9
 z9:=Tryz.sizeOf9
 v9:=Tryz.zeroValue9
 t22:=Tryz.underlying26
 a22:=Tryz.isAgg26
 z22:=Tryz.sizeOf26
 v22:=Tryz.zeroValue26
 t25:=Tryz.underlying60
 a25:=Tryz.isAgg60
 z25:=Tryz.sizeOf60
 v25:=Tryz.zeroValue60
 t39:=Tryz.underlying114
 a39:=Tryz.isAgg114
 z39:=Tryz.sizeOf114
 v39:=Tryz.zeroValue114
 t45:=Tryz.underlying138
 a45:=Tryz.isAgg138
 z45:=Tryz.sizeOf138
 v45:=Tryz.zeroValue138
 t46:=Tryz.underlying139
 a46:=Tryz.isAgg139
 z46:=Tryz.sizeOf139
 v46:=Tryz.zeroValue139
 t50:=Tryz.underlying55
 a50:=Tryz.isAgg55
 z50:=Tryz.sizeOf55
 v50:=Tryz.zeroValue55
 t53:=Tryz.underlying145
 a53:=Tryz.isAgg145
 z53:=Tryz.sizeOf145
 v53:=Tryz.zeroValue145
 t55:=Tryz.underlying102
 a55:=Tryz.isAgg102
 z55:=Tryz.sizeOf102
 v55:=Tryz.zeroValue102
 t66:=Tryz.underlying170
 a66:=Tryz.isAgg170
 z66:=Tryz.sizeOf170
 v66:=Tryz.zeroValue170
 t70:=Tryz.underlying82
 a70:=Tryz.isAgg82
 z70:=Tryz.sizeOf82
 v70:=Tryz.zeroValue82
 t76:=Tryz.underlying184
 a76:=Tryz.isAgg184
 z76:=Tryz.sizeOf184
 v76:=Tryz.zeroValue184
 t77:=Tryz.underlying121
 a77:=Tryz.isAgg121
 z77:=Tryz.sizeOf121
 v77:=Tryz.zeroValue121
end Go.Proofs
namespace Go.Ideal
open Go
set_option maxHeartbeats 1000000
theorem Step.growW {c d:Ctx} {w w1:World} (h:Step c w d w1) (os:Array Obj):Step c w d (Sort.grow w1 os):=by
 refine⟨h.ext,⟨fun b o v hz=>?_,fun k cs e v op b q K h1 h2=>?_,fun k es ck b q K h1 h2=>?_,h.rel.inj,h.rel.zdis,h.rel.dom⟩,?_,fun b hb ho=>?_,h.own,h.zz,h.also.trans ⟨rfl,rfl,fun a ha=>Sort.frozen?_grow _ _ _ ha,by simp,rfl,Am _⟩⟩
 ·have:=h.rel.z b o v hz
  rw[Sort.cell?_grow _ _ _ (zbm this)];exact this
 ·obtain⟨C,T,h3,h4⟩:=h.rel.blk k cs e v op b q K h1 h2
  exact⟨C,T,by rw[Sort.heap_grow_old _ _ (Bh.1 h3).1];exact h3,h4⟩
 ·obtain⟨ents,h3,h4⟩:=h.rel.mp k es ck b q K h1 h2
  exact⟨ents,by rw[Sort.heap_grow_old _ _ (Bh.1 h3).1];exact h3,h4⟩
 ·have:=h.size;simp;omega
 ·rw[Sort.heap_grow_old _ _ (A6 hb h.size)];exact h.same b hb ho
theorem Step.drewW {c d:Ctx} {w w1:World} (h:Step c w d w1) (n:Nat):Step c w d (w1.drewN n) :=
 ⟨h.ext,⟨h.rel.z,h.rel.blk,h.rel.mp,h.rel.inj,h.rel.zdis,h.rel.dom⟩,h.size,h.same,h.own,h.zz,h.also.trans ⟨rfl,rfl,fun _ _=>rfl,Am _,rfl,B7 _ _⟩⟩
theorem Step.zawq {c d:Ctx} {w w':World} (h:Step c w d w') (hc:∀b,¬c.Own b):∃q os',w'=Sort.grow (w.drewN q) os':=by
 refine⟨w'.drawn-w.drawn,w'.heap.extract w.heap.size w'.heap.size,?_⟩
 have hd:=h.also.dr
 have ht:=h.also.tp
 have ho:=h.also.os
 have hu:=h.also.out
 have hh:w'.heap=w.heap++w'.heap.extract w.heap.size w'.heap.size:=by
  apply Array.ext_getElem?
  intro i
  rw[Array.getElem?_append]
  split
  ·rename_i hi
   exact h.same i hi (hc i)
  ·rename_i hi
   rw[Array.getElem?_extract]
   have hs:=h.size
   by_cases h2:i<w'.heap.size
   ·rw[if_pos (by omega)];congr 1;omega
   ·rw[if_neg (by omega),Array.getElem?_eq_none (by omega)]
 cases w with
 |mk hp tp dr os out =>
  cases w' with
  |mk hp' tp' dr' os' out' =>
   simp only[Sort.grow,World.drewN]at hd ht ho hu hh ⊢
   simp only[World.mk.injEq]
   exact⟨hh,ht,by omega,ho,hu⟩
section
variable {α:Type} [Inhabited α]
def encV (K:SortKit α) (x:α):List Value:=(K.enc x).map sv
omit [Inhabited α] in
theorem zaqv (K:SortKit α) (x:α):(encV K x).length=K.k:=by simp[encV,K.len]
theorem zaes (K:SortKit α):∀(l:List α) (j:Nat),j<l.length*K.k->(l.flatMap K.enc)[j]? = (K.enc (l[j / K.k]!))[j % K.k]?
 | [],j,h=>by simp at h
 |x::l,j,h=>by
  have hl:=K.len x
  have hk:0<K.k:=by
   rcases BH K.k with h0|h0
   ·rw[h0]at h;simp at h
   ·exact h0
  rw[AD]
  by_cases hj:j<K.k
  ·rw[Ab (by omega),Nat.div_eq_of_lt hj,Nat.mod_eq_of_lt hj]
   rfl
  ·have h1:(j-K.k)<l.length*K.k:=by
    simp only[AA,A5,CL]at h;omega
   have h2:j / K.k=(j-K.k) / K.k+1:=by
    rw[Nat.div_eq_sub_div hk (by omega)]
   rw[Ae (by omega),hl,zaes K l _ h1,h2,<-Nat.mod_eq_sub_mod (by omega)]
   simp
theorem zzw (K:SortKit α) (d:Array α) (j:Nat) (hj:j<d.size*K.k):∃v,(K.row d)[j]? = some v/\scalP v=true/\(Sort.flatK (encV K) K.k d)[j]! = sv v:=by
 have h1:(K.row d)[j]? = _:=zaes K d.toList j (by simpa using hj)
 have hk:0<K.k:=by
  rcases BH K.k with h0|h0
  ·rw[h0]at hj;simp at hj
  ·exact h0
 have hm:j % K.k<(K.enc (d.toList[j / K.k]!)).length:=by rw[K.len];exact Nat.mod_lt _ hk
 rw[Ac hm]at h1
 refine⟨_,h1,K.scal _ _ (A2 hm),?_⟩
 rw[Sort.get_flatK _ _ _ _ hj]
 have e:d[j / K.k]! = d.toList[j / K.k]! := by
  have hlt:j / K.k<d.size:=by rw[Nat.div_lt_iff_lt_mul hk];exact hj
  rw[getElem!_pos d _ hlt,getElem!_pos d.toList _ (by simpa using hlt)];simp
 rw[e]
 unfold encV
 rw[getElem!_pos _ _ (by simpa using hm),B6]
def emptyC:Ctx:={ M:=⟨[],[]⟩,m:=fun _=>none,z:=fun _ _=>none }
theorem zahj (w:World):WRel emptyC w :=
 ⟨fun _ _ _ h=>(by cases h),fun k cs e v op b q K _ h2=>(by cases h2),fun k es ck b q K _ h2=>(by cases h2),fun k l b q K q' K' _ _ h3 _=>(by cases h3),fun k b q K _ h2=>(by cases h2),fun k x h2=>(by cases h2)⟩
theorem zoc {c:Ctx}:∀ {l:List PVal},(∀ v∈l,scalP v=true)->VsRel c (pcells l) (l.map sv)
 | [],_=>by simp[pcells,VsRel]
 |v::l,h=>by
  have hv:=h v (by simp)
  simp only[pcells,Aq,VsRel]
  exact⟨_,_,rfl,rfl,by simp only[VRel];exact(zais hv).2 rfl,zoc fun x hx=>h x (by simp[hx])⟩
omit [Inhabited α] in
theorem zaqw {P:Program} {C:Oracle} (hC:OracleOK P C) (K:SortKit α) (g:FuncId) (hcmp:∀x y,C g [.agg (pcells (K.enc x)), .agg (pcells (K.enc y))] []=some (J4 (K.cf x y),[])) (w:World) (x y:α) :
 Calls P g (#[.agg (encV K x).toArray, .agg (encV K y).toArray] ++ #[]) w fun e w'=>e = .returned (.int .i64 (K.cf x y))/\∃q os',w'=Sort.grow (w.drewN q) os':=by
 have h:=(hC g _ _ _ _ (hcmp x y)).2 emptyC w [.agg (encV K x).toArray, .agg (encV K y).toArray] rfl (zahj w)
  ⟨_,_,rfl,rfl,⟨_,rfl,zoc (K.scal x)⟩,_,_,rfl,rfl,⟨_,rfl,zoc (K.scal y)⟩,rfl⟩
 refine Calls.mono h ?_
 rintro e w' ⟨rv,d,rfl,_,hs,_,_,hv⟩
 simp only[VRel,PRel]at hv
 rw[hv]
 exact⟨rfl,hs.zawq fun b ⟨k,q,K,hk⟩=>(by cases hk)⟩
theorem zawr {P:Program} {ρ:Go.Shelf.Ren} (L:Go.Proofs.SlLaysF0.n6 P ρ) (K:SortKit α) (aE:∀w,(isAgg (ρ.t 24)).run P w = .ok true w) (zE:∀w,(Go.sizeOf (ρ.t 24)).run P w = .ok K.k w)
 {C:Oracle} (hC:OracleOK P C) (g:FuncId) (hcmp:∀x y,C g [.agg (pcells (K.enc x)), .agg (pcells (K.enc y))] []=some (J4 (K.cf x y),[])) :
 OracleOK P (noOracle.set (ρ.f 6) (sortSpec K g)):=by
 intro f args H v H' h
 unfold Oracle.set noOracle at h
 split at h
 case h_2=>cases h
 rename_i hf
 have:=Ah hf
 subst this
 obtain⟨body,hbody⟩:∃c,(Go.Proofs.SlBodyF.n6 ρ).body=some c:=⟨_,rfl⟩
 refine⟨L.f6.enters hbody,fun c w l hM hW hl=>?_⟩
 have hrel:SortRel K g args H (v,H'):=by
  unfold sortSpec at h
  split at h
  ·rename_i hx
   injection h with h
   rw[<- h];exact hx.choose_spec
  ·cases h
 have eg:=(hC g _ _ _ _ (hcmp default default)).1
 generalize hr:(v,H')=r at hrel
 cases hrel with
 |nil =>
  injection hr with e1 e2
  subst e1 e2
  simp only[TsRel,VRel,PRel]at hl
  obtain⟨_,_,rfl,_,rfl,_,_,rfl,_,rfl,rfl⟩:=hl
  refine Calls.mono (Go.Proofs.AnyF.slices_SortFunc_none { L with } none 0 _ w) ?_
  rintro e w' ⟨rfl,rfl⟩
  exact⟨_,c,rfl,hM,Step.refl hW,Un.refl c,rfl,by simp only[VRel];exact⟨[],rfl,by simp only[TsRel]⟩⟩
 |empty =>
  injection hr with e1 e2
  subst e1 e2
  simp only[TsRel,VRel,PRel]at hl
  obtain⟨_,_,rfl,_,⟨a,cap,rfl,_⟩,_,_,rfl,_,rfl,rfl⟩:=hl
  refine Calls.mono (Go.Proofs.AnyF.slices_SortFunc_none { L with } (some a) cap _ w) ?_
  rintro e w' ⟨rfl,rfl⟩
  exact⟨_,c,rfl,hM,Step.refl hW,Un.refl c,rfl,by simp only[VRel];exact⟨[],rfl,by simp only[TsRel]⟩⟩
 | @row _ i ver off es cs op d hb hn hm hlen hcs =>
   injection hr with e1 e2
   subst e1 e2
   have hg:c.M.get (.heap i)=some (.cells cs es ver op):=by rw[hM];exact hb
   simp only[TsRel,VRel,PRel]at hl
   obtain⟨_,_,rfl,_,⟨a,cap,rfl,cs1,e1,v1,o1,hg1,_,hat⟩,_,_,rfl,_,rfl,rfl⟩:=hl
   rw[hg]at hg1
   cases hg1
   obtain⟨b,q,KK,hmk,hcap,rfl,hsp,hoff,hKK⟩:=hat rfl
   have hof2:a.off=q+off:=by
    rcases hoff with h0|h0
    ·omega
    ·exact h0
   clear hoff
   obtain⟨ab,ao,asp⟩:=a
   dsimp only at hmk hsp hof2
   subst hsp
   subst hof2
   obtain⟨CC,T,hheap,hq,hlc,hop,hcell⟩:=hW.blk _ cs es ver op ab q KK hg hmk
   have hbl:ab<w.heap.size:=(Bh.1 hheap).1
   have hcsj:∀j,j<d.size*K.k->∃x,(K.row d)[j]? = some x/\scalP x=true/\(Sort.flatK (encV K) K.k d)[j]! = sv x/\cs[off+j]? = some (.p x):=by
    intro j hj
    obtain⟨x,h1,h2,h3⟩:=zzw K d j hj
    refine⟨x,h1,h2,h3,?_⟩
    have h4:((cs.drop off).take (d.size*K.k))[j]? = (pcells (K.row d))[j]? := by rw[hcs]
    rw[Bg,if_pos hj,AX,pcells,Ap,h1]at h4
    exact h4
   have hH:Sort.HoldsK (encV K) K.k w ab (q+off) d:=by
    intro j hj
    rw[Sort.size_flatK]at hj
    obtain⟨x,_,h2,h3,h4⟩:=hcsj j hj
    obtain⟨r,g1,_,g3⟩:=hcell _ _ h4
    simp only[VRel]at g3
    rw[(zais h2).1 g3]at g1
    refine⟨?_,?_⟩
    ·simp only[World.cell?,hheap,id,h3]
     rw[<- g1]
     simp[BN]
    ·simp[World.frozen?,hheap]
   have hsort:=Go.Proofs.AnyQ.slices_SortFunc_eq L K.k aE zE (encV K) (zaqv K) (fun x v hv=>by
    unfold encV at hv
    rw[AF]at hv
    obtain⟨y,_,rfl⟩:=hv
    exact zbbx) K.cf K.swo g #[] ab (q+off) cap d w eg (fun m os dk _ x y=>zaqw hC K g hcmp _ x y) hH hbl hm
   refine Calls.mono hsort ?_
   rintro e w' ⟨rfl,n,os,rfl⟩
   have hsize:(K.sort d).size=d.size:=(K.perm d).1.1
   have hrlen:(K.row (K.sort d)).length=d.size*K.k:=by rw[K.zavj,hsize]
   have hstep:=Step.write (w':=Sort.putRowK (encV K) K.k w ab (q+off) (K.sort d)) hW ⟨rfl,rfl,rfl,Am _⟩ hg hmk (cs':=splice cs off (pcells (K.row (K.sort d)))) (v':=ver) (o':=op) (q':=q) (K':=KK) (.inr ⟨rfl,rfl,rfl⟩)
    (C':=Sort.putCells id (q+off) (Sort.flatK (encV K) K.k (K.sort d)) CC) (T:=T)
    (by simp[Sort.putRowK,Sort.putRow,Sort.mapBlock,Array.getElem?_modify,hheap,Sort.onCells])
    (by simp[Sort.putRowK])
    (fun i hi=>by simp only[Sort.putRowK,Sort.putRow,Sort.mapBlock,Array.getElem?_modify];rw[if_neg (Ne.symm hi)])
    (by simp[Sort.putCells];exact hq) (by simp[splice,pcells];omega) (fun h=>by have:=hop h;simp[splice,pcells];omega)
    (fun dx hx j x hj=>by
     have hj':(splice cs off (pcells (K.row (K.sort d))))[j]? = some x:=hj
     have hpl:(pcells (K.row (K.sort d))).length=d.size*K.k:=by simp[pcells,hrlen]
     unfold splice at hj'
     by_cases h1:j<off
     ·rw[Ab (by simp;omega),Bg,if_pos h1]at hj'
      obtain⟨r,g1,g2,g3⟩:=hcell j x hj'
      refine⟨r,?_,g2,g3.ext hx⟩
      simp only[Sort.putCells,CY,g1,AI]
      rw[if_neg (by omega)]
     ·rw[Ae (by simp;omega),A0,BJ (by omega)]at hj'
      by_cases h2:j-off<d.size*K.k
      ·rw[Ab (by omega)]at hj'
       obtain⟨y,g1,g2,g3⟩:=zzw K (K.sort d) (j-off) (by rw[hsize];exact h2)
       rw[pcells,Ap,g1]at hj'
       cases hj'
       have hjc:j<cs.length:=by omega
       have hqj:q+j<CC.size:=by omega
       refine⟨sv y,?_,rfl,by simp only[VRel];exact(zais g2).2 rfl⟩
       simp only[Sort.putCells,CY,Bw hqj,AI]
       rw[if_pos (by rw[Sort.size_flatK,hsize];omega),show q+j-(q+off)=j-off by omega,g3]
       rfl
      ·rw[Ae (by omega),AX]at hj'
       have he:off+(pcells (K.row (K.sort d))).length+(j-off-(pcells (K.row (K.sort d))).length)=j:=by omega
       rw[he]at hj'
       obtain⟨r,g1,g2,g3⟩:=hcell j x hj'
       refine⟨r,?_,g2,g3.ext hx⟩
       simp only[Sort.putCells,CY,g1,AI]
       rw[if_neg (by rw[Sort.size_flatK,hsize];omega)])
   refine⟨_,_,rfl,?_,(hstep.drewW n).growW os,Un.upd hmk,rfl,by simp only[VRel];exact⟨[],rfl,by simp only[TsRel]⟩⟩
   simp only[Ctx.upd,hM,Mem.put]
end
end Go.Ideal
namespace Go.Ideal
open Go Go.Proofs
set_option maxHeartbeats 1000000
set_option maxRecDepth 100000
section
variable [B:Base]
theorem zaet (a:Int) (H:J2):CW tr.look F_Q68 [J4 a] H=some (.p (.bool false),H):=by
 refine zaj look_Q68 rfl (by simp) rfl ?_
 dsimp only[i_Q68,c_Q68]
 simp(disch:=omega) []
theorem zsc (a b:Int) (H:J2):CW tr.look F_Q32 [J4 a, J4 b] H=some (J4 (cmpI a b),H):=by
 have n1:=zaet a
 have n2:=zaet b
 refine zaj look_Q32 rfl (by simp) rfl ?_
 dsimp only[i_Q32,c_Q32]
 unfold cmpI
 by_cases h1:a<b
 ·simp(disch:=omega) [h1,n1,n2]
 ·by_cases h2:b<a
  ·simp(disch:=omega) [h1,h2,n1,n2]
  ·simp(disch:=omega) [h1,h2,n1,n2]
theorem zahk (x y:Int×Int) (H:J2):CW tr.look F_Q59 [.agg (pcells (pairEnc x)), .agg (pcells (pairEnc y))] H=some (J4 (cmpI x.1 y.1),H):=by
 have h:=zsc x.1 y.1
 refine zaj look_Q59 rfl (by simp[pairEnc,pcells,plainArgs,plainArg,cellsPlain]) rfl ?_
 dsimp only[i_Q59,c_Q59]
 simp(disch:=omega) [pairEnc,pcells,h]
theorem zacq (x y:Int×Int) (H:J2):CW tr.look F_Q87 [.agg (pcells (pairEnc x)), .agg (pcells (pairEnc y))] H=some (J4 (cmpI x.1 y.1),H):=by
 have h:=zsc x.1 y.1
 refine zaj look_Q87 rfl (by simp[pairEnc,pcells,plainArgs,plainArg,cellsPlain]) rfl ?_
 dsimp only[i_Q87,c_Q87]
 simp(disch:=omega) [pairEnc,pcells,h]
theorem zacr (x y:Int×Int) (H:J2):CW tr.look F_Q31 [.agg (pcells (pairEnc x)), .agg (pcells (pairEnc y))] H=some (J4 (cmpI x.1 y.1),H):=by
 have h:=zsc x.1 y.1
 refine zaj look_Q31 rfl (by simp[pairEnc,pcells,plainArgs,plainArg,cellsPlain]) rfl ?_
 dsimp only[i_Q31,c_Q31]
 simp(disch:=omega) [pairEnc,pcells,h]
end
@[reducible] def noBase:Base:=Base.of noOracle
theorem zaly (P:Program) : @BaseOK noBase P := @BaseOK.mk noBase P zaaj fun _ _ _ h f a H v H' e=>(h f a H (v,H') e).elim
theorem zaqx {g:FuncId} (hg:∀x y:Int×Int,@CW noBase tr.look g [.agg (pcells (pairEnc x)), .agg (pcells (pairEnc y))] []=some (J4 (cmpI x.1 y.1),[])):OracleOK Tryz.prog (noOracle.set F_Q30 (sortSpec pairKit g)) :=
 zawr Go.Proofs.Tryz.sortPair pairKit Go.Proofs.Tryz.isAgg41 Go.Proofs.Tryz.sizeOf41 (CW_ok (B:=noBase) tr_mixed tr_prog (zaly _)) g hg
theorem zaqy (l:List FuncId) (hl:∀g∈l,∀x y:Int×Int,@CW noBase tr.look g [.agg (pcells (pairEnc x)), .agg (pcells (pairEnc y))] []=some (J4 (cmpI x.1 y.1),[])):OracleOK Tryz.prog (noOracle.set F_Q30 (sortAny l)):=by
 induction l with
 |nil =>
  intro f args H v H' h
  unfold Oracle.set noOracle at h
  split at h<;>simp[sortAny]at h
 |cons g l ih =>
  intro f args H v H' h
  have h1:=zaqx (hl g (by simp)) f args H v H'
  have h2:=ih (fun g hg=>hl g (An _ hg)) f args H v H'
  unfold Oracle.set noOracle at h h1 h2
  split at h
  ·rename_i hf
   simp only[sortAny]at h
   split at h
   ·rename_i x hx
    injection h with h
    exact h1 (by simp only[hf,hx,h])
   ·exact h2 (by simp only[hf];exact h)
  ·cases h
theorem zaws:BaseOK Tryz.prog where
 b:=zaqy _ fun g hg x y=>by
  simp only[Ak,B5,or_false]at hg
  rcases hg with rfl|rfl|rfl
  ·exact zahk (B:=noBase) x y []
  ·exact zacq (B:=noBase) x y []
  ·exact zacr (B:=noBase) x y []
 m C hC D hD f args H v H' e:=by
   obtain⟨rfl,h⟩:=hD f args H (v,H') e
   exact zxq tr_mixed hC ok_Q9 h
end Go.Ideal
namespace Go.Proofs.YtjlnpggbekondaaGreat.matchAll
open Go.Ideal Go.ChangeShapes Go.WideShapes Go.ChangeAt Go.RowKit
set_option maxRecDepth 100000 in
theorem lifted (os:Os) (started:os.Started) (H:Type) (enc:TypeId×Value→H) :
 ReturnsInHanded {} Tryz.checked os 3 .any (Rows.matchAllSpec.pre6 enc Tryz.prog Tryz.f3 Rows.matchAllRow.domain false) (Rows.matchAllSpec.post enc Tryz.prog Tryz.f3 false true false false):=by
 refine returnsInHanded_of_change (C:=Tryz.checked) own started (by kernel_rfl) Tryz.func3
  (ChangeSpec.witness6 (enc:=enc) (C:=Tryz.checked) false ⟨#[],#[.agg #[.int .i64 0, .string ⟨#[]⟩, .string ⟨#[]⟩, .slice none 0 0, .slice none 0 0], .agg #[.int .i64 0, .string ⟨#[]⟩, .string ⟨#[]⟩, .slice none 0 0, .slice none 0 0], .slice none 0 0],[]⟩ 3 (by kernel_rfl) (by kernel_rfl) (by kernel_rfl) (by kernel_rfl)) ?_
 intro W base args ds gs before hval0 hW hcnd _
 have hval:∀(j:Nat) t v,Tryz.f3.params[j]? = some t→args[j]? = some v→Value.okWide Tryz.prog W .any base t v:=hval0
 have hW':=hW
 obtain⟨p,q,hA0,hV,rfl,hfz,hnd⟩:=hW
 have hA:DataW.TrodAll enc Tryz.prog W 0 (fun _=>true) true Tryz.f3.params.toList args.toList ds p:=hA0
 have hA1:=hA
 rw[Tryz.params3]at hA hval
 obtain⟨v0,vs0,d0,ds0,p0,q0,hargs,rfl,rfl,h0,r0⟩:=trodAll_cons hA
 obtain⟨v1,vs1,d1,ds1,p1,q1,rfl,rfl,rfl,h1,r1⟩:=trodAll_cons r0
 obtain⟨v2,vs2,d2,ds2,p2,q2,rfl,rfl,rfl,h2,r2⟩:=trodAll_cons r1
 obtain⟨rfl,rfl,rfl⟩:=trodAll_nil r2
 obtain rfl:args = #[v0,v1,v2]:=by cases args;simp_all
 obtain⟨rfl,rfl⟩:=trodVars_none hV
 obtain⟨a,s0⟩:=zqy treeT (hval 0 _ v0 rfl rfl) h0
 obtain⟨b,s1⟩:=zqy treeT (hval 1 _ v1 rfl rfl) h1
 obtain⟨c,s2⟩:=zzu (hval 2 _ v2 rfl rfl) h2
 have hlt:=fun x hx=>hW'.lt x hx
 clear hA0 hval0
 simp only[List.append_nil]at hW' hlt
 refine(zaio tr_mixed tr_prog zaws (zaqu a b c []) (rs:=[v0,v1,v2]) ⟨_,_,rfl,s0.1,s0.2,_,_,rfl,s1.1,s1.2,_,_,rfl,s2.1,s2.2,rfl⟩).mono fun e W' ⟨he,hg⟩=>?_
 subst he
 refine⟨_,rfl,zuq (pa:=p0++(p1++(p2++[]))) (pv:=[]) hW' (fun _ _ _=>(trodAll_cons_mk (shut_bool boolT _) trodAll_mk0)) (fun sp hsp=>?_) (fun _ _=>rfl) (by simp)
  (hg.frame _) hg.2.1 (ok_one (by kernel_rfl) rfl (okWide_bool_mk boolT _))⟩
 exact zme laidOut (fun t ht=>by rw[Tryz.params3]at ht;simp at ht;rcases ht with rfl|rfl|rfl<;>first|exact readablePs|exact readableT) hA1 (fun x hx=>zafi hg (by simpa using hlt x (by simpa using hx))) (fun x hx=>hsp x (by simpa using hx))
theorem over:Rows.matchAllRow.holds Tryz.pinned (OpenSpec.ofChange Rows.matchAllSpec) :=
 OpenClaim.holds_of_wide 3 Tryz.f3 rfl rfl rfl rfl rfl rfl rfl ⟨rfl,rfl,rfl,rfl,rfl⟩ rfl rfl rfl rfl rfl (by kernel_rfl) Tryz.func3 (by kernel_rfl)
  (of_decide_eq_true (by kernel_rfl)) (by unfold Func.isWrapper;first|(rw[if_pos (by decide +kernel)];kernel_rfl)|(rw[if_neg (by decide +kernel)];exact⟨rfl,rfl⟩))
  (fun os started H enc _=>lifted os started H enc)
theorem proved:Rows.MatchAllSaid :=
 over
#print axioms proved
end Go.Proofs.YtjlnpggbekondaaGreat.matchAll
