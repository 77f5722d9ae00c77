import Derived.Test.YtjlnpggbekondaaW3
namespace Go.Ideal
open Go
set_option maxHeartbeats 4000000
set_option maxRecDepth 20000
attribute [-simp] getElem?_pos
def fv (f:Int×Int):IVal := .agg [J4 f.1, J4 f.2]
def someF (a b:Int):Int×Int:=if b<a then(0, -1)else(a,b)
theorem zdt (H:J2):CW tr.look F_Q85 [] H=some (fv (0, -1),H):=by
 refine zal look_Q85 rfl (by simp) rfl ?_
 dsimp only[i_Q85,c_Q85]
 simp(disch:=omega) [fv,freezeOne,freezeList]
theorem zsr (a b:Int) (H:J2):CW tr.look F_Q84 [J4 a, J4 b] H=some (fv (someF a b),H):=by
 refine zal look_Q84 rfl (by simp) rfl ?_
 dsimp only[i_Q84,c_Q84]
 by_cases h:b<a
 ·simp(disch:=omega) [zdt,fv,someF,h,freezeOne,freezeList]
 ·simp(disch:=omega) [fv,someF,h,freezeOne,freezeList]
theorem zss (f:Int×Int) (h0:0<=f.2) (h1:f.2<1000000) (H:J2):CW tr.look F_Q91 [fv f] H=some (fv (someF f.1 (f.2-1)),H):=by
 have h2:plainArgs [fv f]=true:=rfl
 refine zal look_Q91 rfl h2 rfl ?_
 dsimp only[i_Q91,c_Q91]
 simp(disch:=omega) [zsr,fv,zaa,freezeOne,freezeList]
def nodecell (u:Tree):List PVal:=[.int .i64 u.kind, .str u.name, .str u.text,aval u.attrs, .nilslice]
structure SideAt (H:J2) (k m:Nat) (N:List Tree) (ids:List Nat) (fs:List Nat):Prop where
 blk:∃nv fvv o1 o2,H[k]? = some (.cells [nv, .p (nval ids),fvv] 3 0 false)/\VS H o1 5 N.length nv (pcells (N.flatMap nodecell))/\VS H o2 1 fs.length fvv (pcells (nints fs))/\k<m/\(∀ j,o1=some j->k<j/\j<m/\o2≠some j)/\(∀ j,o2=some j->k<j/\j<m)
theorem SideAt.first {H:J2} {k m:Nat} {N:List Tree} {ids fs:List Nat} (h:SideAt H k m N ids fs) {j n:Nat} (hj:fs[j]? = some n):∃v q,loadVal ⟨[],H⟩ none (J5 k 0 2)=some v/\up v = .v v/\idxS 1 v (J4 j)=some q/\up q = .v q/\loadVal ⟨[],H⟩ none q=some (J4 n):=by
 obtain⟨nv,fvv,o1,o2,h1,h2,h3⟩:=h.blk
 have hjl:=(Aa.1 hj).1
 cases o2 with
 |none=>have:=h3.1.2.1;omega
 |some k2 =>
  obtain⟨ver,e1,e2⟩:=h3.1.at1 hjl
  exact⟨fvv,_,zac h1 rfl,h3.1.up,e1,rfl,e2 _ (by simp[pcells,nints,hj])⟩
theorem SideAt.keep {H H':J2} {k m:Nat} {N:List Tree} {ids fs:List Nat} (h:SideAt H k m N ids fs) {S:Nat->Prop} (hk:Keep S H H') (hS:∀x,S x->x<k\/m<=x):SideAt H' k m N ids fs:=by
 obtain⟨nv,fvv,o1,o2,h1,h2,h3,h4,h5,h6⟩:=h.blk
 refine⟨nv,fvv,o1,o2,?_,h2.keep hk ?_,h3.keep hk ?_,h4,h5,h6⟩
 ·rw[hk.2 k (Aa.1 h1).1 (fun e=>by have:=hS k e;omega)];exact h1
 ·intro x hx e;have:=hS x e;have:=h5 x hx;omega
 ·intro x hx e;have:=hS x e;have:=h6 x hx;omega
theorem zst (H:J2) (k m:Nat) (N:List Tree) (ids fs:List Nat) (hS:SideAt H k m N ids fs) (f0:Int) (j n:Nat) (hj:fs[j]? = some n) (hb:fs.length<1000000):CW tr.look F_Q88 [J5 k 0 0,fv (f0,j)] H=some (fv (someF n (j-1)),H):=by
 obtain⟨v,q,e1,e2,e3,e4,e5⟩:=hS.first hj
 have hjl:=(Aa.1 hj).1
 obtain⟨r,H',h1,h2,h3⟩:=zay (args:=[J5 k 0 0,fv (f0,j)]) (H:=H) (Q:=fun r H'=>r=fv (someF n (j-1))/\H'=H) look_Q88 rfl rfl (by
  dsimp only[i_Q88,c_Q88]
  simp(disch:=omega) [zsr,fv,zaa,e1,e2,e3,e4,e5])
 rw[h1,h2,h3]
theorem zif (H:J2) (k m:Nat) (N:List Tree) (ids fs:List Nat) (hS:SideAt H k m N ids fs) (f0:Int) (j n:Nat) (hj:fs[j]? = some n) (_:fs.length<1000000) (hn:n<1000000):CW tr.look F_Q89 [J5 k 0 0,fv (f0,j)] H=some (fv (someF f0 (n-1)),H):=by
 obtain⟨v,q,e1,e2,e3,e4,e5⟩:=hS.first hj
 have hjl:=(Aa.1 hj).1
 obtain⟨r,H',h1,h2,h3⟩:=zay (args:=[J5 k 0 0,fv (f0,j)]) (H:=H) (Q:=fun r H'=>r=fv (someF f0 (n-1))/\H'=H) look_Q89 rfl rfl (by
  dsimp only[i_Q89,c_Q89]
  simp(disch:=omega) [zsr,fv,zaa,e1,e2,e3,e4,e5])
 rw[h1,h2,h3]
theorem zsu {l:List Nat} {j n:Nat} (h:l[j]? = some n):idxS 1 (.p (nval l)) (J4 j)=some (.p (.ptr (.int .i64 n::(nints l).drop (j+1)))):=by
 obtain⟨h1,h2⟩:=Aa.1 h
 have h3:(nints l).drop j = .int .i64 n::(nints l).drop (j+1):=by
  rw[AG (by simpa[nints]using h1)]
  simp[nints,h2]
 rw[nval,zcd h1,B9,h3]
@[simp] theorem zajc {l:List Nat}:sliceLen (.p (nval l))=some l.length:=rfl
@[simp] theorem zaym {l:List Nat}:up (.p (nval l)) = .v (.p (nval l)):=rfl
def firsts (t:Tree):List Nat:=(postS t).mapIdx fun k u=>k+1-u.size
theorem zajd (t:Tree) (hs:t.size<1000000) (kb:Nat) (H0:J2) (hk0:H0[kb]? = some (.cells [.p .nilslice, .p (nval (postT t 0)), .p .nilslice] 3 0 false)) (Q:J0)
 (h1:∀H' m,m<=H'.length->SideAt H' kb m (postS t) (postT t 0) (firsts t)->Keep (fun x=>kb<=x) H0 H'->Q .normal [(4, .v (J5 kb 0 0))] ⟨[],H'⟩) :
 wpLoop (CW tr.look) 57 m_Q83_0 l_Q83_0 (blkK 0 b_Q83_0 Q) [(3, .v (.p (ival t))),(4, .v (J5 kb 0 0)),(16, .v (.p (nval (postT t 0)))),(17, .int .i64 t.size),(18, .int .i64 0)] ⟨[],H0⟩:=by
 refine zae (α:=Nat×J2) (fun a=>[(3, .v (.p (ival t))),(4, .v (J5 kb 0 0)),(16, .v (.p (nval (postT t 0)))),(17, .int .i64 t.size),(18, .int .i64 a.1)]) (fun a=>⟨[],a.2⟩)
  (fun a=>a.1<=t.size/\(∃ m,m<=a.2.length/\SideAt a.2 kb m ((postS t).take a.1) (postT t 0) ((firsts t).take a.1))/\Keep (fun x=>kb<=x) H0 a.2) (fun a=>t.size-a.1) ?_ (0,H0) ⟨by simp,⟨kb+1,(Aa.1 hk0).1,⟨.p .nilslice, .p .nilslice,none,none,hk0,VS.nil,VS.nil,by simp,by simp,by simp⟩⟩,⟨Ai _,fun _ _ _=>rfl⟩⟩
 rintro⟨j,H⟩ ⟨hj,⟨m,hm,hS⟩,hK⟩ L hL
 dsimp only at hj hS hK hL ⊢
 dsimp only[l_Q83_0]
 by_cases hc:j<t.size
 ·obtain⟨i,hi⟩:∃i,(postT t 0)[j]? = some i:=⟨_,Ae (by rw[zbb];exact hc)⟩
  obtain⟨u,v,p1,p2,p3,p4,p5⟩:=zor hi
  obtain⟨nv,fvv,o1,o2,g1,g2,g3,g4,g5,g6⟩:=hS.blk
  have hl1:((postS t).take j).length=j:=by simp[zaf,hj]
  have hl2:((firsts t).take j).length=j:=by simp[firsts,zaf,hj]
  rw[hl1]at g2
  rw[hl2]at g3
  have hkb:=(Aa.1 g1).1
  obtain⟨v',H',k,ver,b,a1,a2,a3,a4,a5,a6,a7,a8,a9,a10⟩:=g2.appendStore (zs:=[J4 0, .p (.str []), .p (.str []), .p .nilslice, .p .nilslice]) (ys:=[J4 (fullOf v).node.kind, .p (.str (fullOf v).node.name), .p (.str (fullOf v).node.text), .p (aval (fullOf v).node.attrs), .p .nilslice]) rfl rfl (by omega)
  have hkk:kb<k:=by
   rcases a8 with e|e
   ·exact(g5 k e).1
   ·omega
  have g1':H'[kb]? = some (.cells [nv, .p (nval (postT t 0)),fvv] 3 0 false):=by rw[a6.2 kb hkb (fun e=>by have:=g5 kb e;omega)];exact g1
  have s1:=fun b'=>a4 (H'.set kb b') (by rw[Ac (by omega)])
  have s2:=a4 H' rfl
  have gk:∀b',(H'.set k b')[kb]? = some (.cells [nv, .p (nval (postT t 0)),fvv] 3 0 false):=fun b'=>by rw[Ac (by omega)];exact g1'
  have s3:writeCells ⟨[],H'⟩ (J5 kb 0 0) [v']=some ⟨[],H'.set kb (.cells [v', .p (nval (postT t 0)),fvv] 3 0 false)⟩:=by rw[zam g1' (by simp)];rfl
  have s4:writeCells ⟨[],H'.set k b⟩ (J5 kb 0 0) [v']=some ⟨[],(H'.set k b).set kb (.cells [v', .p (nval (postT t 0)),fvv] 3 0 false)⟩:=by rw[zam (gk b) (by simp)];rfl
  have ld:loadVal ⟨[],H⟩ none (J5 kb 0 0)=some nv:=zac g1 rfl
  have hcm:(H'.set kb (.cells [v', .p (nval (postT t 0)),fvv] 3 0 false)).set k b=(H'.set k b).set kb (.cells [v', .p (nval (postT t 0)),fvv] 3 0 false):=List.set_comm _ _ (by omega)
  generalize hH1:(H'.set k b).set kb (.cells [v', .p (nval (postT t 0)),fvv] 3 0 false)=H1 at s4 hcm
  have hsl:(fullOf v).size<=j+1:=by
   obtain⟨A,B,_,e⟩:=zabj t j u p1
   show v.t.size<=j+1
   rw[p3];omega
  have hln:H1.length=H'.length:=by rw[<- hH1];simp
  have k1:Keep (fun x=>x=kb\/o1=some x) H H1:=by
   refine⟨by omega,fun i hi hn=>?_⟩
   have q1:i≠kb:=fun e=>hn (.inl e)
   have q2:o1≠some i:=fun e=>hn (.inr e)
   have q3:k≠i:=by
    rcases a8 with e|e
    ·exact fun e2=>q2 (e2 ▸ e)
    ·omega
   rw[<- hH1,Ac (by omega),Ac q3]
   exact a6.2 i hi q2
  have n1:nv≠.undef:=by rintro rfl;exact absurd g2.pass (by decide)
  have w1:H1[kb]? = some (.cells [v', .p (nval (postT t 0)),fvv] 3 0 false):=by rw[<- hH1];exact zan (by rw[Ay];omega)
  have g2':VS H1 (some k) 5 (j+1) v' (pcells (((postS t).take (j+1)).flatMap nodecell)):=by
   have:pcells (((postS t).take (j+1)).flatMap nodecell)=pcells (((postS t).take j).flatMap nodecell)++pcells (nodecell u):=by
    rw[AX,p1]
    simp[pcells,BQ]
   rw[this]
   subst p3
   exact a5 H1 (by rw[<- hH1,Ac (by omega)];exact zan a7)
  have n2:v'≠.undef:=by rintro rfl;exact absurd g2'.pass (by decide)
  have g3':VS H1 o2 1 j fvv (pcells (nints ((firsts t).take j))):=g3.keep k1 (fun x hx e=>by
   rcases e with e|e
   ·have:=g6 x hx;omega
   ·exact(g5 x e).2.2 hx)
  have ld2:loadVal ⟨[],H1⟩ none (J5 kb 0 2)=some fvv:=zac w1 rfl
  obtain⟨vv2,H2,o2',b1,b2,b3,b4,b5,k2,b6⟩:=g3'.append1 (ys:=[J4 (j+1-(fullOf v).size:Nat)]) rfl (by omega)
  have w2:H2[kb]? = some (.cells [v', .p (nval (postT t 0)),fvv] 3 0 false):=by rw[b3.2 kb (by omega) (fun e=>by have:=g6 kb e;omega)];exact w1
  have s5:writeCells ⟨[],H2⟩ (J5 kb 0 2) [vv2]=some ⟨[],H2.set kb (.cells [v', .p (nval (postT t 0)),vv2] 3 0 false)⟩:=by rw[zam w2 (by simp)];rfl
  have n3:fvv≠.undef:=by rintro rfl;exact absurd g3.pass (by decide)
  have n4:vv2≠.undef:=by rintro rfl;exact absurd b2.pass (by decide)
  have hi1:((j:Int)+1-((fullOf v).size:Nat))=((j+1-(fullOf v).size:Nat):Int):=by omega
  simp(disch:=omega) [zsu hi,ld,g2.up,g2.len,zbk p4,a1,a2,a3,s1,s2,s3,s4,hcm,zkt a9 a2,zaa,n1,n2,ld2,g3'.up,hi1,b1,b2.up,zkt b2.cells b2.up,s5]
  have hln2:((postS t).take (j+1)).length=j+1:=by rw[AQ,zaf];omega
  have hln3:((firsts t).take (j+1)).length=j+1:=by rw[AQ,firsts,By,zaf];omega
  have hk2:kb<k2/\k2<H2.length/\k2≠k:=by
   refine⟨?_,VS.lt (b6 ▸ b2),?_⟩
   ·rcases b5 with e|⟨k',e,e2⟩
    ·exact(g6 k2 (by rw[<- e,b6])).1
    ·rw[b6]at e;injection e with e;omega
   ·rcases b5 with e|⟨k',e,e2⟩
    ·rintro rfl
     rw[b6]at e
     rcases a8 with e3|e3
     ·exact(g5 k2 e3).2.2 e.symm
     ·have:=VS.lt (e ▸ g3);omega
    ·rw[b6]at e;injection e with e;omega
  have hfe:pcells (nints ((firsts t).take (j+1)))=pcells (nints ((firsts t).take j))++[J4 (j+1-(fullOf v).size:Nat)]:=by
   have:(firsts t)[j]? = some (j+1-(fullOf v).size):=by
    rw[firsts,List.getElem?_mapIdx,p1,<-p3];rfl
   rw[AX,this]
   simp[pcells,nints]
  refine hL (j+1,H2.set kb (.cells [v', .p (nval (postT t 0)),vv2] 3 0 false)) ⟨by dsimp only;omega,⟨H2.length,by simp,⟨v',vv2,some k,o2',?_,?_,?_,by omega,?_,?_⟩⟩,?_⟩ (by dsimp only;omega)
  ·exact zan (by have:=b3.1;omega)
  ·dsimp only
   rw[hln2]
   exact(g2'.keep b3 (fun x hx e=>by
    injection hx with hx;subst hx
    rcases a8 with e3|e3
    ·exact(g5 _ e3).2.2 e
    ·have:=VS.lt (e ▸ g3);omega)).keep (Keep.set (S:=fun x=>x=kb) (.inl rfl)) (fun x hx e=>by injection hx with hx;omega)
  ·dsimp only
   rw[hln3,hfe]
   exact b2.keep (Keep.set (S:=fun x=>x=kb) (.inl rfl)) (fun x hx e=>by rw[b6]at hx;injection hx with hx;omega)
  ·intro x hx
   injection hx with hx
   refine⟨by omega,by omega,fun e=>?_⟩
   rw[b6]at e;injection e with e;omega
  ·intro x hx
   rw[b6]at hx;injection hx with hx;omega
  ·refine hK.trans (((k1.mono fun i _ e=>?_).trans (b3.mono fun i _ e=>?_)).trans (Keep.set (.inl (Ai _))))
   ·rcases e with e|e
    ·exact Nat.le_of_eq e.symm
    ·exact Nat.le_of_lt (g5 i e).1
   ·exact Nat.le_of_lt (g6 i e).1
 ·obtain rfl:j=t.size:=by omega
  have e1:(postS t).take t.size=postS t:=AA (by rw[zaf];omega)
  have e2:(firsts t).take t.size=firsts t:=AA (by simp[firsts,zaf])
  rw[e1,e2]at hS
  simp(disch:=omega) []
  exact h1 H m hm hS hK
theorem zalv (t:Tree) (hf:Fine t) (H:J2):∃H' m,CW tr.look F_Q83 [tagg t] H=some (J5 H.length 0 0,H')/\m<=H'.length/\SideAt H' H.length m (postS t) (postT t 0) (firsts t)/\Keep (fun _=>False) H H':=by
 have hg:(H++[IBlk.cells [.p .nilslice, .p (nval (postT t 0)), .p .nilslice] 3 0 false])[H.length]? = some (.cells [.p .nilslice, .p (nval (postT t 0)), .p .nilslice] 3 0 false):=zbd
 have hld:loadVal ⟨[],H++[IBlk.cells [.p .nilslice, .p (nval (postT t 0)), .p .nilslice] 3 0 false]⟩ none (J5 H.length 0 1)=some (.p (nval (postT t 0))):=zac hg rfl
 obtain⟨r,H',h1,rfl,m,h2,h3,h4⟩:=zay (args:=[tagg t]) (H:=H) (Q:=fun r H'=>r = J5 H.length 0 0/\∃m,m<=H'.length/\SideAt H' H.length m (postS t) (postT t 0) (firsts t)/\Keep (fun _=>False) H H') look_Q83 rfl rfl (by
  dsimp only[i_Q83,c_Q83]
  simp(disch:=omega) [zaj,zcg t hf,zos t hf,zbb,hld]
  refine zajd t hf.1 H.length _ hg _ ?_
  intro H' m h2 h3 h4
  simp(disch:=omega) []
  exact⟨m,h2,h3,Bp (by simp) h4.1,fun i hi _=>by rw[h4.2 i (by simp;omega) (by omega)];exact Ab hi⟩)
 exact⟨H',m,h1,h2,h3,h4⟩
structure BothAt (H:J2) (k:Nat) (s t:Tree) (es:List (IVal×IVal×Nat)) (ck:Nat):Prop where
 blk:∃ka kb km ma mb,H[k]? = some (.cells [J5 ka 0 0, J5 kb 0 0, .map km] 3 0 false)/\H[km]? = some (.map es ck)/\SideAt H ka ma (postS s) (postT s 0) (firsts s)/\SideAt H kb mb (postS t) (postT t 0) (firsts t)/\km<ka/\ma<=k/\km<kb/\mb<=k
theorem SideAt.nodes {H:J2} {k m:Nat} {N:List Tree} {ids fs:List Nat} (h:SideAt H k m N ids fs):∃v,loadVal ⟨[],H⟩ none (J5 k 0 0)=some v/\up v = .v v/\sliceLen v=some N.length/\v≠.undef:=by
 obtain⟨nv,fvv,o1,o2,h1,h2,h3⟩:=h.blk
 exact⟨nv,zac h1 rfl,h2.up,h2.len,by rintro rfl;exact absurd h2.pass (by decide)⟩
theorem zzm (s t:Tree) (hs:Fine s) (ht:Fine t) (H:J2):∃H' k,CW tr.look F_Q65 [tagg s,tagg t] H=some (.tup [J5 k 0 0,fv (someF 0 (s.size-1)),fv (someF 0 (t.size-1)), .p (.bool (decide (s.size<=8)&&decide (t.size<=8)))],H')/\BothAt H' k s t [] 0/\Keep (fun _=>False) H H':=by
 obtain⟨H1,ma,a1,a2,a3,a4⟩:=zalv s hs (H++[.map [] 0])
 obtain⟨H2,mb,b1,b2,b3,b4⟩:=zalv t ht H1
 have a5:=a3.keep b4 (fun x h=>h.elim)
 simp only[Ag,AK]at a1 a3 a5
 have k1:Keep (fun _=>False) H H1:=Keep.new.trans a4
 have hm1:H1[H.length]? = some (.map [] 0):=by rw[a4.2 _ (by simp) (fun h=>h)];exact zbd
 have hm2:H2[H.length]? = some (.map [] 0):=by rw[b4.2 _ (Aa.1 hm1).1 (fun h=>h)];exact hm1
 have hl1:=a4.1
 have hl2:=b4.1
 simp only[Ag,AK]at hl1
 generalize hHF:H2++[IBlk.cells [J5 (H.length+1) 0 0, J5 H1.length 0 0, .map H.length] 3 0 false]=HF
 have kF:Keep (fun _=>False) H2 HF:=by rw[<- hHF];exact Keep.new
 have gF:HF[H2.length]? = some (.cells [J5 (H.length+1) 0 0, J5 H1.length 0 0, .map H.length] 3 0 false):=by rw[<- hHF];exact zbd
 have gm:HF[H.length]? = some (.map [] 0):=by rw[kF.2 _ (Aa.1 hm2).1 (fun h=>h)];exact hm2
 have sF:=a5.keep kF (fun x h=>h.elim)
 have tF:=b3.keep kF (fun x h=>h.elim)
 have l0:loadVal ⟨[],HF⟩ none (J5 H2.length 0 0)=some (J5 (H.length+1) 0 0):=zac gF rfl
 have l1:loadVal ⟨[],HF⟩ none (J5 H2.length 0 1)=some (J5 H1.length 0 0):=zac gF rfl
 obtain⟨v1,c1,c2,c3,c4⟩:=sF.nodes
 obtain⟨v2,d1,d2,d3,d4⟩:=tF.nodes
 have hps:=zad s
 have hpt:=zad t
 have hs1:=hs.1
 have ht1:=ht.1
 rw[zaf]at c3 d3
 have hB:BothAt HF H2.length s t [] 0:=⟨H.length+1,H1.length,H.length,ma,mb,gF,gm,sF,tF,by omega,by omega,by omega,b2⟩
 obtain⟨r,H',h1,rfl,m,h2,h3⟩:=zay (args:=[tagg s,tagg t]) (H:=H) (Q:=fun r H'=>r = .tup [J5 H2.length 0 0,fv (someF 0 (s.size-1)),fv (someF 0 (t.size-1)), .p (.bool (decide (s.size<=8)&&decide (t.size<=8)))]/\BothAt H' H2.length s t [] 0/\Keep (fun _=>False) H H') look_Q65 rfl rfl (by
  dsimp only[i_Q65,c_Q65]
  simp(disch:=omega) [zaj,a1,b1,hm1,hHF,gm,l0,l1,c1,c2,c3,d1,d2,d3,zaa,zsr,fv]
  have hK:Keep (fun _=>False) H HF:=(k1.trans b4).trans kF
  refine⟨fun h=>⟨?_,hB,hK⟩,fun h=>⟨?_,hB,hK⟩⟩
  ·have h8:s.size<=8:=by omega
   rw[decide_eq_true h8,A4]
   exact decide_eq_decide.2 (by omega)
  ·intro h;omega)
 exact⟨H',_,h1,m,h2,h3⟩
abbrev Quad:=Int×Int×Int×Int
def quad (q:Quad):IVal := .agg [J4 q.1, J4 q.2.1, J4 q.2.2.1, J4 q.2.2.2]
def K4:KTy:=⟨true,[.int, .int, .int, .int]⟩
theorem zaen (a b:Quad):eqVals ⟨true,[.int, .int, .int, .int]⟩ (quad a) (quad b)=some (decide (a=b)):=by
 obtain⟨a1,a2,a3,a4⟩:=a
 obtain⟨b1,b2,b3,b4⟩:=b
 by_cases h1:a1=b1<;>by_cases h2:a2=b2<;>by_cases h3:a3=b3<;>by_cases h4:a4=b4 <;>
  simp[quad,eqVals,eqCls,clsEq,h1,h2,h3,h4]
theorem zaje (a:Quad):isKey ⟨true,[.int, .int, .int, .int]⟩ (quad a)=true:=by rw[isKey,zaen]
def Memo (D:Quad->Int->Prop) (es:List (IVal×IVal×Nat)):Prop:=∀e∈es,∃q v n,e=(quad q,IVal.p (.int .i64 v),n)/\D q v
theorem zot {D:Quad->Int->Prop} (q:Quad):∀(es:List (IVal×IVal×Nat)) (i:Nat),Memo D es->findEnt ⟨true,[.int, .int, .int, .int]⟩ (quad q) es i=some none\/∃j v,findEnt ⟨true,[.int, .int, .int, .int]⟩ (quad q) es i=some (some (j, J4 v))/\D q v
 | [],i,_=>.inl rfl
 |e::es,i,h=>by
  obtain⟨q2,v,n,rfl,hd⟩:=h e (by simp)
  have ih:=zot q es (i+1) fun e he=>h e (by simp[he])
  simp only[findEnt,zaen]
  by_cases hq:q=q2
  ·subst hq
   exact .inr ⟨i,v,by simp,hd⟩
  ·simp only[hq,decide_false]
   exact ih
theorem zajf {D:Quad->Int->Prop} {es:List (IVal×IVal×Nat)} {q:Quad} {v:Int} {n:Nat} (h:Memo D es) (hd:D q v):Memo D (es++[(quad q, J4 v,n)]):=by
 intro e he
 rcases Ao.1 he with he|he
 ·exact h e he
 ·simp at he;exact⟨q,v,n,he,hd⟩
theorem zzn {D:Quad->Int->Prop} {q:Quad} {v:Int}:∀(es:List (IVal×IVal×Nat)) (j:Nat),Memo D es->D q v->Memo D (es.modify j fun e=>(quad q, J4 v,e.2.2))
 | [],j,h,_=>by simpa using h
 |e::es,0,h,hd=>by
  intro e2 he
  simp at he
  rcases he with rfl|he
  ·exact⟨q,v,_,rfl,hd⟩
  ·exact h e2 (by simp[he])
 |e::es,j+1,h,hd=>by
  intro e2 he
  simp at he
  rcases he with rfl|he
  ·exact h e2 (by simp)
  ·exact zzn es j (fun e he=>h e (by simp[he])) hd e2 he
end Go.Ideal
namespace Go.Ideal
open Go
section
variable {F:List Tree} {a:Nat} {t u:Tree}
theorem zcu:∀l:List Tree,(postSL l).length=lsize l
 | []=>rfl
 |t::l=>by rw[postSL,Ag,zaf,zcu l,lsize]
theorem zcp:∀a:List Tree,lsize a.reverse=lsize a
 | []=>rfl
 |t::a=>by simp only[A9,zai,zcp a,lsize];omega
def kidsR (t:Tree):List Tree:=(klist t.kids).reverse
theorem zah (t:Tree):t.size=lsize (kidsR t)+1:=by rw[kidsR,zcp];exact zag t
def rng (a n:Nat):Int×Int:=if n=0 then(0, -1)else(a,a+n-1)
theorem zbo (a n:Nat):someF a (a+n-1)=rng a n:=by
 unfold someF rng
 by_cases h:n=0
 ·subst h;rw[if_pos (by omega),if_pos rfl]
 ·rw[if_neg (by omega),if_neg h]
def Rep (t:Tree) (a:Nat) (F:List Tree):Prop:=∃A B,postS t=A++(postSL F.reverse++B)/\A.length=a
theorem Rep.root (t:Tree):Rep t 0 [t]:=⟨[],[],by simp[postSL],rfl⟩
theorem Rep.kids (h:Rep t a (u::F)):Rep t (a+lsize F) (kidsR u):=by
 obtain⟨A,B,h1,h2⟩:=h
 refine⟨A++postSL F.reverse,u::B,?_,by rw[Ag,zcu,zcp,h2]⟩
 rw[h1,kidsR,Cl,A9,zbx,postSL,postSL,zdg]
 simp
theorem Rep.rest (h:Rep t a (u::F)):Rep t a F:=by
 obtain⟨A,B,h1,h2⟩:=h
 refine⟨A,postS u++B,?_,h2⟩
 rw[h1,A9,zbx,postSL,postSL]
 simp
theorem Rep.opened (h:Rep t a (u::F)):Rep t a (kidsR u++F):=by
 obtain⟨A,B,h1,h2⟩:=h
 refine⟨A,u::B,?_,h2⟩
 rw[h1,kidsR,B6,Cl,A9,zbx,zbx,postSL,postSL,zdg]
 simp
theorem Rep.top (h:Rep t a (u::F)):(postS t)[a+lsize F+u.size-1]? = some u:=by
 obtain⟨A,B,h1,h2⟩:=h
 have hk:=zah u
 have:postS t=(A++(postSL F.reverse++postSL (klist u.kids)))++(u::B):=by
  rw[h1,A9,zbx,postSL,postSL,zdg]
  simp
 rw[kidsR,zcp]at hk
 have hl:(A++(postSL F.reverse++postSL (klist u.kids))).length=a+lsize F+u.size-1:=by
  simp only[Ag,zcu,zcp,h2];omega
 rw[this,Ad (by omega),hl,Bb]
 rfl
theorem Rep.first (h:Rep t a (u::F)):(firsts t)[a+lsize F+u.size-1]? = some (a+lsize F):=by
 have hk:=zah u
 rw[firsts,List.getElem?_mapIdx,h.top,AH]
 congr 1;omega
theorem Rep.le (h:Rep t a F):a+lsize F<=t.size:=by
 obtain⟨A,B,h1,h2⟩:=h
 have:=congrArg List.length h1
 simp only[Ag,zaf,zcu,zcp,h2]at this
 omega
theorem ziw:∀(F G:List Tree),postSL F.reverse=postSL G.reverse->F=G
 | [],[],_=>rfl
 | [],u::G,h=>by
   have:=congrArg List.length h
   have hk:=zah u
   simp only[zcu,zcp,lsize]at this;omega
 |u::F,[],h=>by
  have:=congrArg List.length h
  have hk:=zah u
  simp only[zcu,zcp,lsize]at this;omega
 |u::F,w::G,h=>by
  have e:∀(u:Tree) (F:List Tree),postSL (u::F).reverse=(postSL F.reverse++postSL (klist u.kids))++[u]:=fun u F=>by
   rw[A9,zbx,postSL,postSL,zdg];simp
  have h0:=h
  rw[e,e]at h
  obtain⟨h1,h2⟩:=List.append_inj' h rfl
  injection h2 with h2
  subst h2
  rw[ziw F G (List.append_cancel_right h1)]
theorem Rep.same {G:List Tree} (h:Rep t a F) (g:Rep t a G) (e:lsize F=lsize G):F=G:=by
 obtain⟨A,B,h1,h2⟩:=h
 obtain⟨A',B',g1,g2⟩:=g
 rw[h1]at g1
 obtain⟨_,e2⟩:=C8 g1 (by omega)
 obtain⟨e3,_⟩:=C8 e2 (by simp only[zcu,zcp,e])
 exact ziw F G e3
end
def fd:List Tree->List Tree->Nat
 | [],G=>lsize G
 |t::F,[]=>lsize (t::F)
 |t::F,u::G=>min (min (fd (kidsR t) (kidsR u)+fd F G+cost t u) (fd (kidsR t++F) (u::G)+1)) (fd (t::F) (kidsR u++G)+1)
termination_by F G=>lsize F+lsize G
decreasing_by
 all_goals
  have h1:=zah t
  have h2:=zah u
  simp only[lsize,zai]
  omega
theorem fd_le (F G:List Tree):fd F G<=lsize F+lsize G:=by
 have key:∀(n:Nat) (F G:List Tree),lsize F+lsize G<n->fd F G<=lsize F+lsize G:=by
  intro n
  induction n with
  |zero=>intro F G h;omega
  |succ n ih =>
   intro F G h
   cases F with
   |nil=>rw[fd];simp only[lsize];omega
   |cons t F =>
    cases G with
    |nil=>rw[fd];simp only[lsize];omega
    |cons u G =>
     have h1:=zah t
     have h2:=zah u
     simp only[lsize]at h
     have a2:=ih (kidsR t) (kidsR u) (by omega)
     have b2:=ih F G (by omega)
     have c2:=ih (kidsR t++F) (u::G) (by simp only[lsize,zai];omega)
     have d2:=ih (t::F) (kidsR u++G) (by simp only[lsize,zai];omega)
     rw[fd]
     simp only[lsize,zai]at c2 d2 ⊢
     omega
 exact key _ F G (An _)
theorem zvm (t u:Tree):cost t.bare u.bare=cost t u:=by
 obtain⟨k,n,x,a,ks⟩:=t
 obtain⟨k2,n2,x2,a2,ks2⟩:=u
 rfl
def Known (s t:Tree) (q:Quad) (v:Int):Prop:=∃a b F G,Rep s a F/\Rep t b G/\F≠[]/\G≠[]/\q=((rng a (lsize F)).1,(rng a (lsize F)).2,(rng b (lsize G)).1,(rng b (lsize G)).2)/\v=fd F G
theorem zku {F:List Tree} (h:F≠[]):0<lsize F:=by
 cases F with
 |nil=>exact absurd rfl h
 |cons t F=>have:=zah t;simp only[lsize];omega
theorem Known.right {s t:Tree} {v:Int} {a b:Nat} {F G:List Tree} (hF:Rep s a F) (hG:Rep t b G) (h1:F≠[]) (h2:G≠[]) (h:Known s t ((rng a (lsize F)).1,(rng a (lsize F)).2,(rng b (lsize G)).1,(rng b (lsize G)).2) v):v=fd F G:=by
 obtain⟨a',b',F',G',g1,g2,g3,g4,g5,g6⟩:=h
 have p1:=zku h1
 have p2:=zku h2
 have p3:=zku g3
 have p4:=zku g4
 simp only[rng,if_neg (C7 p1),if_neg (C7 p2),if_neg (C7 p3),if_neg (C7 p4),Prod.mk.injEq]at g5
 obtain⟨e1,e2,e3,e4⟩:=g5
 obtain rfl:a=a':=by omega
 obtain rfl:b=b':=by omega
 rw[g6,hF.same g1 (by omega),hG.same g2 (by omega)]
end Go.Ideal
namespace Go.Ideal
open Go
set_option maxHeartbeats 4000000
set_option maxRecDepth 20000
attribute [-simp] getElem?_pos
structure Pair (H:J2) (k km:Nat) (s t:Tree):Prop where
 blk:∃ka kb ma mb es ck,H[k]? = some (.cells [J5 ka 0 0, J5 kb 0 0, .map km] 3 0 false)/\H[km]? = some (.map es ck)/\Memo (Known s t) es/\SideAt H ka ma (postS s) (postT s 0) (firsts s)/\SideAt H kb mb (postS t) (postT t 0) (firsts t)/\km<ka/\km<kb/\km<k
theorem zap {a:Nat} {u:Tree} {F:List Tree}:rng a (lsize (u::F))=((a:Int),((a+lsize F+u.size-1:Nat):Int)):=by
 have h1:=zah u
 have h2:lsize (u::F)=u.size+lsize F:=rfl
 rw[h2,rng,if_neg (by omega)]
 congr 1;omega
def ApartSays (s t:Tree) (n:Nat):Prop:=∀(H:J2) (k km a b:Nat) (F G:List Tree),Pair H k km s t->Rep s a F->Rep t b G->lsize F+lsize G<n ->
 ∃H',CW tr.look F_Q86 [J5 k 0 0,fv (rng a (lsize F)),fv (rng b (lsize G))] H=some (J4 (fd F G),H')/\Pair H' k km s t/\Keep (fun x=>x=km) H H'
theorem flat5:∀(N:List Tree) (j:Nat) (u:Tree),N[j]? = some u->((N.flatMap nodecell).drop (j*5)).take 5=nodecell u
 | [],j,u,h=>by rw[List.getElem?_nil]at h;cases h
 |x::N,0,u,h=>by
  rw[AL]at h
  injection h with h
  subst h
  simp[nodecell]
 |x::N,j+1,u,h=>by
  rw[Aw]at h
  rw[<- flat5 N j u h,AI,CQ]
  simp only[nodecell,At,AV,Bv]
theorem SideAt.node {S:Nat->Prop} {H:J2} {k m:Nat} {N:List Tree} {ids fs:List Nat} (h:SideAt H k m N ids fs) {j:Nat} {u:Tree} (hj:N[j]? = some u) (hS:∀x,S x->x<k\/m<=x):∃v q,up v = .v v/\up q = .v q/\idxS 5 v (J4 j)=some q/\v≠.undef/\q≠.undef/\∀H',Keep S H H'->loadVal ⟨[],H'⟩ none (J5 k 0 0)=some v/\loadVal ⟨[],H'⟩ (some 5) q=some (tagg u.bare):=by
 obtain⟨nv,fvv,o1,o2,h1,h2,h3,h4,h5,h6⟩:=h.blk
 have hjl:=(Aa.1 hj).1
 cases o1 with
 |none=>have:=h2.2.1;omega
 |some k2 =>
  obtain⟨ver,e1,_⟩:=HS.load (bx:=[]) h2 hjl
  refine⟨nv,_,h2.up,rfl,e1,by rintro rfl;exact absurd h2.pass (by decide),by simp,fun H' hk=>⟨?_,?_⟩⟩
  ·exact zac (by rw[hk.2 k (Aa.1 h1).1 (fun e=>by have:=hS k e;omega)];exact h1) rfl
  ·have h7:VS H' (some k2) 5 N.length nv (pcells (N.flatMap nodecell)):=h2.keep hk (fun x hx e=>by have:=h5 x hx;have:=hS x e;omega)
   obtain⟨ver2,e2,e3⟩:=HS.load (bx:=[]) h7 hjl
   rw[e1]at e2
   injection e2 with e2
   rw[e2,e3]
   have:=flat5 N j u hj
   have h8:((pcells (N.flatMap nodecell)).drop (j*5)).take 5=pcells (nodecell u):=by
    rw[<- this,pcells,pcells,List.map_take,List.map_drop]
   rw[h8]
   rfl
theorem Pair.keep {H:J2} {k km:Nat} {s t:Tree} (h:Pair H k km s t):∃ka kb ma mb,km<ka/\km<kb/\∀H',Keep (fun x=>x=km) H H'->loadVal ⟨[],H'⟩ none (J5 k 0 0)=some (J5 ka 0 0)/\loadVal ⟨[],H'⟩ none (J5 k 0 1)=some (J5 kb 0 0)/\loadVal ⟨[],H'⟩ none (J5 k 0 2)=some (.map km)/\SideAt H' ka ma (postS s) (postT s 0) (firsts s)/\SideAt H' kb mb (postS t) (postT t 0) (firsts t):=by
 obtain⟨ka,kb,ma,mb,es,ck,h1,h2,h3,h4,h5,h6,h7,h8⟩:=h.blk
 refine⟨ka,kb,ma,mb,h6,h7,fun H' hk=>?_⟩
 have g:H'[k]? = some (.cells [J5 ka 0 0, J5 kb 0 0, .map km] 3 0 false):=by rw[hk.2 k (Aa.1 h1).1 (by omega)];exact h1
 exact⟨zac g rfl,zac g rfl,zac g rfl,h4.keep hk (fun x e=>.inl (by omega)),h5.keep hk (fun x e=>.inl (by omega))⟩
theorem zrd {u:Tree}:∀l:List Tree,u∈postSL l->∃c∈l,u∈postS c
 | [],h=>by simp[postSL]at h
 |t::l,h=>by
  rw[postSL,Ao]at h
  rcases h with h|h
  ·exact⟨t,by simp,h⟩
  ·obtain⟨c,h1,h2⟩:=zrd l h
   exact⟨c,by simp[h1],h2⟩
theorem zre (t u:Tree):u∈postS t->u∈t.nodes:=by
 have key:∀(n:Nat) (t:Tree),t.size<n->u∈postS t->u∈t.nodes:=by
  intro n
  induction n with
  |zero=>intro t h;omega
  |succ n ih =>
   intro t h hu
   rw[zdg,Ao]at hu
   rcases hu with hu|hu
   ·obtain⟨c,h1,h2⟩:=zrd _ hu
    have:=zat h1
    have:=zag t
    exact zvg h1 (ih c (by omega) h2)
   ·simp at hu;subst hu;exact zra _
 exact key _ t (An _)
theorem zrf (s t:Tree) (hs:Fine s) (ht:Fine t) (n:Nat) (ih:ApartSays s t n) (H:J2) (k km a b:Nat) (w u:Tree) (F G:List Tree) (hP:Pair H k km s t) (hF:Rep s a (w::F)) (hG:Rep t b (u::G)) (hn:lsize (w::F)+lsize (u::G)<=n) :
 ∃H',CW tr.look F_Q87 [J5 k 0 0,fv (rng a (lsize (w::F))),fv (rng b (lsize (u::G)))] H=some (J4 (fd (kidsR w) (kidsR u)+fd F G+cost w u:Nat),H')/\Pair H' k km s t/\Keep (fun x=>x=km) H H':=by
 have hs1:=hs.1
 have ht1:=ht.1
 have lF:=hF.le
 have lG:=hG.le
 have hkw:=zah w
 have hku:=zah u
 have e1:lsize (w::F)=w.size+lsize F:=rfl
 have e2:lsize (u::G)=u.size+lsize G:=rfl
 have fl1:=fd_le (kidsR w) (kidsR u)
 have fl2:=fd_le F G
 have hc3:cost w u<=3:=by unfold cost;(repeat' split)<;>omega
 obtain⟨H1,c1,P1,K1⟩:=ih H k km _ _ (kidsR w) (kidsR u) hP hF.kids hG.kids (by omega)
 obtain⟨H2,c2,P2,K2⟩:=ih H1 k km _ _ F G P1 hF.rest hG.rest (by omega)
 obtain⟨ka,kb,ma,mb,m1,m2,hA⟩:=hP.keep
 have K0:Keep (fun x=>x=km) H H:=Keep.refl
 have K12:=K1.trans K2
 obtain⟨p1,p2,p3,p4,p5⟩:=hA H K0
 obtain⟨q1,q2,q3,q4,q5⟩:=hA H1 K1
 obtain⟨r1,r2,r3,r4,r5⟩:=hA H2 K12
 obtain⟨v,q,x1,x2,x3,x4,x5,x6⟩:=p4.node (S:=fun x=>x=km) hF.top (fun x e=>.inl (by omega))
 obtain⟨v',q',y1,y2,y3,y4,y5,y6⟩:=p5.node (S:=fun x=>x=km) hG.top (fun x e=>.inl (by omega))
 have kk1:=zst H ka ma _ _ _ p4 a _ _ hF.first (by rw[firsts,By,zaf];omega)
 have kk2:=zst H kb mb _ _ _ p5 b _ _ hG.first (by rw[firsts,By,zaf];omega)
 have ww1:=zif H1 ka ma _ _ _ q4 a _ _ hF.first (by rw[firsts,By,zaf];omega) (by omega)
 have ww2:=zif H1 kb mb _ _ _ q5 b _ _ hG.first (by rw[firsts,By,zaf];omega) (by omega)
 have z1:someF ((a+lsize F:Nat):Int) (((a+lsize F+w.size-1:Nat):Int)-1)=rng (a+lsize F) (lsize (kidsR w)):=by rw[<- zbo];congr 1;omega
 have z2:someF ((b+lsize G:Nat):Int) (((b+lsize G+u.size-1:Nat):Int)-1)=rng (b+lsize G) (lsize (kidsR u)):=by rw[<- zbo];congr 1;omega
 have z3:someF (a:Int) (((a+lsize F:Nat):Int)-1)=rng a (lsize F):=by rw[<- zbo];congr 1
 have z4:someF (b:Int) (((b+lsize G:Nat):Int)-1)=rng b (lsize G):=by rw[<- zbo];congr 1
 rw[z1]at kk1
 rw[z2]at kk2
 rw[z3]at ww1
 rw[z4]at ww2
 have cc:=zaeg w.bare u.bare (by
  have:=hs.2 w (zre s w (Az hF.top))
  have e:w.bare.attrs=w.attrs:=rfl
  rw[e];omega) H2
 rw[zvm]at cc
 obtain⟨x7,x8⟩:=x6 H K0
 obtain⟨x9,x10⟩:=x6 H1 K1
 obtain⟨x11,x12⟩:=x6 H2 K12
 obtain⟨y7,y8⟩:=y6 H K0
 obtain⟨y9,y10⟩:=y6 H1 K1
 obtain⟨y11,y12⟩:=y6 H2 K12
 simp only[fv]at kk1 kk2 ww1 ww2 c1 c2
 obtain⟨r,H',h1,rfl,h2⟩:=zay (args:=[J5 k 0 0,fv (rng a (lsize (w::F))),fv (rng b (lsize (u::G)))]) (H:=H) (Q:=fun r H'=>r = J4 (fd (kidsR w) (kidsR u)+fd F G+cost w u:Nat)/\H'=H2) look_Q87 rfl rfl (by
  dsimp only[i_Q87,c_Q87]
  rw[zap,zap]
  simp(disch:=omega) [fv,p1,p2,q1,q2,r1,r2,x1,x2,x3,x4,x7,x8,x9,x10,x11,x12,y1,y2,y3,y4,y7,y8,y9,y10,y11,y12,kk1,kk2,ww1,ww2,c1,c2,zaj,cc,zaa]
  )
 subst h2
 exact⟨H',h1,P2,K12⟩
theorem zalw (G:List Tree):fd [] G=lsize G:=by rw[fd]
theorem zapc (F:List Tree):fd F []=lsize F:=by
 cases F with
 |nil=>rw[fd]
 |cons t F=>rw[fd]
theorem ext3 (x y z:Nat):evalExt (x:Int) false [J4 ((y:Int)+1), J4 ((z:Int)+1)]=some ((min (min x (y+1)) (z+1):Nat):Int):=by
 simp only[evalExt,Bg,if_false]
 congr 1
 by_cases h1:(y:Int)+1<x
 ·rw[if_pos h1]
  by_cases h2:(z:Int)+1<(y:Int)+1
  ·rw[if_pos h2];omega
  ·rw[if_neg h2];omega
 ·rw[if_neg h1]
  by_cases h2:(z:Int)+1<x
  ·rw[if_pos h2];omega
  ·rw[if_neg h2];omega
theorem Pair.put {H:J2} {k km:Nat} {s t:Tree} {es:List (IVal×IVal×Nat)} {ck:Nat} (h:Pair H k km s t) (hm:Memo (Known s t) es):Pair (H.set km (.map es ck)) k km s t:=by
 obtain⟨ka,kb,ma,mb,es0,ck0,h1,h2,h3,h4,h5,h6,h7,h8⟩:=h.blk
 have hk:Keep (fun x=>x=km) H (H.set km (.map es ck)):=Keep.set (.inl rfl)
 refine⟨ka,kb,ma,mb,es,ck,?_,zan (Aa.1 h2).1,hm,h4.keep hk (fun x e=>.inl (by omega)),h5.keep hk (fun x e=>.inl (by omega)),h6,h7,h8⟩
 rw[Ac (by omega)];exact h1
theorem zajg (s t:Tree) (hs:Fine s) (ht:Fine t) (n:Nat) (ih:ApartSays s t n):ApartSays s t (n+1):=by
 intro H k km a b F G hP hF hG hn
 have hs1:=hs.1
 have ht1:=ht.1
 have lF:=hF.le
 have lG:=hG.le
 have K0:Keep (fun x=>x=km) H H:=Keep.refl
 have hnil:fv (rng 0 0)=fv (0, -1):=rfl
 cases F with
 |nil =>
  cases G with
  |nil =>
   obtain⟨r,H',h1,rfl,rfl⟩:=zay (args:=[J5 k 0 0,fv (rng a (lsize [])),fv (rng b (lsize []))]) (H:=H) (Q:=fun r H'=>r = J4 (fd [] []:Nat)/\H'=H) look_Q86 rfl rfl (by
    dsimp only[i_Q86,c_Q86]
    simp(disch:=omega) [fv,rng,lsize,zdt,eqVals,eqCls,clsEq,zalw])
   exact⟨_,h1,hP,K0⟩
  |cons u G =>
   have hku:=zah u
   have e2:lsize (u::G)=u.size+lsize G:=rfl
   have hne:¬((b:Int)=0/\((b+lsize G+u.size-1:Nat):Int) = -1):=by omega
   have hb2:((b+lsize G+u.size-1:Nat):Int) ≠ -1:=by omega
   obtain⟨r,H',h1,rfl,h2⟩:=zay (args:=[J5 k 0 0,fv (rng a (lsize [])),fv (rng b (lsize (u::G)))]) (H:=H) (Q:=fun r H'=>r = J4 (fd [] (u::G):Nat)/\H'=H) look_Q86 rfl rfl (by
    dsimp only[i_Q86,c_Q86]
    rw[zap,zalw,e2]
    simp(disch:=omega) [fv,rng,lsize,zdt,eqVals,eqCls,clsEq,beq_eq_false_iff_ne.2 hb2,BK,zaa]
    omega)
   subst h2
   exact⟨_,h1,hP,K0⟩
 |cons w F =>
  have hkw:=zah w
  have e1:lsize (w::F)=w.size+lsize F:=rfl
  have ha2:((a+lsize F+w.size-1:Nat):Int) ≠ -1:=by omega
  cases G with
  |nil =>
   obtain⟨r,H',h1,rfl,h2⟩:=zay (args:=[J5 k 0 0,fv (rng a (lsize (w::F))),fv (rng b (lsize []))]) (H:=H) (Q:=fun r H'=>r = J4 (fd (w::F) []:Nat)/\H'=H) look_Q86 rfl rfl (by
    dsimp only[i_Q86,c_Q86]
    rw[zap,zapc,e1]
    simp(disch:=omega) [fv,rng,lsize,zdt,eqVals,eqCls,clsEq,beq_eq_false_iff_ne.2 ha2,BK,zaa]
    omega)
   subst h2
   exact⟨_,h1,hP,K0⟩
  |cons u G =>
   have hku:=zah u
   have e2:lsize (u::G)=u.size+lsize G:=rfl
   have hb2:((b+lsize G+u.size-1:Nat):Int) ≠ -1:=by omega
   have z1:someF (a:Int) (((a+lsize F+w.size-1:Nat):Int)-1)=rng a (lsize (kidsR w++F)):=by rw[<- zbo,zai];congr 1;omega
   have z2:someF (b:Int) (((b+lsize G+u.size-1:Nat):Int)-1)=rng b (lsize (kidsR u++G)):=by rw[<- zbo,zai];congr 1;omega
   obtain⟨ka,kb,ma,mb,m1,m2,hA⟩:=hP.keep
   obtain⟨p1,p2,p3,p4,p5⟩:=hA H K0
   have hP0:=hP
   obtain⟨ka',kb',ma',mb',es,ck,g1,g2,g3,g4⟩:=hP.blk
   let qd:Quad:=((a:Int),((a+lsize F+w.size-1:Nat):Int),(b:Int),((b+lsize G+u.size-1:Nat):Int))
   have hqd:quad qd = .agg [J4 a, J4 (a+lsize F+w.size-1:Nat), J4 b, J4 (b+lsize G+u.size-1:Nat)]:=rfl
   have hkey:=zaje qd
   rw[hqd]at hkey
   rcases zot qd es 0 g3 with hf|⟨j,v,hf,hd⟩
   ·rw[hqd]at hf
    obtain⟨H1,c1,P1,K1⟩:=zrf s t hs ht n ih H k km a b w u F G hP0 hF hG (by omega)
    obtain⟨H2,c2,P2,K2⟩:=ih H1 k km a b (kidsR w++F) (u::G) P1 hF.opened hG (by rw[zai];omega)
    obtain⟨H3,c3,P3,K3⟩:=ih H2 k km a b (w::F) (kidsR u++G) P2 hF hG.opened (by rw[zai];omega)
    have K13:=(K1.trans K2).trans K3
    obtain⟨q1,q2,q3,q4,q5⟩:=hA H3 K13
    obtain⟨kc,kd,mc,md,es3,ck3,f1,f2,f3,f4,f5,f6⟩:=P3.blk
    have o1:=fun H=>zss ((a:Int),((a+lsize F+w.size-1:Nat):Int)) (by dsimp only;omega) (by dsimp only;omega) H
    have o2:=fun H=>zss ((b:Int),((b+lsize G+u.size-1:Nat):Int)) (by dsimp only;omega) (by dsimp only;omega) H
    dsimp only at o1 o2
    rw[z1]at o1
    rw[z2]at o2
    rw[zap,zap]at c1
    rw[zap]at c2 c3
    have b1:=fd_le (kidsR w) (kidsR u)
    have b2:=fd_le F G
    have b3:=fd_le (kidsR w++F) (u::G)
    have b4:=fd_le (w::F) (kidsR u++G)
    have hc3:cost w u<=3:=by unfold cost;(repeat' split)<;>omega
    rw[zai]at b3 b4
    have hfd:fd (w::F) (u::G)=min (min (fd (kidsR w) (kidsR u)+fd F G+cost w u) (fd (kidsR w++F) (u::G)+1)) (fd (w::F) (kidsR u++G)+1):=by rw[fd]
    have hm:=ext3 (fd (kidsR w) (kidsR u)+fd F G+cost w u) (fd (kidsR w++F) (u::G)) (fd (w::F) (kidsR u++G))
    rw[<- hfd]at hm
    simp only[Da]at hm
    have hK:Known s t qd (fd (w::F) (u::G):Nat):=⟨a,b,w::F,u::G,hF,hG,by simp,by simp,by rw[zap,zap],rfl⟩
    simp only[fv]at c1 c2 c3 o1 o2
    obtain⟨r,H',h1,rfl,h2,h3⟩:=zay (args:=[J5 k 0 0,fv (rng a (lsize (w::F))),fv (rng b (lsize (u::G)))]) (H:=H) (Q:=fun r H'=>r = J4 (fd (w::F) (u::G):Nat)/\Pair H' k km s t/\Keep (fun x=>x=km) H H') look_Q86 rfl rfl (by
     dsimp only[i_Q86,c_Q86]
     rw[zap,zap]
     rcases zot qd es3 0 f3 with hf3|⟨j3,v3,hf3,hd3⟩
     ·rw[hqd]at hf3
      simp(disch:=omega) [fv,zdt,eqVals,eqCls,clsEq,beq_eq_false_iff_ne.2 ha2,beq_eq_false_iff_ne.2 hb2,BK,zaa,p3,hkey,Mem.get,Mem.put,g2,hf,hf3,lookRes,c1,c2,c3,o1,o2,hm,q3,f2]
      exact⟨P3.put (zajf f3 hK),K13.trans (Keep.set (.inl rfl))⟩
     ·rw[hqd]at hf3
      simp(disch:=omega) [fv,zdt,eqVals,eqCls,clsEq,beq_eq_false_iff_ne.2 ha2,beq_eq_false_iff_ne.2 hb2,BK,zaa,p3,hkey,Mem.get,Mem.put,g2,hf,hf3,lookRes,c1,c2,c3,o1,o2,hm,q3,f2]
      exact⟨P3.put (zzn es3 j3 f3 hK),K13.trans (Keep.set (.inl rfl))⟩)
    exact⟨_,h1,h2,h3⟩
   ·rw[hqd]at hf
    have hv:v=fd (w::F) (u::G):=Known.right hF hG (by simp) (by simp) (by rw[zap,zap];exact hd)
    obtain⟨r,H',h1,rfl,h2⟩:=zay (args:=[J5 k 0 0,fv (rng a (lsize (w::F))),fv (rng b (lsize (u::G)))]) (H:=H) (Q:=fun r H'=>r = J4 (fd (w::F) (u::G):Nat)/\H'=H) look_Q86 rfl rfl (by
     dsimp only[i_Q86,c_Q86]
     rw[zap,zap]
     simp(disch:=omega) [fv,zdt,eqVals,eqCls,clsEq,beq_eq_false_iff_ne.2 ha2,beq_eq_false_iff_ne.2 hb2,BK,p3,hkey,Mem.get,g2,hf,lookRes,hv])
    subst h2
    exact⟨_,h1,hP0,K0⟩
theorem zkv (s t:Tree) (hs:Fine s) (ht:Fine t):∀n,ApartSays s t n
 |0=>fun _ _ _ _ _ _ _ _ _ _ h=>absurd h (Nat.not_lt_zero _)
 |n+1=>zajg s t hs ht n (zkv s t hs ht n)
theorem zou (t:Tree):lsize [t]=t.size:=by simp[lsize]
end Go.Ideal
namespace Go.Ideal
open Go
theorem zcs (G:List Tree):fd [] G=lsize G:=by rw[fd]
theorem zfg (F:List Tree):fd F []=lsize F:=by
 cases F with
 |nil=>rw[fd]
 |cons t F=>rw[fd]
theorem zjk (t u:Tree) (F G:List Tree):fd (t::F) (u::G)=min (min (fd (kidsR t) (kidsR u)+fd F G+cost t u) (fd (kidsR t++F) (u::G)+1)) (fd (t::F) (kidsR u++G)+1):=by rw[fd]
theorem zavq (A C B D:List Tree):fd (A++B) (C++D)<=fd A C+fd B D:=by
 have key:∀(n:Nat) (A C B D:List Tree),lsize A+lsize C+(lsize B+lsize D)<n->fd (A++B) (C++D)<=fd A C+fd B D:=by
  intro n
  induction n with
  |zero=>intro A C B D h;omega
  |succ n ih =>
   intro A C B D h
   cases A with
   |nil =>
    cases C with
    |nil=>rw[zcs];simp
    |cons u C =>
     have h2:=zah u
     simp only[lsize]at h
     have a1:=ih [] (kidsR u++C) B D (by simp only[lsize,zai];omega)
     rw[zcs]at a1 ⊢
     simp only[lsize,zai,AV,Ax,At]at a1 ⊢
     cases B with
     |nil=>rw[zcs];rw[zcs]at a1 ⊢;simp only[lsize,zai]at a1 ⊢;omega
     |cons b B=>rw[zjk];omega
   |cons t A =>
    have h1:=zah t
    cases C with
    |nil =>
     simp only[lsize]at h
     have a1:=ih (kidsR t++A) [] B D (by simp only[lsize,zai];omega)
     rw[zfg]at a1 ⊢
     simp only[lsize,zai,AV,Ax,At]at a1 ⊢
     cases D with
     |nil=>rw[zfg];rw[zfg]at a1 ⊢;simp only[lsize,zai]at a1 ⊢;omega
     |cons d D=>rw[zjk];omega
    |cons u C =>
     have h2:=zah u
     simp only[lsize]at h
     have a2:=ih A C B D (by omega)
     have a3:=ih (kidsR t++A) (u::C) B D (by simp only[lsize,zai];omega)
     have a4:=ih (t::A) (kidsR u++C) B D (by simp only[lsize,zai];omega)
     simp only[At,Ax]at a3 a4 ⊢
     rw[zjk,zjk]
     omega
 exact key _ A C B D (An _)
end Go.Ideal
namespace Go.Ideal
open Go
set_option maxHeartbeats 4000000
set_option maxRecDepth 20000
attribute [-simp] getElem?_pos
section
variable {A B:List Nat} {F G:List Tree} {a b:Nat}
def pr (A B:List Nat):Nat->Nat->List Tree->List Tree->J1
 |_,_,[],_=>[]
 |_,_,_::_,[]=>[]
 |a,b,t::F,u::G =>
  if fd (t::F) (u::G)=fd (kidsR t) (kidsR u)+fd F G+cost t u then pr A B (a+lsize F) (b+lsize G) (kidsR t) (kidsR u)++pr A B a b F G++[(A.getD (a+lsize F+t.size-1) 0,B.getD (b+lsize G+u.size-1) 0)]
  else if fd (t::F) (u::G)=fd (kidsR t++F) (u::G)+1 then pr A B a b (kidsR t++F) (u::G)else pr A B a b (t::F) (kidsR u++G)
termination_by _ _ F G=>lsize F+lsize G
decreasing_by
 all_goals
  have h1:=zah t
  have h2:=zah u
  simp only[lsize,zai]
  omega
theorem zaeo:pr A B a b [] G=[]:=by rw[pr]
theorem zxy:pr A B a b F []=[]:=by
 cases F with
 |nil=>rw[pr]
 |cons t F=>rw[pr]
theorem zxz {t u:Tree}:pr A B a b (t::F) (u::G)=if fd (t::F) (u::G)=fd (kidsR t) (kidsR u)+fd F G+cost t u then pr A B (a+lsize F) (b+lsize G) (kidsR t) (kidsR u)++pr A B a b F G++[(A.getD (a+lsize F+t.size-1) 0,B.getD (b+lsize G+u.size-1) 0)]
 else if fd (t::F) (u::G)=fd (kidsR t++F) (u::G)+1 then pr A B a b (kidsR t++F) (u::G)else pr A B a b (t::F) (kidsR u++G):=by rw[pr]
theorem zaep (A B:List Nat) (a b:Nat) (F G:List Tree):(pr A B a b F G).length<=lsize F:=by
 have key:∀(n:Nat) (a b:Nat) (F G:List Tree),lsize F+lsize G<n->(pr A B a b F G).length<=lsize F:=by
  intro n
  induction n with
  |zero=>intro a b F G h;omega
  |succ n ih =>
   intro a b F G h
   cases F with
   |nil=>rw[zaeo];simp
   |cons t F =>
    cases G with
    |nil=>rw[zxy];simp
    |cons u G =>
     have h1:=zah t
     have h2:=zah u
     simp only[lsize]at h
     rw[zxz]
     split
     ·have a1:=ih (a+lsize F) (b+lsize G) (kidsR t) (kidsR u) (by omega)
      have a2:=ih a b F G (by omega)
      simp only[Ag,AK,lsize];omega
     ·split
      ·have a3:=ih a b (kidsR t++F) (u::G) (by simp only[lsize,zai];omega)
       simp only[lsize,zai]at a3 ⊢;omega
      ·exact ih a b (t::F) (kidsR u++G) (by simp only[lsize,zai];omega)
 exact key _ a b F G (An _)
theorem zrg {t u:Tree} (h:fd (t::F) (u::G)=fd (kidsR t) (kidsR u)+fd F G+cost t u):cost t u<3:=by
 have h1:=zavq (kidsR t) (kidsR u) F G
 have h2:fd (kidsR t++F) (u::G)<=fd (kidsR t++F) (kidsR u++G)+1:=by
  cases hk:kidsR t++F with
  |nil=>rw[zcs,zcs];have:=zah u;simp only[lsize,zai];omega
  |cons x X=>rw[zjk x u];omega
 have h3:=zjk t u F G
 omega
def prcells (l:J1):List PVal:=l.flatMap fun p=>[.int .i64 p.1, .int .i64 p.2]
theorem zov (l m:J1):prcells (l++m)=prcells l++prcells m:=by simp[prcells]
end
def PairsSays (s t:Tree) (n:Nat):Prop:=∀(H:J2) (k km a b:Nat) (F G:List Tree),Pair H k km s t->Rep s a F->Rep t b G->lsize F+lsize G<n ->
 ∃H' v o,CW tr.look F_Q66 [J5 k 0 0,fv (rng a (lsize F)),fv (rng b (lsize G))] H=some (v,H')/\Pair H' k km s t/\Keep (fun x=>x=km) H H' /\
  VS H' o 2 (pr (postT s 0) (postT t 0) a b F G).length v (pcells (prcells (pr (postT s 0) (postT t 0) a b F G)))/\(∀ j,o=some j->H.length<=j)
theorem Pair.lt {H:J2} {k km:Nat} {s t:Tree} (h:Pair H k km s t):km<H.length:=by
 obtain⟨ka,kb,ma,mb,es,ck,h1,h2,h3⟩:=h.blk
 exact(Aa.1 h2).1
theorem Pair.mix {H0 H H':J2} {k km:Nat} {s t:Tree} (h0:Pair H0 k km s t) (h:Pair H k km s t) (h1:Keep (fun x=>x=km) H0 H) {S:Nat->Prop} (hk:Keep S H H') (hS:∀i,S i->H0.length<=i):Pair H' k km s t:=by
 have hl:=h0.lt
 have hle:=h1.1
 have h2:Keep (fun x=>x=km) H0 H':=h1.trans' hk (fun i hi e=>by have:=hS i e;omega)
 obtain⟨ka,kb,ma,mb,es,ck,a1,a2,a3,a4,a5,a6,a7,a8⟩:=h0.blk
 obtain⟨_,_,_,_,es2,ck2,_,b2,b3,_⟩:=h.blk
 refine⟨ka,kb,ma,mb,es2,ck2,?_,?_,b3,a4.keep h2 (fun x e=>.inl (by omega)),a5.keep h2 (fun x e=>.inl (by omega)),a6,a7,a8⟩
 ·rw[h2.2 k (Aa.1 a1).1 (by omega)];exact a1
 ·rw[hk.2 km (by omega) (fun e=>by have:=hS km e;omega)];exact b2
theorem SideAt.idl {H:J2} {k m:Nat} {N:List Tree} {ids fs:List Nat} (h:SideAt H k m N ids fs):loadVal ⟨[],H⟩ none (J5 k 0 1)=some (.p (nval ids)):=by
 obtain⟨nv,fvv,o1,o2,h1,h2,h3⟩:=h.blk
 exact zac h1 rfl
theorem zajh (s t:Tree) (hs:Fine s) (ht:Fine t) (n:Nat) (ih:PairsSays s t n):PairsSays s t (n+1):=by
 intro H k km a b F G hP hF hG hn
 have hs1:=hs.1
 have ht1:=ht.1
 have lF:=hF.le
 have lG:=hG.le
 have K0:Keep (fun x=>x=km) H H:=Keep.refl
 cases F with
 |nil =>
  rw[zaeo]
  obtain⟨r,H',h1,rfl,h2⟩:=zay (args:=[J5 k 0 0,fv (rng a (lsize [])),fv (rng b (lsize G))]) (H:=H) (Q:=fun r H'=>r = .p .nilslice/\H'=H) look_Q66 rfl rfl (by
   dsimp only[i_Q66,c_Q66]
   simp(disch:=omega) [fv,lsize,zdt,eqVals,eqCls,clsEq,show rng a 0=(0, -1)from rfl])
  subst h2
  exact⟨_,_,none,h1,hP,K0,VS.nil,by simp⟩
 |cons w F =>
  have hkw:=zah w
  have e1:lsize (w::F)=w.size+lsize F:=rfl
  have ha2:((a+lsize F+w.size-1:Nat):Int) ≠ -1:=by omega
  cases G with
  |nil =>
   rw[zxy]
   obtain⟨r,H',h1,rfl,h2⟩:=zay (args:=[J5 k 0 0,fv (rng a (lsize (w::F))),fv (rng b (lsize []))]) (H:=H) (Q:=fun r H'=>r = .p .nilslice/\H'=H) look_Q66 rfl rfl (by
    dsimp only[i_Q66,c_Q66]
    rw[zap]
    simp(disch:=omega) [fv,lsize,zdt,eqVals,eqCls,clsEq,beq_eq_false_iff_ne.2 ha2,BK,show rng b 0=(0, -1)from rfl])
   subst h2
   exact⟨_,_,none,h1,hP,K0,VS.nil,by simp⟩
  |cons u G =>
   have hku:=zah u
   have e2:lsize (u::G)=u.size+lsize G:=rfl
   have hb2:((b+lsize G+u.size-1:Nat):Int) ≠ -1:=by omega
   have z1:someF (a:Int) (((a+lsize F+w.size-1:Nat):Int)-1)=rng a (lsize (kidsR w++F)):=by rw[<- zbo,zai];congr 1;omega
   have z2:someF (b:Int) (((b+lsize G+u.size-1:Nat):Int)-1)=rng b (lsize (kidsR u++G)):=by rw[<- zbo,zai];congr 1;omega
   have y1:someF ((a+lsize F:Nat):Int) (((a+lsize F+w.size-1:Nat):Int)-1)=rng (a+lsize F) (lsize (kidsR w)):=by rw[<- zbo];congr 1;omega
   have y2:someF ((b+lsize G:Nat):Int) (((b+lsize G+u.size-1:Nat):Int)-1)=rng (b+lsize G) (lsize (kidsR u)):=by rw[<- zbo];congr 1;omega
   have y3:someF (a:Int) (((a+lsize F:Nat):Int)-1)=rng a (lsize F):=by rw[<- zbo];congr 1
   have y4:someF (b:Int) (((b+lsize G:Nat):Int)-1)=rng b (lsize G):=by rw[<- zbo];congr 1
   obtain⟨H1,c1,P1,K1⟩:=zkv s t hs ht _ H k km a b (w::F) (u::G) hP hF hG (An _)
   obtain⟨H2,c2,P2,K2⟩:=zrf s t hs ht _ (zkv s t hs ht _) H1 k km a b w u F G P1 hF hG (Ai _)
   have K12:=K1.trans K2
   have b1:=fd_le (kidsR w) (kidsR u)
   have b2:=fd_le F G
   have b3:=fd_le (kidsR w++F) (u::G)
   have b4:=fd_le (w::F) (kidsR u++G)
   have b5:=fd_le (w::F) (u::G)
   have hc3:cost w u<=3:=by unfold cost;(repeat' split)<;>omega
   rw[zai]at b3 b4
   rw[zap,zap]at c1 c2
   have o1:=fun H=>zss ((a:Int),((a+lsize F+w.size-1:Nat):Int)) (by dsimp only;omega) (by dsimp only;omega) H
   have o2:=fun H=>zss ((b:Int),((b+lsize G+u.size-1:Nat):Int)) (by dsimp only;omega) (by dsimp only;omega) H
   dsimp only at o1 o2
   rw[z1]at o1
   rw[z2]at o2
   simp only[fv]at c1 c2 o1 o2
   rw[zxz]
   by_cases hm:fd (w::F) (u::G)=fd (kidsR w) (kidsR u)+fd F G+cost w u
   ·rw[if_pos hm]
    have hcl:=zrg hm
    generalize hp1:pr (postT s 0) (postT t 0) (a+lsize F) (b+lsize G) (kidsR w) (kidsR u)=p1
    generalize hp2:pr (postT s 0) (postT t 0) a b F G=p2
    have hl1:=zaep (postT s 0) (postT t 0) (a+lsize F) (b+lsize G) (kidsR w) (kidsR u)
    have hl2:=zaep (postT s 0) (postT t 0) a b F G
    rw[hp1]at hl1
    rw[hp2]at hl2
    obtain⟨H3,v3,q3,c3,P3,K3,V3,N3⟩:=ih H2 k km _ _ (kidsR w) (kidsR u) P2 hF.kids hG.kids (by omega)
    obtain⟨H4,v4,q4,c4,P4,K4,V4,N4⟩:=ih H3 k km _ _ F G P3 hF.rest hG.rest (by omega)
    rw[hp1]at V3
    rw[hp2]at V4
    have kml:=P2.lt
    have V3':=V3.keep K4 (fun j hj e=>by have:=N3 j hj;omega)
    obtain⟨v5,H5,q5,c5,V5,K5,N5⟩:=V3'.appendVS V4 (by omega)
    have hK3l:=K3.1
    have hK4l:=K4.1
    have hK12l:=K12.1
    have K5':Keep (fun x=>x=km) H H5:=by
     refine((K12.trans K3).trans K4).trans' K5 ?_
     intro i hi e
     have:=N3 i e;omega
    have P5:Pair H5 k km s t:=P2.mix P4 (K3.trans K4) K5 (fun i e=>N3 i e)
    obtain⟨ka,kb,ma,mb,m1,m2,hA⟩:=hP.keep
    obtain⟨p1',p2',p3',p4',p5'⟩:=hA H2 K12
    obtain⟨r1,r2,r3,r4,r5⟩:=hA H3 (K12.trans K3)
    obtain⟨t1,t2,t3,t4,t5⟩:=hA H5 K5'
    have kk1:=zst H2 ka ma _ _ _ p4' a _ _ hF.first (by rw[firsts,By,zaf];omega)
    have kk2:=zst H2 kb mb _ _ _ p5' b _ _ hG.first (by rw[firsts,By,zaf];omega)
    have ww1:=zif H3 ka ma _ _ _ r4 a _ _ hF.first (by rw[firsts,By,zaf];omega) (by omega)
    have ww2:=zif H3 kb mb _ _ _ r5 b _ _ hG.first (by rw[firsts,By,zaf];omega) (by omega)
    rw[y1]at kk1
    rw[y2]at kk2
    rw[y3]at ww1
    rw[y4]at ww2
    simp only[fv]at kk1 kk2 ww1 ww2 c3 c4
    obtain⟨x,q,x1,x2,x3,x4,x5,x6⟩:=t4.node (S:=fun x=>x=km) hF.top (fun x e=>.inl (by omega))
    obtain⟨x',q',xx1,xx2,xx3,xx4,xx5,xx6⟩:=t5.node (S:=fun x=>x=km) hG.top (fun x e=>.inl (by omega))
    obtain⟨x7,x8⟩:=x6 H5 Keep.refl
    obtain⟨xx7,xx8⟩:=xx6 H5 Keep.refl
    have cc:=zaeg w.bare u.bare (by
     have:=hs.2 w (zre s w (Az hF.top))
     have e:w.bare.attrs=w.attrs:=rfl
     rw[e];omega) H5
    rw[zvm]at cc
    obtain⟨iA,hiA⟩:∃i,(postT s 0)[a+lsize F+w.size-1]? = some i:=⟨_,Ae (by rw[zbb];omega)⟩
    obtain⟨iB,hiB⟩:∃i,(postT t 0)[b+lsize G+u.size-1]? = some i:=⟨_,Ae (by rw[zbb];omega)⟩
    have gA:(postT s 0).getD (a+lsize F+w.size-1) 0=iA:=by rw[Am,hiA];rfl
    have gB:(postT t 0).getD (b+lsize G+u.size-1) 0=iB:=by rw[Am,hiB];rfl
    rw[gA,gB]
    have id1:=t4.idl
    have id2:=t5.idl
    have ii1:=zsu hiA
    have ii2:=zsu hiB
    obtain⟨v6,H6,q6,c6,V6,K6,l6,N6,_⟩:=V5.append1 (ys:=[J4 iA, J4 iB]) rfl (by omega)
    have hup3:=V3.up
    have hps3:=V3.pass
    have hne3:v3≠.undef:=by rintro rfl;exact absurd hps3 (by decide)
    have hup4:=V4.up
    have hne4:v4≠.undef:=by rintro rfl;exact absurd V4.pass (by decide)
    have hup5:=V5.up
    have hne5:v5≠.undef:=by rintro rfl;exact absurd V5.pass (by decide)
    have hup6:=V6.up
    have hne6:v6≠.undef:=by rintro rfl;exact absurd V6.pass (by decide)
    have hps6:=V6.pass
    have hge5:∀j,q5=some j->H2.length<=j:=by
     intro j hj
     rcases N5 with e|⟨k',e,e2⟩
     ·exact N3 j (by rw[<- e];exact hj)
     ·rw[e]at hj;injection hj with hj;omega
    obtain⟨r,H',h1,rfl,h2⟩:=zay (args:=[J5 k 0 0,fv (rng a (lsize (w::F))),fv (rng b (lsize (u::G)))]) (H:=H) (Q:=fun r H'=>r=v6/\H'=H6) look_Q66 rfl rfl (by
     dsimp only[i_Q66,c_Q66]
     rw[zap,zap]
     simp(disch:=omega) [fv,zdt,eqVals,eqCls,clsEq,beq_eq_false_iff_ne.2 ha2,beq_eq_false_iff_ne.2 hb2,BK,c1,c2,hm,p1',p2',r1,r2,t1,t2,kk1,kk2,ww1,ww2,c3,c4,c5,hup3,hup4,hup5,hup6,hps6,x1,x2,x3,x7,x8,xx1,xx2,xx3,xx7,xx8,zaj,cc,id1,id2,ii1,ii2,c6])
    subst h2
    refine⟨_,_,q6,h1,P2.mix P5 ((K3.trans K4).trans' K5 (fun i hi e=>by have:=N3 i e;omega)) K6 (fun i e=>hge5 i e),K5'.trans' K6 (fun i hi e=>by have:=hge5 i e;omega),?_,?_⟩
    ·have e7:(p1++p2++[(iA,iB)]).length=p1.length+p2.length+1:=by simp;omega
     rw[e7,zov,zov,zrb,zrb]
     exact V6
    ·intro j hj
     rcases N6 with e|⟨k',e,e2⟩
     ·have:=hge5 j (by rw[<- e];exact hj);omega
     ·have:=K5'.1
      rw[e]at hj;injection hj with hj;omega
   ·rw[if_neg hm]
    have hm':((fd (w::F) (u::G):Nat):Int)≠((fd (kidsR w) (kidsR u)+fd F G+cost w u:Nat):Int):=by omega
    obtain⟨H3,c3,P3,K3⟩:=zkv s t hs ht _ H2 k km a b (kidsR w++F) (u::G) P2 hF.opened hG (An _)
    rw[zap]at c3
    simp only[fv]at c3
    have K13:=K12.trans K3
    by_cases hd:fd (w::F) (u::G)=fd (kidsR w++F) (u::G)+1
    ·rw[if_pos hd]
     obtain⟨H4,v4,q4,c4,P4,K4,V4,N4⟩:=ih H3 k km a b (kidsR w++F) (u::G) P3 hF.opened hG (by rw[zai];omega)
     have hl:=K13.1
     rw[zap]at c4
     simp only[fv]at c4
     have hup:=V4.up
     have hps:=V4.pass
     have hne:v4≠.undef:=by rintro rfl;exact absurd hps (by decide)
     obtain⟨r,H',h1,rfl,h2⟩:=zay (args:=[J5 k 0 0,fv (rng a (lsize (w::F))),fv (rng b (lsize (u::G)))]) (H:=H) (Q:=fun r H'=>r=v4/\H'=H4) look_Q66 rfl rfl (by
      dsimp only[i_Q66,c_Q66]
      rw[zap,zap]
      simp(disch:=omega) [fv,zdt,eqVals,eqCls,clsEq,beq_eq_false_iff_ne.2 ha2,beq_eq_false_iff_ne.2 hb2,BK,zaa,c1,c2,c3,c4,o1,hd,hup,hps])
     subst h2
     exact⟨_,_,q4,h1,P4,K13.trans K4,V4,fun j hj=>by have:=N4 j hj;omega⟩
    ·rw[if_neg hd]
     have hd':((fd (w::F) (u::G):Nat):Int)≠((fd (kidsR w++F) (u::G):Nat):Int)+1:=by omega
     obtain⟨H4,v4,q4,c4,P4,K4,V4,N4⟩:=ih H3 k km a b (w::F) (kidsR u++G) P3 hF hG.opened (by rw[zai];omega)
     have hl:=K13.1
     rw[zap]at c4
     simp only[fv]at c4
     have hup:=V4.up
     have hps:=V4.pass
     have hne:v4≠.undef:=by rintro rfl;exact absurd hps (by decide)
     obtain⟨r,H',h1,rfl,h2⟩:=zay (args:=[J5 k 0 0,fv (rng a (lsize (w::F))),fv (rng b (lsize (u::G)))]) (H:=H) (Q:=fun r H'=>r=v4/\H'=H4) look_Q66 rfl rfl (by
      dsimp only[i_Q66,c_Q66]
      rw[zap,zap]
      simp(disch:=omega) [fv,zdt,eqVals,eqCls,clsEq,beq_eq_false_iff_ne.2 ha2,beq_eq_false_iff_ne.2 hb2,BK,zaa,c1,c2,c3,c4,o1,o2,hup,hps])
     subst h2
     exact⟨_,_,q4,h1,P4,K13.trans K4,V4,fun j hj=>by have:=N4 j hj;omega⟩
theorem zvn (s t:Tree) (hs:Fine s) (ht:Fine t):∀n,PairsSays s t n
 |0=>fun _ _ _ _ _ _ _ _ _ _ h=>absurd h (Nat.not_lt_zero _)
 |n+1=>zajh s t hs ht n (zvn s t hs ht n)
end Go.Ideal
namespace Go.Ideal
open Go
attribute [-simp] getElem?_pos
section
variable {a:Nat} {s t:Tree}
abbrev TN:=Tree×Nat
def kidsG:List Tree->Nat->List TN
 | [],_=>[]
 |t::l,i=>(t,i)::kidsG l (i+t.size)
def kidsT (x:TN):List TN:=(kidsG (klist x.1.kids) (x.2+1)).reverse
theorem zvo:∀(l:List Tree) (i:Nat),(kidsG l i).map (·.1)=l
 | [],i=>rfl
 |t::l,i=>by simp[kidsG,zvo l]
theorem zhm (x:TN):(kidsT x).map (·.1)=kidsR x.1:=by simp[kidsT,kidsR,zvo]
def postI (x:TN):List TN:=(postS x.1).zip (postT x.1 x.2)
def postF (F:List TN):List TN:=F.flatMap postI
theorem zmo:∀(l:List Tree) (i:Nat),(postL l i).length=lsize l
 | [],i=>rfl
 |t::l,i=>by simp only[postL,lsize,Ag,zbb,zmo l]
theorem zrh:∀(l:List Tree) (i:Nat),postF (kidsG l i)=(postSL l).zip (postL l i)
 | [],i=>rfl
 |t::l,i=>by
  have:=zrh l (i+t.size)
  simp only[postF,kidsG,AI]at this ⊢
  rw[this,postSL,postL,List.zip_append (by rw[zaf,zbb])]
  rfl
theorem zsv (x:TN):postI x=postF (kidsT x).reverse++[x]:=by
 rw[postI,zdg,zks,kidsT,Cl,zrh,List.zip_append (by rw[zcu,zmo])]
 rfl
theorem zvp (x:TN):(postI x).length=x.1.size:=by
 rw[postI,List.length_zip,zaf,zbb,Nat.min_self]
theorem zhn (F G:List TN):postF (F++G)=postF F++postF G:=by simp[postF]
theorem zho (x:TN):postF [x]=postI x:=by simp[postF]
theorem zhp:∀F:List TN,(postF F).length=lsize (F.map (·.1))
 | []=>rfl
 |x::F=>by
  have:=zhp F
  simp only[postF,AI,Ag,As,lsize,zvp]at this ⊢
  omega
def fsz (F:List TN):Nat:=lsize (F.map (·.1))
theorem zdh (x:TN) (F:List TN):fsz (x::F)=x.1.size+fsz F:=rfl
theorem zaeq (F:List TN):lsize (F.reverse.map (·.1))=fsz F:=by rw[List.map_reverse,zcp];rfl
theorem zgj (x:TN):x.1.size=fsz (kidsT x)+1:=by rw[fsz,zhm];exact zah x.1
theorem zjl (F G:List TN):fsz (F++G)=fsz F+fsz G:=by simp[fsz,zai]
def RepT (s:Tree) (a:Nat) (F:List TN):Prop:=∃A B,postI (s,0)=A++(postF F.reverse++B)/\A.length=a
theorem RepT.root (t:Tree):RepT t 0 [(t,0)]:=⟨[],[],by simp[zho],rfl⟩
theorem RepT.kids {u:TN} {F:List TN} (h:RepT t a (u::F)):RepT t (a+fsz F) (kidsT u):=by
 obtain⟨A,B,h1,h2⟩:=h
 refine⟨A++postF F.reverse,u::B,?_,by rw[Ag,zhp,zaeq,h2]⟩
 rw[h1,A9,zhn,zho,zsv]
 simp
theorem RepT.rest {u:TN} {F:List TN} (h:RepT t a (u::F)):RepT t a F:=by
 obtain⟨A,B,h1,h2⟩:=h
 refine⟨A,postI u++B,?_,h2⟩
 rw[h1,A9,zhn,zho]
 simp
theorem RepT.opened {u:TN} {F:List TN} (h:RepT t a (u::F)):RepT t a (kidsT u++F):=by
 obtain⟨A,B,h1,h2⟩:=h
 refine⟨A,u::B,?_,h2⟩
 rw[h1,B6,A9,zhn,zhn,zho,zsv]
 simp
theorem RepT.top {u:TN} {F:List TN} (h:RepT t a (u::F)):(postI (t,0))[a+fsz F+u.1.size-1]? = some u:=by
 obtain⟨A,B,h1,h2⟩:=h
 have hk:=zgj u
 have e:postI (t,0)=(A++(postF F.reverse++postF (kidsT u).reverse))++(u::B):=by
  rw[h1,A9,zhn,zho,zsv]
  simp
 have hl:(A++(postF F.reverse++postF (kidsT u).reverse)).length=a+fsz F+u.1.size-1:=by
  simp only[Ag,zhp,zaeq,h2];omega
 rw[e,Ad (by omega),hl,Bb]
 rfl
theorem RepT.id {u:TN} {F:List TN} (h:RepT t a (u::F)):(postT t 0).getD (a+fsz F+u.1.size-1) 0=u.2:=by
 have h1:=h.top
 rw[postI,CX]at h1
 rw[Am,h1.2];rfl
def Has (s:Tree) (x:TN):Prop:=(s.vis[x.2]?).map (·.t)=some x.1
theorem RepT.has {u:TN} {F:List TN} (h:RepT t a (u::F)):Has t u:=by
 have h1:=h.top
 rw[postI,CX]at h1
 obtain⟨u',v,p1,p2,p3,p4,p5⟩:=zor h1.2
 have:u'=u.1:=by have:=h1.1;dsimp only at this;rw[p1]at this;injection this
 unfold Has
 rw[Tree.vis,p2,AH,p3,this]
def prT:List TN->List TN->J1
 | [],_=>[]
 |_::_,[]=>[]
 |t::F,u::G =>
  if fd ((t::F).map (·.1)) ((u::G).map (·.1))=fd ((kidsT t).map (·.1)) ((kidsT u).map (·.1))+fd (F.map (·.1)) (G.map (·.1))+cost t.1 u.1 then prT (kidsT t) (kidsT u)++prT F G++[(t.2,u.2)]
  else if fd ((t::F).map (·.1)) ((u::G).map (·.1))=fd ((kidsT t++F).map (·.1)) ((u::G).map (·.1))+1 then prT (kidsT t++F) (u::G)else prT (t::F) (kidsT u++G)
termination_by F G=>fsz F+fsz G
decreasing_by
 all_goals
  have h1:=zgj t
  have h2:=zgj u
  simp only[zdh,zjl]
  omega
theorem zaer {G:List TN}:prT [] G=[]:=by rw[prT]
theorem zzo {F:List TN}:prT F []=[]:=by
 cases F with
 |nil=>rw[prT]
 |cons t F=>rw[prT]
theorem zzp {t u:TN} {F G:List TN}:prT (t::F) (u::G)=if fd ((t::F).map (·.1)) ((u::G).map (·.1))=fd ((kidsT t).map (·.1)) ((kidsT u).map (·.1))+fd (F.map (·.1)) (G.map (·.1))+cost t.1 u.1 then prT (kidsT t) (kidsT u)++prT F G++[(t.2,u.2)]
 else if fd ((t::F).map (·.1)) ((u::G).map (·.1))=fd ((kidsT t++F).map (·.1)) ((u::G).map (·.1))+1 then prT (kidsT t++F) (u::G)else prT (t::F) (kidsT u++G):=by rw[prT]
theorem zavr (s t:Tree) (a b:Nat) (F G:List TN) (hF:RepT s a F) (hG:RepT t b G):pr (postT s 0) (postT t 0) a b (F.map (·.1)) (G.map (·.1))=prT F G:=by
 have key:∀(n:Nat) (a b:Nat) (F G:List TN),fsz F+fsz G<n->RepT s a F->RepT t b G->pr (postT s 0) (postT t 0) a b (F.map (·.1)) (G.map (·.1))=prT F G:=by
  intro n
  induction n with
  |zero=>intro a b F G h;omega
  |succ n ih =>
   intro a b F G h hF hG
   cases F with
   |nil=>rw[zaer];exact zaeo
   |cons x F =>
    cases G with
    |nil=>rw[zzo];exact zxy
    |cons y G =>
     have h1:=zgj x
     have h2:=zgj y
     simp only[zdh]at h
     have i1:=ih _ _ _ _ (by omega) hF.kids hG.kids
     have i2:=ih _ _ _ _ (by omega) hF.rest hG.rest
     have i3:=ih _ _ (kidsT x++F) (y::G) (by simp only[zdh,zjl];omega) hF.opened hG
     have i4:=ih _ _ (x::F) (kidsT y++G) (by simp only[zdh,zjl];omega) hF hG.opened
     have d1:=hF.id
     have d2:=hG.id
     rw[zzp,<-i1,<-i2,<-i3,<-i4]
     simp only[As,AF,zhm]
     rw[zxz]
     simp only[fsz]at d1 d2
     rw[d1,d2]
     rfl
 exact key _ a b F G (An _) hF hG
def nd (s:Tree) (i:Nat):Tree:=match s.vis[i]? with|some v=>v.t|none=>s
theorem Has.nd {x:TN} (h:Has s x):nd s x.2=x.1:=by
 unfold Has at h
 unfold Ideal.nd
 cases e:s.vis[x.2]? with
 |none=>rw[e]at h;cases h
 |some v=>rw[e]at h;injection h
theorem Has.lt {x:TN} (h:Has s x):x.2<s.size:=by
 unfold Has at h
 cases e:s.vis[x.2]? with
 |none=>rw[e]at h;cases h
 |some v=>have:=(Aa.1 e).1;rw[zaw]at this;exact this
def InF (s:Tree) (F:List TN) (i:Nat):Prop:=∃x∈F,x.2<=i/\i+(nd s i).size<=x.2+x.1.size
def ordF (F:List TN):Prop:=F.Pairwise fun x y=>y.2+y.1.size<=x.2
theorem zhq:∀(l:List Tree) (i:Nat),∀k∈kidsG l i,i<=k.2/\k.2+k.1.size<=i+lsize l
 | [],i,k,h=>by simp[kidsG]at h
 |t::l,i,k,h=>by
  simp only[kidsG,Aj]at h
  simp only[lsize]
  rcases h with rfl|h
  ·dsimp only;omega
  ·have:=zhq l (i+t.size) k h;omega
theorem zvq:∀(l:List Tree) (i:Nat),(kidsG l i).Pairwise fun x y=>x.2+x.1.size<=y.2
 | [],_=>List.Pairwise.nil
 |t::l,i=>List.Pairwise.cons (fun k hk=>(zhq l (i+t.size) k hk).1) (zvq l _)
theorem zbu (x:TN):∀k∈kidsT x,x.2<k.2/\k.2+k.1.size<=x.2+x.1.size:=by
 intro k hk
 have:=zhq _ _ k (C4.1 hk)
 have:=zag x.1
 omega
theorem zow (x:TN):ordF (kidsT x):=by
 unfold ordF kidsT
 rw[List.pairwise_reverse]
 exact zvq _ _
theorem ordF.opened {x:TN} {F:List TN} (h:ordF (x::F)):ordF (kidsT x++F):=by
 unfold ordF at h ⊢
 rw[Cb]at h
 rw[Cm]
 refine⟨zow x,h.2,fun k hk y hy=>?_⟩
 have:=zbu x k hk
 have:=h.1 y hy
 omega
theorem InF.opened {x:TN} {F:List TN} {i:Nat} (h:InF s (kidsT x++F) i):InF s (x::F) i:=by
 obtain⟨y,hy,h1,h2⟩:=h
 rcases Ao.1 hy with hy|hy
 ·have:=zbu x y hy
  exact⟨x,by simp,by omega,by omega⟩
 ·exact⟨y,by simp[hy],h1,h2⟩
def Fit (s t:Tree) (p q:Nat×Nat):Prop :=
 (q.1<p.1/\q.2<p.2/\(p.1<q.1+(nd s q.1).size↔p.2<q.2+(nd t q.2).size))\/(p.1<q.1/\p.2<q.2/\(q.1<p.1+(nd s p.1).size↔q.2<p.2+(nd t p.2).size))
theorem Fit.symm {p q:Nat×Nat} (h:Fit s t p q):Fit s t q p:=Or.symm h
def csum (s t:Tree) (l:J1):Nat:=(l.map fun p=>cost (nd s p.1) (nd t p.2)).sum
theorem zzq (s t:Tree) (l m:J1):csum s t (l++m)=csum s t l+csum s t m:=by simp[csum]
theorem zavs (s t:Tree) (a b:Nat) (F G:List TN) (hF:RepT s a F) (hG:RepT t b G) (oF:ordF F) (oG:ordF G) :
 (∀ p∈prT F G,InF s F p.1/\InF t G p.2)/\(prT F G).Pairwise (Fit s t)/\(∀ p∈prT F G,p.1<s.size/\p.2<t.size/\cost (nd s p.1) (nd t p.2)<3) /\
  fd (F.map (·.1)) (G.map (·.1))+2*(prT F G).length=fsz F+fsz G+csum s t (prT F G):=by
 have key:∀(n:Nat) (a b:Nat) (F G:List TN),fsz F+fsz G<n->RepT s a F->RepT t b G->ordF F->ordF G ->
  (∀ p∈prT F G,InF s F p.1/\InF t G p.2)/\(prT F G).Pairwise (Fit s t)/\(∀ p∈prT F G,p.1<s.size/\p.2<t.size/\cost (nd s p.1) (nd t p.2)<3) /\
  fd (F.map (·.1)) (G.map (·.1))+2*(prT F G).length=fsz F+fsz G+csum s t (prT F G):=by
  intro n
  induction n with
  |zero=>intro a b F G h;omega
  |succ n ih =>
   intro a b F G h hF hG oF oG
   cases F with
   |nil =>
    rw[zaer,Cn,zcs]
    exact⟨by simp,List.Pairwise.nil,by simp,by simp[fsz,csum,lsize]⟩
   |cons x F =>
    cases G with
    |nil =>
     rw[zzo,Cn,zfg]
     exact⟨by simp,List.Pairwise.nil,by simp,by simp[fsz,csum,lsize]⟩
    |cons y G =>
     have h1:=zgj x
     have h2:=zgj y
     have hx:=hF.has
     have hy:=hG.has
     have oF':=oF
     have oG':=oG
     unfold ordF at oF' oG'
     rw[Cb]at oF' oG'
     rw[zzp]
     simp only[zdh]at h
     split
     ·rename_i hm
      have hcl:cost x.1 y.1<3:=by
       refine zrg (t:=x.1) (u:=y.1) (F:=F.map (·.1)) (G:=G.map (·.1)) ?_
       rw[<- zhm,<-zhm];exact hm
      obtain⟨a1,a2,a3,a4⟩:=ih _ _ _ _ (by omega) hF.kids hG.kids (zow x) (zow y)
      obtain⟨b1,b2,b3,b4⟩:=ih _ _ _ _ (by omega) hF.rest hG.rest oF'.2 oG'.2
      refine⟨?_,?_,?_,?_⟩
      ·intro p hp
       rcases Ao.1 hp with hp|hp
       ·rcases Ao.1 hp with hp|hp
        ·obtain⟨⟨k,c1,c2,c3⟩,⟨k',d1,d2,d3⟩⟩:=a1 p hp
         have e1:=zbu x k c1
         have e2:=zbu y k' d1
         exact⟨⟨x,by simp,by omega,by omega⟩,⟨y,by simp,by omega,by omega⟩⟩
        ·obtain⟨⟨k,c1,c2⟩,⟨k',d1,d2⟩⟩:=b1 p hp
         exact⟨⟨k,by simp[c1],c2⟩,⟨k',by simp[d1],d2⟩⟩
       ·simp at hp;subst hp
        exact⟨⟨x,by simp,by simp,by rw[hx.nd];simp⟩,⟨y,by simp,by simp,by rw[hy.nd];simp⟩⟩
      ·rw[Cm,Cm]
       refine⟨⟨a2,b2,?_⟩,Cw _ _,?_⟩
       ·intro p hp q hq
        obtain⟨⟨k,c1,c2,c3⟩,⟨k',d1,d2,d3⟩⟩:=a1 p hp
        obtain⟨⟨z,e1,e2,e3⟩,⟨z',f1,f2,f3⟩⟩:=b1 q hq
        have g1:=zbu x k c1
        have g2:=zbu y k' d1
        have g3:=oF'.1 z e1
        have g4:=oG'.1 z' f1
        have s1:=zad (nd s q.1)
        have s2:=zad (nd t q.2)
        left
        exact⟨by omega,by omega,by omega⟩
       ·intro p hp q hq
        simp at hq;subst hq
        rcases Ao.1 hp with hp|hp
        ·obtain⟨⟨k,c1,c2,c3⟩,⟨k',d1,d2,d3⟩⟩:=a1 p hp
         have g1:=zbu x k c1
         have g2:=zbu y k' d1
         have s1:=zad (nd s p.1)
         have s2:=zad (nd t p.2)
         left
         refine⟨by dsimp only;omega,by dsimp only;omega,?_⟩
         rw[hx.nd,hy.nd]
         constructor<;>intro _<;>dsimp only<;>omega
        ·obtain⟨⟨z,e1,e2,e3⟩,⟨z',f1,f2,f3⟩⟩:=b1 p hp
         have g3:=oF'.1 z e1
         have g4:=oG'.1 z' f1
         have s1:=zad (nd s p.1)
         have s2:=zad (nd t p.2)
         right
         refine⟨by dsimp only;omega,by dsimp only;omega,?_⟩
         dsimp only
         constructor<;>intro _<;>omega
      ·intro p hp
       rcases Ao.1 hp with hp|hp
       ·rcases Ao.1 hp with hp|hp
        ·exact a3 p hp
        ·exact b3 p hp
       ·simp at hp;subst hp
        refine⟨hx.lt,hy.lt,?_⟩
        rw[hx.nd,hy.nd];exact hcl
      ·have e:csum s t [(x.2,y.2)]=cost x.1 y.1:=by
        simp only[csum,As,Cn,List.sum_cons,List.sum_nil,Bd]
        rw[hx.nd,hy.nd]
       rw[zzq,zzq,e,hm]
       simp only[Ag,AK,zdh]
       omega
     ·split
      ·rename_i hd
       obtain⟨a1,a2,a3,a4⟩:=ih _ _ (kidsT x++F) (y::G) (by simp only[zdh,zjl];omega) hF.opened hG oF.opened oG
       refine⟨fun p hp=>⟨(a1 p hp).1.opened,(a1 p hp).2⟩,a2,a3,?_⟩
       rw[hd]
       simp only[zdh,zjl]at a4 ⊢
       omega
      ·rename_i hm hd
       have hf:=zjk x.1 y.1 (F.map (·.1)) (G.map (·.1))
       obtain⟨a1,a2,a3,a4⟩:=ih _ _ (x::F) (kidsT y++G) (by simp only[zdh,zjl];omega) hF hG.opened oF oG.opened
       refine⟨fun p hp=>⟨(a1 p hp).1,(a1 p hp).2.opened⟩,a2,a3,?_⟩
       simp only[As,AF,zhm]at hm hd a4 ⊢
       simp only[zdh,zjl]at a4 ⊢
       omega
 exact key _ a b F G (An _) hF hG oF oG
end
end Go.Ideal
namespace Go.Ideal
open Go
set_option maxHeartbeats 1000000
theorem zabo (k:Option (List Tree)) (h:∀t∈klist k,∀H,CW tr.look F_Q39 [tagg t] H=some (J4 t.size,H)) (hs:lsize (klist k)<1000000000000) (Q:J0)
 (hQ:Q .normal [(3, .int .i64 (lsize (klist k)+1:Nat))] ⟨[],[]⟩) :
 wpLoop (CW tr.look) 19 m_Q39_0 l_Q39_0 (blkK 0 b_Q39_0 Q) [(3, .int .i64 1),(7, .v (.p (kval k))),(8, .int .i64 (klist k).length),(9, .int .i64 0)] ⟨[],[]⟩:=by
 refine zae (α:=Nat×Nat) (fun a=>[(3, .int .i64 a.2),(7, .v (.p (kval k))),(8, .int .i64 (klist k).length),(9, .int .i64 a.1)]) (fun a=>⟨[],[]⟩)
  (fun a=>a.1<=(klist k).length/\a.2+lsize ((klist k).drop a.1)=lsize (klist k)+1) (fun a=>(klist k).length-a.1) ?_ (0,1) ⟨by omega,by simp;omega⟩
 rintro⟨j,acc⟩ ⟨hj,ha⟩ L hL
 dsimp only at hj ha hL ⊢
 dsimp only[l_Q39_0]
 by_cases hjl:j<(klist k).length
 ·have hl:=zabd hjl
  have hc:=h _ (BA hjl)
  have:=zau (klist k)
  have:=zuz hjl
  simp(disch:=omega) [zib,zaj,hc,zaa]
  exact hL (j+1,acc+(klist k)[j].size) ⟨by dsimp only;omega,by dsimp only;omega⟩ (by dsimp only;omega)
 ·obtain rfl:j=(klist k).length:=by omega
  simp[lsize]at ha
  subst ha
  simp -implicitDefEqProofs
  simpa using hQ
theorem zaji:∀(n:Nat) (t:Tree),t.size<n->n<=1000000000000->∀(H:J2),CW tr.look F_Q39 [tagg t] H=some (J4 t.size,H):=by
 intro n
 induction n with
 |zero=>intro t h;omega
 |succ n ih =>
  intro t h hb H
  have ht:=zag t
  refine zal look_Q39 rfl (by simp) rfl ?_
  dsimp only[i_Q39,c_Q39]
  simp -implicitDefEqProofs
  refine zabo _ (fun u hu H=>ih u (by have:=zat hu;omega) (by omega) H) (by omega) _ ?_
  simp[ht]
mutual
def Tree.deep:Tree->Nat
 | .mk _ _ _ _ none=>1
 | .mk _ _ _ _ (some l)=>ldeep l+1
def ldeep:List Tree->Nat
 | []=>0
 |t::l=>max t.deep (ldeep l)
end
theorem zaes (t:Tree):t.deep=ldeep (klist t.kids)+1:=by
 cases t with
 |mk a b c d e=>cases e<;>simp[Tree.deep,Tree.kids,klist,ldeep]
theorem zya:∀(n:Nat) (t:Tree),t.size<n->t.deep<=t.size:=by
 intro n
 induction n with
 |zero=>intro t h;omega
 |succ n ih =>
  intro t h
  have ht:=zag t
  have:∀l:List Tree,lsize l<n->ldeep l<=lsize l:=by
   intro l
   induction l with
   |nil=>intro _;simp[ldeep]
   |cons u l ihl =>
    intro hl
    simp only[lsize]at hl
    have h1:=ih u (by omega)
    have h2:=ihl (by omega)
    have:=zad u
    simp only[ldeep,lsize]
    omega
  have:=this (klist t.kids) (by omega)
  rw[zaes]
  omega
theorem zaet:∀ {l:List Tree} {j:Nat} (h:j<l.length),max (l[j].deep) (ldeep (l.drop (j+1)))=ldeep (l.drop j):=by
 intro l j h
 rw[AG h,ldeep]
theorem zyb (k:Option (List Tree)) (h:∀t∈klist k,∀H,CW tr.look F_Q40 [tagg t] H=some (J4 t.deep,H)) (hs:lsize (klist k)<1000000000000) (Q:J0)
 (hQ:Q .normal [(3, .int .i64 (ldeep (klist k):Nat))] ⟨[],[]⟩) :
 wpLoop (CW tr.look) 20 m_Q40_0 l_Q40_0 (blkK 0 b_Q40_0 Q) [(3, .int .i64 0),(7, .v (.p (kval k))),(8, .int .i64 (klist k).length),(9, .int .i64 0)] ⟨[],[]⟩:=by
 refine zae (α:=Nat×Nat) (fun a=>[(3, .int .i64 a.2),(7, .v (.p (kval k))),(8, .int .i64 (klist k).length),(9, .int .i64 a.1)]) (fun a=>⟨[],[]⟩)
  (fun a=>a.1<=(klist k).length/\max a.2 (ldeep ((klist k).drop a.1))=ldeep (klist k)) (fun a=>(klist k).length-a.1) ?_ (0,0) ⟨by omega,by simp⟩
 rintro⟨j,acc⟩ ⟨hj,ha⟩ L hL
 dsimp only at hj ha hL ⊢
 dsimp only[l_Q40_0]
 by_cases hjl:j<(klist k).length
 ·have hl:=zaet hjl
  have hc:=h _ (BA hjl)
  have:=zau (klist k)
  have:=zya _ (klist k)[j] (An _)
  have:=zuz hjl
  have hm:evalExt (acc:Int) true [J4 ((klist k)[j].deep:Nat)]=some ((max acc (klist k)[j].deep:Nat):Int):=by
   simp only[evalExt,if_true]
   congr 1
   split<;>omega
  simp(disch:=omega) [zib,zaj,hc,zaa,hm]
  exact hL (j+1,max acc (klist k)[j].deep) ⟨by dsimp only;omega,by dsimp only;omega⟩ (by dsimp only;omega)
 ·obtain rfl:j=(klist k).length:=by omega
  simp[ldeep]at ha
  subst ha
  simp -implicitDefEqProofs
  simpa using hQ
theorem zaeu:∀(n:Nat) (t:Tree),t.size<n->n<=1000000000000->∀(H:J2),CW tr.look F_Q40 [tagg t] H=some (J4 (t.deep:Nat),H):=by
 intro n
 induction n with
 |zero=>intro t h;omega
 |succ n ih =>
  intro t h hb H
  have ht:=zag t
  have hd:=zaes t
  have hd2:=zya _ t h
  refine zal look_Q40 rfl (by simp) rfl ?_
  dsimp only[i_Q40,c_Q40]
  simp -implicitDefEqProofs
  refine zyb _ (fun u hu H=>ih u (by have:=zat hu;omega) (by omega) H) (by omega) _ ?_
  simp(disch:=omega) [zaa,hd]
def badC (c:UInt8):Bool:=c.toNat==9||c.toNat==10||c.toNat==12||c.toNat==32||c.toNat==0||c.toNat==34||c.toNat==39||c.toNat==62||c.toNat==47||c.toNat==61||c.toNat==60||(decide (65<=c.toNat)&&decide (c.toNat<=90))
def nameB (s:Bytes):Bool:=decide (1<=s.length)&&decide (s.length<=32)&&s.all fun c=>!badC c
theorem zabp (s:Bytes) (hs:s.length<=32) (Q:J0)
 (h1:(s.all fun c=>!badC c)=true->Q .normal [] ⟨[],[]⟩) (h2:(s.all fun c=>!badC c)=false->∀E,lookE E 2 = .bool false->Q .ret E ⟨[],[]⟩) :
 wpLoop (CW tr.look) 40 m_Q80_0 l_Q80_0 (blkK 0 b_Q80_0 Q) [(0, .str s),(13, .int .i64 s.length),(14, .int .i64 0)] ⟨[],[]⟩:=by
 refine zae (α:=Nat) (fun j=>[(0, .str s),(13, .int .i64 s.length),(14, .int .i64 j)]) (fun _=>⟨[],[]⟩)
  (fun j=>j<=s.length/\(s.take j).all (fun c=>!badC c)=true) (fun j=>s.length-j) ?_ 0 ⟨by omega,by simp⟩
 rintro j ⟨hj,ht⟩ L hL
 dsimp only[l_Q80_0]
 by_cases hjl:j<s.length
 ·have hb:=zado hjl
  obtain⟨c,hc⟩:∃c,s[j]=c:=⟨_,rfl⟩
  rw[hc]at hb
  cases hbad:badC c with
  |false =>
   simp[badC]at hbad
   have g1:¬(c.toNat:Int)=9:=by omega
   have g2:¬(c.toNat:Int)=10:=by omega
   have g3:¬(c.toNat:Int)=12:=by omega
   have g4:¬(c.toNat:Int)=32:=by omega
   have g5:¬(c.toNat:Int)=0:=by omega
   have g6:¬(c.toNat:Int)=34:=by omega
   have g7:¬(c.toNat:Int)=39:=by omega
   have g8:¬(c.toNat:Int)=62:=by omega
   have g9:¬(c.toNat:Int)=47:=by omega
   have ga:¬(c.toNat:Int)=61:=by omega
   have gb:¬(c.toNat:Int)=60:=by omega
   have hnext:L [(0,SV.str s),(13,SV.int IntKind.i64 s.length),(14,SV.int IntKind.i64 (j+1))] ⟨[],[]⟩:=by
    refine hL (j+1) ⟨by omega,?_⟩ (by omega)
    have hcb:badC c=false:=by simp[badC];exact hbad
    rw[AX,List.all_append,ht,Ae hjl,hc]
    simp[hcb]
   by_cases hu:(65:Int)<=c.toNat
   ·have hv:¬(c.toNat:Int)<=90:=by omega
    simp(disch:=omega) [hb,zaa]
    exact hnext
   ·simp(disch:=omega) [hb,zaa]
    exact hnext
  |true =>
   have hall:(s.all fun c=>!badC c)=false:=by
    rw[CZ]
    intro h
    rw[Bz]at h
    have:=h s[j] (BA hjl)
    rw[hc,hbad]at this
    cases this
   have h2:=h2 hall
   simp[badC]at hbad
   rcases(show(c.toNat:Int)=9\/(c.toNat:Int)=10\/(c.toNat:Int)=12\/(c.toNat:Int)=32\/(c.toNat:Int)=0\/(c.toNat:Int)=34\/(c.toNat:Int)=39\/(c.toNat:Int)=62\/(c.toNat:Int)=47\/(c.toNat:Int)=61\/(c.toNat:Int)=60\/(65<=(c.toNat:Int)/\(c.toNat:Int)<=90)by omega)with g|g|g|g|g|g|g|g|g|g|g|g
   case inr.inr.inr.inr.inr.inr.inr.inr.inr.inr.inr =>
    have g1:¬(c.toNat:Int)=9:=by omega
    have g2:¬(c.toNat:Int)=10:=by omega
    have g3:¬(c.toNat:Int)=12:=by omega
    have g4:¬(c.toNat:Int)=32:=by omega
    have g5:¬(c.toNat:Int)=0:=by omega
    have g6:¬(c.toNat:Int)=34:=by omega
    have g7:¬(c.toNat:Int)=39:=by omega
    have g8:¬(c.toNat:Int)=62:=by omega
    have g9:¬(c.toNat:Int)=47:=by omega
    have ga:¬(c.toNat:Int)=61:=by omega
    have gb:¬(c.toNat:Int)=60:=by omega
    simp(disch:=omega) [hb]
    exact h2 _ rfl
   all_goals
    simp(disch:=omega) [hb,g]
    exact h2 _ rfl
 ·obtain rfl:j=s.length:=by omega
  simp -implicitDefEqProofs
  rw[A8]at ht
  exact h1 ht
theorem zzr (s:Bytes) (H:J2):CW tr.look F_Q80 [.p (.str s)] H=some (.p (.bool (nameB s)),H):=by
 refine zal look_Q80 rfl (by simp) rfl ?_
 dsimp only[i_Q80,c_Q80]
 by_cases h0:s=[]
 ·subst h0
  simp[nameB]
 ·have hl0:1<=s.length:=by cases s with|nil=>exact absurd rfl h0|cons a l=>simp
  by_cases h1:32<s.length
  ·have h1':(32:Int)<s.length:=by omega
   have:¬s.length<=32:=by omega
   simp[nameB,h0,h1',this]
  ·have h1':¬(32:Int)<s.length:=by omega
   have h3:s.length<=32:=by omega
   simp[h0,h1']
   refine zabp s h3 _ (fun h=>?_) (fun h E hE=>?_)
   ·simp[nameB,h,hl0,h3]
   ·simp[nameB,h,hE]
end Go.Ideal
namespace Go.Ideal
open Go
set_option maxHeartbeats 4000000
set_option maxRecDepth 20000
attribute [-simp] getElem?_pos
theorem zajj (v:Int) (n:Nat) (hn:0<n) (hb:n<1000000000000) (_ : -9223372036854775808<=v/\v<9223372036854775808) (H:J2):CW tr.look F_Q15 [J4 v, J4 n] H=some (J4 (v % n),H):=by
 refine zal look_Q15 rfl (by simp) rfl ?_
 dsimp only[i_Q15,c_Q15]
 have hn0:(n:Int)≠0:=by omega
 have hn1:¬n=0:=by omega
 by_cases h:v.tmod n<0
 ·have e:v.tmod n+n=v % n:=by
   rw[Int.tmod_eq_emod]at h ⊢
   split at h
   ·have:=Int.emod_nonneg v hn0;omega
   ·rename_i hc
    rw[if_neg hc]
    simp
  have:=Int.emod_nonneg v hn0
  have:=Int.emod_lt_of_pos v (show(0:Int)<n by omega)
  simp(disch:=omega) [hn1,zaa,e]
 ·have e:v.tmod n=v % n:=by
   rw[Int.tmod_eq_emod]at h ⊢
   split at h
   ·rename_i hc;rw[if_pos hc];simp
   ·rename_i hc
    have:=Int.emod_lt_of_pos v (show(0:Int)<n by omega)
    simp at h
    omega
  rw[e]at h
  simp(disch:=omega) [hn1,e]
theorem zdi (a b:Int) (H:J2):CW tr.look F_Q33 [J4 a, J4 b] H=some (J4 (icmp a b),H):=by
 have hn:∀(a:Int) (H:J2),CW tr.look F_Q59 [J4 a] H=some (.p (.bool false),H):=by
  intro a H
  refine zal look_Q59 rfl (by simp) rfl ?_
  dsimp only[i_Q59,c_Q59]
  simp(disch:=omega) []
 refine zal look_Q33 rfl (by simp) rfl ?_
 dsimp only[i_Q33,c_Q33]
 unfold icmp sgn
 by_cases h1:a<b
 ·simp(disch:=omega) [hn,h1]
 ·by_cases h2:b<a
  ·simp(disch:=omega) [hn,h1,h2]
  ·simp(disch:=omega) [hn,h1,h2]
theorem wf_i64 {a:Int} (h:(Lit.int .i64 a).wf=true) : -9223372036854775808<=a/\a<9223372036854775808:=by
 simp[Lit.wf,IntKind.min,IntKind.max,IntKind.signed,IntKind.bits]at h
 omega
def dice (p q r u:Nat):Int:=icmp ((if q=0 then 0 else p)*(if u=0 then 1 else u):Nat) ((if u=0 then 0 else r)*(if q=0 then 1 else q):Nat)
theorem zapd {a b:Nat} (ha:a<=1000000000) (hb:b<=1000000000):a*b<=1000000000000000000:=Bp (Nat.mul_le_mul ha hb) (by decide)
theorem zaev {a b:Nat} (ha:a<=1000000000) (hb:b<=1000000000):((a:Int)*(b:Int))=((a*b:Nat):Int)/\a*b<=1000000000000000000:=⟨by simp,zapd ha hb⟩
theorem zape (p q r u:Nat) (hp:p<=1000000000) (hq:q<=1000000000) (hr:r<=1000000000) (hu:u<=1000000000) (H:J2) :
 CW tr.look F_Q53 [J4 p, J4 q, J4 r, J4 u] H=some (J4 (dice p q r u),H):=by
 refine zal look_Q53 rfl (by simp) rfl ?_
 dsimp only[i_Q53,c_Q53]
 have h1:=zaev hp hu
 have h2:=zaev hr hq
 unfold dice
 by_cases hq0:q=0<;>by_cases hu0:u=0
 ·subst hq0 hu0
  simp(disch:=omega) [zaa,zdi]
 ·subst hq0
  simp(disch:=omega) [zaa,zdi,hu0]
 ·subst hu0
  simp(disch:=omega) [zaa,zdi,hq0]
 ·simp only[hq0,hu0,if_false]
  generalize p*u=m1 at *
  generalize r*q=m2 at *
  have e1:=h1.1
  have e2:=h2.1
  have b1:=h1.2
  have b2:=h2.2
  simp(disch:=omega) [zaa,zdi,e1,e2]
def half (p q:Nat):Bool:=decide (q<4*p)
theorem zapf (p q:Nat) (hp:p<=1000000000) (_:q<=1000000000) (H:J2) :
 CW tr.look F_Q54 [J4 p, J4 q] H=some (.p (.bool (half p q)),H):=by
 refine zal look_Q54 rfl (by simp) rfl ?_
 dsimp only[i_Q54,c_Q54]
 unfold half
 by_cases h:q<4*p
 ·have:(q:Int)<4*(p:Int):=by omega
  simp(disch:=omega) [zaa,h]
 ·have:¬(q:Int)<4*(p:Int):=by omega
  simp(disch:=omega) [zaa,h]
end Go.Ideal
namespace Go.Ideal
open Go
set_option maxHeartbeats 1000000
attribute [-simp] getElem?_pos
theorem zyc {Γ:Prog} {F:IFun} {k:FuncId} {args al:J3} {H:J2} {r:IVal} (hk:Γ k=some F) (hp:F.pure=true) (hf:freezeAll H args=some al) (hpl:plainArgs al=true) (hr:scalRes r=true) (h:CW Γ k al []=some (r,[])):CW Γ k args H=some (r,H):=by
 have h:=zgm.1 h
 generalize hq:(r,([]:J2))=q at h
 cases h with
 |base hn _=>rw[hk]at hn;cases hn
 |more hn _ _ _=>rw[hk]at hn;cases hn
 |mk C hC hb =>
  subst hq
  refine zgm.2 (.mk C hC ?_)
  unfold callBody at hb ⊢
  simp only[hk,hp,zby hpl]at hb
  simp only[hk,hp,hf]
  cases hrun:runBody C loopW F al []with
  |none=>rw[hrun]at hb;cases hb
  |some p =>
   obtain⟨v,H'⟩:=p
   rw[hrun]at hb
   dsimp only at hb ⊢
   cases hz:freezeRes H' v with
   |none=>rw[hz]at hb;cases hb
   |some w =>
    rw[hz]at hb
    dsimp only at hb ⊢
    rw[hpl,CP]at hb
    injection hb with hb
    injection hb with hb _
    subst hb
    rw[hr,CP,Bool.or_true]
def attrsG:Bytes->List (Bytes×Bytes)->Bool
 |_,[]=>true
 |last,a::l=>bytesLess last a.1&&nameB a.1&&decide (a.2.length<=4096)&&attrsG a.1 l
def attrsB (l:List (Bytes×Bytes)):Bool:=decide (l.length<=12)&&attrsG [] l
theorem zyd (a:Option Attrs) (hs:(alist a).length<=12) (Q:J0)
 (h1:attrsG [] (alist a)=true->Q .normal [] ⟨[],[]⟩) (h2:attrsG [] (alist a)=false->∀E B,lookE E 2 = .bool false->Q .ret E ⟨B,[]⟩) :
 wpLoop (CW tr.look) 34 m_Q81_0 l_Q81_0 (blkK 0 b_Q81_0 Q) [(3, .str []),(9, .v (.p (aval a))),(10, .int .i64 (alist a).length),(11, .int .i64 0)] ⟨[],[]⟩:=by
 refine zae (α:=Nat×Bytes) (fun p=>[(3, .str p.2),(9, .v (.p (aval a))),(10, .int .i64 (alist a).length),(11, .int .i64 p.1)]) (fun _=>⟨[],[]⟩)
  (fun p=>p.1<=(alist a).length/\attrsG p.2 ((alist a).drop p.1)=attrsG [] (alist a)) (fun p=>(alist a).length-p.1) ?_ (0,[]) ⟨by simp,by simp⟩
 rintro⟨j,last⟩ ⟨hj,ht⟩ L hL
 dsimp only at hj ht hL ⊢
 dsimp only[l_Q81_0]
 by_cases hjl:j<(alist a).length
 ·rw[AG hjl,attrsG]at ht
  cases hb:bytesLess last (alist a)[j].1
  ·rw[hb]at ht
   simp(disch:=omega) [zee,hb]
   exact h2 (by rw[<- ht];rfl) _ _ rfl
  ·have hn:=zzr (alist a)[j].1
   cases hc:nameB (alist a)[j].1
   ·rw[hc]at hn
    rw[hb,hc]at ht
    simp(disch:=omega) [zee,hb,hn]
    exact h2 (by rw[<- ht];rfl) _ _ rfl
   ·rw[hc]at hn
    by_cases hv:(alist a)[j].2.length<=4096
    ·have hv':¬(4096:Int)<(alist a)[j].2.length:=by omega
     simp(disch:=omega) [zee,hb,hn,zaa]
     exact hL (j+1,(alist a)[j].1) ⟨by dsimp only;omega,by dsimp only;rw[<- ht,hb,hc];simp[hv]⟩ (by dsimp only;omega)
    ·have hv':(4096:Int)<(alist a)[j].2.length:=by omega
     simp(disch:=omega) [zee,hb,hn]
     exact h2 (by rw[<- ht];simp[hv]) _ _ rfl
 ·obtain rfl:j=(alist a).length:=by omega
  simp -implicitDefEqProofs
  refine h1 ?_
  rw[CI]at ht
  exact ht.symm
theorem zaew (a:Option Attrs) (H:J2):CW tr.look F_Q81 [.p (aval a)] H=some (.p (.bool (attrsB (alist a))),H):=by
 refine zal look_Q81 rfl (by simp) rfl ?_
 dsimp only[i_Q81,c_Q81]
 by_cases hl:(alist a).length<=12
 ·have hl':¬(12:Int)<(alist a).length:=by omega
  simp[hl']
  refine zyd a hl _ (fun h=>?_) (fun h E B hE=>?_)
  ·simp[attrsB,h,hl]
  ·simp[attrsB,h,hE]
 ·have hl':(12:Int)<(alist a).length:=by omega
  simp[hl',attrsB,hl]
theorem zvr (a b:Bytes):CW tr.look F_Q41 [.p (.slice 1 2 [.str a, .str b])] []=some (.p (.bool (decide (a=[])&&decide (b=[]))),[]):=by
 refine zal look_Q41 rfl (by simp) rfl ?_
 dsimp only[i_Q41,c_Q41]
 simp -implicitDefEqProofs
 have e0:∀a b:Bytes,idxS 1 (.p (.slice 1 2 [.str a, .str b])) (J4 0)=some (.p (.ptr [.str a, .str b])):=fun _ _=>rfl
 have e1:∀a b:Bytes,idxS 1 (.p (.slice 1 2 [.str a, .str b])) (J4 1)=some (.p (.ptr [.str b])):=fun _ _=>rfl
 by_cases ha:a=[]
 ·refine zav ?_
  dsimp only[l_Q41_0]
  simp(disch:=omega) [e0,ha,zaa]
  by_cases hb:b=[]
  ·refine zav ?_
   simp(disch:=omega) [e1,hb,zaa]
   refine zav ?_
   simp(disch:=omega)
   exact⟨ha,hb⟩
  ·refine zav ?_
   simp(disch:=omega) [e1,hb]
 ·refine zav ?_
  dsimp only[l_Q41_0]
  simp(disch:=omega) [e0,ha]
theorem zaex (a b:Bytes) (k:Nat) (H:J2) (hk:H[k]? = some (.cells [.p (.str a), .p (.str b)] 1 0 false)):CW tr.look F_Q41 [.slice k 0 0 2] H=some (.p (.bool (decide (a=[])&&decide (b=[]))),H):=by
 refine zyc (F:=i_Q41) (al:=[.p (.slice 1 2 [.str a, .str b])]) look_Q41 rfl ?_ rfl rfl (zvr a b)
 have hz:=zeu (H:=H) (k:=k) (e:=1) (n:=2) (v := .slice k 0 0 2) (xs:=[.str a, .str b]) ⟨0,_,false,rfl,hk,by simp,rfl⟩
 simp only[freezeAll,freezeOne,hz]
def leafB (k:Int) (n x:Bytes):Bool :=
 if k=3 then decide (n=[])&&(decide (x≠[])&&decide (x.length<=4096))
 else if k=4 then decide (n=[])&&decide (x.length<=4096)
 else if k=5 then decide (x=[])&&decide (n.length<=32)
 else false
mutual
def nodeB:Tree->Bool
 | .mk k n x a none=>if k=2 then nameB n&&decide (x=[])&&attrsB (alist a)else decide ((alist a).length=0)&&leafB k n x
 | .mk k n x a (some l)=>if k=2 then nameB n&&decide (x=[])&&attrsB (alist a)&&kidsB false l else decide ((alist a).length=0)&&decide (l.length=0)&&leafB k n x
def kidsB (root:Bool):List Tree->Bool
 | []=>true
 |t::l=>nodeB t&&(decide (t.kind≠5)||root)&&kidsB root l
end
theorem zmx (t:Tree):nodeB t=if t.kind=2 then nameB t.name&&decide (t.text=[])&&attrsB (alist t.attrs)&&kidsB false (klist t.kids)else decide ((alist t.attrs).length=0)&&decide ((klist t.kids).length=0)&&leafB t.kind t.name t.text:=by
 cases t with
 |mk k n x a c=>cases c<;>simp[nodeB,Tree.kind,Tree.name,Tree.text,Tree.attrs,Tree.kids,klist,kidsB]<;>rfl
def checkB (t:Tree):Bool:=decide (t.kind=1)&&decide (t.size<=300)&&decide (t.deep<=60)&&(decide (t.name=[])&&decide (t.text=[]))&&decide ((alist t.attrs).length=0)&&kidsB true (klist t.kids)
theorem zabq (t:Tree) {c1 c2 c3:SV} (h:∀u∈klist t.kids,∀H,CW tr.look F_Q62 [tagg u] H=some (.p (.bool (nodeB u)),H)) (hl:(klist t.kids).length<1000000000000) (Q:J0)
 (h1:kidsB (decide (t.kind=1)) (klist t.kids)=true->Q .normal [] ⟨[],[]⟩) (h2:kidsB (decide (t.kind=1)) (klist t.kids)=false->∀E B,lookE E 2 = .bool false->Q .ret E ⟨B,[]⟩) :
 wpLoop (CW tr.look) 26 m_Q42_0 l_Q42_0 (blkK 0 b_Q42_0 Q) [(1, .box 1 0),(6, .v (.p (kval t.kids))),(7, .int .i64 (klist t.kids).length),(8, .int .i64 0)] ⟨[(1,some ⟨[.int .i64 t.kind,c1,c2,c3, .v (.p (kval t.kids))],5⟩)],[]⟩:=by
 refine zae (α:=Nat) (fun j=>[(1, .box 1 0),(6, .v (.p (kval t.kids))),(7, .int .i64 (klist t.kids).length),(8, .int .i64 j)]) (fun _=>⟨[(1,some ⟨[.int .i64 t.kind,c1,c2,c3, .v (.p (kval t.kids))],5⟩)],[]⟩)
  (fun j=>j<=(klist t.kids).length/\kidsB (decide (t.kind=1)) ((klist t.kids).drop j)=kidsB (decide (t.kind=1)) (klist t.kids)) (fun j=>(klist t.kids).length-j) ?_ 0 ⟨by omega,by simp⟩
 rintro j ⟨hj,ht⟩ L hL
 dsimp only[l_Q42_0]
 by_cases hjl:j<(klist t.kids).length
 ·have hc:=h _ (BA hjl)
  rw[AG hjl,kidsB]at ht
  obtain⟨u,hu⟩:∃u,(klist t.kids)[j]=u:=⟨_,rfl⟩
  have hi:=zib hjl
  rw[hu]at hc ht hi
  cases hb:nodeB u
  ·rw[hb]at hc ht
   simp(disch:=omega) [hi,zaj,hc]
   exact h2 (by rw[<- ht];rfl) _ _ rfl
  ·rw[hb]at hc ht
   by_cases h5:u.kind=5
   ·have h5':(u.kind=5)=True:=eq_true h5
    by_cases hr:t.kind=1
    ·have hr':(t.kind=1)=True:=eq_true hr
     simp(disch:=omega) [hi,zaj,hc,zaa]
     exact hL (j+1) ⟨by omega,by rw[<- ht];simp[hr]⟩ (by omega)
    ·simp(disch:=omega) [hi,zaj,hc]
     exact h2 (by rw[<- ht];simp[h5,hr]) _ _ rfl
   ·simp(disch:=omega) [hi,zaj,hc,zaa]
    exact hL (j+1) ⟨by omega,by rw[<- ht];simp[h5]⟩ (by omega)
 ·obtain rfl:j=(klist t.kids).length:=by omega
  simp -implicitDefEqProofs
  refine h1 ?_
  rw[CI]at ht
  exact ht.symm
theorem zzs (t:Tree) (h:∀u∈klist t.kids,∀H,CW tr.look F_Q62 [tagg u] H=some (.p (.bool (nodeB u)),H)) (hl:(klist t.kids).length<1000000000000) (H:J2):CW tr.look F_Q42 [tagg t] H=some (.p (.bool (kidsB (decide (t.kind=1)) (klist t.kids))),H):=by
 refine zal look_Q42 rfl (by simp) rfl ?_
 dsimp only[i_Q42,c_Q42]
 simp -implicitDefEqProofs
 refine zabq t h hl _ (fun h=>?_) (fun h E B hE=>?_)
 ·simp[h]
 ·simp[h,hE]
end Go.Ideal
namespace Go.Ideal
open Go
set_option maxHeartbeats 2000000
attribute [-simp] getElem?_pos
theorem zajk (t:Tree) (h:∀H,CW tr.look F_Q42 [tagg t] H=some (.p (.bool (kidsB (decide (t.kind=1)) (klist t.kids))),H)) (H:J2):CW tr.look F_Q62 [tagg t] H=some (.p (.bool (nodeB t)),H):=by
 refine zal look_Q62 rfl (by simp) rfl ?_
 dsimp only[i_Q62,c_Q62]
 rw[zmx]
 have hn:=zzr t.name
 have ha:=zaew t.attrs
 by_cases h2:t.kind=2
 ·have h2':(t.kind=2)=True:=eq_true h2
  have h1:¬t.kind=1:=by omega
  simp only[h1,decide_false]at h
  cases hb:nameB t.name
  ·rw[hb]at hn
   simp[h2',hn]
  ·rw[hb]at hn
   by_cases hx:t.text=[]
   ·have hx':(t.text=[])=True:=eq_true hx
    cases hab:attrsB (alist t.attrs)
    ·rw[hab]at ha
     simp[h2',hn,hx',ha]
    ·rw[hab]at ha
     simp[h2',hn,hx',ha,zaj,h]
   ·simp[h2',hn,hx]
 ·by_cases h3:(alist t.attrs).length=0
  ·by_cases h4:(klist t.kids).length=0
   ·have g3:¬(0:Int)<(alist t.attrs).length:=by omega
    have g4:¬(0:Int)<(klist t.kids).length:=by omega
    unfold leafB
    by_cases k3:t.kind=3
    ·have k3':(t.kind=3)=True:=eq_true k3
     have k2':(t.kind=2)=False:=eq_false h2
     by_cases hn:t.name=[]
     ·have hn':(t.name=[])=True:=eq_true hn
      by_cases hx:t.text=[]
      ·have hx':(t.text=[])=True:=eq_true hx
       simp[k2',k3',hn',hx',h3,h4]
      ·by_cases hy:t.text.length<=4096
       ·have hy':(t.text.length:Int)<=4096:=by omega
        simp[k2',k3',hn',hx,hy,hy',h3,h4]
       ·have hy':¬(t.text.length:Int)<=4096:=by omega
        simp[k2',k3',hn',hx,hy,hy',h3,h4]
     ·simp[k2',k3',hn,h3,h4]
    ·by_cases k4:t.kind=4
     ·have k4':(t.kind=4)=True:=eq_true k4
      by_cases hn:t.name=[]
      ·have hn':(t.name=[])=True:=eq_true hn
       by_cases hy:t.text.length<=4096
       ·have hy':(t.text.length:Int)<=4096:=by omega
        simp[h2,k3,k4',hn',hy,hy',h3,h4]
       ·have hy':¬(t.text.length:Int)<=4096:=by omega
        simp[h2,k3,k4',hn',hy,hy',h3,h4]
      ·simp[h2,k3,k4',hn,h3,h4]
     ·by_cases k5:t.kind=5
      ·have k5':(t.kind=5)=True:=eq_true k5
       by_cases hx:t.text=[]
       ·have hx':(t.text=[])=True:=eq_true hx
        by_cases hy:t.name.length<=32
        ·have hy':(t.name.length:Int)<=32:=by omega
         simp[h2,k3,k4,k5',hx',hy,hy',h3,h4]
        ·have hy':¬(t.name.length:Int)<=32:=by omega
         simp[h2,k3,k4,k5',hx',hy,hy',h3,h4]
       ·simp[h2,k3,k4,k5',hx,h3,h4]
      ·simp[h2,k3,k4,k5,h3,h4]
   ·have g3:¬(0:Int)<(alist t.attrs).length:=by omega
    have g4:(0:Int)<(klist t.kids).length:=by omega
    simp[h2,h3,h4]
  ·have g3:(0:Int)<(alist t.attrs).length:=by omega
   simp[h2,h3]
theorem zajl:∀(n:Nat) (t:Tree),t.size<n->n<=1000000000000->∀H,CW tr.look F_Q62 [tagg t] H=some (.p (.bool (nodeB t)),H):=by
 intro n
 induction n with
 |zero=>intro t h;omega
 |succ n ih =>
  intro t h hb
  have ht:=zag t
  have hl:=zau (klist t.kids)
  exact zajk t (zzs t (fun u hu=>ih u (by have:=zat hu;omega) (by omega)) (by omega))
theorem zajm (t:Tree) (hs:t.size<1000000) (H:J2):CW tr.look F_Q42 [tagg t] H=some (.p (.bool (kidsB (decide (t.kind=1)) (klist t.kids))),H):=by
 have ht:=zag t
 have hl:=zau (klist t.kids)
 exact zzs t (fun u hu=>zajl 1000000 u (by have:=zat hu;omega) (by omega)) (by omega) H
theorem zdn (t:Tree) (hs:t.size<1000000) (H:J2):CW tr.look F_Q21 [tagg t] H=some (.p (.bool (checkB t)),H):=by
 refine zal look_Q21 rfl (by simp) rfl ?_
 dsimp only[i_Q21,c_Q21]
 have h1:=zaji 1000000 t hs (by omega)
 have h2:=zaeu 1000000 t hs (by omega)
 have h3:=zajm t hs
 unfold checkB
 by_cases k1:t.kind=1
 ·have k1':(t.kind=1)=True:=eq_true k1
  simp only[k1,decide_true]at h3
  by_cases s1:t.size<=300
  ·have s1':(t.size:Int)<=300:=by omega
   by_cases s2:t.deep<=60
   ·have s2':(t.deep:Int)<=60:=by omega
    have h4:=zaex t.name t.text 0 [.cells [.p (.str t.name), .p (.str t.text)] 1 0 false] rfl
    by_cases n1:t.name=[]
    ·by_cases n2:t.text=[]
     ·simp only[eq_true n1,eq_true n2,decide_true,Bool.and_true]at h4
      by_cases a0:(alist t.attrs).length=0
      ·have a0':((alist t.attrs).length:Int)=0:=by omega
       have a1:alist t.attrs=[]:=Av.1 a0
       simp[k1',zaj,h1,s1',h2,s2',h4,a0',h3]
       simp[s1,s2,n1,n2,a1]
      ·have a0':¬((alist t.attrs).length:Int)=0:=by omega
       have a1:(alist t.attrs=[])=False:=eq_false fun e=>a0 (by rw[e];rfl)
       simp[k1',zaj,h1,s1',h2,s2',h4,a1]
     ·simp only[eq_true n1,eq_false n2,decide_true,decide_false,A4]at h4
      simp[k1',zaj,h1,s1',h2,s2',h4]
      simp[s1,s2,n1,n2]
    ·simp only[eq_false n1,decide_false,Bool.false_and]at h4
     simp[k1',zaj,h1,s1',h2,s2',h4]
     simp[s1,s2,n1]
   ·have s2':¬(t.deep:Int)<=60:=by omega
    simp[k1',zaj,h1,s1',h2,s2']
    simp[s1,s2]
  ·have s1':¬(t.size:Int)<=300:=by omega
   simp[k1',zaj,h1,s1']
   simp[s1]
 ·simp[k1]
end Go.Ideal
namespace Go.Ideal
open Go
set_option maxHeartbeats 2000000
set_option maxRecDepth 20000
attribute [-simp] getElem?_pos
end Go.Ideal
namespace Go.Ideal
open Go
set_option maxHeartbeats 4000000
set_option maxRecDepth 20000
attribute [-simp] getElem?_pos
theorem zye (a b:Tree) {x:List SV} {y0 y1 y2 y4:SV} (hl:(alist a.attrs).length=(alist b.attrs).length) (hs:(alist b.attrs).length<1000000000000) (Q:J0)
 (h1:alist a.attrs=alist b.attrs->Q .normal [(2, .box 2 0),(3, .box 3 0)] ⟨[(3,some ⟨[y0,y1,y2, .v (.p (aval b.attrs)),y4],5⟩),(2,some ⟨x,5⟩)],[]⟩)
 (h2:alist a.attrs≠alist b.attrs->∀E B,lookE E 4 = .bool false->Q .ret E ⟨B,[]⟩) :
 wpLoop (CW tr.look) 79 m_Q48_0 l_Q48_0 (blkK 0 b_Q48_0 Q) [(2, .box 2 0),(3, .box 3 0),(47, .v (.p (aval a.attrs))),(48, .int .i64 (alist b.attrs).length),(49, .int .i64 0)] ⟨[(3,some ⟨[y0,y1,y2, .v (.p (aval b.attrs)),y4],5⟩),(2,some ⟨x,5⟩)],[]⟩:=by
 refine zae (α:=Nat) (fun j=>[(2, .box 2 0),(3, .box 3 0),(47, .v (.p (aval a.attrs))),(48, .int .i64 (alist b.attrs).length),(49, .int .i64 j)]) (fun _=>⟨[(3,some ⟨[y0,y1,y2, .v (.p (aval b.attrs)),y4],5⟩),(2,some ⟨x,5⟩)],[]⟩)
  (fun j=>j<=(alist a.attrs).length/\(alist a.attrs).take j=(alist b.attrs).take j) (fun j=>(alist a.attrs).length-j) ?_ 0 ⟨by omega,by simp⟩
 rintro j ⟨hj,ht⟩ L hL
 dsimp only[l_Q48_0]
 by_cases hjl:j<(alist a.attrs).length
 ·have hjb:j<(alist b.attrs).length:=by omega
  by_cases he:(alist a.attrs)[j]=(alist b.attrs)[j]
  ·simp(disch:=omega) [zee,zaa,he]
   refine hL (j+1) ⟨by omega,?_⟩ (by omega)
   rw[AX,AX,ht,Ae hjl,Ae hjb,he]
  ·have h3:((alist a.attrs)[j].1==(alist b.attrs)[j].1&&(alist a.attrs)[j].2==(alist b.attrs)[j].2)=false:=by
    rw[CZ];intro h;simp at h;exact he (Prod.ext h.1 h.2)
   simp(disch:=omega) [zee,h3]
   exact h2 (fun e=>he (by simp[e])) _ _ rfl
 ·obtain rfl:j=(alist a.attrs).length:=by omega
  simp[hl]
  refine h1 ?_
  rw[A8,hl,A8]at ht
  exact ht
def kidsSame (l m:List Tree):Prop:=∀(j:Nat) (a b:Tree),l[j]? = some a->m[j]? = some b->SameT a b
theorem zabr (a b:Tree) {y0 y1 y2 y3:SV} (h:∀u∈klist a.kids,∀v H,CW tr.look F_Q48 [tagg u,tagg v] H=some (.p (.bool (decide (SameT u v))),H)) (hl:(klist a.kids).length=(klist b.kids).length) (hs:(klist b.kids).length<1000000000000) (Q:J0)
 (h1:kidsSame (klist a.kids) (klist b.kids)->Q .normal [] ⟨[],[]⟩)
 (h2:¬kidsSame (klist a.kids) (klist b.kids)->∀E B,lookE E 4 = .bool false->Q .ret E ⟨B,[]⟩) :
 wpLoop (CW tr.look) 79 m_Q48_1 l_Q48_1 (blkK 2 b_Q48_2 Q) [(3, .box 3 0),(63, .v (.p (kval a.kids))),(64, .int .i64 (klist b.kids).length),(65, .int .i64 0)] ⟨[(3,some ⟨[y0,y1,y2,y3, .v (.p (kval b.kids))],5⟩)],[]⟩:=by
 refine zae (α:=Nat) (fun j=>[(3, .box 3 0),(63, .v (.p (kval a.kids))),(64, .int .i64 (klist b.kids).length),(65, .int .i64 j)]) (fun _=>⟨[(3,some ⟨[y0,y1,y2,y3, .v (.p (kval b.kids))],5⟩)],[]⟩)
  (fun j=>j<=(klist a.kids).length/\∀(i:Nat) (u v:Tree),i<j->(klist a.kids)[i]? = some u->(klist b.kids)[i]? = some v->SameT u v) (fun j=>(klist a.kids).length-j) ?_ 0 ⟨by omega,fun i u v hi=>by omega⟩
 rintro j ⟨hj,ht⟩ L hL
 dsimp only[l_Q48_1]
 by_cases hjl:j<(klist a.kids).length
 ·have hjb:j<(klist b.kids).length:=by omega
  have hc:=h _ (BA hjl) (klist b.kids)[j]
  by_cases he:SameT (klist a.kids)[j] (klist b.kids)[j]
  ·simp only[eq_true he,decide_true]at hc
   simp(disch:=omega) [zib,zaj,zaa,hc]
   refine hL (j+1) ⟨by omega,fun i u v hi hu hv=>?_⟩ (by omega)
   rcases Nat.lt_or_eq_of_le (Nat.le_of_lt_succ hi)with h3|rfl
   ·exact ht i u v h3 hu hv
   ·rw[Ae hjl]at hu
    rw[Ae hjb]at hv
    injection hu with hu
    injection hv with hv
    subst hu hv
    exact he
  ·simp only[eq_false he,decide_false]at hc
   simp(disch:=omega) [zib,zaj,hc]
   exact h2 (fun hh=>he (hh j _ _ (Ae hjl) (Ae hjb))) _ _ rfl
 ·obtain rfl:j=(klist a.kids).length:=by omega
  simp[hl]
  refine h1 fun i u v hu hv=>ht i u v ?_ hu hv
  exact(Aa.1 hu).1
theorem zsw:∀(n:Nat) (a b:Tree),a.size<n->Fine a->∀H,CW tr.look F_Q48 [tagg a,tagg b] H=some (.p (.bool (decide (SameT a b))),H):=by
 intro n
 induction n with
 |zero=>intro a b h;omega
 |succ n ih =>
  intro a b h hf H
  have hts:=zag a
  have e:SameT a b↔(a.kind=b.kind/\a.name=b.name/\a.text=b.text/\alist a.attrs=alist b.attrs)/\(klist a.kids).length=(klist b.kids).length/\kidsSame (klist a.kids) (klist b.kids):=zid
  refine zal look_Q48 rfl (by simp) rfl ?_
  dsimp only[i_Q48,c_Q48]
  by_cases hk:a.kind=b.kind
  case neg =>
   have:¬SameT a b:=fun h=>hk (e.1 h).1.1
   simp[hk,this]
  by_cases hn:a.name=b.name
  case neg =>
   have:¬SameT a b:=fun h=>hn (e.1 h).1.2.1
   simp[eq_true hk,hn,this]
  by_cases hx:a.text=b.text
  case neg =>
   have:¬SameT a b:=fun h=>hx (e.1 h).1.2.2.1
   simp[eq_true hk,eq_true hn,hx,this]
  by_cases ha:(alist a.attrs).length=(alist b.attrs).length
  case neg =>
   have:¬SameT a b:=fun h=>ha (by rw[(e.1 h).1.2.2.2])
   have ha':¬((alist a.attrs).length:Int)=((alist b.attrs).length:Int):=by omega
   simp[eq_true hk,eq_true hn,eq_true hx,ha',this]
  by_cases hc:(klist a.kids).length=(klist b.kids).length
  case neg =>
   have:¬SameT a b:=fun h=>hc (e.1 h).2.1
   have hc':¬((klist a.kids).length:Int)=((klist b.kids).length:Int):=by omega
   simp[eq_true hk,eq_true hn,eq_true hx,ha,hc',this]
  have ha1:=hf.attrs
  have hk1:=hf.kids
  simp[eq_true hk,eq_true hn,eq_true hx,ha,hc]
  refine zye a b ha (by omega) _ (fun h3=>?_) (fun h3 E B hE=>?_)
  ·simp[hc]
   refine zabr a b (fun u hu v H=>ih u v (by have:=zat hu;omega) (hf.kid hu) H) hc (by omega) _ (fun h4=>?_) (fun h4 E B hE=>?_)
   ·have:SameT a b:=e.2 ⟨⟨hk,hn,hx,h3⟩,hc,h4⟩
    simp[this]
   ·have:¬SameT a b:=fun h=>h4 (e.1 h).2.2
    simp[this,hE]
  ·have:¬SameT a b:=fun h=>h3 (e.1 h).1.2.2.2
   simp[this,hE]
end Go.Ideal
namespace Go.Ideal
open Go
attribute [-simp] getElem?_pos
section
variable {a b t u:Tree} {bl:J1} {h i:Nat}
def subT (t:Tree) (id:Nat):Tree:=(((visT t 0 (-1) 0 0)[id]?).map (·.t)).getD t
theorem zfj {id:Nat} {v:Vis} (h:(visT t 0 (-1) 0 0)[id]? = some v):subT t id=v.t:=by simp[subT,h]
theorem zcy (h:i<t.size):t.nodes[i]? = some (subT t i):=by
 obtain⟨v,hv⟩:∃v,(visT t 0 (-1) 0 0)[i]? = some v:=⟨_,Ae (by rw[zab];exact h)⟩
 rw[zfj hv,<-zbz t 0 (-1) 0 0,Ap,hv];rfl
theorem zbp (t:Tree):t.nodes.length=t.size:=by rw[<- zbz t 0 (-1) 0 0,Bt,zab]
theorem zbi (t:Tree):subT t 0=t:=by unfold subT;rw[zbl];rfl
theorem zvs:∀(n:Nat) (t:Tree),t.size<n->∀(k:Nat) (u:Tree),t.nodes[k]? = some u->0<k->u.height<t.height/\k+u.size<=t.size:=by
 intro n
 induction n with
 |zero=>intro t h;omega
 |succ n ih =>
  intro t h k u hu hk
  have ht:=zag t
  have hh:=zev t
  have hl:∀(l:List Tree),lsize l<n->∀(k:Nat) (u:Tree),(lnodes l)[k]? = some u->u.height<=lheight l/\k+u.size<=lsize l:=by
   intro l
   induction l with
   |nil=>intro _ k u h;simp[lnodes]at h
   |cons a l ihl =>
    intro hsz k u h
    simp only[lsize]at hsz ⊢
    simp only[lnodes]at h
    simp only[lheight]
    by_cases hka:k<a.size
    ·rw[Ab (by rw[zbp];exact hka)]at h
     rcases BU k with h0|h0
     ·subst h0
      rw[zca,AL]at h
      cases h
      exact⟨by omega,by omega⟩
     ·have:=ih a (by omega) k u h h0
      exact⟨by omega,by omega⟩
    ·rw[Ad (by rw[zbp];omega),zbp]at h
     have:=ihl (by omega) _ _ h
     exact⟨by omega,by omega⟩
  rw[zca]at hu
  obtain⟨k,rfl⟩:∃j,k=j+1:=⟨k-1,by omega⟩
  rw[Aw]at hu
  have:=hl _ (by omega) _ _ hu
  exact⟨by omega,by omega⟩
theorem zjm:∀(n:Nat) (t:Tree),t.size<n->∀(k:Nat) (u:Tree),t.nodes[k]? = some u->∃A B,t.nodes=A++(u.nodes++B)/\A.length=k:=by
 intro n
 induction n with
 |zero=>intro t h;omega
 |succ n ih =>
  intro t h k u hu
  have ht:=zag t
  have hl:∀(l:List Tree),lsize l<n->∀(k:Nat) (u:Tree),(lnodes l)[k]? = some u->∃A B,lnodes l=A++(u.nodes++B)/\A.length=k:=by
   intro l
   induction l with
   |nil=>intro _ k u h;simp[lnodes]at h
   |cons a l ihl =>
    intro hsz k u h
    simp only[lsize]at hsz
    simp only[lnodes]at h ⊢
    by_cases hka:k<a.size
    ·rw[Ab (by rw[zbp];exact hka)]at h
     obtain⟨A,B,e1,e2⟩:=ih a (by omega) k u h
     exact⟨A,B++lnodes l,by rw[e1];simp,e2⟩
    ·rw[Ad (by rw[zbp];omega),zbp]at h
     obtain⟨A,B,e1,e2⟩:=ihl (by omega) _ _ h
     exact⟨a.nodes++A,B,by rw[e1];simp,by rw[Ag,zbp];omega⟩
  cases k with
  |zero =>
   rw[zca,AL]at hu
   cases hu
   exact⟨[],[],by simp,rfl⟩
  |succ k =>
   rw[zca,Aw]at hu
   obtain⟨A,B,e1,e2⟩:=hl _ (by omega) _ _ hu
   exact⟨t::A,B,by rw[zca,e1];rfl,by simp[e2]⟩
theorem zcn (hi:i<t.size):i+(subT t i).size<=t.size:=by
 obtain⟨A,B,e1,e2⟩:=zjm _ t (An _) i _ (zcy hi)
 have:=congrArg List.length e1
 simp only[Ag,zbp,e2]at this
 omega
theorem sub_sub {k:Nat} (hi:i<t.size) (hk:k<(subT t i).size):subT t (i+k)=subT (subT t i) k:=by
 obtain⟨A,B,e1,e2⟩:=zjm _ t (An _) i _ (zcy hi)
 have h1:=zcy (t:=t) (i:=i+k) (by have:=zcn hi;omega)
 rw[e1,Ad (by omega),Ab (by rw[zbp];omega),e2,Bk,zcy hk]at h1
 injection h1 with h1
 exact h1.symm
theorem zaey {k:Nat} (hi:i<t.size) (h1:i<k) (h2:k<i+(subT t i).size):(subT t k).height<(subT t i).height/\k+(subT t k).size<=i+(subT t i).size:=by
 obtain⟨j,rfl⟩:∃j,k=i+j:=⟨k-i,by omega⟩
 have hj:j<(subT t i).size:=by omega
 rw[sub_sub hi hj]
 have:=zvs _ (subT t i) (An _) j _ (zcy hj) (by omega)
 exact⟨this.1,by omega⟩
theorem zkw:∀(n:Nat) (t u:Tree),t.size<n->SameT t u->t.size=u.size/\t.height=u.height:=by
 intro n
 induction n with
 |zero=>intro t u h;omega
 |succ n ih =>
  intro t u h hs
  have hts:=zag t
  have hus:=zag u
  obtain⟨_,h5,h6⟩:=zid.1 hs
  have hl:∀(l m:List Tree),lsize l<n->l.length=m.length->(∀ (j:Nat) (a b:Tree),l[j]? = some a->m[j]? = some b->SameT a b)->lsize l=lsize m/\lheight l=lheight m:=by
   intro l
   induction l with
   |nil=>intro m _ hl _;rw[Av.1 hl.symm];exact⟨rfl,rfl⟩
   |cons a l ihl =>
    intro m hsz hlen hj
    cases m with
    |nil=>simp at hlen
    |cons b m =>
     have:=zad a
     simp only[lsize]at hsz
     obtain⟨e1,e2⟩:=ih a b (by omega) (hj 0 a b rfl rfl)
     obtain⟨e3,e4⟩:=ihl m (by omega) (by simpa using hlen) (fun j x y hx hy=>hj (j+1) x y (by simpa using hx) (by simpa using hy))
     exact⟨by simp only[lsize];omega,by simp only[lheight,e2,e4]⟩
  obtain⟨e1,e2⟩:=hl _ _ (by omega) h5 h6
  exact⟨by omega,by rw[zev,zev,e2]⟩
theorem SameT.size (h:SameT t u):t.size=u.size:=(zkw _ t u (An _) h).1
theorem SameT.height (h:SameT t u):t.height=u.height:=(zkw _ t u (An _) h).2
theorem zabs:∀(n:Nat) (t u:Tree),t.size<n->SameT t u->∀(k:Nat) (x y:Tree),t.nodes[k]? = some x->u.nodes[k]? = some y->SameT x y:=by
 intro n
 induction n with
 |zero=>intro t u h;omega
 |succ n ih =>
  intro t u h hs k x y hx hy
  have hts:=zag t
  obtain⟨_,h5,h6⟩:=zid.1 hs
  have hl:∀(l m:List Tree),lsize l<n->l.length=m.length->(∀ (j:Nat) (a b:Tree),l[j]? = some a->m[j]? = some b->SameT a b)->∀(k:Nat) (x y:Tree),(lnodes l)[k]? = some x->(lnodes m)[k]? = some y->SameT x y:=by
   intro l
   induction l with
   |nil=>intro m _ hl _ k x y h;simp[lnodes]at h
   |cons a l ihl =>
    intro m hsz hlen hj k x y hx hy
    cases m with
    |nil=>simp at hlen
    |cons b m =>
     simp only[lsize]at hsz
     have h0:=hj 0 a b rfl rfl
     have hab:=h0.size
     simp only[lnodes]at hx hy
     by_cases hka:k<a.size
     ·rw[Ab (by rw[zbp];omega)]at hx hy
      exact ih a b (by omega) h0 k x y hx hy
     ·rw[Ad (by rw[zbp];omega),zbp]at hx hy
      rw[<- hab]at hy
      exact ihl m (by omega) (by simpa using hlen) (fun j x y hx hy=>hj (j+1) x y (by simpa using hx) (by simpa using hy)) _ _ _ hx hy
  rw[zca]at hx hy
  cases k with
  |zero=>cases hx;cases hy;exact hs
  |succ k=>exact hl _ _ (by omega) h5 h6 k x y hx hy
theorem SameT.sub (h:SameT t u) {k:Nat} (hk:k<t.size):SameT (subT t k) (subT u k) :=
 zabs _ t u (An _) h k _ _ (zcy hk) (zcy (by rw[<- h.size];exact hk))
def markN (bs:List Bool) (i:Nat):Nat->List Bool
 |0=>bs
 |k+1=>(markN bs i k).set (i+k) true
theorem zkx (bs:List Bool) (i:Nat):∀k,(markN bs i k).length=bs.length
 |0=>rfl
 |k+1=>by rw[markN,Ay,zkx bs i k]
def pairsN (i j:Nat):Nat->J1
 |0=>[]
 |k+1=>pairsN i j k++[(i+k,j+k)]
theorem zcm (i j:Nat):∀k,(pairsN i j k).length=k
 |0=>rfl
 |k+1=>by rw[pairsN,Ag,zcm i j k];rfl
theorem zbq {i j:Nat}:∀ {k:Nat} {p:Nat×Nat},p∈pairsN i j k↔∃x,x<k/\p=(i+x,j+x)
 |0,p=>by simp[pairsN]
 |k+1,p=>by
  rw[pairsN,Ao,zbq,Bq]
  constructor
  ·rintro(⟨x,h1,h2⟩|h)
   ·exact⟨x,by omega,h2⟩
   ·exact⟨k,by omega,h⟩
  ·rintro⟨x,h1,h2⟩
   rcases A7 x k with h|h
   ·exact .inl ⟨x,h,h2⟩
   ·have:x=k:=by omega
    subst this;exact .inr h2
theorem zox {bs:List Bool} {i:Nat}:∀ {k x:Nat},i+k<=bs.length->(markN bs i k).getD x false=(decide (i<=x/\x<i+k)||bs.getD x false)
 |0,x,_=>by simp[markN];intro h1 h2;omega
 |k+1,x,h=>by
  rw[markN]
  have ih:=zox (bs:=bs) (i:=i) (k:=k) (x:=x) (by omega)
  rw[Am]at ih ⊢
  by_cases hx:x=i+k
  ·subst hx
   rw[AO (by rw[zkx];omega)]
   simp
  ·rw[Ac (by omega),ih]
   congr 1
   apply decide_eq_decide.2
   omega
structure ASt where
 bx:List Bool
 bz:List Bool
 ps:J1
def okJ (a b:Tree) (bz:List Bool) (i j:Nat):Bool:=decide (0<j)&&(!(bz.getD j false)&&decide (SameT (subT a i) (subT b j)))
def findJ (a b:Tree) (bz:List Bool) (i:Nat):Option Nat:=(List.range b.size).find? (okJ a b bz i)
def stepI (a b:Tree) (h i:Nat) (s:ASt):ASt :=
 if i=0\/s.bx.getD i false=true\/(subT a i).height≠h then s else
  match findJ a b s.bz i with
  |none=>s
  |some j=>⟨markN s.bx i (subT a i).size,markN s.bz j (subT a i).size,s.ps++pairsN i j (subT a i).size⟩
def runI (a b:Tree) (h:Nat):Nat->ASt->ASt
 |0,s=>s
 |i+1,s=>stepI a b h i (runI a b h i s)
def runH (a b:Tree):Nat->Nat->ASt->ASt
 |0,_,s=>s
 |n+1,h,s=>runH a b n (h-1) (runI a b h a.size s)
theorem zabt {bz:List Bool} {j:Nat} (h:findJ a b bz i=some j):j<b.size/\0<j/\bz.getD j false=false/\SameT (subT a i) (subT b j):=by
 have h1:=List.find?_some h
 have h2:=Cq h
 simp only[okJ,Ak,decide_eq_true_eq,Cx]at h1
 exact⟨Ck.1 h2,h1.1,h1.2.1,h1.2.2⟩
structure AInv (a b:Tree) (h:Nat) (s:ASt) (bl:J1):Prop where
 lx:s.bx.length=a.size
 lz:s.bz.length=b.size
 ps:s.ps=bl.flatMap fun p=>pairsN p.1 p.2 (subT a p.1).size
 ok:∀p∈bl,p.1<a.size/\p.2<b.size/\SameT (subT a p.1) (subT b p.2)/\h<=(subT a p.1).height
 mx:∀x,s.bx.getD x false=true↔∃p∈bl,p.1<=x/\x<p.1+(subT a p.1).size
 mz:∀y,s.bz.getD y false=true↔∃p∈bl,p.2<=y/\y<p.2+(subT a p.1).size
 nx:(s.ps.map (·.1)).Nodup
 nz:(s.ps.map (·.2)).Nodup
theorem zft (i j:Nat):∀k,(pairsN i j k).map (·.1)=List.range' i k
 |0=>rfl
 |k+1=>by rw[pairsN,AF,zft i j k,CU];simp
theorem zlp (i j:Nat):∀k,(pairsN i j k).map (·.2)=List.range' j k
 |0=>rfl
 |k+1=>by rw[pairsN,AF,zlp i j k,CU];simp
theorem AInv.mono {h':Nat} {s:ASt} (H:AInv a b h s bl) (hh:h'<=h):AInv a b h' s bl :=
 ⟨H.lx,H.lz,H.ps,fun p hp=>by obtain⟨h1,h2,h3,h4⟩:=H.ok p hp;exact⟨h1,h2,h3,by omega⟩,H.mx,H.mz,H.nx,H.nz⟩
theorem AInv.fst {s:ASt} (H:AInv a b h s bl) (x:Nat):x∈s.ps.map (·.1)↔s.bx.getD x false=true:=by
 rw[H.mx,H.ps,Au]
 constructor
 ·rintro⟨q,hq,rfl⟩
  obtain⟨p,hp,hm⟩:=BI.1 hq
  obtain⟨y,hy,rfl⟩:=zbq.1 hm
  exact⟨p,hp,by dsimp only;omega,by dsimp only;omega⟩
 ·rintro⟨p,hp,h1,h2⟩
  exact⟨(x,p.2+(x-p.1)),BI.2 ⟨p,hp,zbq.2 ⟨x-p.1,by omega,by rw[Nat.add_sub_cancel' h1]⟩⟩,rfl⟩
theorem AInv.snd {s:ASt} (H:AInv a b h s bl) (y:Nat):y∈s.ps.map (·.2)↔s.bz.getD y false=true:=by
 rw[H.mz,H.ps,Au]
 constructor
 ·rintro⟨q,hq,rfl⟩
  obtain⟨p,hp,hm⟩:=BI.1 hq
  obtain⟨x,hx,rfl⟩:=zbq.1 hm
  exact⟨p,hp,by dsimp only;omega,by dsimp only;omega⟩
 ·rintro⟨p,hp,h1,h2⟩
  exact⟨(p.1+(y-p.2),y),BI.2 ⟨p,hp,zbq.2 ⟨y-p.2,by omega,by rw[Nat.add_sub_cancel' h1]⟩⟩,rfl⟩
theorem zvt {s:ASt} (H:AInv a b h s bl) (hi:i<a.size):∃bl',AInv a b h (stepI a b h i s) bl':=by
 unfold stepI
 split
 ·exact⟨bl,H⟩
 ·rename_i hc
  split
  ·exact⟨bl,H⟩
  ·rename_i j hj
   obtain⟨j1,j2,j3,j4⟩:=zabt hj
   have c1:s.bx.getD i false=false:=by
    cases e:s.bx.getD i false with
    |false=>rfl
    |true=>exact absurd (.inr (.inl e)) hc
   have c2:(subT a i).height=h:=AZ fun e=>hc (.inr (.inr e))
   have e1:=zcn hi
   have e2:=zcn j1
   have e3:=j4.size
   have e4:=j4.height
   have hx:∀x,i<=x->x<i+(subT a i).size->s.bx.getD x false=false:=by
    intro x h1 h2
    cases e:s.bx.getD x false with
    |false=>rfl
    |true =>
     obtain⟨p,hp,g1,g2⟩:=(H.mx x).1 e
     obtain⟨o1,o2,o3,o4⟩:=H.ok p hp
     exfalso
     rcases A7 i p.1 with h3|h3
     ·have:=(zaey hi h3 (by omega)).1;omega
     ·have:s.bx.getD i false=true:=(H.mx i).2 ⟨p,hp,h3,by omega⟩
      rw[c1]at this;cases this
   have hz:∀y,j<=y->y<j+(subT a i).size->s.bz.getD y false=false:=by
    intro y h1 h2
    cases e:s.bz.getD y false with
    |false=>rfl
    |true =>
     obtain⟨p,hp,g1,g2⟩:=(H.mz y).1 e
     obtain⟨o1,o2,o3,o4⟩:=H.ok p hp
     have o5:=o3.height
     exfalso
     rcases A7 j p.2 with h3|h3
     ·have:=(zaey j1 h3 (by omega)).1;omega
     ·have:s.bz.getD j false=true:=(H.mz j).2 ⟨p,hp,h3,by omega⟩
      rw[j3]at this;cases this
   refine⟨bl++[(i,j)],by rw[zkx];exact H.lx,by rw[zkx];exact H.lz,by rw[H.ps];simp,?_,?_,?_,?_,?_⟩
   ·intro p hp
    rcases Ao.1 hp with hp|hp
    ·exact H.ok p hp
    ·rw[Bq]at hp;subst hp
     exact⟨hi,j1,j4,by dsimp only;omega⟩
   ·intro x
    dsimp only
    rw[zox (by rw[H.lx];omega),BX,H.mx]
    constructor
    ·rintro(h1|⟨p,hp,h1⟩)
     ·exact⟨(i,j),by simp,by simpa using h1⟩
     ·exact⟨p,by simp[hp],h1⟩
    ·rintro⟨p,hp,h1⟩
     rcases Ao.1 hp with hp|hp
     ·exact .inr ⟨p,hp,h1⟩
     ·rw[Bq]at hp;subst hp
      exact .inl (by simpa using h1)
   ·intro y
    dsimp only
    rw[zox (by rw[H.lz];omega),BX,H.mz]
    constructor
    ·rintro(h1|⟨p,hp,h1⟩)
     ·exact⟨(i,j),by simp,by simpa using h1⟩
     ·exact⟨p,by simp[hp],h1⟩
    ·rintro⟨p,hp,h1⟩
     rcases Ao.1 hp with hp|hp
     ·exact .inr ⟨p,hp,h1⟩
     ·rw[Bq]at hp;subst hp
      exact .inl (by simpa using h1)
   ·rw[AF,zft]
    refine Be.2 ⟨H.nx,B3,fun x hx1 y hy e=>?_⟩
    subst e
    rw[H.fst]at hx1
    rw[CE]at hy
    rw[hx x hy.1 hy.2]at hx1;cases hx1
   ·rw[AF,zlp]
    refine Be.2 ⟨H.nz,B3,fun x hx1 y hy e=>?_⟩
    subst e
    rw[H.snd]at hx1
    rw[CE]at hy
    rw[hz x hy.1 hy.2]at hx1;cases hx1
theorem zmy {a b:Tree} {h:Nat} {s:ASt} {bl:J1} (H:AInv a b h s bl):∀ {i:Nat},i<=a.size->∃bl',AInv a b h (runI a b h i s) bl'
 |0,_=>⟨bl,H⟩
 |i+1,hi=>by
  obtain⟨bl',H'⟩:=zmy H (i:=i) (by omega)
  exact zvt H' (by omega)
theorem zsx {a b:Tree}:∀ {n h:Nat} {s:ASt} {bl:J1},AInv a b h s bl->∃h' bl',AInv a b h' (runH a b n h s) bl'
 |0,h,s,bl,H=>⟨h,bl,H⟩
 |n+1,h,s,bl,H=>by
  obtain⟨bl',H'⟩:=zmy H (Ai a.size)
  rw[runH]
  exact zsx (H'.mono (Nat.sub_le h 1))
def ASt.start (a b:Tree):ASt:=⟨List.replicate a.size false,List.replicate b.size false,[]⟩
theorem zoy (a b:Tree) (h:Nat):AInv a b h (ASt.start a b) []:=by
 refine⟨by simp[ASt.start],by simp[ASt.start],rfl,by simp,?_,?_,by simp[ASt.start],by simp[ASt.start]⟩
 all_goals
  intro x
  simp[ASt.start,Am,B8]
  split<;>rfl
def alikeN (a b:Tree) (least:Int):J1 :=
 if SameT a b then pairsN 0 0 a.size else
  (runH a b ((min a.height b.height+1:Int)-max 1 least).toNat (min a.height b.height) (ASt.start a b)).ps
structure APairs (a b:Tree) (ps:J1):Prop where
 nx:(ps.map (·.1)).Nodup
 nz:(ps.map (·.2)).Nodup
 ok:∀p∈ps,p.1<a.size/\p.2<b.size/\SameT (subT a p.1) (subT b p.2)
 all:∀p∈ps,∀j,j<(subT a p.1).size->(p.1+j,p.2+j)∈ps
theorem AInv.pairs {s:ASt} (H:AInv a b h s bl):APairs a b s.ps:=by
 have key:∀q∈s.ps,∃p∈bl,∃x,x<(subT a p.1).size/\q=(p.1+x,p.2+x):=by
  intro q hq
  rw[H.ps]at hq
  obtain⟨p,hp,hm⟩:=BI.1 hq
  obtain⟨x,hx,e⟩:=zbq.1 hm
  exact⟨p,hp,x,hx,e⟩
 refine⟨H.nx,H.nz,fun q hq=>?_,fun q hq j hj=>?_⟩
 ·obtain⟨p,hp,x,hx,rfl⟩:=key q hq
  obtain⟨o1,o2,o3,o4⟩:=H.ok p hp
  have e1:=zcn o1
  have e2:=zcn o2
  have e3:=o3.size
  refine⟨by dsimp only;omega,by dsimp only;omega,?_⟩
  dsimp only
  rw[sub_sub o1 hx,sub_sub o2 (by omega)]
  exact o3.sub hx
 ·obtain⟨p,hp,x,hx,rfl⟩:=key q hq
  obtain⟨o1,o2,o3,o4⟩:=H.ok p hp
  dsimp only at hj ⊢
  have e4:x+j<(subT a p.1).size:=by
   rcases BU x with h0|h0
   ·subst h0;simpa using hj
   ·have:=(zaey o1 (k:=p.1+x) (by omega) (by omega)).2
    omega
  rw[H.ps]
  exact BI.2 ⟨p,hp,zbq.2 ⟨x+j,e4,by simp[BE]⟩⟩
theorem zmp (a b:Tree) (least:Int):APairs a b (alikeN a b least):=by
 unfold alikeN
 split
 ·rename_i hs
  have hsz:=hs.size
  refine⟨by rw[zft];exact B3,by rw[zlp];exact B3,fun p hp=>?_,fun p hp j hj=>?_⟩
  ·obtain⟨x,hx,rfl⟩:=zbq.1 hp
   refine⟨by dsimp only;omega,by dsimp only;omega,?_⟩
   simpa using hs.sub hx
  ·obtain⟨x,hx,rfl⟩:=zbq.1 hp
   dsimp only at hj ⊢
   have:=zcn (t:=a) (i:=0+x) (by omega)
   exact zbq.2 ⟨x+j,by omega,by simp⟩
 ·obtain⟨h',bl',H⟩:=zsx (n:=((min a.height b.height+1:Int)-max 1 least).toNat) (zoy a b (min a.height b.height))
  exact H.pairs
theorem Fine.sub (h:Fine t) {i:Nat} (hi:i<t.size):Fine (subT t i):=by
 obtain⟨A,B,e1,e2⟩:=zjm _ t (An _) i _ (zcy hi)
 refine⟨by have:=zcn hi;have:=h.1;omega,fun u hu=>h.2 u ?_⟩
 rw[e1]
 simp[hu]
end
end Go.Ideal
