import Derived.Test.YtpcamifaefigaaaGreatW6
namespace Go.Ideal
open Go
set_option maxHeartbeats 4000000
set_option maxRecDepth 20000
attribute [-simp] getElem?_pos
theorem zahk{a b:Int}:evalExt a true [J4 b]=some (max a b):=by
 simp only[evalExt,if_true];congr 1;by_cases h:b>a
 ·rw[if_pos h];omega
 ·rw[if_neg h];omega
theorem zyz(t:Tree):∀(id:Nat)(p:Int)(d pl:Nat)(i:Nat)(v:Vis),(visT t id p d pl)[i]? = some v->(i=0/\v.parent=p)\/(id<=v.parent/\v.parent<id+i):=by
 have key:∀(n:Nat)(t:Tree),t.size<n->∀(id:Nat)(p:Int)(d pl:Nat)(i:Nat)(v:Vis),(visT t id p d pl)[i]? = some v->(i=0/\v.parent=p)\/(id<=v.parent/\v.parent<id+i):=by
  intro n
  induction n with
  |zero=>intro t h;omega
  |succ n ih =>
   intro t h id p d pl i v hv;have ht:=zag t
   have hl:∀(l:List Tree)(id p d pl:Nat),lsize l<n->p<id->∀(i:Nat)(v:Vis),(visL l id p d pl)[i]? = some v->(p:Int)<=v.parent/\v.parent<id+i:=by
    intro l
    induction l with
    |nil=>intro id p d pl _ _ i v hv;simp[visL]at hv
    |cons u l ih2 =>
     intro id p d pl hl hp i v hv;simp only[lsize]at hl;simp only[visL]at hv;by_cases hi:i<(visT u id p d pl).length
     ·rw[Ac hi]at hv;rcases ih u (by omega) id p d pl i v hv with⟨h1,h2⟩|h1<;>omega
     ·rw[Ad (by omega),zae]at hv;rw[zae]at hi;have:=ih2 (id+u.size) p d (pl+1) (by omega) (by omega) _ v hv;omega
   rw[zbu]at hv;cases i with
   |zero =>
    simp only[Az,Ai]at hv;subst hv;exact .inl ⟨rfl,rfl⟩
   |succ i =>
    have:=hl (klist t.kids) (id+1) id (d+1) 0 (by omega) (by omega) i v (by rw[Ar]at hv;exact hv);right;omega
 exact key _ t (An _)
theorem zahl(L:List Item)(i:Nat):(up1 L i).map (·.parent)=L.map (·.parent):=by
 unfold up1;split
 ·rfl
 ·rename_i x hx;split
  ·rfl
  ·rename_i q hq;rw[Cu];obtain⟨h1,h2⟩:=Aa.1 hq;apply Bd;intro j;rw[B5];split
   ·rename_i e;subst e;simp only[AW,h1,if_true,Ap,hq,AN,bump]
   ·rfl
theorem zati(L:List Item)(i j:Nat)(x:Item)(h:L[j]? = some x):∃y,(up1 L i)[j]? = some y/\x.size<=y.size/\x.height<=y.height:=by
 unfold up1;split
 ·exact⟨x,h,Ak _,Ak _⟩
 ·rename_i z hz;split
  ·exact⟨x,h,Ak _,Ak _⟩
  ·rename_i q hq;by_cases e:z.parent.toNat=j
   ·subst e;rw[h]at hq;injection hq with hq;subst hq;refine⟨_,by rw[AQ (Aa.1 h).1],?_,?_⟩
    ·simp[bump]
    ·simp only[bump];omega
   ·exact⟨x,by rw[Ag e];exact h,Ak _,Ak _⟩
theorem zsd(lo:Nat):∀(n:Nat)(L:List Item)(j:Nat)(x:Item),L[j]? = some x->∃y,(backN L lo n)[j]? = some y/\x.size<=y.size/\x.height<=y.height
 |0,L,j,x,h=>⟨x,h,Ak _,Ak _⟩
 |n+1,L,j,x,h=>by
  obtain⟨y,h1,h2,h3⟩:=zati L (lo+n) j x h;obtain⟨z,h4,h5,h6⟩:=zsd lo n _ j y h1;exact⟨z,h4,by omega,by omega⟩
theorem zaom:∀(n:Nat)(t:Tree),t.size<n->t.height<=t.size:=by
 intro n
 induction n with
 |zero=>intro t h;omega
 |succ n ih =>
  intro t h;have ht:=zag t;have hh:=zeg t
  have hl:∀l:List Tree,lsize l<n->lheight l<=lsize l:=by
   intro l
   induction l with
   |nil=>intro _;exact Ak _
   |cons u l ih2 =>
    intro hl;simp only[lsize]at hl;have h1:=ih u (by omega);have h2:=ih2 (by omega);simp only[lheight,lsize];omega
  have:=hl (klist t.kids) (by omega);omega
theorem zse(t:Tree):∀(id:Nat)(p:Int)(d pl:Nat)(x:Item),x∈flatT t id p d pl->x.size<=t.size/\x.height<=t.size:=by
 have key:∀(n:Nat)(t:Tree),t.size<n->∀(id:Nat)(p:Int)(d pl:Nat)(x:Item),x∈flatT t id p d pl->x.size<=t.size/\x.height<=t.size:=by
  intro n
  induction n with
  |zero=>intro t h;omega
  |succ n ih =>
   intro t h id p d pl x hx;have ht:=zag t
   have hl:∀(l:List Tree)(id p d pl:Nat),lsize l<n->∀x∈flatL l id p d pl,x.size<=lsize l/\x.height<=lsize l:=by
    intro l
    induction l with
    |nil=>intro id p d pl _ x hx;simp[flatL]at hx
    |cons u l ih2 =>
     intro id p d pl hl x hx;simp only[lsize]at hl ⊢;simp only[flatL,AB]at hx;rcases hx with hx|hx
     ·have:=ih u (by omega) _ _ _ _ x hx;omega
     ·have:=ih2 _ _ _ _ (by omega) x hx;omega
   rw[zqs]at hx;rcases Am.1 hx with rfl|hx
   ·exact⟨Ak _,zaom _ t (An _)⟩
   ·have:=hl _ _ _ _ _ (by omega) x hx;omega
 exact key _ t (An _)
theorem zaon(t:Tree)(hs:t.size<1000000)(lb kl:Nat)(lv:IVal)(hne:kl≠lb)(H0:J2)(hlb:H0[lb]? = some (.cells [lv] 1 0 false))(hh:HS H0 kl 10 t.size lv (pcells (icells (rawItems t))))(Q:J0)
 (h1:∀H',H'[lb]? = some (.cells [lv] 1 0 false)->HS H' kl 10 t.size lv (pcells (icells (flatT t 0 (-1) 0 0)))->Q .normal [(3, .v (J5 lb 0 0))] ⟨[],H'⟩) :
 wpLoop (CW tr.look) 49 m_30_0 l_30_0 (blkK 0 b_30_0 Q) [(3, .v (J5 lb 0 0)),(4, .int .i64 (t.size-1))] ⟨[],H0⟩:=by
 have hraw:(rawItems t).length=t.size:=(by simp[rawItems,zae]);have hsz:=zag t;have hsz1:=zad t
 refine zac (α:=Nat×J2×List Item) (fun a=>[(3, .v (J5 lb 0 0)),(4, .int .i64 a.1)]) (fun a=>⟨[],a.2.1⟩)
  (fun a=>a.1<t.size/\a.2.1[lb]? = some (.cells [lv] 1 0 false)/\HS a.2.1 kl 10 t.size lv (pcells (icells a.2.2))/\a.2.2.length=t.size/\backN a.2.2 1 a.1=flatT t 0 (-1) 0 0/\a.2.2.map (·.parent)=(rawItems t).map (·.parent)) (fun a=>a.1) ?_ (t.size-1,H0,rawItems t) ?_ |> (fun h=>by
   have e:((t.size-1:Nat):Int)=(t.size:Int)-1:=(by omega)
   simpa only[e]using h)
 ·rintro⟨n,H,L⟩⟨hn,hlb,hH,hL1,hL2,hL3⟩ LL hLL;dsimp only at hn hlb hH hL1 hL2 hL3 hLL ⊢;dsimp only[l_30_0];have hld:=zab (bx:=[]) (off:=0) hlb rfl;cases n with
  |zero =>
   simp(disch:=omega) [];exact h1 H hlb (by rw[<- hL2];exact hH)
  |succ n =>
   obtain⟨x,hx⟩:∃x,L[n+1]? = some x:=⟨_,Ae (by omega)⟩
   have hpar:∃p:Nat,x.parent=p/\p<n+1:=by
    have h2:=congrArg (fun l=>l[n+1]?) hL3;simp only[Ap,hx,AN]at h2;cases hv:(visT t 0 (-1) 0 0)[n+1]? with
    |none=>simp[rawItems,hv]at h2
    |some v =>
     simp only[rawItems,Ap,hv,AN,rawOf,Ai]at h2;rcases zyz t 0 (-1) 0 0 _ v hv with⟨h3,_⟩|h3
     ·omega
     ·exact⟨v.parent.toNat,by omega,by omega⟩
   obtain⟨p,hp1,hp2⟩:=hpar;obtain⟨q,hq⟩:∃q,L[p]? = some q:=⟨_,Ae (by omega)⟩
   have hup:up1 L (n+1)=L.set p (bump q x.size x.height):=by
    unfold up1;simp only[hx,hp1,CE,hq]
   obtain⟨ver,cs0,op0,rfl,hkk0,hnn0,hxs0⟩:=hH;have hH:HS H kl 10 t.size (.slice kl ver 0 t.size) (pcells (icells L)):=⟨ver,cs0,op0,rfl,hkk0,hnn0,hxs0⟩;have hkll:=hH.lt;have hlbl:=(Aa.1 hlb).1;have hn1:((n+1:Nat):Int)=(n:Int)+1:=rfl;have i1:idxS 10 (.slice kl ver 0 t.size) (J4 ((n:Int)+1))=some (J5 kl ver ((n+1)*10)):=(by rw[<- hn1,zau (by omega),As]);have i2:idxS 10 (.slice kl ver 0 t.size) (J4 p)=some (J5 kl ver (p*10)):=(by rw[zau (by omega),As])
   have fld:∀(H:J2)(L:List Item)(j f:Nat)(y:Item)(v:PVal),HS H kl 10 t.size (.slice kl ver 0 t.size) (pcells (icells L))->L[j]? = some y->f<10->(icell y)[f]? = some v->loadVal ⟨[],H⟩ none (J5 kl ver (j*10+f))=some (.p v):=by
    intro H L j f y v hH hy hf hv;obtain⟨hj,hy⟩:=Aa.1 hy;refine hH.field (x := .p v) ?_;rw[pcells,Ap,zaod hj hf,hy,hv];rfl
   have sto:∀(H:J2)(L:List Item)(j f:Nat)(y z:Item)(v:PVal),HS H kl 10 t.size (.slice kl ver 0 t.size) (pcells (icells L))->L.length=t.size->L[j]? = some y->f<10->icell z=(icell y).set f v->∃b,writeCells ⟨[],H⟩ (J5 kl ver (j*10+f)) [.p v]=some ⟨[],H.set kl b⟩/\HS (H.set kl b) kl 10 t.size (.slice kl ver 0 t.size) (pcells (icells (L.set j z))):=by
    intro H L j f y z v hH hl hy hf hz;obtain⟨hj,hy⟩:=Aa.1 hy;obtain⟨b,hb1,hb2⟩:=hH.store (bx:=[]) (off:=j*10+f) (new:=[.p v]) (by simp;omega);refine⟨b,hb1,?_⟩;rw[zald hj hf (by rw[hy];exact hz),zale];rw[zey (by simp[pcells,zqr];omega)]at hb2;exact hb2
   have g0:=fld H L (n+1) 0 x (.int .i64 p) hH hx (by omega) (by rw[icell,hp1];rfl);have g1:=fld H L (n+1) 1 x (.int .i64 x.size) hH hx (by omega) rfl;have g2:=fld H L p 1 q (.int .i64 q.size) hH hq (by omega) rfl;obtain⟨y,hy1,hy2,hy3⟩:=zsd 1 (n+1) L (n+1) x hx;obtain⟨w,hw1,hw2,hw3⟩:=zsd 1 (n+1) L p q hq;rw[hL2]at hy1 hw1;have hym:=zse t _ _ _ _ y (Al hy1);have hwm:=zse t _ _ _ _ w (Al hw1);obtain⟨b1,s1,s2⟩:=sto H L p 1 q { q with size:=q.size+x.size } (.int .i64 (q.size+x.size:Nat)) hH hL1 hq (by omega) rfl;have hne2:p≠n+1:=(by omega);have g3:=fld _ _ (n+1) 3 x (.int .i64 x.height) s2 (by rw[Ag hne2];exact hx) (by omega) rfl;have g4:=fld _ _ p 3 { q with size:=q.size+x.size } (.int .i64 q.height) s2 (AQ (by omega)) (by omega) rfl;obtain⟨b2,s3,s4⟩:=sto _ _ p 3 { q with size:=q.size+x.size } (bump q x.size x.height) (.int .i64 (max q.height (x.height+1):Nat)) s2 (by simp[hL1]) (AQ (by omega)) (by omega) rfl;have hlb2:(H.set kl b1)[lb]? = some (.cells [.slice kl ver 0 t.size] 1 0 false):=(by rw[Ag hne];exact hlb);have hld2:=zab (bx:=[]) (off:=0) hlb2 rfl;rw[Dj]at s3 s4;rw[Dj,<-hup]at s4;have hm:max (q.height:Int) ((x.height:Int)+1)=((max q.height (x.height+1):Nat):Int):=(by omega);rw[BA]at g0;simp only[Dc]at s1;simp(disch:=omega) [hld,hld2,i1,i2,g0,g1,g2,g3,g4,zaa,s1,s3,zahk,hm];refine hLL (n,H.set kl b2,up1 L (n+1)) ⟨by dsimp only;omega,?_,s4,by dsimp only;rw[zalf];exact hL1,?_,?_⟩ (by dsimp only;omega)
   ·dsimp only;rw[Ag hne];exact hlb
   ·rw[<- hL2,backN,B3 1 n]
   ·dsimp only;rw[zahl,hL3]
 ·exact⟨by dsimp only;omega,hlb,hh,hraw,by rw[<- zaof,show t.size-1=lsize (klist t.kids)by omega];rfl,rfl⟩
theorem zcc(t:Tree)(hf:Fine t)(H:J2):CW tr.look F_30 [tagg t] H=some (.p (ival t),H):=by
 refine zaz look_30 rfl (by simp) rfl ?_;dsimp only[i_30,c_30];have hsz1:=zad t
 obtain⟨H',h1,n,hI,hn,hor,_⟩:=zaol F_63 [J5 1 0 0] t 0 [.cells (pcells t.cells) 5 0 false, .cells [.p .nilslice] 1 0 false] rfl hf.1 (FlatI t 1 0 2) (fun _=>true)
  (fun H hk=>⟨.p .nilslice,by rw[hk.2 1 (by simp) (by simp)];rfl, .inl ⟨rfl,rfl⟩⟩)
  (by
   rintro i H H' ⟨lv,h1,h2⟩ hk;have hl:=(Aa.1 h1).1;refine⟨lv,by rw[hk.2 1 hl (by simp)];exact h1,?_⟩;rcases h2 with h2|⟨kl,a,b,c,h2⟩
   ·exact .inl h2
   ·exact .inr ⟨kl,a,b,c,h2.keep (hk.2 kl h2.lt (by simpa using c))⟩)
  (zahj t 1 0 2 hf (by simp) (by simp) (by simp))
 obtain rfl:n=t.size:=by
  rcases hor with h|⟨m,_,h⟩
  ·exact h
  ·cases h
 obtain⟨lv,hlb,hl⟩:=hI;rcases hl with⟨_,h⟩|⟨kl,hk1,hk2,hk3,hl⟩
 ·omega
 have hraw:(rawItems t).length=t.size:=(by simp[rawItems,zae]);rw[Aq (by omega)]at hl;have hld:=zab (bx:=[]) (off:=0) hlb rfl;have hpc:(pcells t.cells)=[J4 t.kind, .p (.str t.name), .p (.str t.text), .p (aval t.attrs), .p (kval t.kids)]:=(by rw[Tree.zbq];rfl);rw[hpc]at h1;have hlen:=hl.len;have hs6:=hf.1;obtain⟨ver,cs,op,rfl,hr⟩:=hl;simp(disch:=omega) [h1,hld,hlen,zaa];refine zaon t hf.1 1 kl _ hk1 H' hlb ⟨ver,cs,op,rfl,hr⟩ _ ?_;intro H2 h3 h4;have hld2:=zab (bx:=[]) (off:=0) h3 rfl;have hz:=zgp h4;simp(disch:=omega) [hld2,hz];rfl
theorem zatj{l:List Nat}{j n:Nat}(h:l[j]? = some n):(pcells (nints l))[j]? = some (J4 n):=by
 simp[pcells,nints,h]
theorem zalh(t:Tree)(i:Nat)(ctr N:SV)(hi:i<=t.size)(hs:t.size<1000000)(l0 R0:List Nat)(hR:∀o∈R0,o<t.size)(H0:J2)(o1 o2:Option Nat)(lv ov:IVal)
 (hl:VS H0 o1 1 l0.length lv (pcells (nints l0)))(ho:VS H0 o2 1 R0.length ov (pcells (nints R0.reverse)))(hne:∀k,o1=some k->o2≠some k)(hlen:l0.length+R0.length<=t.size)(Q:J0)
 (h1:∀H' o1' lv' ov',VS H' o1' 1 (l0++(popR (endOf t) i R0).1).length lv' (pcells (nints (l0++(popR (endOf t) i R0).1)))->VS H' o2 1 (popR (endOf t) i R0).2.length ov' (pcells (nints (popR (endOf t) i R0).2.reverse))->(∀ k,o1'=some k->o2≠some k) ->
  Q .normal [(3, .v (.p (ival t))),(4, .v lv'),(5, .v ov'),(6, .int .i64 i),(12,N),(13,ctr)] ⟨[],H'⟩) :
 wpLoop (CW tr.look) 49 m_32_0 l_32_0 (blkK 2 b_32_2 Q) [(3, .v (.p (ival t))),(4, .v lv),(5, .v ov),(6, .int .i64 i),(12,N),(13,ctr)] ⟨[],H0⟩:=by
 refine zac (α:=List Nat×List Nat×IVal×IVal×J2×Option Nat) (fun a=>[(3, .v (.p (ival t))),(4, .v a.2.2.1),(5, .v a.2.2.2.1),(6, .int .i64 i),(12,N),(13,ctr)]) (fun a=>⟨[],a.2.2.2.2.1⟩)
  (fun a=>VS a.2.2.2.2.1 a.2.2.2.2.2 1 a.1.length a.2.2.1 (pcells (nints a.1))/\VS a.2.2.2.2.1 o2 1 a.2.1.length a.2.2.2.1 (pcells (nints a.2.1.reverse))/\(∀ k,a.2.2.2.2.2=some k->o2≠some k)/\(∀ o∈a.2.1,o<t.size)/\a.1.length+a.2.1.length<=t.size /\
   a.1++(popR (endOf t) i a.2.1).1=l0++(popR (endOf t) i R0).1/\(popR (endOf t) i a.2.1).2=(popR (endOf t) i R0).2) (fun a=>a.2.1.length) ?_ (l0,R0,lv,ov,H0,o1) ⟨hl,ho,hne,hR,hlen,rfl,rfl⟩
 rintro⟨l,R,lv,ov,H,o1⟩⟨hl,ho,hne,hR,hlen,e1,e2⟩ L hL;dsimp only at hl ho hne hR hlen e1 e2 hL ⊢;dsimp only[l_32_0];cases R with
 |nil =>
  have hol:=ho.len;simp only[popR,AX]at e1 e2;simp(disch:=omega) [hol];refine h1 H o1 lv ov ?_ ?_ hne
  ·rw[<- e1];exact hl
  ·rw[<- e2];exact ho
 |cons o R =>
  obtain⟨k2,rfl⟩:∃k,o2=some k:=by
   cases o2 with
   |none=>have:=ho.2.1;simp at this
   |some k=>exact⟨k,rfl⟩
  have ho0:=hR o (by simp);have hol:=ho.len;obtain⟨x,hx⟩:∃x,t.items[o]? = some x:=⟨_,Ae (by rw[ztl];exact ho0)⟩;have hxs:=zse t _ _ _ _ x (Al hx);have hend:endOf t o=o+x.size:=(by simp only[endOf,hx]);obtain⟨ver,hi1,hi2⟩:=ho.at1 (j:=R.length) (by simp);have hi3:=hi2 _ (zatj (n:=o) (by simp[Ad];rfl));have hl1:(((o::R).length:Nat):Int)-1=(R.length:Nat):=(by simp);simp only[Ay]at hol hlen hl1;simp only[popR,hend]at e1 e2;by_cases hc:o+x.size<=i
  ·rw[if_pos hc]at e1 e2;obtain⟨lv',H',o1',ha1,ha2,ha3,ha4,ha5,ha6⟩:=hl.append1 (ys:=[J4 o]) rfl (by omega);obtain⟨ver2,hv2,hcut,cs,op,hcs⟩:=ho.cut (m:=R.length) (by simp);subst hv2;simp only[Ay]at hi1;have hkl:=ho.lt;have hcs':H'[k2]? = some (.cells cs 1 ver2 op):=(by rw[ha3.2 k2 hkl (fun e=>hne k2 e rfl)];exact hcs);have hle:((R.length:Nat):Int)<=(R.length:Nat)+1:=(by omega);simp(disch:=omega) [hi1,hi3,zbx hx,zaa,ha1,ha2.up,boundHi,boundLo,asBound,Mem.get,hcs',hle];refine hL (l++[o],R,lv', .slice k2 ver2 0 R.length,H',o1') ⟨?_,?_,?_,?_,?_,?_,e2⟩ (by simp)
   ·have:pcells (nints (l++[o]))=pcells (nints l)++[J4 o]:=(by simp[pcells,nints]);simp only[Ah,AK,this];exact ha2
   ·have h3:(pcells (nints (o::R).reverse)).take (R.length*1)=pcells (nints R.reverse):=by
     simp only[By,nints,pcells,AO,Cf];rw[Dd (by simp)]
    rw[h3]at hcut;exact hcut.keep ha3 (fun k hk=>by injection hk with hk;subst hk;exact fun e=>hne _ e rfl)
   ·intro k hk;rcases ha5 with e|⟨k',e,hk'⟩
    ·rw[e]at hk;exact hne k hk
    ·rw[e]at hk;injection hk with hk;subst hk;intro e2;injection e2 with e2;omega
   ·intro a ha;exact hR a (by simp[ha])
   ·simp only[Ah,AK];omega
   ·rw[<- e1];simp
  ·rw[if_neg hc]at e1 e2;simp(disch:=omega) [hol,hi1,hi3,zbx hx,zaa];simp only[AX]at e1;refine h1 H o1 lv ov ?_ ?_ hne
   ·rw[<- e1];exact hl
   ·rw[<- e2];exact ho
theorem zaay(e:Nat->Nat)(i:Nat):∀R:List Nat,(popR e i R).1.length+(popR e i R).2.length=R.length
 | []=>rfl
 |o::r=>by
  rw[popR];split
  ·have:=zaay e i r;simp only[Ay];omega
  ·simp
theorem zaje(e:Nat->Nat)(i:Nat):∀(R:List Nat)(o:Nat),o∈(popR e i R).2->o∈R
 | [],o,h=>h
 |a::r,o,h=>by
  rw[popR]at h;split at h
  ·exact Ao _ (zaje e i r o h)
  ·exact h
theorem zali(t:Tree)(hs:t.size<1000000)(Q:J0)
 (h1:∀H' o lv,VS H' o 1 t.size lv (pcells (nints (postT t 0)))->Q .normal [(4, .v lv)] ⟨[],H'⟩) :
 wpLoop (CW tr.look) 49 m_32_1 l_32_1 (blkK 0 b_32_0 Q) [(3, .v (.p (ival t))),(4, .v (.p .nilslice)),(5, .v (.p .nilslice)),(12, .int .i64 (t.size+1)),(13, .int .i64 0)] ⟨[],[]⟩:=by
 refine zac (α:=Nat×List Nat×List Nat×IVal×IVal×J2×Option Nat×Option Nat) (fun a=>[(3, .v (.p (ival t))),(4, .v a.2.2.2.1),(5, .v a.2.2.2.2.1),(12, .int .i64 (t.size+1)),(13, .int .i64 a.1)]) (fun a=>⟨[],a.2.2.2.2.2.1⟩)
  (fun a=>VS a.2.2.2.2.2.1 a.2.2.2.2.2.2.1 1 a.2.1.length a.2.2.2.1 (pcells (nints a.2.1))/\VS a.2.2.2.2.2.1 a.2.2.2.2.2.2.2 1 a.2.2.1.length a.2.2.2.2.1 (pcells (nints a.2.2.1.reverse))/\(∀ k,a.2.2.2.2.2.2.1=some k->a.2.2.2.2.2.2.2≠some k)/\(∀ o∈a.2.2.1,o<a.1)/\a.2.1.length+a.2.2.1.length=a.1 /\
   a.1<=t.size+1/\runP (endOf t) a.1 (t.size+1-a.1) (a.2.1,a.2.2.1)=(postT t 0,[t.size])) (fun a=>t.size+1-a.1) ?_ (0,[],[], .p .nilslice, .p .nilslice,[],none,none) ⟨VS.nil,VS.nil,by simp,by simp,rfl,by simp,zaoh _ t (zatf t)⟩
 rintro⟨i,l,R,lv,ov,H,o1,o2⟩⟨hl,ho,hne,hR,hlen,hi,hrun⟩ L hL;dsimp only at hl ho hne hR hlen hi hrun hL ⊢;dsimp only[l_32_1];by_cases hc:i<t.size+1
 ·simp(disch:=omega) [];refine zalh t i _ _ (by omega) hs l R (fun o h=>by have:=hR o h;omega) H o1 o2 lv ov hl ho hne (by omega) _ ?_;intro H2 o1' lv' ov' g1 g2 g3;obtain⟨ov2,H3,o2',a1,a2,a3,a4,a5,a6⟩:=g2.append1 (ys:=[J4 i]) rfl (by have:=zaay (endOf t) i R;omega);simp(disch:=omega) [a1,a2.up,zaa];refine hL (i+1,l++(popR (endOf t) i R).1,i::(popR (endOf t) i R).2,lv',ov2,H3,o1',o2') ⟨?_,?_,?_,?_,?_,by dsimp only;omega,?_⟩ (by dsimp only;omega)
  ·exact g1.keep a3 (fun k hk e=>g3 k hk e)
  ·have:pcells (nints (i::(popR (endOf t) i R).2).reverse)=pcells (nints (popR (endOf t) i R).2.reverse)++[J4 i]:=(by simp[pcells,nints]);simp only[Ay,this];exact a2
  ·intro k hk e;rcases a5 with e2|⟨k',e2,hk'⟩
   ·rw[e2]at e;exact g3 k hk e
   ·rw[e2]at e;injection e with e;subst hk;have:=VS.lt g1;omega
  ·intro o ho;rcases Am.1 ho with rfl|ho
   ·dsimp only;omega
   ·have:=hR o (zaje _ _ _ _ ho);dsimp only;omega
  ·have:=zaay (endOf t) i R;simp only[Ah,Ay];omega
  ·rw[show t.size+1-i=(t.size+1-(i+1))+1 by omega,runP]at hrun;exact hrun
 ·obtain rfl:i=t.size+1:=by omega
  rw[A6,runP]at hrun;injection hrun with e1 e2;subst e1;simp(disch:=omega) [];rw[zav]at hl;exact h1 H o1 lv hl
def nval(l:List Nat):PVal := .slice 1 l.length (nints l)
theorem zkv(t:Tree)(hf:Fine t)(H:J2):CW tr.look F_32 [tagg t] H=some (.p (nval (postT t 0)),H):=by
 refine zaz look_32 rfl (by simp) rfl ?_;dsimp only[i_32,c_32];have hsz1:=zad t;have hs:=hf.1;simp(disch:=omega) [zai,zcc t hf,zaa];refine zali t hf.1 _ ?_;intro H' o lv hv;have hz:=zmq hv;simp(disch:=omega) [hv.pass];cases o with
 |none=>have:=hv.2.1;omega
 |some k =>
  obtain⟨ver,cs,op,rfl,hr⟩:=hv;simp only[zii,zij,hz,AN,nval,zav]
def fv(f:Int×Int):IVal := .agg [J4 f.1, J4 f.2]
def someF(a b:Int):Int×Int:=if b<a then(0, -1)else(a,b)
theorem zgt(H:J2):CW tr.look F_190 [] H=some (fv (0, -1),H):=by
 refine zaz look_190 rfl (by simp) rfl ?_;dsimp only[i_190,c_190];simp(disch:=omega) [fv,freezeOne,freezeList]
theorem zaaz(a b:Int)(H:J2):CW tr.look F_189 [J4 a, J4 b] H=some (fv (someF a b),H):=by
 refine zaz look_189 rfl (by simp) rfl ?_;dsimp only[i_189,c_189];by_cases h:b<a
 ·simp(disch:=omega) [zgt,fv,someF,h,freezeOne,freezeList]
 ·simp(disch:=omega) [fv,someF,h,freezeOne,freezeList]
theorem zaba(f:Int×Int)(h0:0<=f.2)(h1:f.2<1000000)(H:J2):CW tr.look F_196 [fv f] H=some (fv (someF f.1 (f.2-1)),H):=by
 have h2:plainArgs [fv f]=true:=rfl;refine zaz look_196 rfl h2 rfl ?_;dsimp only[i_196,c_196];simp(disch:=omega) [zaaz,fv,zaa,freezeOne,freezeList]
def nodecell(u:Tree):List PVal:=[.int .i64 u.kind, .str u.name, .str u.text,aval u.attrs, .nilslice]
structure SideAt(H:J2)(k m:Nat)(N:List Tree)(ids:List Nat)(fs:List Nat):Prop where
 blk:∃nv fvv o1 o2,H[k]? = some (.cells [nv, .p (nval ids),fvv] 3 0 false)/\VS H o1 5 N.length nv (pcells (N.flatMap nodecell))/\VS H o2 1 fs.length fvv (pcells (nints fs))/\k<m/\(∀ j,o1=some j->k<j/\j<m/\o2≠some j)/\(∀ j,o2=some j->k<j/\j<m)
theorem SideAt.first{H:J2}{k m:Nat}{N:List Tree}{ids fs:List Nat}(h:SideAt H k m N ids fs){j n:Nat}(hj:fs[j]? = some n):∃v q,loadVal ⟨[],H⟩ none (J5 k 0 2)=some v/\up v = .v v/\idxS 1 v (J4 j)=some q/\up q = .v q/\loadVal ⟨[],H⟩ none q=some (J4 n):=by
 obtain⟨nv,fvv,o1,o2,h1,h2,h3⟩:=h.blk;have hjl:=(Aa.1 hj).1;cases o2 with
 |none=>have:=h3.1.2.1;omega
 |some k2 =>
  obtain⟨ver,e1,e2⟩:=h3.1.at1 hjl;exact⟨fvv,_,zab h1 rfl,h3.1.up,e1,rfl,e2 _ (by simp[pcells,nints,hj])⟩
theorem SideAt.keep{H H':J2}{k m:Nat}{N:List Tree}{ids fs:List Nat}(h:SideAt H k m N ids fs){S:Nat->Prop}(hk:Keep S H H')(hS:∀x,S x->x<k\/m<=x):SideAt H' k m N ids fs:=by
 obtain⟨nv,fvv,o1,o2,h1,h2,h3,h4,h5,h6⟩:=h.blk;refine⟨nv,fvv,o1,o2,?_,h2.keep hk ?_,h3.keep hk ?_,h4,h5,h6⟩
 ·rw[hk.2 k (Aa.1 h1).1 (fun e=>by have:=hS k e;omega)];exact h1
 ·intro x hx e;have:=hS x e;have:=h5 x hx;omega
 ·intro x hx e;have:=hS x e;have:=h6 x hx;omega
theorem zabb(H:J2)(k m:Nat)(N:List Tree)(ids fs:List Nat)(hS:SideAt H k m N ids fs)(f0:Int)(j n:Nat)(hj:fs[j]? = some n)(hb:fs.length<1000000):CW tr.look F_193 [J5 k 0 0,fv (f0,j)] H=some (fv (someF n (j-1)),H):=by
 obtain⟨v,q,e1,e2,e3,e4,e5⟩:=hS.first hj;have hjl:=(Aa.1 hj).1
 obtain⟨r,H',h1,h2,h3⟩:=zah (args:=[J5 k 0 0,fv (f0,j)]) (H:=H) (Q:=fun r H'=>r=fv (someF n (j-1))/\H'=H) look_193 rfl rfl (by
  dsimp only[i_193,c_193]
  simp(disch:=omega) [zaaz,fv,zaa,e1,e2,e3,e4,e5])
 rw[h1,h2,h3]
theorem znq(H:J2)(k m:Nat)(N:List Tree)(ids fs:List Nat)(hS:SideAt H k m N ids fs)(f0:Int)(j n:Nat)(hj:fs[j]? = some n)(_:fs.length<1000000)(hn:n<1000000):CW tr.look F_194 [J5 k 0 0,fv (f0,j)] H=some (fv (someF f0 (n-1)),H):=by
 obtain⟨v,q,e1,e2,e3,e4,e5⟩:=hS.first hj;have hjl:=(Aa.1 hj).1
 obtain⟨r,H',h1,h2,h3⟩:=zah (args:=[J5 k 0 0,fv (f0,j)]) (H:=H) (Q:=fun r H'=>r=fv (someF f0 (n-1))/\H'=H) look_194 rfl rfl (by
  dsimp only[i_194,c_194]
  simp(disch:=omega) [zaaz,fv,zaa,e1,e2,e3,e4,e5])
 rw[h1,h2,h3]
end Go.Ideal
namespace Go.Ideal
open Go
set_option linter.unusedSectionVars false
section
variable [Tabs]
mutual
def postS:Tree->List Tree
 | .mk k n x a ks=>postSK ks++[.mk k n x a ks]
def postSK:Option (List Tree)->List Tree
 |none=>[]
 |some l=>postSL l
def postSL:List Tree->List Tree
 | []=>[]
 |t::l=>postS t++postSL l
end
theorem zgf(t:Tree):postS t=postSL (klist t.kids)++[t]:=by
 obtain⟨k,n,x,a,ks⟩:=t;cases ks<;>simp[postS,postSK,postSL,klist,Tree.kids]
theorem zdj:∀a b:List Tree,postSL (a++b)=postSL a++postSL b
 | [],b=>rfl
 |t::a,b=>by simp only[Au,postSL,zdj a b,Ax]
theorem zajf(t:Tree):∀(id:Nat)(p:Int)(d pl:Nat),(postT t id).map (fun i=>((visT t id p d pl)[i-id]?).map (·.t))=(postS t).map some/\∀i∈postT t id,id<=i/\i<id+t.size:=by
 have key:∀(n:Nat)(t:Tree),t.size<n->∀(id:Nat)(p:Int)(d pl:Nat),(postT t id).map (fun i=>((visT t id p d pl)[i-id]?).map (·.t))=(postS t).map some/\∀i∈postT t id,id<=i/\i<id+t.size:=by
  intro n
  induction n with
  |zero=>intro t h;omega
  |succ n ih =>
   intro t h id p d pl;have ht:=zag t
   have hl:∀(l:List Tree),lsize l<n->∀(id p d pl:Nat),(postL l id).map (fun i=>((visL l id p d pl)[i-id]?).map (·.t))=(postSL l).map some/\∀i∈postL l id,id<=i/\i<id+lsize l:=by
    intro l
    induction l with
    |nil=>intro _ id p d pl;simp[postL,postSL]
    |cons u l ih2 =>
     intro hl id p d pl;simp only[lsize]at hl;obtain⟨a1,a2⟩:=ih u (by omega) id p d pl;obtain⟨b1,b2⟩:=ih2 (by omega) (id+u.size) p d (pl+1);constructor
     ·simp only[postL,postSL,visL,AO,<-a1,<-b1];congr 1
      ·refine CP fun i hi=>?_;have:=a2 i hi;rw[Ac (by rw[zae];omega)]
      ·refine CP fun i hi=>?_;have:=b2 i hi;rw[Ad (by rw[zae];omega),zae];congr 2;omega
     ·intro i hi;simp only[postL,AB]at hi;simp only[lsize];rcases hi with hi|hi
      ·have:=a2 i hi;omega
      ·have:=b2 i hi;omega
   obtain⟨a1,a2⟩:=hl (klist t.kids) (by omega) (id+1) id (d+1) 0;constructor
   ·simp only[zho,zgf,zbu,AO,At,B4,A6,Az,AN,<-a1];congr 1;refine CP fun i hi=>?_;have:=a2 i hi;rw[show i-id=(i-(id+1))+1 by omega,Ar]
   ·intro i hi;rw[zho,AB]at hi;rcases hi with hi|hi
    ·have:=a2 i hi;omega
    ·simp at hi;omega
 exact key _ t (An _)
theorem zan(t:Tree):(postS t).length=t.size:=by
 have:=congrArg List.length (zajf t 0 0 0 0).1;simp only[AW,zav]at this;exact this.symm
theorem zvy{t:Tree}{k i:Nat}(h:(postT t 0)[k]? = some i):∃u v,(postS t)[k]? = some u/\(visT t 0 (-1) 0 0)[i]? = some v/\v.t=u/\t.items[i]? = some (fullOf v)/\i<t.size:=by
 obtain⟨h1,h2⟩:=zajf t 0 (-1) 0 0;have h3:=congrArg (fun l=>l[k]?) h1;simp only[Ap,h,AN,Ci]at h3;have h4:=h2 i (Al h);cases hv:(visT t 0 (-1) 0 0)[i]? with
 |none =>
  rw[CN,zae]at hv;omega
 |some v =>
  rw[hv]at h3;cases hu:(postS t)[k]? with
  |none=>rw[hu]at h3;cases h3
  |some u =>
   rw[hu]at h3;simp at h3;exact⟨u,v,rfl,rfl,h3,by rw[Tree.items,zfh,Ap,hv];rfl,by omega⟩
theorem zalj(t:Tree):∀(j:Nat)(u:Tree),(postS t)[j]? = some u->∃A B,postS t=A++(postS u++B)/\A.length+u.size=j+1:=by
 have key:∀(n:Nat)(t:Tree),t.size<n->∀(j:Nat)(u:Tree),(postS t)[j]? = some u->∃A B,postS t=A++(postS u++B)/\A.length+u.size=j+1:=by
  intro n
  induction n with
  |zero=>intro t h;omega
  |succ n ih =>
   intro t h j u hu;have ht:=zag t
   have hl:∀(l:List Tree),lsize l<n->∀(j:Nat)(u:Tree),(postSL l)[j]? = some u->∃A B,postSL l=A++(postS u++B)/\A.length+u.size=j+1:=by
    intro l
    induction l with
    |nil=>intro _ j u h;simp[postSL]at h
    |cons w l ih2 =>
     intro hl j u h;simp only[lsize]at hl;simp only[postSL]at h ⊢;by_cases hj:j<w.size
     ·rw[Ac (by rw[zan];exact hj)]at h;obtain⟨A,B,e1,e2⟩:=ih w (by omega) j u h;exact⟨A,B++postSL l,by rw[e1];simp,e2⟩
     ·rw[Ad (by rw[zan];omega),zan]at h;obtain⟨A,B,e1,e2⟩:=ih2 (by omega) _ u h;exact⟨postS w++A,B,by rw[e1];simp,by rw[Ah,zan];omega⟩
   rw[zgf]at hu;by_cases hj:j<(postSL (klist t.kids)).length
   ·rw[Ac hj]at hu;obtain⟨A,B,e1,e2⟩:=hl _ (by omega) j u hu;exact⟨A,B++[t],by rw[zgf,e1];simp,e2⟩
   ·rw[Ad (by omega)]at hu
    have hj2:j=(postSL (klist t.kids)).length:=by
     have:=(Aa.1 hu).1;simp only[AK]at this;omega
    subst hj2;rw[A6]at hu;injection hu with hu;subst hu;refine⟨[],[],by simp,?_⟩;have:=zan t;rw[zgf,Ah,AK]at this;simp;omega
 exact key _ t (An _)
theorem VS.appendStore{H:J2}{o:Option Nat}{esz n:Nat}{v:IVal}{xs zs ys:J3}(h:VS H o esz n v xs)(hz:zs.length=esz)(hy:ys.length=esz)(hb:n<1000000000) :
 ∃v' H' k ver b,evalAppend ⟨[],H++[.cells zs esz 0 false]⟩ esz v (.slice H.length 0 0 1)=some (v',⟨[],H'⟩)/\Ideal.up v'=SV.v v'/\idxS esz v' (J4 n)=some (J5 k ver (n*esz)) /\
  (∀ H3:J2,H3[k]? = H'[k]? -> writeCells ⟨[],H3⟩ (J5 k ver (n*esz)) ys=some ⟨[],H3.set k b⟩)/\(∀ H3:J2,H3[k]? = some b->VS H3 (some k) esz (n+1) v' (xs++ys))/\Keep (fun x=>o=some x) H H'/\k<H'.length/\(o=some k\/H.length<=k)/\v'.cellsOf=some [v']/\H.length<H'.length:=by
 obtain⟨v',H',o',a1,a2,a3,a4,a5,k,rfl⟩:=h.append1 hz hb;obtain⟨ver,cs,op,rfl,hkk,hnn,hxs⟩:=a2;have hkl:=(Aa.1 hkk).1;have hle:n*esz+esz=(n+1)*esz:=(by rw[Di]);refine⟨_,H',k,ver, .cells (splice cs (n*esz) ys) esz ver op,a1,rfl,by rw[zau (by omega),As],?_,?_,a3,hkl,?_,rfl,a4⟩
 ·intro H3 h3;rw[zaj (by rw[h3];exact hkk) (by omega)]
 ·intro H3 h3;refine⟨ver,_,op,rfl,h3,?_,?_⟩
  ·simp only[splice,Ah,AD,Bo];omega
  ·have hx:=VS.xlen h;have h5:=congrArg (List.take (n*esz)) hxs;rw[BV,Bw (by omega),Dd hx]at h5;unfold splice;rw[h5,<-Ax,Dd (by simp[hx,hy,hle])]
 ·rcases a5 with e|⟨k',e,hk'⟩
  ·exact .inl e.symm
  ·injection e with e;subst e;exact .inr hk'
end
section
variable [Tabs]
attribute [-simp] getElem?_pos
variable {H:J2}{esz j n:Nat}{o o1:Option Nat}{v:IVal}{xs ys:J3}
def nattr(a:Option Attrs):Option Attrs:=if alist a=[]then none else a
def Tree.nbare(t:Tree):Tree := .mk t.kind t.name t.text (nattr t.attrs) none
@[simp] theorem zbef(t:Tree):t.nbare.kind=t.kind:=rfl
@[simp] theorem zbeg(t:Tree):t.nbare.name=t.name:=rfl
@[simp] theorem zbeh(t:Tree):t.nbare.text=t.text:=rfl
@[simp] theorem zbab(t:Tree):t.nbare.attrs=nattr t.attrs:=rfl
@[simp] theorem zbei(t:Tree):t.nbare.kids=none:=rfl
@[simp] theorem zbgu:kval none = .nilslice:=rfl
def rcell(v:Vis)(s h:Nat):List PVal:=[.int .i64 v.parent, .int .i64 s, .int .i64 v.depth, .int .i64 h, .int .i64 v.place,
 .int .i64 v.t.kind, .str v.t.name, .str v.t.text,aval (nattr v.t.attrs), .nilslice, .int .i64 v.t.kind, .str v.t.name, .str v.t.text,aval v.t.attrs,kval v.t.kids]
def rfull(v:Vis):List PVal:=rcell v v.t.size v.t.height
def rcells(l:List Vis):List PVal:=l.flatMap rfull
theorem zao:∀a b:List Tree,lsize (a++b)=lsize a+lsize b
 | [],b=>by simp[lsize]
 |t::a,b=>by simp only[Au,lsize,zao a b];omega
def Tree.vis(t:Tree):List Vis:=visT t 0 (-1) 0 0
theorem zbi(t:Tree):t.vis.length=t.size:=zae t _ _ _ _
def rval(t:Tree):PVal := .slice 15 t.size (rcells t.vis)
@[simp] theorem zatk{t:Tree}:sliceLen (.p (rval t))=some t.size:=rfl
@[simp] theorem zbjr{t:Tree}:up (.p (rval t)) = .v (.p (rval t)):=rfl
theorem zpe:∀(a b:List Tree)(id p d pl:Nat),visL (a++b) id p d pl=visL a id p d pl++visL b (id+lsize a) p d (pl+a.length)
 | [],b,id,p,d,pl=>by simp[visL,lsize]
 |t::a,b,id,p,d,pl=>by
  simp only[Au,visL,lsize,Ay,zpe a b,Ax];congr 3
  ·omega
  ·omega
theorem zgb:∀(l:List Tree)(id p d pl:Nat),(visL l id p d pl).length=lsize l
 | [],_,_,_,_=>rfl
 |t::l,id,p,d,pl=>by simp only[visL,lsize,Ah,zae,zgb l]
theorem zaoo{l:List Tree}(h:j<l.length)(id p d:Nat):visL (l.take (j+1)) id p d 0=visL (l.take j) id p d 0++visT l[j] (id+lsize (l.take j)) p d j:=by
 rw[A1,Ae h,Option.toList_some,zpe,AD,Bw (by omega),As];simp[visL]
theorem zik{l:List Tree}(h:j<l.length):lsize (l.take (j+1))=lsize (l.take j)+l[j].size:=by
 have h1:=zaoo h 0 0 0;have h2:=congrArg List.length h1;rw[Ah,zgb,zgb,zae]at h2;exact h2
theorem zyb(t:Tree):t.height<=t.size:=by
 have key:∀(n:Nat)(t:Tree),t.size<n->t.height<=t.size:=by
  intro n
  induction n with
  |zero=>intro t h;omega
  |succ n ih =>
   intro t h;have h1:=zag t;have h2:=zeg t
   have hl:∀l:List Tree,lsize l<n->lheight l<=lsize l:=by
    intro l
    induction l with
    |nil=>intro _;simp[lheight,lsize]
    |cons u l ih2 =>
     intro hl;simp only[lsize]at hl;have a1:=ih u (by omega);have a2:=ih2 (by omega);simp only[lheight,lsize];omega
   have:=hl (klist t.kids) (by omega);omega
 exact key _ t (An _)
theorem VS.src{bx:List (Nat×IBlk)}(h:VS H o esz n v ys):srcCells ⟨bx,H⟩ esz v=some ys/\srcLen v=some n:=by
 cases o with
 |none=>obtain⟨rfl,rfl,rfl⟩:=h;exact⟨rfl,rfl⟩
 |some k =>
  obtain⟨ver,cs,op,rfl,hk,hn,hx⟩:=h
  have h2:((Nat.beq ver ver&&Nat.beq esz esz)&&Nat.ble (0+n*esz) cs.length)=true:=by
   rw[AG,AG,As,Bg,Bg];exact AE hn
  refine⟨?_,rfl⟩;simp only[srcCells,Mem.get,hk,h2,Bn,hx]
theorem VS.kill{s:Nat}(h:VS H o esz n v ys):killV s v=v:=by
 cases o with
 |none=>obtain⟨rfl,rfl,rfl⟩:=h;rfl
 |some k=>obtain⟨ver,cs,op,rfl,hk,hn,hx⟩:=h;rfl
theorem VS.appendP{n1 n2:Nat}{v1 v2:IVal}(h:VS H o1 esz n1 v1 xs)(s1:srcCells ⟨[],H⟩ esz v2=some ys)(s2:srcLen v2=some n2)(hy:ys.length=n2*esz)(hb:n1+n2<1000000000) :
 ∃v' H' o',evalAppend ⟨[],H⟩ esz v1 v2=some (v',⟨[],H'⟩)/\VS H' o' esz (n1+n2) v' (xs++ys)/\Keep (fun x=>o1=some x) H H'/\(o'=o1\/∃k,o'=some k/\H.length<=k):=by
 by_cases hz:n2=0
 ·subst hz;have hys:ys=[]:=(by cases ys with|nil=>rfl|cons a l=>simp at hy);subst hys;rw[BA,AX];cases o1 with
  |none =>
   obtain⟨rfl,rfl,rfl⟩:=h;refine⟨_,H,none,?_,VS.nil,Keep.refl, .inl rfl⟩;have h1:Nat.ble (0+0) maxAppend=true:=rfl;have h3:Nat.beq 0 0=true:=rfl;simp only[evalAppend,evalAppend0,s1,s2,sliceLen,h1]
  |some k =>
   have hv:=h;obtain⟨ver,cs,op,rfl,hkk,hnn,hxs⟩:=h;refine⟨_,H,some k,?_,hv,Keep.refl, .inl rfl⟩;have h1:Nat.ble (n1+0) maxAppend=true:=AE (by unfold maxAppend;omega)
   have h2:(Nat.beq ver ver&&Nat.beq esz esz&&Nat.ble (0+n1*esz) cs.length)=true:=by
    rw[AG,AG,As,Bg,Bg];exact AE hnn
   have h3:Nat.beq 0 0=true:=rfl;simp only[evalAppend,evalAppend0,s1,s2,sliceLen,h1,Mem.get,hkk,h2]
 ·cases o1 with
  |none =>
   obtain⟨rfl,rfl,rfl⟩:=h;refine⟨_,_,some H.length,append_nil s1 s2 (by omega) (by omega),?_,Keep.new, .inr ⟨_,rfl,Ak _⟩⟩;refine⟨0,ys,true,by rw[As],zbb,by rw[As];omega,?_⟩;rw[As,Aq (by omega)];rfl
  |some k =>
   obtain⟨ver,cs,op,rfl,hkk,hnn,hxs⟩:=h;have hkl:=(Aa.1 hkk).1;have happ:=zcb (bx:=[]) (ny:=n2) hkk hnn s1 s2 (by omega) (by omega);have hnew:=zlc (H:=H) (ver:=ver) (op:=op) (ys:=ys) (ny:=n2) (k:=k) hkl hnn hy;rw[hxs]at hnew;exact⟨_,_,some k,happ,hnew,Keep.set (.inl rfl), .inl rfl⟩
theorem VS.appendVS{o2:Option Nat}{n1 n2:Nat}{v1 v2:IVal}(h:VS H o1 esz n1 v1 xs)(g:VS H o2 esz n2 v2 ys)(hb:n1+n2<1000000000) :
 ∃v' H' o',evalAppend ⟨[],H⟩ esz v1 v2=some (v',⟨[],H'⟩)/\VS H' o' esz (n1+n2) v' (xs++ys)/\Keep (fun x=>o1=some x) H H'/\(o'=o1\/∃k,o'=some k/\H.length<=k):=by
 obtain⟨s1,s2⟩:=g.src (bx:=[]);exact h.appendP s1 s2 g.xlen hb
theorem VS.field{bx:List (Nat×IBlk)}{k:Nat}(h:VS H (some k) esz n v xs)(hj:j<n) :
 ∃ver,idxS esz v (J4 j)=some (J5 k ver (j*esz))/\(∀ f x,xs[j*esz+f]? = some x->loadVal ⟨bx,H⟩ none (J5 k ver (j*esz+f))=some x) /\
  ∀f new,j*esz+f+new.length<=n*esz->∃b,writeCells ⟨bx,H⟩ (J5 k ver (j*esz+f)) new=some ⟨bx,H.set k b⟩/\VS (H.set k b) (some k) esz n v (splice xs (j*esz+f) new):=by
 obtain⟨ver,cs,op,rfl,hk,hn,hx⟩:=h;have hH:HS H k esz n (.slice k ver 0 n) xs:=⟨ver,cs,op,rfl,hk,hn,hx⟩;exact⟨ver,by rw[zau hj,As],fun f x hf=>hH.field hf,fun f new hf=>hH.store hf⟩
theorem Keep.trans'{S S':Nat->Prop}{H' H2:J2}(h:Keep S H H')(g:Keep S' H' H2)(hs:∀i,i<H.length->S' i->S i):Keep S H H2 :=
 ⟨A8 h.1 g.1,fun i hi hn=>by rw[g.2 i (Bc hi h.1) (fun e=>hn (hs i hi e)),h.2 i hi hn]⟩
structure Grow(o:Option Nat)(H:J2)(o':Option Nat)(H':J2):Prop where
 keep:Keep (fun x=>o=some x) H H'
 blk:o'=o\/∃k,o'=some k/\H.length<=k
theorem Grow.refl:Grow o H o H:=⟨Keep.refl, .inl rfl⟩
theorem Grow.trans{o2:Option Nat}{H1 H2:J2}(h:Grow o H o1 H1)(g:Grow o1 H1 o2 H2):Grow o H o2 H2:=by
 refine⟨h.keep.trans' g.keep fun i hi e=>?_,?_⟩
 ·rcases h.blk with rfl|⟨k,rfl,hk⟩
  ·exact e
  ·injection e with e;omega
 ·have:=h.keep.1;rcases g.blk with rfl|⟨k,rfl,hk⟩
  ·exact h.blk
  ·exact .inr ⟨k,rfl,by omega⟩
theorem Grow.set{k:Nat}{H1:J2}{b:IBlk}(h:Grow o H (some k) H1):Grow o H (some k) (H1.set k b):=h.trans ⟨Keep.set (.inl rfl), .inl rfl⟩
theorem zza(l m:List PVal):pcells (l++m)=pcells l++pcells m:=by simp[pcells]
theorem zbac(l:List PVal):(pcells l).length=l.length:=by simp[pcells]
theorem zaej{y:IVal}{kl:List SV->Prop}(h:y.cellsOf=some [y])(h2:up y = .v y):cellsK (.v y) n kl=(1=n/\kl [.v y]):=by
 simp only[cellsK,h,zie,AK,ups,h2]
end
end Go.Ideal
namespace Go.Ideal
open Go
set_option maxHeartbeats 4000000
set_option maxRecDepth 20000
attribute [-simp] getElem?_pos
theorem zabc{l:List Nat}{j n:Nat}(h:l[j]? = some n):idxS 1 (.p (nval l)) (J4 j)=some (.p (.ptr (.int .i64 n::(nints l).drop (j+1)))):=by
 obtain⟨h1,h2⟩:=Aa.1 h
 have h3:(nints l).drop j = .int .i64 n::(nints l).drop (j+1):=by
  rw[AF (by simpa[nints]using h1)];simp[nints,h2]
 rw[nval,zdl h1,Cf,h3]
@[simp] theorem zatl{l:List Nat}:sliceLen (.p (nval l))=some l.length:=rfl
@[simp] theorem zbjs{l:List Nat}:up (.p (nval l)) = .v (.p (nval l)):=rfl
def firsts(t:Tree):List Nat:=(postS t).mapIdx fun k u=>k+1-u.size
theorem zatm(t:Tree)(hs:t.size<1000000)(kb:Nat)(H0:J2)(hk0:H0[kb]? = some (.cells [.p .nilslice, .p (nval (postT t 0)), .p .nilslice] 3 0 false))(Q:J0)
 (h1:∀H' m,m<=H'.length->SideAt H' kb m (postS t) (postT t 0) (firsts t)->Keep (fun x=>kb<=x) H0 H'->Q .normal [(4, .v (J5 kb 0 0))] ⟨[],H'⟩) :
 wpLoop (CW tr.look) 57 m_188_0 l_188_0 (blkK 0 b_188_0 Q) [(3, .v (.p (ival t))),(4, .v (J5 kb 0 0)),(16, .v (.p (nval (postT t 0)))),(17, .int .i64 t.size),(18, .int .i64 0)] ⟨[],H0⟩:=by
 refine zac (α:=Nat×J2) (fun a=>[(3, .v (.p (ival t))),(4, .v (J5 kb 0 0)),(16, .v (.p (nval (postT t 0)))),(17, .int .i64 t.size),(18, .int .i64 a.1)]) (fun a=>⟨[],a.2⟩)
  (fun a=>a.1<=t.size/\(∃ m,m<=a.2.length/\SideAt a.2 kb m ((postS t).take a.1) (postT t 0) ((firsts t).take a.1))/\Keep (fun x=>kb<=x) H0 a.2) (fun a=>t.size-a.1) ?_ (0,H0) ⟨by simp,⟨kb+1,(Aa.1 hk0).1,⟨.p .nilslice, .p .nilslice,none,none,hk0,VS.nil,VS.nil,by simp,by simp,by simp⟩⟩,⟨Ak _,fun _ _ _=>rfl⟩⟩
 rintro⟨j,H⟩⟨hj,⟨m,hm,hS⟩,hK⟩ L hL;dsimp only at hj hS hK hL ⊢;dsimp only[l_188_0];by_cases hc:j<t.size
 ·obtain⟨i,hi⟩:∃i,(postT t 0)[j]? = some i:=⟨_,Ae (by rw[zav];exact hc)⟩;obtain⟨u,v,p1,p2,p3,p4,p5⟩:=zvy hi;obtain⟨nv,fvv,o1,o2,g1,g2,g3,g4,g5,g6⟩:=hS.blk;have hl1:((postS t).take j).length=j:=(by simp[zan,hj]);have hl2:((firsts t).take j).length=j:=(by simp[firsts,zan,hj]);rw[hl1]at g2;rw[hl2]at g3;have hkb:=(Aa.1 g1).1;obtain⟨v',H',k,ver,b,a1,a2,a3,a4,a5,a6,a7,a8,a9,a10⟩:=g2.appendStore (zs:=[J4 0, .p (.str []), .p (.str []), .p .nilslice, .p .nilslice]) (ys:=[J4 (fullOf v).node.kind, .p (.str (fullOf v).node.name), .p (.str (fullOf v).node.text), .p (aval (fullOf v).node.attrs), .p .nilslice]) rfl rfl (by omega)
  have hkk:kb<k:=by
   rcases a8 with e|e
   ·exact(g5 k e).1
   ·omega
  have g1':H'[kb]? = some (.cells [nv, .p (nval (postT t 0)),fvv] 3 0 false):=(by rw[a6.2 kb hkb (fun e=>by have:=g5 kb e;omega)];exact g1);have s1:=fun b'=>a4 (H'.set kb b') (by rw[Ag (by omega)]);have s2:=a4 H' rfl;have gk:∀b',(H'.set k b')[kb]? = some (.cells [nv, .p (nval (postT t 0)),fvv] 3 0 false):=fun b'=>by rw[Ag (by omega)];exact g1'
  have s3:writeCells ⟨[],H'⟩ (J5 kb 0 0) [v']=some ⟨[],H'.set kb (.cells [v', .p (nval (postT t 0)),fvv] 3 0 false)⟩:=(by rw[zaj g1' (by simp)];rfl);have s4:writeCells ⟨[],H'.set k b⟩ (J5 kb 0 0) [v']=some ⟨[],(H'.set k b).set kb (.cells [v', .p (nval (postT t 0)),fvv] 3 0 false)⟩:=(by rw[zaj (gk b) (by simp)];rfl);have ld:loadVal ⟨[],H⟩ none (J5 kb 0 0)=some nv:=zab g1 rfl;have hcm:(H'.set kb (.cells [v', .p (nval (postT t 0)),fvv] 3 0 false)).set k b=(H'.set k b).set kb (.cells [v', .p (nval (postT t 0)),fvv] 3 0 false):=List.set_comm _ _ (by omega);generalize hH1:(H'.set k b).set kb (.cells [v', .p (nval (postT t 0)),fvv] 3 0 false)=H1 at s4 hcm
  have hsl:(fullOf v).size<=j+1:=by
   obtain⟨A,B,_,e⟩:=zalj t j u p1;show v.t.size<=j+1;rw[p3];omega
  have hln:H1.length=H'.length:=(by rw[<- hH1];simp)
  have k1:Keep (fun x=>x=kb\/o1=some x) H H1:=by
   refine⟨by omega,fun i hi hn=>?_⟩;have q1:i≠kb:=fun e=>hn (.inl e);have q2:o1≠some i:=fun e=>hn (.inr e)
   have q3:k≠i:=by
    rcases a8 with e|e
    ·exact fun e2=>q2 (e2 ▸ e)
    ·omega
   rw[<- hH1,Ag (by omega),Ag q3];exact a6.2 i hi q2
  have n1:nv≠.undef:=(by rintro rfl;exact absurd g2.pass (by decide));have w1:H1[kb]? = some (.cells [v', .p (nval (postT t 0)),fvv] 3 0 false):=(by rw[<- hH1];exact zap (by rw[AC];omega))
  have g2':VS H1 (some k) 5 (j+1) v' (pcells (((postS t).take (j+1)).flatMap nodecell)):=by
   have:pcells (((postS t).take (j+1)).flatMap nodecell)=pcells (((postS t).take j).flatMap nodecell)++pcells (nodecell u):=by
    rw[A1,p1];simp[pcells]
   rw[this];subst p3;exact a5 H1 (by rw[<- hH1,Ag (by omega)];exact zap a7)
  have n2:v'≠.undef:=(by rintro rfl;exact absurd g2'.pass (by decide))
  have g3':VS H1 o2 1 j fvv (pcells (nints ((firsts t).take j))):=g3.keep k1 (fun x hx e=>by
   rcases e with e|e
   ·have:=g6 x hx;omega
   ·exact(g5 x e).2.2 hx)
  have ld2:loadVal ⟨[],H1⟩ none (J5 kb 0 2)=some fvv:=zab w1 rfl;obtain⟨vv2,H2,o2',b1,b2,b3,b4,b5,k2,b6⟩:=g3'.append1 (ys:=[J4 (j+1-(fullOf v).size:Nat)]) rfl (by omega);have w2:H2[kb]? = some (.cells [v', .p (nval (postT t 0)),fvv] 3 0 false):=(by rw[b3.2 kb (by omega) (fun e=>by have:=g6 kb e;omega)];exact w1);have s5:writeCells ⟨[],H2⟩ (J5 kb 0 2) [vv2]=some ⟨[],H2.set kb (.cells [v', .p (nval (postT t 0)),vv2] 3 0 false)⟩:=(by rw[zaj w2 (by simp)];rfl);have n3:fvv≠.undef:=(by rintro rfl;exact absurd g3.pass (by decide));have n4:vv2≠.undef:=(by rintro rfl;exact absurd b2.pass (by decide));have hi1:((j:Int)+1-((fullOf v).size:Nat))=((j+1-(fullOf v).size:Nat):Int):=(by omega);simp(disch:=omega) [zabc hi,ld,g2.up,g2.len,zbx p4,a1,a2,a3,s1,s2,s3,s4,hcm,zaej a9 a2,zaa,n1,n2,ld2,g3'.up,hi1,b1,b2.up,zaej b2.cells b2.up,s5];have hln2:((postS t).take (j+1)).length=j+1:=(by rw[AD,zan];omega);have hln3:((firsts t).take (j+1)).length=j+1:=(by rw[AD,firsts,BQ,zan];omega)
  have hk2:kb<k2/\k2<H2.length/\k2≠k:=by
   refine⟨?_,VS.lt (b6 ▸ b2),?_⟩
   ·rcases b5 with e|⟨k',e,e2⟩
    ·exact(g6 k2 (by rw[<- e,b6])).1
    ·rw[b6]at e;injection e with e;omega
   ·rcases b5 with e|⟨k',e,e2⟩
    ·rintro rfl;rw[b6]at e;rcases a8 with e3|e3
     ·exact(g5 k2 e3).2.2 e.symm
     ·have:=VS.lt (e ▸ g3);omega
    ·rw[b6]at e;injection e with e;omega
  have hfe:pcells (nints ((firsts t).take (j+1)))=pcells (nints ((firsts t).take j))++[J4 (j+1-(fullOf v).size:Nat)]:=by
   have:(firsts t)[j]? = some (j+1-(fullOf v).size):=by
    rw[firsts,List.getElem?_mapIdx,p1,<-p3];rfl
   rw[A1,this];simp[pcells,nints]
  refine hL (j+1,H2.set kb (.cells [v', .p (nval (postT t 0)),vv2] 3 0 false)) ⟨by dsimp only;omega,⟨H2.length,by simp,⟨v',vv2,some k,o2',?_,?_,?_,by omega,?_,?_⟩⟩,?_⟩ (by dsimp only;omega)
  ·exact zap (by have:=b3.1;omega)
  ·dsimp only;rw[hln2]
   exact(g2'.keep b3 (fun x hx e=>by
    injection hx with hx;subst hx;rcases a8 with e3|e3
    ·exact(g5 _ e3).2.2 e
    ·have:=VS.lt (e ▸ g3);omega)).keep (Keep.set (S:=fun x=>x=kb) (.inl rfl)) (fun x hx e=>by injection hx with hx;omega)
  ·dsimp only;rw[hln3,hfe];exact b2.keep (Keep.set (S:=fun x=>x=kb) (.inl rfl)) (fun x hx e=>by rw[b6]at hx;injection hx with hx;omega)
  ·intro x hx;injection hx with hx;refine⟨by omega,by omega,fun e=>?_⟩;rw[b6]at e;injection e with e;omega
  ·intro x hx;rw[b6]at hx;injection hx with hx;omega
  ·refine hK.trans (((k1.mono fun i _ e=>?_).trans (b3.mono fun i _ e=>?_)).trans (Keep.set (.inl (Ak _))))
   ·rcases e with e|e
    ·exact Nat.le_of_eq e.symm
    ·exact Nat.le_of_lt (g5 i e).1
   ·exact Nat.le_of_lt (g6 i e).1
 ·obtain rfl:j=t.size:=by omega
  have e1:(postS t).take t.size=postS t:=Aq (by rw[zan];omega);have e2:(firsts t).take t.size=firsts t:=Aq (by simp[firsts,zan]);rw[e1,e2]at hS;simp(disch:=omega) [];exact h1 H m hm hS hK
theorem zawq(t:Tree)(hf:Fine t)(H:J2):∃H' m,CW tr.look F_188 [tagg t] H=some (J5 H.length 0 0,H')/\m<=H'.length/\SideAt H' H.length m (postS t) (postT t 0) (firsts t)/\Keep (fun _=>False) H H':=by
 have hg:(H++[IBlk.cells [.p .nilslice, .p (nval (postT t 0)), .p .nilslice] 3 0 false])[H.length]? = some (.cells [.p .nilslice, .p (nval (postT t 0)), .p .nilslice] 3 0 false):=zbb;have hld:loadVal ⟨[],H++[IBlk.cells [.p .nilslice, .p (nval (postT t 0)), .p .nilslice] 3 0 false]⟩ none (J5 H.length 0 1)=some (.p (nval (postT t 0))):=zab hg rfl
 obtain⟨r,H',h1,rfl,m,h2,h3,h4⟩:=zah (args:=[tagg t]) (H:=H) (Q:=fun r H'=>r = J5 H.length 0 0/\∃m,m<=H'.length/\SideAt H' H.length m (postS t) (postT t 0) (firsts t)/\Keep (fun _=>False) H H') look_188 rfl rfl (by
  dsimp only[i_188,c_188];simp(disch:=omega) [zai,zcc t hf,zkv t hf,zav,hld];refine zatm t hf.1 H.length _ hg _ ?_;intro H' m h2 h3 h4;simp(disch:=omega) []
  exact⟨m,h2,h3,A8 (by simp) h4.1,fun i hi _=>by rw[h4.2 i (by simp;omega) (by omega)];exact Ac hi⟩)
 exact⟨H',m,h1,h2,h3,h4⟩
structure BothAt(H:J2)(k:Nat)(s t:Tree)(es:List (IVal×IVal×Nat))(ck:Nat):Prop where
 blk:∃ka kb km ma mb,H[k]? = some (.cells [J5 ka 0 0, J5 kb 0 0, .map km] 3 0 false)/\H[km]? = some (.map es ck)/\SideAt H ka ma (postS s) (postT s 0) (firsts s)/\SideAt H kb mb (postS t) (postT t 0) (firsts t)/\km<ka/\ma<=k/\km<kb/\mb<=k
theorem SideAt.nodes{H:J2}{k m:Nat}{N:List Tree}{ids fs:List Nat}(h:SideAt H k m N ids fs):∃v,loadVal ⟨[],H⟩ none (J5 k 0 0)=some v/\up v = .v v/\sliceLen v=some N.length/\v≠.undef:=by
 obtain⟨nv,fvv,o1,o2,h1,h2,h3⟩:=h.blk;exact⟨nv,zab h1 rfl,h2.up,h2.len,by rintro rfl;exact absurd h2.pass (by decide)⟩
theorem zajg(s t:Tree)(hs:Fine s)(ht:Fine t)(H:J2):∃H' k,CW tr.look F_166 [tagg s,tagg t] H=some (.tup [J5 k 0 0,fv (someF 0 (s.size-1)),fv (someF 0 (t.size-1)), .p (.bool (decide (s.size<=8)&&decide (t.size<=8)))],H')/\BothAt H' k s t [] 0/\Keep (fun _=>False) H H':=by
 obtain⟨H1,ma,a1,a2,a3,a4⟩:=zawq s hs (H++[.map [] 0]);obtain⟨H2,mb,b1,b2,b3,b4⟩:=zawq t ht H1;have a5:=a3.keep b4 (fun x h=>h.elim);simp only[Ah,AK]at a1 a3 a5;have k1:Keep (fun _=>False) H H1:=Keep.new.trans a4;have hm1:H1[H.length]? = some (.map [] 0):=(by rw[a4.2 _ (by simp) (fun h=>h)];exact zbb);have hm2:H2[H.length]? = some (.map [] 0):=(by rw[b4.2 _ (Aa.1 hm1).1 (fun h=>h)];exact hm1);have hl1:=a4.1;have hl2:=b4.1;simp only[Ah,AK]at hl1;generalize hHF:H2++[IBlk.cells [J5 (H.length+1) 0 0, J5 H1.length 0 0, .map H.length] 3 0 false]=HF;have kF:Keep (fun _=>False) H2 HF:=(by rw[<- hHF];exact Keep.new);have gF:HF[H2.length]? = some (.cells [J5 (H.length+1) 0 0, J5 H1.length 0 0, .map H.length] 3 0 false):=(by rw[<- hHF];exact zbb);have gm:HF[H.length]? = some (.map [] 0):=(by rw[kF.2 _ (Aa.1 hm2).1 (fun h=>h)];exact hm2);have sF:=a5.keep kF (fun x h=>h.elim);have tF:=b3.keep kF (fun x h=>h.elim);have l0:loadVal ⟨[],HF⟩ none (J5 H2.length 0 0)=some (J5 (H.length+1) 0 0):=zab gF rfl;have l1:loadVal ⟨[],HF⟩ none (J5 H2.length 0 1)=some (J5 H1.length 0 0):=zab gF rfl;obtain⟨v1,c1,c2,c3,c4⟩:=sF.nodes;obtain⟨v2,d1,d2,d3,d4⟩:=tF.nodes;have hps:=zad s;have hpt:=zad t;have hs1:=hs.1;have ht1:=ht.1;rw[zan]at c3 d3;have hB:BothAt HF H2.length s t [] 0:=⟨H.length+1,H1.length,H.length,ma,mb,gF,gm,sF,tF,by omega,by omega,by omega,b2⟩
 obtain⟨r,H',h1,rfl,m,h2,h3⟩:=zah (args:=[tagg s,tagg t]) (H:=H) (Q:=fun r H'=>r = .tup [J5 H2.length 0 0,fv (someF 0 (s.size-1)),fv (someF 0 (t.size-1)), .p (.bool (decide (s.size<=8)&&decide (t.size<=8)))]/\BothAt H' H2.length s t [] 0/\Keep (fun _=>False) H H') look_166 rfl rfl (by
  dsimp only[i_166,c_166];simp(disch:=omega) [zai,a1,b1,hm1,hHF,gm,l0,l1,c1,c2,c3,d1,d2,d3,zaa,zaaz,fv];have hK:Keep (fun _=>False) H HF:=(k1.trans b4).trans kF;refine⟨fun h=>⟨?_,hB,hK⟩,fun h=>⟨?_,hB,hK⟩⟩
  ·have h8:s.size<=8:=(by omega);rw[decide_eq_true h8,Bg];exact decide_eq_decide.2 (by omega)
  ·intro h;omega)
 exact⟨H',_,h1,m,h2,h3⟩
abbrev Quad:=Int×Int×Int×Int
def quad(q:Quad):IVal := .agg [J4 q.1, J4 q.2.1, J4 q.2.2.1, J4 q.2.2.2]
def K4:KTy:=⟨true,[.int, .int, .int, .int]⟩
theorem zaop(a b:Quad):eqVals ⟨true,[.int, .int, .int, .int]⟩ (quad a) (quad b)=some (decide (a=b)):=by
 obtain⟨a1,a2,a3,a4⟩:=a;obtain⟨b1,b2,b3,b4⟩:=b
 by_cases h1:a1=b1<;>by_cases h2:a2=b2<;>by_cases h3:a3=b3<;>by_cases h4:a4=b4 <;>
  simp[quad,eqVals,eqCls,clsEq,h1,h2,h3,h4]
theorem zatn(a:Quad):isKey ⟨true,[.int, .int, .int, .int]⟩ (quad a)=true:=by rw[isKey,zaop]
def Memo(D:Quad->Int->Prop)(es:List (IVal×IVal×Nat)):Prop:=∀e∈es,∃q v n,e=(quad q,IVal.p (.int .i64 v),n)/\D q v
theorem zvz{D:Quad->Int->Prop}(q:Quad):∀(es:List (IVal×IVal×Nat))(i:Nat),Memo D es->findEnt ⟨true,[.int, .int, .int, .int]⟩ (quad q) es i=some none\/∃j v,findEnt ⟨true,[.int, .int, .int, .int]⟩ (quad q) es i=some (some (j, J4 v))/\D q v
 | [],i,_=>.inl rfl
 |e::es,i,h=>by
  obtain⟨q2,v,n,rfl,hd⟩:=h e (by simp);have ih:=zvz q es (i+1) fun e he=>h e (by simp[he]);simp only[findEnt,zaop];by_cases hq:q=q2
  ·subst hq;exact .inr ⟨i,v,by simp,hd⟩
  ·simp only[hq,decide_false];exact ih
theorem zato{D:Quad->Int->Prop}{es:List (IVal×IVal×Nat)}{q:Quad}{v:Int}{n:Nat}(h:Memo D es)(hd:D q v):Memo D (es++[(quad q, J4 v,n)]):=by
 intro e he;rcases AB.1 he with he|he
 ·exact h e he
 ·simp at he;exact⟨q,v,n,he,hd⟩
theorem zajh{D:Quad->Int->Prop}{q:Quad}{v:Int}:∀(es:List (IVal×IVal×Nat))(j:Nat),Memo D es->D q v->Memo D (es.modify j fun e=>(quad q, J4 v,e.2.2))
 | [],j,h,_=>by simpa using h
 |e::es,0,h,hd=>by
  intro e2 he;simp at he;rcases he with rfl|he
  ·exact⟨q,v,_,rfl,hd⟩
  ·exact h e2 (by simp[he])
 |e::es,j+1,h,hd=>by
  intro e2 he;simp at he;rcases he with rfl|he
  ·exact h e2 (by simp)
  ·exact zajh es j (fun e he=>h e (by simp[he])) hd e2 he
end Go.Ideal
namespace Go.Ideal
open Go
section
variable {F:List Tree}{a:Nat}{t u:Tree}
theorem zez:∀l:List Tree,(postSL l).length=lsize l
 | []=>rfl
 |t::l=>by rw[postSL,Ah,zan,zez l,lsize]
theorem zeh:∀a:List Tree,lsize a.reverse=lsize a
 | []=>rfl
 |t::a=>by simp only[By,zao,zeh a,lsize];omega
def kidsR(t:Tree):List Tree:=(klist t.kids).reverse
theorem zat(t:Tree):t.size=lsize (kidsR t)+1:=by rw[kidsR,zeh];exact zag t
def rng(a n:Nat):Int×Int:=if n=0 then(0, -1)else(a,a+n-1)
theorem zcr(a n:Nat):someF a (a+n-1)=rng a n:=by
 unfold someF rng;by_cases h:n=0
 ·subst h;rw[if_pos (by omega),if_pos rfl]
 ·rw[if_neg (by omega),if_neg h]
def Rep(t:Tree)(a:Nat)(F:List Tree):Prop:=∃A B,postS t=A++(postSL F.reverse++B)/\A.length=a
theorem Rep.root(t:Tree):Rep t 0 [t]:=⟨[],[],by simp[postSL],rfl⟩
theorem Rep.kids(h:Rep t a (u::F)):Rep t (a+lsize F) (kidsR u):=by
 obtain⟨A,B,h1,h2⟩:=h;refine⟨A++postSL F.reverse,u::B,?_,by rw[Ah,zez,zeh,h2]⟩;rw[h1,kidsR,CI,By,zdj,postSL,postSL,zgf];simp
theorem Rep.rest(h:Rep t a (u::F)):Rep t a F:=by
 obtain⟨A,B,h1,h2⟩:=h;refine⟨A,postS u++B,?_,h2⟩;rw[h1,By,zdj,postSL,postSL];simp
theorem Rep.opened(h:Rep t a (u::F)):Rep t a (kidsR u++F):=by
 obtain⟨A,B,h1,h2⟩:=h;refine⟨A,u::B,?_,h2⟩;rw[h1,kidsR,Co,CI,By,zdj,zdj,postSL,postSL,zgf];simp
theorem Rep.top(h:Rep t a (u::F)):(postS t)[a+lsize F+u.size-1]? = some u:=by
 obtain⟨A,B,h1,h2⟩:=h;have hk:=zat u
 have:postS t=(A++(postSL F.reverse++postSL (klist u.kids)))++(u::B):=by
  rw[h1,By,zdj,postSL,postSL,zgf];simp
 rw[kidsR,zeh]at hk
 have hl:(A++(postSL F.reverse++postSL (klist u.kids))).length=a+lsize F+u.size-1:=by
  simp only[Ah,zez,zeh,h2];omega
 rw[this,Ad (by omega),hl,A6];rfl
theorem Rep.first(h:Rep t a (u::F)):(firsts t)[a+lsize F+u.size-1]? = some (a+lsize F):=by
 have hk:=zat u;rw[firsts,List.getElem?_mapIdx,h.top,AN];congr 1;omega
theorem Rep.le(h:Rep t a F):a+lsize F<=t.size:=by
 obtain⟨A,B,h1,h2⟩:=h;have:=congrArg List.length h1;simp only[Ah,zan,zez,zeh,h2]at this;omega
theorem zom:∀(F G:List Tree),postSL F.reverse=postSL G.reverse->F=G
 | [],[],_=>rfl
 | [],u::G,h=>by
   have:=congrArg List.length h;have hk:=zat u;simp only[zez,zeh,lsize]at this;omega
 |u::F,[],h=>by
  have:=congrArg List.length h;have hk:=zat u;simp only[zez,zeh,lsize]at this;omega
 |u::F,w::G,h=>by
  have e:∀(u:Tree)(F:List Tree),postSL (u::F).reverse=(postSL F.reverse++postSL (klist u.kids))++[u]:=fun u F=>by
   rw[By,zdj,postSL,postSL,zgf];simp
  have h0:=h;rw[e,e]at h;obtain⟨h1,h2⟩:=List.append_inj' h rfl;injection h2 with h2;subst h2;rw[zom F G (List.append_cancel_right h1)]
theorem Rep.same{G:List Tree}(h:Rep t a F)(g:Rep t a G)(e:lsize F=lsize G):F=G:=by
 obtain⟨A,B,h1,h2⟩:=h;obtain⟨A',B',g1,g2⟩:=g;rw[h1]at g1;obtain⟨_,e2⟩:=List.append_inj g1 (by omega);obtain⟨e3,_⟩:=List.append_inj e2 (by simp only[zez,zeh,e]);exact zom F G e3
end
def fd:List Tree->List Tree->Nat
 | [],G=>lsize G
 |t::F,[]=>lsize (t::F)
 |t::F,u::G=>min (min (fd (kidsR t) (kidsR u)+fd F G+cost t u) (fd (kidsR t++F) (u::G)+1)) (fd (t::F) (kidsR u++G)+1)
termination_by F G=>lsize F+lsize G
decreasing_by
 all_goals
  have h1:=zat t;have h2:=zat u;simp only[lsize,zao];omega
theorem fd_le(F G:List Tree):fd F G<=lsize F+lsize G:=by
 have key:∀(n:Nat)(F G:List Tree),lsize F+lsize G<n->fd F G<=lsize F+lsize G:=by
  intro n
  induction n with
  |zero=>intro F G h;omega
  |succ n ih =>
   intro F G h;cases F with
   |nil=>rw[fd];simp only[lsize];omega
   |cons t F =>
    cases G with
    |nil=>rw[fd];simp only[lsize];omega
    |cons u G =>
     have h1:=zat t;have h2:=zat u;simp only[lsize]at h;have a2:=ih (kidsR t) (kidsR u) (by omega);have b2:=ih F G (by omega);have c2:=ih (kidsR t++F) (u::G) (by simp only[lsize,zao];omega);have d2:=ih (t::F) (kidsR u++G) (by simp only[lsize,zao];omega);rw[fd];simp only[lsize,zao]at c2 d2 ⊢;omega
 exact key _ F G (An _)
theorem zaek(t u:Tree):cost t.bare u.bare=cost t u:=by
 obtain⟨k,n,x,a,ks⟩:=t;obtain⟨k2,n2,x2,a2,ks2⟩:=u;rfl
def Known(s t:Tree)(q:Quad)(v:Int):Prop:=∃a b F G,Rep s a F/\Rep t b G/\F≠[]/\G≠[]/\q=((rng a (lsize F)).1,(rng a (lsize F)).2,(rng b (lsize G)).1,(rng b (lsize G)).2)/\v=fd F G
theorem zqu{F:List Tree}(h:F≠[]):0<lsize F:=by
 cases F with
 |nil=>exact absurd rfl h
 |cons t F=>have:=zat t;simp only[lsize];omega
theorem Known.right{s t:Tree}{v:Int}{a b:Nat}{F G:List Tree}(hF:Rep s a F)(hG:Rep t b G)(h1:F≠[])(h2:G≠[])(h:Known s t ((rng a (lsize F)).1,(rng a (lsize F)).2,(rng b (lsize G)).1,(rng b (lsize G)).2) v):v=fd F G:=by
 obtain⟨a',b',F',G',g1,g2,g3,g4,g5,g6⟩:=h;have p1:=zqu h1;have p2:=zqu h2;have p3:=zqu g3;have p4:=zqu g4;simp only[rng,if_neg (Nat.ne_of_gt p1),if_neg (Nat.ne_of_gt p2),if_neg (Nat.ne_of_gt p3),if_neg (Nat.ne_of_gt p4),Prod.mk.injEq]at g5;obtain⟨e1,e2,e3,e4⟩:=g5;obtain rfl:a=a':=by omega
 obtain rfl:b=b':=by omega
 rw[g6,hF.same g1 (by omega),hG.same g2 (by omega)]
end Go.Ideal
namespace Go.Ideal
open Go
set_option maxHeartbeats 4000000
set_option maxRecDepth 20000
attribute [-simp] getElem?_pos
structure Pair(H:J2)(k km:Nat)(s t:Tree):Prop where
 blk:∃ka kb ma mb es ck,H[k]? = some (.cells [J5 ka 0 0, J5 kb 0 0, .map km] 3 0 false)/\H[km]? = some (.map es ck)/\Memo (Known s t) es/\SideAt H ka ma (postS s) (postT s 0) (firsts s)/\SideAt H kb mb (postS t) (postT t 0) (firsts t)/\km<ka/\km<kb/\km<k
theorem zbn{a:Nat}{u:Tree}{F:List Tree}:rng a (lsize (u::F))=((a:Int),((a+lsize F+u.size-1:Nat):Int)):=by
 have h1:=zat u;have h2:lsize (u::F)=u.size+lsize F:=rfl;rw[h2,rng,if_neg (by omega)];congr 1;omega
def ApartSays(s t:Tree)(n:Nat):Prop:=∀(H:J2)(k km a b:Nat)(F G:List Tree),Pair H k km s t->Rep s a F->Rep t b G->lsize F+lsize G<n ->
 ∃H',CW tr.look F_191 [J5 k 0 0,fv (rng a (lsize F)),fv (rng b (lsize G))] H=some (J4 (fd F G),H')/\Pair H' k km s t/\Keep (fun x=>x=km) H H'
theorem flat5:∀(N:List Tree)(j:Nat)(u:Tree),N[j]? = some u->((N.flatMap nodecell).drop (j*5)).take 5=nodecell u
 | [],j,u,h=>by rw[List.getElem?_nil]at h;cases h
 |x::N,0,u,h=>by
  rw[Az]at h;injection h with h;subst h;simp[nodecell]
 |x::N,j+1,u,h=>by
  rw[Ar]at h;rw[<- flat5 N j u h,A0,Di];simp only[nodecell,Au,AT,BH]
theorem SideAt.node{S:Nat->Prop}{H:J2}{k m:Nat}{N:List Tree}{ids fs:List Nat}(h:SideAt H k m N ids fs){j:Nat}{u:Tree}(hj:N[j]? = some u)(hS:∀x,S x->x<k\/m<=x):∃v q,up v = .v v/\up q = .v q/\idxS 5 v (J4 j)=some q/\v≠.undef/\q≠.undef/\∀H',Keep S H H'->loadVal ⟨[],H'⟩ none (J5 k 0 0)=some v/\loadVal ⟨[],H'⟩ (some 5) q=some (tagg u.bare):=by
 obtain⟨nv,fvv,o1,o2,h1,h2,h3,h4,h5,h6⟩:=h.blk;have hjl:=(Aa.1 hj).1;cases o1 with
 |none=>have:=h2.2.1;omega
 |some k2 =>
  obtain⟨ver,e1,_⟩:=HS.load (bx:=[]) h2 hjl;refine⟨nv,_,h2.up,rfl,e1,by rintro rfl;exact absurd h2.pass (by decide),by simp,fun H' hk=>⟨?_,?_⟩⟩
  ·exact zab (by rw[hk.2 k (Aa.1 h1).1 (fun e=>by have:=hS k e;omega)];exact h1) rfl
  ·have h7:VS H' (some k2) 5 N.length nv (pcells (N.flatMap nodecell)):=h2.keep hk (fun x hx e=>by have:=h5 x hx;have:=hS x e;omega);obtain⟨ver2,e2,e3⟩:=HS.load (bx:=[]) h7 hjl;rw[e1]at e2;injection e2 with e2;rw[e2,e3];have:=flat5 N j u hj
   have h8:((pcells (N.flatMap nodecell)).drop (j*5)).take 5=pcells (nodecell u):=by
    rw[<- this,pcells,pcells,List.map_take,CR]
   rw[h8];rfl
theorem Pair.keep{H:J2}{k km:Nat}{s t:Tree}(h:Pair H k km s t):∃ka kb ma mb,km<ka/\km<kb/\∀H',Keep (fun x=>x=km) H H'->loadVal ⟨[],H'⟩ none (J5 k 0 0)=some (J5 ka 0 0)/\loadVal ⟨[],H'⟩ none (J5 k 0 1)=some (J5 kb 0 0)/\loadVal ⟨[],H'⟩ none (J5 k 0 2)=some (.map km)/\SideAt H' ka ma (postS s) (postT s 0) (firsts s)/\SideAt H' kb mb (postS t) (postT t 0) (firsts t):=by
 obtain⟨ka,kb,ma,mb,es,ck,h1,h2,h3,h4,h5,h6,h7,h8⟩:=h.blk;refine⟨ka,kb,ma,mb,h6,h7,fun H' hk=>?_⟩;have g:H'[k]? = some (.cells [J5 ka 0 0, J5 kb 0 0, .map km] 3 0 false):=(by rw[hk.2 k (Aa.1 h1).1 (by omega)];exact h1);exact⟨zab g rfl,zab g rfl,zab g rfl,h4.keep hk (fun x e=>.inl (by omega)),h5.keep hk (fun x e=>.inl (by omega))⟩
theorem zzb{u:Tree}:∀l:List Tree,u∈postSL l->∃c∈l,u∈postS c
 | [],h=>by simp[postSL]at h
 |t::l,h=>by
  rw[postSL,AB]at h;rcases h with h|h
  ·exact⟨t,by simp,h⟩
  ·obtain⟨c,h1,h2⟩:=zzb l h;exact⟨c,by simp[h1],h2⟩
theorem zzc(t u:Tree):u∈postS t->u∈t.nodes:=by
 have key:∀(n:Nat)(t:Tree),t.size<n->u∈postS t->u∈t.nodes:=by
  intro n
  induction n with
  |zero=>intro t h;omega
  |succ n ih =>
   intro t h hu;rw[zgf,AB]at hu;rcases hu with hu|hu
   ·obtain⟨c,h1,h2⟩:=zzb _ hu;have:=zbm h1;have:=zag t;exact zaed h1 (ih c (by omega) h2)
   ·simp at hu;subst hu;exact znp _
 exact key _ t (An _)
theorem zzd(s t:Tree)(hs:Fine s)(ht:Fine t)(n:Nat)(ih:ApartSays s t n)(H:J2)(k km a b:Nat)(w u:Tree)(F G:List Tree)(hP:Pair H k km s t)(hF:Rep s a (w::F))(hG:Rep t b (u::G))(hn:lsize (w::F)+lsize (u::G)<=n) :
 ∃H',CW tr.look F_192 [J5 k 0 0,fv (rng a (lsize (w::F))),fv (rng b (lsize (u::G)))] H=some (J4 (fd (kidsR w) (kidsR u)+fd F G+cost w u:Nat),H')/\Pair H' k km s t/\Keep (fun x=>x=km) H H':=by
 have hs1:=hs.1;have ht1:=ht.1;have lF:=hF.le;have lG:=hG.le;have hkw:=zat w;have hku:=zat u;have e1:lsize (w::F)=w.size+lsize F:=rfl;have e2:lsize (u::G)=u.size+lsize G:=rfl;have fl1:=fd_le (kidsR w) (kidsR u);have fl2:=fd_le F G;have hc3:cost w u<=3:=(by unfold cost;(repeat' split)<;>omega);obtain⟨H1,c1,P1,K1⟩:=ih H k km _ _ (kidsR w) (kidsR u) hP hF.kids hG.kids (by omega);obtain⟨H2,c2,P2,K2⟩:=ih H1 k km _ _ F G P1 hF.rest hG.rest (by omega);obtain⟨ka,kb,ma,mb,m1,m2,hA⟩:=hP.keep;have K0:Keep (fun x=>x=km) H H:=Keep.refl;have K12:=K1.trans K2;obtain⟨p1,p2,p3,p4,p5⟩:=hA H K0;obtain⟨q1,q2,q3,q4,q5⟩:=hA H1 K1;obtain⟨r1,r2,r3,r4,r5⟩:=hA H2 K12;obtain⟨v,q,x1,x2,x3,x4,x5,x6⟩:=p4.node (S:=fun x=>x=km) hF.top (fun x e=>.inl (by omega));obtain⟨v',q',y1,y2,y3,y4,y5,y6⟩:=p5.node (S:=fun x=>x=km) hG.top (fun x e=>.inl (by omega));have kk1:=zabb H ka ma _ _ _ p4 a _ _ hF.first (by rw[firsts,BQ,zan];omega);have kk2:=zabb H kb mb _ _ _ p5 b _ _ hG.first (by rw[firsts,BQ,zan];omega);have ww1:=znq H1 ka ma _ _ _ q4 a _ _ hF.first (by rw[firsts,BQ,zan];omega) (by omega);have ww2:=znq H1 kb mb _ _ _ q5 b _ _ hG.first (by rw[firsts,BQ,zan];omega) (by omega);have z1:someF ((a+lsize F:Nat):Int) (((a+lsize F+w.size-1:Nat):Int)-1)=rng (a+lsize F) (lsize (kidsR w)):=(by rw[<- zcr];congr 1;omega);have z2:someF ((b+lsize G:Nat):Int) (((b+lsize G+u.size-1:Nat):Int)-1)=rng (b+lsize G) (lsize (kidsR u)):=(by rw[<- zcr];congr 1;omega);have z3:someF (a:Int) (((a+lsize F:Nat):Int)-1)=rng a (lsize F):=(by rw[<- zcr];congr 1);have z4:someF (b:Int) (((b+lsize G:Nat):Int)-1)=rng b (lsize G):=(by rw[<- zcr];congr 1);rw[z1]at kk1;rw[z2]at kk2;rw[z3]at ww1;rw[z4]at ww2
 have cc:=zaoc w.bare u.bare (by
  have:=hs.2 w (zzc s w (Al hF.top));have e:w.bare.attrs=w.attrs:=rfl
  rw[e];omega) H2
 rw[zaek]at cc;obtain⟨x7,x8⟩:=x6 H K0;obtain⟨x9,x10⟩:=x6 H1 K1;obtain⟨x11,x12⟩:=x6 H2 K12;obtain⟨y7,y8⟩:=y6 H K0;obtain⟨y9,y10⟩:=y6 H1 K1;obtain⟨y11,y12⟩:=y6 H2 K12;simp only[fv]at kk1 kk2 ww1 ww2 c1 c2
 obtain⟨r,H',h1,rfl,h2⟩:=zah (args:=[J5 k 0 0,fv (rng a (lsize (w::F))),fv (rng b (lsize (u::G)))]) (H:=H) (Q:=fun r H'=>r = J4 (fd (kidsR w) (kidsR u)+fd F G+cost w u:Nat)/\H'=H2) look_192 rfl rfl (by
  dsimp only[i_192,c_192];rw[zbn,zbn];simp(disch:=omega) [fv,p1,p2,q1,q2,r1,r2,x1,x2,x3,x4,x7,x8,x9,x10,x11,x12,y1,y2,y3,y4,y7,y8,y9,y10,y11,y12,kk1,kk2,ww1,ww2,c1,c2,zai,cc,zaa]
  )
 subst h2;exact⟨H',h1,P2,K12⟩
theorem zawr(G:List Tree):fd [] G=lsize G:=by rw[fd]
theorem zbad(F:List Tree):fd F []=lsize F:=by
 cases F with
 |nil=>rw[fd]
 |cons t F=>rw[fd]
theorem ext3(x y z:Nat):evalExt (x:Int) false [J4 ((y:Int)+1), J4 ((z:Int)+1)]=some ((min (min x (y+1)) (z+1):Nat):Int):=by
 simp only[evalExt,Bs,if_false];congr 1;by_cases h1:(y:Int)+1<x
 ·rw[if_pos h1];by_cases h2:(z:Int)+1<(y:Int)+1
  ·rw[if_pos h2];omega
  ·rw[if_neg h2];omega
 ·rw[if_neg h1];by_cases h2:(z:Int)+1<x
  ·rw[if_pos h2];omega
  ·rw[if_neg h2];omega
theorem Pair.put{H:J2}{k km:Nat}{s t:Tree}{es:List (IVal×IVal×Nat)}{ck:Nat}(h:Pair H k km s t)(hm:Memo (Known s t) es):Pair (H.set km (.map es ck)) k km s t:=by
 obtain⟨ka,kb,ma,mb,es0,ck0,h1,h2,h3,h4,h5,h6,h7,h8⟩:=h.blk;have hk:Keep (fun x=>x=km) H (H.set km (.map es ck)):=Keep.set (.inl rfl);refine⟨ka,kb,ma,mb,es,ck,?_,zap (Aa.1 h2).1,hm,h4.keep hk (fun x e=>.inl (by omega)),h5.keep hk (fun x e=>.inl (by omega)),h6,h7,h8⟩;rw[Ag (by omega)];exact h1
theorem zatp(s t:Tree)(hs:Fine s)(ht:Fine t)(n:Nat)(ih:ApartSays s t n):ApartSays s t (n+1):=by
 intro H k km a b F G hP hF hG hn;have hs1:=hs.1;have ht1:=ht.1;have lF:=hF.le;have lG:=hG.le;have K0:Keep (fun x=>x=km) H H:=Keep.refl;have hnil:fv (rng 0 0)=fv (0, -1):=rfl;cases F with
 |nil =>
  cases G with
  |nil =>
   obtain⟨r,H',h1,rfl,rfl⟩:=zah (args:=[J5 k 0 0,fv (rng a (lsize [])),fv (rng b (lsize []))]) (H:=H) (Q:=fun r H'=>r = J4 (fd [] []:Nat)/\H'=H) look_191 rfl rfl (by
    dsimp only[i_191,c_191]
    simp(disch:=omega) [fv,rng,lsize,zgt,eqVals,eqCls,clsEq,zawr])
   exact⟨_,h1,hP,K0⟩
  |cons u G =>
   have hku:=zat u;have e2:lsize (u::G)=u.size+lsize G:=rfl;have hne:¬((b:Int)=0/\((b+lsize G+u.size-1:Nat):Int) = -1):=(by omega);have hb2:((b+lsize G+u.size-1:Nat):Int) ≠ -1:=(by omega)
   obtain⟨r,H',h1,rfl,h2⟩:=zah (args:=[J5 k 0 0,fv (rng a (lsize [])),fv (rng b (lsize (u::G)))]) (H:=H) (Q:=fun r H'=>r = J4 (fd [] (u::G):Nat)/\H'=H) look_191 rfl rfl (by
    dsimp only[i_191,c_191];rw[zbn,zawr,e2];simp(disch:=omega) [fv,rng,lsize,zgt,eqVals,eqCls,clsEq,beq_eq_false_iff_ne.2 hb2,zaa]
    omega)
   subst h2;exact⟨_,h1,hP,K0⟩
 |cons w F =>
  have hkw:=zat w;have e1:lsize (w::F)=w.size+lsize F:=rfl;have ha2:((a+lsize F+w.size-1:Nat):Int) ≠ -1:=(by omega);cases G with
  |nil =>
   obtain⟨r,H',h1,rfl,h2⟩:=zah (args:=[J5 k 0 0,fv (rng a (lsize (w::F))),fv (rng b (lsize []))]) (H:=H) (Q:=fun r H'=>r = J4 (fd (w::F) []:Nat)/\H'=H) look_191 rfl rfl (by
    dsimp only[i_191,c_191];rw[zbn,zbad,e1];simp(disch:=omega) [fv,rng,lsize,zgt,eqVals,eqCls,clsEq,beq_eq_false_iff_ne.2 ha2,zaa]
    omega)
   subst h2;exact⟨_,h1,hP,K0⟩
  |cons u G =>
   have hku:=zat u;have e2:lsize (u::G)=u.size+lsize G:=rfl;have hb2:((b+lsize G+u.size-1:Nat):Int) ≠ -1:=(by omega);have z1:someF (a:Int) (((a+lsize F+w.size-1:Nat):Int)-1)=rng a (lsize (kidsR w++F)):=(by rw[<- zcr,zao];congr 1;omega);have z2:someF (b:Int) (((b+lsize G+u.size-1:Nat):Int)-1)=rng b (lsize (kidsR u++G)):=(by rw[<- zcr,zao];congr 1;omega);obtain⟨ka,kb,ma,mb,m1,m2,hA⟩:=hP.keep;obtain⟨p1,p2,p3,p4,p5⟩:=hA H K0;have hP0:=hP;obtain⟨ka',kb',ma',mb',es,ck,g1,g2,g3,g4⟩:=hP.blk
   let qd:Quad:=((a:Int),((a+lsize F+w.size-1:Nat):Int),(b:Int),((b+lsize G+u.size-1:Nat):Int))
   have hqd:quad qd = .agg [J4 a, J4 (a+lsize F+w.size-1:Nat), J4 b, J4 (b+lsize G+u.size-1:Nat)]:=rfl;have hkey:=zatn qd;rw[hqd]at hkey;rcases zvz qd es 0 g3 with hf|⟨j,v,hf,hd⟩
   ·rw[hqd]at hf;obtain⟨H1,c1,P1,K1⟩:=zzd s t hs ht n ih H k km a b w u F G hP0 hF hG (by omega);obtain⟨H2,c2,P2,K2⟩:=ih H1 k km a b (kidsR w++F) (u::G) P1 hF.opened hG (by rw[zao];omega);obtain⟨H3,c3,P3,K3⟩:=ih H2 k km a b (w::F) (kidsR u++G) P2 hF hG.opened (by rw[zao];omega);have K13:=(K1.trans K2).trans K3;obtain⟨q1,q2,q3,q4,q5⟩:=hA H3 K13;obtain⟨kc,kd,mc,md,es3,ck3,f1,f2,f3,f4,f5,f6⟩:=P3.blk;have o1:=fun H=>zaba ((a:Int),((a+lsize F+w.size-1:Nat):Int)) (by dsimp only;omega) (by dsimp only;omega) H;have o2:=fun H=>zaba ((b:Int),((b+lsize G+u.size-1:Nat):Int)) (by dsimp only;omega) (by dsimp only;omega) H;dsimp only at o1 o2;rw[z1]at o1;rw[z2]at o2;rw[zbn,zbn]at c1;rw[zbn]at c2 c3;have b1:=fd_le (kidsR w) (kidsR u);have b2:=fd_le F G;have b3:=fd_le (kidsR w++F) (u::G);have b4:=fd_le (w::F) (kidsR u++G);have hc3:cost w u<=3:=(by unfold cost;(repeat' split)<;>omega);rw[zao]at b3 b4;have hfd:fd (w::F) (u::G)=min (min (fd (kidsR w) (kidsR u)+fd F G+cost w u) (fd (kidsR w++F) (u::G)+1)) (fd (w::F) (kidsR u++G)+1):=(by rw[fd]);have hm:=ext3 (fd (kidsR w) (kidsR u)+fd F G+cost w u) (fd (kidsR w++F) (u::G)) (fd (w::F) (kidsR u++G));rw[<- hfd]at hm;simp only[Dc]at hm;have hK:Known s t qd (fd (w::F) (u::G):Nat):=⟨a,b,w::F,u::G,hF,hG,by simp,by simp,by rw[zbn,zbn],rfl⟩;simp only[fv]at c1 c2 c3 o1 o2
    obtain⟨r,H',h1,rfl,h2,h3⟩:=zah (args:=[J5 k 0 0,fv (rng a (lsize (w::F))),fv (rng b (lsize (u::G)))]) (H:=H) (Q:=fun r H'=>r = J4 (fd (w::F) (u::G):Nat)/\Pair H' k km s t/\Keep (fun x=>x=km) H H') look_191 rfl rfl (by
     dsimp only[i_191,c_191];rw[zbn,zbn];rcases zvz qd es3 0 f3 with hf3|⟨j3,v3,hf3,hd3⟩
     ·rw[hqd]at hf3;simp(disch:=omega) [fv,zgt,eqVals,eqCls,clsEq,beq_eq_false_iff_ne.2 ha2,beq_eq_false_iff_ne.2 hb2,zaa,p3,hkey,Mem.get,Mem.put,g2,hf,hf3,lookRes,c1,c2,c3,o1,o2,hm,q3,f2];exact⟨P3.put (zato f3 hK),K13.trans (Keep.set (.inl rfl))⟩
     ·rw[hqd]at hf3;simp(disch:=omega) [fv,zgt,eqVals,eqCls,clsEq,beq_eq_false_iff_ne.2 ha2,beq_eq_false_iff_ne.2 hb2,zaa,p3,hkey,Mem.get,Mem.put,g2,hf,hf3,lookRes,c1,c2,c3,o1,o2,hm,q3,f2]
      exact⟨P3.put (zajh es3 j3 f3 hK),K13.trans (Keep.set (.inl rfl))⟩)
    exact⟨_,h1,h2,h3⟩
   ·rw[hqd]at hf;have hv:v=fd (w::F) (u::G):=Known.right hF hG (by simp) (by simp) (by rw[zbn,zbn];exact hd)
    obtain⟨r,H',h1,rfl,h2⟩:=zah (args:=[J5 k 0 0,fv (rng a (lsize (w::F))),fv (rng b (lsize (u::G)))]) (H:=H) (Q:=fun r H'=>r = J4 (fd (w::F) (u::G):Nat)/\H'=H) look_191 rfl rfl (by
     dsimp only[i_191,c_191];rw[zbn,zbn]
     simp(disch:=omega) [fv,zgt,eqVals,eqCls,clsEq,beq_eq_false_iff_ne.2 ha2,beq_eq_false_iff_ne.2 hb2,p3,hkey,Mem.get,g2,hf,lookRes,hv])
    subst h2;exact⟨_,h1,hP0,K0⟩
theorem zqv(s t:Tree)(hs:Fine s)(ht:Fine t):∀n,ApartSays s t n
 |0=>fun _ _ _ _ _ _ _ _ _ _ h=>absurd h (Nat.not_lt_zero _)
 |n+1=>zatp s t hs ht n (zqv s t hs ht n)
theorem zwa(t:Tree):lsize [t]=t.size:=by simp[lsize]
end Go.Ideal
namespace Go.Ideal
open Go
theorem zet(G:List Tree):fd [] G=lsize G:=by rw[fd]
theorem ziy(F:List Tree):fd F []=lsize F:=by
 cases F with
 |nil=>rw[fd]
 |cons t F=>rw[fd]
theorem zpf(t u:Tree)(F G:List Tree):fd (t::F) (u::G)=min (min (fd (kidsR t) (kidsR u)+fd F G+cost t u) (fd (kidsR t++F) (u::G)+1)) (fd (t::F) (kidsR u++G)+1):=by rw[fd]
theorem zbgv(A C B D:List Tree):fd (A++B) (C++D)<=fd A C+fd B D:=by
 have key:∀(n:Nat)(A C B D:List Tree),lsize A+lsize C+(lsize B+lsize D)<n->fd (A++B) (C++D)<=fd A C+fd B D:=by
  intro n
  induction n with
  |zero=>intro A C B D h;omega
  |succ n ih =>
   intro A C B D h;cases A with
   |nil =>
    cases C with
    |nil=>rw[zet];simp
    |cons u C =>
     have h2:=zat u;simp only[lsize]at h;have a1:=ih [] (kidsR u++C) B D (by simp only[lsize,zao];omega);rw[zet]at a1 ⊢;simp only[lsize,zao,AT,Ax,Au]at a1 ⊢;cases B with
     |nil=>rw[zet];rw[zet]at a1 ⊢;simp only[lsize,zao]at a1 ⊢;omega
     |cons b B=>rw[zpf];omega
   |cons t A =>
    have h1:=zat t;cases C with
    |nil =>
     simp only[lsize]at h;have a1:=ih (kidsR t++A) [] B D (by simp only[lsize,zao];omega);rw[ziy]at a1 ⊢;simp only[lsize,zao,AT,Ax,Au]at a1 ⊢;cases D with
     |nil=>rw[ziy];rw[ziy]at a1 ⊢;simp only[lsize,zao]at a1 ⊢;omega
     |cons d D=>rw[zpf];omega
    |cons u C =>
     have h2:=zat u;simp only[lsize]at h;have a2:=ih A C B D (by omega);have a3:=ih (kidsR t++A) (u::C) B D (by simp only[lsize,zao];omega);have a4:=ih (t::A) (kidsR u++C) B D (by simp only[lsize,zao];omega);simp only[Au,Ax]at a3 a4 ⊢;rw[zpf,zpf];omega
 exact key _ A C B D (An _)
end Go.Ideal
namespace Go.Ideal
open Go
set_option maxHeartbeats 4000000
set_option maxRecDepth 20000
attribute [-simp] getElem?_pos
section
variable {A B:List Nat}{F G:List Tree}{a b:Nat}
def pr(A B:List Nat):Nat->Nat->List Tree->List Tree->J1
 |_,_,[],_=>[]
 |_,_,_::_,[]=>[]
 |a,b,t::F,u::G =>
  if fd (t::F) (u::G)=fd (kidsR t) (kidsR u)+fd F G+cost t u then pr A B (a+lsize F) (b+lsize G) (kidsR t) (kidsR u)++pr A B a b F G++[(A.getD (a+lsize F+t.size-1) 0,B.getD (b+lsize G+u.size-1) 0)]
  else if fd (t::F) (u::G)=fd (kidsR t++F) (u::G)+1 then pr A B a b (kidsR t++F) (u::G)else pr A B a b (t::F) (kidsR u++G)
termination_by _ _ F G=>lsize F+lsize G
decreasing_by
 all_goals
  have h1:=zat t;have h2:=zat u;simp only[lsize,zao];omega
theorem zaoq:pr A B a b [] G=[]:=by rw[pr]
theorem zahm:pr A B a b F []=[]:=by
 cases F with
 |nil=>rw[pr]
 |cons t F=>rw[pr]
theorem zahn{t u:Tree}:pr A B a b (t::F) (u::G)=if fd (t::F) (u::G)=fd (kidsR t) (kidsR u)+fd F G+cost t u then pr A B (a+lsize F) (b+lsize G) (kidsR t) (kidsR u)++pr A B a b F G++[(A.getD (a+lsize F+t.size-1) 0,B.getD (b+lsize G+u.size-1) 0)]
 else if fd (t::F) (u::G)=fd (kidsR t++F) (u::G)+1 then pr A B a b (kidsR t++F) (u::G)else pr A B a b (t::F) (kidsR u++G):=by rw[pr]
theorem zaor(A B:List Nat)(a b:Nat)(F G:List Tree):(pr A B a b F G).length<=lsize F:=by
 have key:∀(n:Nat)(a b:Nat)(F G:List Tree),lsize F+lsize G<n->(pr A B a b F G).length<=lsize F:=by
  intro n
  induction n with
  |zero=>intro a b F G h;omega
  |succ n ih =>
   intro a b F G h;cases F with
   |nil=>rw[zaoq];simp
   |cons t F =>
    cases G with
    |nil=>rw[zahm];simp
    |cons u G =>
     have h1:=zat t;have h2:=zat u;simp only[lsize]at h;rw[zahn];split
     ·have a1:=ih (a+lsize F) (b+lsize G) (kidsR t) (kidsR u) (by omega);have a2:=ih a b F G (by omega);simp only[Ah,AK,lsize];omega
     ·split
      ·have a3:=ih a b (kidsR t++F) (u::G) (by simp only[lsize,zao];omega);simp only[lsize,zao]at a3 ⊢;omega
      ·exact ih a b (t::F) (kidsR u++G) (by simp only[lsize,zao];omega)
 exact key _ a b F G (An _)
theorem zze{t u:Tree}(h:fd (t::F) (u::G)=fd (kidsR t) (kidsR u)+fd F G+cost t u):cost t u<3:=by
 have h1:=zbgv (kidsR t) (kidsR u) F G
 have h2:fd (kidsR t++F) (u::G)<=fd (kidsR t++F) (kidsR u++G)+1:=by
  cases hk:kidsR t++F with
  |nil=>rw[zet,zet];have:=zat u;simp only[lsize,zao];omega
  |cons x X=>rw[zpf x u];omega
 have h3:=zpf t u F G;omega
def prcells(l:J1):List PVal:=l.flatMap fun p=>[.int .i64 p.1, .int .i64 p.2]
theorem zwb(l m:J1):prcells (l++m)=prcells l++prcells m:=by simp[prcells]
end
def PairsSays(s t:Tree)(n:Nat):Prop:=∀(H:J2)(k km a b:Nat)(F G:List Tree),Pair H k km s t->Rep s a F->Rep t b G->lsize F+lsize G<n ->
 ∃H' v o,CW tr.look F_167 [J5 k 0 0,fv (rng a (lsize F)),fv (rng b (lsize G))] H=some (v,H')/\Pair H' k km s t/\Keep (fun x=>x=km) H H' /\
  VS H' o 2 (pr (postT s 0) (postT t 0) a b F G).length v (pcells (prcells (pr (postT s 0) (postT t 0) a b F G)))/\(∀ j,o=some j->H.length<=j)
theorem Pair.lt{H:J2}{k km:Nat}{s t:Tree}(h:Pair H k km s t):km<H.length:=by
 obtain⟨ka,kb,ma,mb,es,ck,h1,h2,h3⟩:=h.blk;exact(Aa.1 h2).1
theorem Pair.mix{H0 H H':J2}{k km:Nat}{s t:Tree}(h0:Pair H0 k km s t)(h:Pair H k km s t)(h1:Keep (fun x=>x=km) H0 H){S:Nat->Prop}(hk:Keep S H H')(hS:∀i,S i->H0.length<=i):Pair H' k km s t:=by
 have hl:=h0.lt;have hle:=h1.1;have h2:Keep (fun x=>x=km) H0 H':=h1.trans' hk (fun i hi e=>by have:=hS i e;omega);obtain⟨ka,kb,ma,mb,es,ck,a1,a2,a3,a4,a5,a6,a7,a8⟩:=h0.blk;obtain⟨_,_,_,_,es2,ck2,_,b2,b3,_⟩:=h.blk;refine⟨ka,kb,ma,mb,es2,ck2,?_,?_,b3,a4.keep h2 (fun x e=>.inl (by omega)),a5.keep h2 (fun x e=>.inl (by omega)),a6,a7,a8⟩
 ·rw[h2.2 k (Aa.1 a1).1 (by omega)];exact a1
 ·rw[hk.2 km (by omega) (fun e=>by have:=hS km e;omega)];exact b2
theorem SideAt.idl{H:J2}{k m:Nat}{N:List Tree}{ids fs:List Nat}(h:SideAt H k m N ids fs):loadVal ⟨[],H⟩ none (J5 k 0 1)=some (.p (nval ids)):=by
 obtain⟨nv,fvv,o1,o2,h1,h2,h3⟩:=h.blk;exact zab h1 rfl
theorem zatq(s t:Tree)(hs:Fine s)(ht:Fine t)(n:Nat)(ih:PairsSays s t n):PairsSays s t (n+1):=by
 intro H k km a b F G hP hF hG hn;have hs1:=hs.1;have ht1:=ht.1;have lF:=hF.le;have lG:=hG.le;have K0:Keep (fun x=>x=km) H H:=Keep.refl;cases F with
 |nil =>
  rw[zaoq]
  obtain⟨r,H',h1,rfl,h2⟩:=zah (args:=[J5 k 0 0,fv (rng a (lsize [])),fv (rng b (lsize G))]) (H:=H) (Q:=fun r H'=>r = .p .nilslice/\H'=H) look_167 rfl rfl (by
   dsimp only[i_167,c_167]
   simp(disch:=omega) [fv,lsize,zgt,eqVals,eqCls,clsEq,show rng a 0=(0, -1)from rfl])
  subst h2;exact⟨_,_,none,h1,hP,K0,VS.nil,by simp⟩
 |cons w F =>
  have hkw:=zat w;have e1:lsize (w::F)=w.size+lsize F:=rfl;have ha2:((a+lsize F+w.size-1:Nat):Int) ≠ -1:=(by omega);cases G with
  |nil =>
   rw[zahm]
   obtain⟨r,H',h1,rfl,h2⟩:=zah (args:=[J5 k 0 0,fv (rng a (lsize (w::F))),fv (rng b (lsize []))]) (H:=H) (Q:=fun r H'=>r = .p .nilslice/\H'=H) look_167 rfl rfl (by
    dsimp only[i_167,c_167];rw[zbn]
    simp(disch:=omega) [fv,lsize,zgt,eqVals,eqCls,clsEq,beq_eq_false_iff_ne.2 ha2,show rng b 0=(0, -1)from rfl])
   subst h2;exact⟨_,_,none,h1,hP,K0,VS.nil,by simp⟩
  |cons u G =>
   have hku:=zat u;have e2:lsize (u::G)=u.size+lsize G:=rfl;have hb2:((b+lsize G+u.size-1:Nat):Int) ≠ -1:=(by omega);have z1:someF (a:Int) (((a+lsize F+w.size-1:Nat):Int)-1)=rng a (lsize (kidsR w++F)):=(by rw[<- zcr,zao];congr 1;omega);have z2:someF (b:Int) (((b+lsize G+u.size-1:Nat):Int)-1)=rng b (lsize (kidsR u++G)):=(by rw[<- zcr,zao];congr 1;omega);have y1:someF ((a+lsize F:Nat):Int) (((a+lsize F+w.size-1:Nat):Int)-1)=rng (a+lsize F) (lsize (kidsR w)):=(by rw[<- zcr];congr 1;omega);have y2:someF ((b+lsize G:Nat):Int) (((b+lsize G+u.size-1:Nat):Int)-1)=rng (b+lsize G) (lsize (kidsR u)):=(by rw[<- zcr];congr 1;omega);have y3:someF (a:Int) (((a+lsize F:Nat):Int)-1)=rng a (lsize F):=(by rw[<- zcr];congr 1);have y4:someF (b:Int) (((b+lsize G:Nat):Int)-1)=rng b (lsize G):=(by rw[<- zcr];congr 1);obtain⟨H1,c1,P1,K1⟩:=zqv s t hs ht _ H k km a b (w::F) (u::G) hP hF hG (An _);obtain⟨H2,c2,P2,K2⟩:=zzd s t hs ht _ (zqv s t hs ht _) H1 k km a b w u F G P1 hF hG (Ak _);have K12:=K1.trans K2;have b1:=fd_le (kidsR w) (kidsR u);have b2:=fd_le F G;have b3:=fd_le (kidsR w++F) (u::G);have b4:=fd_le (w::F) (kidsR u++G);have b5:=fd_le (w::F) (u::G);have hc3:cost w u<=3:=(by unfold cost;(repeat' split)<;>omega);rw[zao]at b3 b4;rw[zbn,zbn]at c1 c2;have o1:=fun H=>zaba ((a:Int),((a+lsize F+w.size-1:Nat):Int)) (by dsimp only;omega) (by dsimp only;omega) H;have o2:=fun H=>zaba ((b:Int),((b+lsize G+u.size-1:Nat):Int)) (by dsimp only;omega) (by dsimp only;omega) H;dsimp only at o1 o2;rw[z1]at o1;rw[z2]at o2;simp only[fv]at c1 c2 o1 o2;rw[zahn];by_cases hm:fd (w::F) (u::G)=fd (kidsR w) (kidsR u)+fd F G+cost w u
   ·rw[if_pos hm];have hcl:=zze hm;generalize hp1:pr (postT s 0) (postT t 0) (a+lsize F) (b+lsize G) (kidsR w) (kidsR u)=p1;generalize hp2:pr (postT s 0) (postT t 0) a b F G=p2;have hl1:=zaor (postT s 0) (postT t 0) (a+lsize F) (b+lsize G) (kidsR w) (kidsR u);have hl2:=zaor (postT s 0) (postT t 0) a b F G;rw[hp1]at hl1;rw[hp2]at hl2;obtain⟨H3,v3,q3,c3,P3,K3,V3,N3⟩:=ih H2 k km _ _ (kidsR w) (kidsR u) P2 hF.kids hG.kids (by omega);obtain⟨H4,v4,q4,c4,P4,K4,V4,N4⟩:=ih H3 k km _ _ F G P3 hF.rest hG.rest (by omega);rw[hp1]at V3;rw[hp2]at V4;have kml:=P2.lt;have V3':=V3.keep K4 (fun j hj e=>by have:=N3 j hj;omega);obtain⟨v5,H5,q5,c5,V5,K5,N5⟩:=V3'.appendVS V4 (by omega);have hK3l:=K3.1;have hK4l:=K4.1;have hK12l:=K12.1
    have K5':Keep (fun x=>x=km) H H5:=by
     refine((K12.trans K3).trans K4).trans' K5 ?_;intro i hi e;have:=N3 i e;omega
    have P5:Pair H5 k km s t:=P2.mix P4 (K3.trans K4) K5 (fun i e=>N3 i e);obtain⟨ka,kb,ma,mb,m1,m2,hA⟩:=hP.keep;obtain⟨p1',p2',p3',p4',p5'⟩:=hA H2 K12;obtain⟨r1,r2,r3,r4,r5⟩:=hA H3 (K12.trans K3);obtain⟨t1,t2,t3,t4,t5⟩:=hA H5 K5';have kk1:=zabb H2 ka ma _ _ _ p4' a _ _ hF.first (by rw[firsts,BQ,zan];omega);have kk2:=zabb H2 kb mb _ _ _ p5' b _ _ hG.first (by rw[firsts,BQ,zan];omega);have ww1:=znq H3 ka ma _ _ _ r4 a _ _ hF.first (by rw[firsts,BQ,zan];omega) (by omega);have ww2:=znq H3 kb mb _ _ _ r5 b _ _ hG.first (by rw[firsts,BQ,zan];omega) (by omega);rw[y1]at kk1;rw[y2]at kk2;rw[y3]at ww1;rw[y4]at ww2;simp only[fv]at kk1 kk2 ww1 ww2 c3 c4;obtain⟨x,q,x1,x2,x3,x4,x5,x6⟩:=t4.node (S:=fun x=>x=km) hF.top (fun x e=>.inl (by omega));obtain⟨x',q',xx1,xx2,xx3,xx4,xx5,xx6⟩:=t5.node (S:=fun x=>x=km) hG.top (fun x e=>.inl (by omega));obtain⟨x7,x8⟩:=x6 H5 Keep.refl;obtain⟨xx7,xx8⟩:=xx6 H5 Keep.refl
    have cc:=zaoc w.bare u.bare (by
     have:=hs.2 w (zzc s w (Al hF.top));have e:w.bare.attrs=w.attrs:=rfl
     rw[e];omega) H5
    rw[zaek]at cc;obtain⟨iA,hiA⟩:∃i,(postT s 0)[a+lsize F+w.size-1]? = some i:=⟨_,Ae (by rw[zav];omega)⟩;obtain⟨iB,hiB⟩:∃i,(postT t 0)[b+lsize G+u.size-1]? = some i:=⟨_,Ae (by rw[zav];omega)⟩;have gA:(postT s 0).getD (a+lsize F+w.size-1) 0=iA:=(by rw[AA,hiA];rfl);have gB:(postT t 0).getD (b+lsize G+u.size-1) 0=iB:=(by rw[AA,hiB];rfl);rw[gA,gB];have id1:=t4.idl;have id2:=t5.idl;have ii1:=zabc hiA;have ii2:=zabc hiB;obtain⟨v6,H6,q6,c6,V6,K6,l6,N6,_⟩:=V5.append1 (ys:=[J4 iA, J4 iB]) rfl (by omega);have hup3:=V3.up;have hps3:=V3.pass;have hne3:v3≠.undef:=(by rintro rfl;exact absurd hps3 (by decide));have hup4:=V4.up;have hne4:v4≠.undef:=(by rintro rfl;exact absurd V4.pass (by decide));have hup5:=V5.up;have hne5:v5≠.undef:=(by rintro rfl;exact absurd V5.pass (by decide));have hup6:=V6.up;have hne6:v6≠.undef:=(by rintro rfl;exact absurd V6.pass (by decide));have hps6:=V6.pass
    have hge5:∀j,q5=some j->H2.length<=j:=by
     intro j hj;rcases N5 with e|⟨k',e,e2⟩
     ·exact N3 j (by rw[<- e];exact hj)
     ·rw[e]at hj;injection hj with hj;omega
    obtain⟨r,H',h1,rfl,h2⟩:=zah (args:=[J5 k 0 0,fv (rng a (lsize (w::F))),fv (rng b (lsize (u::G)))]) (H:=H) (Q:=fun r H'=>r=v6/\H'=H6) look_167 rfl rfl (by
     dsimp only[i_167,c_167];rw[zbn,zbn]
     simp(disch:=omega) [fv,zgt,eqVals,eqCls,clsEq,beq_eq_false_iff_ne.2 ha2,beq_eq_false_iff_ne.2 hb2,c1,c2,hm,p1',p2',r1,r2,t1,t2,kk1,kk2,ww1,ww2,c3,c4,c5,hup3,hup4,hup5,hup6,hps6,x1,x2,x3,x7,x8,xx1,xx2,xx3,xx7,xx8,zai,cc,id1,id2,ii1,ii2,c6])
    subst h2;refine⟨_,_,q6,h1,P2.mix P5 ((K3.trans K4).trans' K5 (fun i hi e=>by have:=N3 i e;omega)) K6 (fun i e=>hge5 i e),K5'.trans' K6 (fun i hi e=>by have:=hge5 i e;omega),?_,?_⟩
    ·have e7:(p1++p2++[(iA,iB)]).length=p1.length+p2.length+1:=(by simp;omega);rw[e7,zwb,zwb,zza,zza];exact V6
    ·intro j hj;rcases N6 with e|⟨k',e,e2⟩
     ·have:=hge5 j (by rw[<- e];exact hj);omega
     ·have:=K5'.1;rw[e]at hj;injection hj with hj;omega
   ·rw[if_neg hm];have hm':((fd (w::F) (u::G):Nat):Int)≠((fd (kidsR w) (kidsR u)+fd F G+cost w u:Nat):Int):=(by omega);obtain⟨H3,c3,P3,K3⟩:=zqv s t hs ht _ H2 k km a b (kidsR w++F) (u::G) P2 hF.opened hG (An _);rw[zbn]at c3;simp only[fv]at c3;have K13:=K12.trans K3;by_cases hd:fd (w::F) (u::G)=fd (kidsR w++F) (u::G)+1
    ·rw[if_pos hd];obtain⟨H4,v4,q4,c4,P4,K4,V4,N4⟩:=ih H3 k km a b (kidsR w++F) (u::G) P3 hF.opened hG (by rw[zao];omega);have hl:=K13.1;rw[zbn]at c4;simp only[fv]at c4;have hup:=V4.up;have hps:=V4.pass;have hne:v4≠.undef:=(by rintro rfl;exact absurd hps (by decide))
     obtain⟨r,H',h1,rfl,h2⟩:=zah (args:=[J5 k 0 0,fv (rng a (lsize (w::F))),fv (rng b (lsize (u::G)))]) (H:=H) (Q:=fun r H'=>r=v4/\H'=H4) look_167 rfl rfl (by
      dsimp only[i_167,c_167];rw[zbn,zbn]
      simp(disch:=omega) [fv,zgt,eqVals,eqCls,clsEq,beq_eq_false_iff_ne.2 ha2,beq_eq_false_iff_ne.2 hb2,zaa,c1,c2,c3,c4,o1,hd,hup,hps])
     subst h2;exact⟨_,_,q4,h1,P4,K13.trans K4,V4,fun j hj=>by have:=N4 j hj;omega⟩
    ·rw[if_neg hd];have hd':((fd (w::F) (u::G):Nat):Int)≠((fd (kidsR w++F) (u::G):Nat):Int)+1:=(by omega);obtain⟨H4,v4,q4,c4,P4,K4,V4,N4⟩:=ih H3 k km a b (w::F) (kidsR u++G) P3 hF hG.opened (by rw[zao];omega);have hl:=K13.1;rw[zbn]at c4;simp only[fv]at c4;have hup:=V4.up;have hps:=V4.pass;have hne:v4≠.undef:=(by rintro rfl;exact absurd hps (by decide))
     obtain⟨r,H',h1,rfl,h2⟩:=zah (args:=[J5 k 0 0,fv (rng a (lsize (w::F))),fv (rng b (lsize (u::G)))]) (H:=H) (Q:=fun r H'=>r=v4/\H'=H4) look_167 rfl rfl (by
      dsimp only[i_167,c_167];rw[zbn,zbn]
      simp(disch:=omega) [fv,zgt,eqVals,eqCls,clsEq,beq_eq_false_iff_ne.2 ha2,beq_eq_false_iff_ne.2 hb2,zaa,c1,c2,c3,c4,o1,o2,hup,hps])
     subst h2;exact⟨_,_,q4,h1,P4,K13.trans K4,V4,fun j hj=>by have:=N4 j hj;omega⟩
theorem zael(s t:Tree)(hs:Fine s)(ht:Fine t):∀n,PairsSays s t n
 |0=>fun _ _ _ _ _ _ _ _ _ _ h=>absurd h (Nat.not_lt_zero _)
 |n+1=>zatq s t hs ht n (zael s t hs ht n)
end Go.Ideal
namespace Go.Ideal
open Go
attribute [-simp] getElem?_pos
section
variable {a:Nat}{s t:Tree}
abbrev TN:=Tree×Nat
def kidsG:List Tree->Nat->List TN
 | [],_=>[]
 |t::l,i=>(t,i)::kidsG l (i+t.size)
def kidsT(x:TN):List TN:=(kidsG (klist x.1.kids) (x.2+1)).reverse
theorem zaem:∀(l:List Tree)(i:Nat),(kidsG l i).map (·.1)=l
 | [],i=>rfl
 |t::l,i=>by simp[kidsG,zaem l]
theorem zms(x:TN):(kidsT x).map (·.1)=kidsR x.1:=by simp[kidsT,kidsR,zaem]
def postI(x:TN):List TN:=(postS x.1).zip (postT x.1 x.2)
def postF(F:List TN):List TN:=F.flatMap postI
theorem ztm:∀(l:List Tree)(i:Nat),(postL l i).length=lsize l
 | [],i=>rfl
 |t::l,i=>by simp only[postL,lsize,Ah,zav,ztm l]
theorem zzf:∀(l:List Tree)(i:Nat),postF (kidsG l i)=(postSL l).zip (postL l i)
 | [],i=>rfl
 |t::l,i=>by
  have:=zzf l (i+t.size);simp only[postF,kidsG,A0]at this ⊢;rw[this,postSL,postL,List.zip_append (by rw[zan,zav])];rfl
theorem zabd(x:TN):postI x=postF (kidsT x).reverse++[x]:=by
 rw[postI,zgf,zho,kidsT,CI,zzf,List.zip_append (by rw[zez,ztm])];rfl
theorem zaen(x:TN):(postI x).length=x.1.size:=by
 rw[postI,List.length_zip,zan,zav,Nat.min_self]
theorem zmt(F G:List TN):postF (F++G)=postF F++postF G:=by simp[postF]
theorem zmu(x:TN):postF [x]=postI x:=by simp[postF]
theorem zmv:∀F:List TN,(postF F).length=lsize (F.map (·.1))
 | []=>rfl
 |x::F=>by
  have:=zmv F;simp only[postF,A0,Ah,At,lsize,zaen]at this ⊢;omega
def fsz(F:List TN):Nat:=lsize (F.map (·.1))
theorem zgg(x:TN)(F:List TN):fsz (x::F)=x.1.size+fsz F:=rfl
theorem zaos(F:List TN):lsize (F.reverse.map (·.1))=fsz F:=by rw[List.map_reverse,zeh];rfl
theorem zkw(x:TN):x.1.size=fsz (kidsT x)+1:=by rw[fsz,zms];exact zat x.1
theorem zpg(F G:List TN):fsz (F++G)=fsz F+fsz G:=by simp[fsz,zao]
def RepT(s:Tree)(a:Nat)(F:List TN):Prop:=∃A B,postI (s,0)=A++(postF F.reverse++B)/\A.length=a
theorem RepT.root(t:Tree):RepT t 0 [(t,0)]:=⟨[],[],by simp[zmu],rfl⟩
theorem RepT.kids{u:TN}{F:List TN}(h:RepT t a (u::F)):RepT t (a+fsz F) (kidsT u):=by
 obtain⟨A,B,h1,h2⟩:=h;refine⟨A++postF F.reverse,u::B,?_,by rw[Ah,zmv,zaos,h2]⟩;rw[h1,By,zmt,zmu,zabd];simp
theorem RepT.rest{u:TN}{F:List TN}(h:RepT t a (u::F)):RepT t a F:=by
 obtain⟨A,B,h1,h2⟩:=h;refine⟨A,postI u++B,?_,h2⟩;rw[h1,By,zmt,zmu];simp
theorem RepT.opened{u:TN}{F:List TN}(h:RepT t a (u::F)):RepT t a (kidsT u++F):=by
 obtain⟨A,B,h1,h2⟩:=h;refine⟨A,u::B,?_,h2⟩;rw[h1,Co,By,zmt,zmt,zmu,zabd];simp
theorem RepT.top{u:TN}{F:List TN}(h:RepT t a (u::F)):(postI (t,0))[a+fsz F+u.1.size-1]? = some u:=by
 obtain⟨A,B,h1,h2⟩:=h;have hk:=zkw u
 have e:postI (t,0)=(A++(postF F.reverse++postF (kidsT u).reverse))++(u::B):=by
  rw[h1,By,zmt,zmu,zabd];simp
 have hl:(A++(postF F.reverse++postF (kidsT u).reverse)).length=a+fsz F+u.1.size-1:=by
  simp only[Ah,zmv,zaos,h2];omega
 rw[e,Ad (by omega),hl,A6];rfl
theorem RepT.id{u:TN}{F:List TN}(h:RepT t a (u::F)):(postT t 0).getD (a+fsz F+u.1.size-1) 0=u.2:=by
 have h1:=h.top;rw[postI,List.getElem?_zip_eq_some]at h1;rw[AA,h1.2];rfl
def Has(s:Tree)(x:TN):Prop:=(s.vis[x.2]?).map (·.t)=some x.1
theorem RepT.has{u:TN}{F:List TN}(h:RepT t a (u::F)):Has t u:=by
 have h1:=h.top;rw[postI,List.getElem?_zip_eq_some]at h1;obtain⟨u',v,p1,p2,p3,p4,p5⟩:=zvy h1.2;have:u'=u.1:=(by have:=h1.1;dsimp only at this;rw[p1]at this;injection this);unfold Has;rw[Tree.vis,p2,AN,p3,this]
def prT:List TN->List TN->J1
 | [],_=>[]
 |_::_,[]=>[]
 |t::F,u::G =>
  if fd ((t::F).map (·.1)) ((u::G).map (·.1))=fd ((kidsT t).map (·.1)) ((kidsT u).map (·.1))+fd (F.map (·.1)) (G.map (·.1))+cost t.1 u.1 then prT (kidsT t) (kidsT u)++prT F G++[(t.2,u.2)]
  else if fd ((t::F).map (·.1)) ((u::G).map (·.1))=fd ((kidsT t++F).map (·.1)) ((u::G).map (·.1))+1 then prT (kidsT t++F) (u::G)else prT (t::F) (kidsT u++G)
termination_by F G=>fsz F+fsz G
decreasing_by
 all_goals
  have h1:=zkw t;have h2:=zkw u;simp only[zgg,zpg];omega
theorem zaot{G:List TN}:prT [] G=[]:=by rw[prT]
theorem zaji{F:List TN}:prT F []=[]:=by
 cases F with
 |nil=>rw[prT]
 |cons t F=>rw[prT]
theorem zajj{t u:TN}{F G:List TN}:prT (t::F) (u::G)=if fd ((t::F).map (·.1)) ((u::G).map (·.1))=fd ((kidsT t).map (·.1)) ((kidsT u).map (·.1))+fd (F.map (·.1)) (G.map (·.1))+cost t.1 u.1 then prT (kidsT t) (kidsT u)++prT F G++[(t.2,u.2)]
 else if fd ((t::F).map (·.1)) ((u::G).map (·.1))=fd ((kidsT t++F).map (·.1)) ((u::G).map (·.1))+1 then prT (kidsT t++F) (u::G)else prT (t::F) (kidsT u++G):=by rw[prT]
theorem zbgw(s t:Tree)(a b:Nat)(F G:List TN)(hF:RepT s a F)(hG:RepT t b G):pr (postT s 0) (postT t 0) a b (F.map (·.1)) (G.map (·.1))=prT F G:=by
 have key:∀(n:Nat)(a b:Nat)(F G:List TN),fsz F+fsz G<n->RepT s a F->RepT t b G->pr (postT s 0) (postT t 0) a b (F.map (·.1)) (G.map (·.1))=prT F G:=by
  intro n
  induction n with
  |zero=>intro a b F G h;omega
  |succ n ih =>
   intro a b F G h hF hG;cases F with
   |nil=>rw[zaot];exact zaoq
   |cons x F =>
    cases G with
    |nil=>rw[zaji];exact zahm
    |cons y G =>
     have h1:=zkw x;have h2:=zkw y;simp only[zgg]at h;have i1:=ih _ _ _ _ (by omega) hF.kids hG.kids;have i2:=ih _ _ _ _ (by omega) hF.rest hG.rest;have i3:=ih _ _ (kidsT x++F) (y::G) (by simp only[zgg,zpg];omega) hF.opened hG;have i4:=ih _ _ (x::F) (kidsT y++G) (by simp only[zgg,zpg];omega) hF hG.opened;have d1:=hF.id;have d2:=hG.id;rw[zajj,<-i1,<-i2,<-i3,<-i4];simp only[At,AO,zms];rw[zahn];simp only[fsz]at d1 d2;rw[d1,d2];rfl
 exact key _ a b F G (An _) hF hG
def nd(s:Tree)(i:Nat):Tree:=match s.vis[i]? with|some v=>v.t|none=>s
theorem Has.nd{x:TN}(h:Has s x):nd s x.2=x.1:=by
 unfold Has at h;unfold Ideal.nd;cases e:s.vis[x.2]? with
 |none=>rw[e]at h;cases h
 |some v=>rw[e]at h;injection h
theorem Has.lt{x:TN}(h:Has s x):x.2<s.size:=by
 unfold Has at h;cases e:s.vis[x.2]? with
 |none=>rw[e]at h;cases h
 |some v=>have:=(Aa.1 e).1;rw[zbi]at this;exact this
def InF(s:Tree)(F:List TN)(i:Nat):Prop:=∃x∈F,x.2<=i/\i+(nd s i).size<=x.2+x.1.size
def ordF(F:List TN):Prop:=F.Pairwise fun x y=>y.2+y.1.size<=x.2
theorem zmw:∀(l:List Tree)(i:Nat),∀k∈kidsG l i,i<=k.2/\k.2+k.1.size<=i+lsize l
 | [],i,k,h=>by simp[kidsG]at h
 |t::l,i,k,h=>by
  simp only[kidsG,Am]at h;simp only[lsize];rcases h with rfl|h
  ·dsimp only;omega
  ·have:=zmw l (i+t.size) k h;omega
theorem zaeo:∀(l:List Tree)(i:Nat),(kidsG l i).Pairwise fun x y=>x.2+x.1.size<=y.2
 | [],_=>List.Pairwise.nil
 |t::l,i=>List.Pairwise.cons (fun k hk=>(zmw l (i+t.size) k hk).1) (zaeo l _)
theorem zdd(x:TN):∀k∈kidsT x,x.2<k.2/\k.2+k.1.size<=x.2+x.1.size:=by
 intro k hk;have:=zmw _ _ k (List.mem_reverse.1 hk);have:=zag x.1;omega
theorem zwc(x:TN):ordF (kidsT x):=by
 unfold ordF kidsT;rw[List.pairwise_reverse];exact zaeo _ _
theorem ordF.opened{x:TN}{F:List TN}(h:ordF (x::F)):ordF (kidsT x++F):=by
 unfold ordF at h ⊢;rw[BR]at h;rw[CJ];refine⟨zwc x,h.2,fun k hk y hy=>?_⟩;have:=zdd x k hk;have:=h.1 y hy;omega
theorem InF.opened{x:TN}{F:List TN}{i:Nat}(h:InF s (kidsT x++F) i):InF s (x::F) i:=by
 obtain⟨y,hy,h1,h2⟩:=h;rcases AB.1 hy with hy|hy
 ·have:=zdd x y hy;exact⟨x,by simp,by omega,by omega⟩
 ·exact⟨y,by simp[hy],h1,h2⟩
def Fit(s t:Tree)(p q:Nat×Nat):Prop :=
 (q.1<p.1/\q.2<p.2/\(p.1<q.1+(nd s q.1).size↔p.2<q.2+(nd t q.2).size))\/(p.1<q.1/\p.2<q.2/\(q.1<p.1+(nd s p.1).size↔q.2<p.2+(nd t p.2).size))
theorem Fit.symm{p q:Nat×Nat}(h:Fit s t p q):Fit s t q p:=Or.symm h
def csum(s t:Tree)(l:J1):Nat:=(l.map fun p=>cost (nd s p.1) (nd t p.2)).sum
theorem zajk(s t:Tree)(l m:J1):csum s t (l++m)=csum s t l+csum s t m:=by simp[csum]
theorem zbgx(s t:Tree)(a b:Nat)(F G:List TN)(hF:RepT s a F)(hG:RepT t b G)(oF:ordF F)(oG:ordF G) :
 (∀ p∈prT F G,InF s F p.1/\InF t G p.2)/\(prT F G).Pairwise (Fit s t)/\(∀ p∈prT F G,p.1<s.size/\p.2<t.size/\cost (nd s p.1) (nd t p.2)<3) /\
  fd (F.map (·.1)) (G.map (·.1))+2*(prT F G).length=fsz F+fsz G+csum s t (prT F G):=by
 have key:∀(n:Nat)(a b:Nat)(F G:List TN),fsz F+fsz G<n->RepT s a F->RepT t b G->ordF F->ordF G ->
  (∀ p∈prT F G,InF s F p.1/\InF t G p.2)/\(prT F G).Pairwise (Fit s t)/\(∀ p∈prT F G,p.1<s.size/\p.2<t.size/\cost (nd s p.1) (nd t p.2)<3) /\
  fd (F.map (·.1)) (G.map (·.1))+2*(prT F G).length=fsz F+fsz G+csum s t (prT F G):=by
  intro n
  induction n with
  |zero=>intro a b F G h;omega
  |succ n ih =>
   intro a b F G h hF hG oF oG;cases F with
   |nil =>
    rw[zaot,B4,zet];exact⟨by simp,List.Pairwise.nil,by simp,by simp[fsz,csum,lsize]⟩
   |cons x F =>
    cases G with
    |nil =>
     rw[zaji,B4,ziy];exact⟨by simp,List.Pairwise.nil,by simp,by simp[fsz,csum,lsize]⟩
    |cons y G =>
     have h1:=zkw x;have h2:=zkw y;have hx:=hF.has;have hy:=hG.has;have oF':=oF;have oG':=oG;unfold ordF at oF' oG';rw[BR]at oF' oG';rw[zajj];simp only[zgg]at h;split
     ·rename_i hm
      have hcl:cost x.1 y.1<3:=by
       refine zze (t:=x.1) (u:=y.1) (F:=F.map (·.1)) (G:=G.map (·.1)) ?_;rw[<- zms,<-zms];exact hm
      obtain⟨a1,a2,a3,a4⟩:=ih _ _ _ _ (by omega) hF.kids hG.kids (zwc x) (zwc y);obtain⟨b1,b2,b3,b4⟩:=ih _ _ _ _ (by omega) hF.rest hG.rest oF'.2 oG'.2;refine⟨?_,?_,?_,?_⟩
      ·intro p hp;rcases AB.1 hp with hp|hp
       ·rcases AB.1 hp with hp|hp
        ·obtain⟨⟨k,c1,c2,c3⟩,⟨k',d1,d2,d3⟩⟩:=a1 p hp;have e1:=zdd x k c1;have e2:=zdd y k' d1;exact⟨⟨x,by simp,by omega,by omega⟩,⟨y,by simp,by omega,by omega⟩⟩
        ·obtain⟨⟨k,c1,c2⟩,⟨k',d1,d2⟩⟩:=b1 p hp;exact⟨⟨k,by simp[c1],c2⟩,⟨k',by simp[d1],d2⟩⟩
       ·simp at hp;subst hp;exact⟨⟨x,by simp,by simp,by rw[hx.nd];simp⟩,⟨y,by simp,by simp,by rw[hy.nd];simp⟩⟩
      ·rw[CJ,CJ];refine⟨⟨a2,b2,?_⟩,CZ _ _,?_⟩
       ·intro p hp q hq;obtain⟨⟨k,c1,c2,c3⟩,⟨k',d1,d2,d3⟩⟩:=a1 p hp;obtain⟨⟨z,e1,e2,e3⟩,⟨z',f1,f2,f3⟩⟩:=b1 q hq;have g1:=zdd x k c1;have g2:=zdd y k' d1;have g3:=oF'.1 z e1;have g4:=oG'.1 z' f1;have s1:=zad (nd s q.1);have s2:=zad (nd t q.2);left;exact⟨by omega,by omega,by omega⟩
       ·intro p hp q hq;simp at hq;subst hq;rcases AB.1 hp with hp|hp
        ·obtain⟨⟨k,c1,c2,c3⟩,⟨k',d1,d2,d3⟩⟩:=a1 p hp;have g1:=zdd x k c1;have g2:=zdd y k' d1;have s1:=zad (nd s p.1);have s2:=zad (nd t p.2);left;refine⟨by dsimp only;omega,by dsimp only;omega,?_⟩;rw[hx.nd,hy.nd];constructor<;>intro _<;>dsimp only<;>omega
        ·obtain⟨⟨z,e1,e2,e3⟩,⟨z',f1,f2,f3⟩⟩:=b1 p hp;have g3:=oF'.1 z e1;have g4:=oG'.1 z' f1;have s1:=zad (nd s p.1);have s2:=zad (nd t p.2);right;refine⟨by dsimp only;omega,by dsimp only;omega,?_⟩;dsimp only;constructor<;>intro _<;>omega
      ·intro p hp;rcases AB.1 hp with hp|hp
       ·rcases AB.1 hp with hp|hp
        ·exact a3 p hp
        ·exact b3 p hp
       ·simp at hp;subst hp;refine⟨hx.lt,hy.lt,?_⟩;rw[hx.nd,hy.nd];exact hcl
      ·have e:csum s t [(x.2,y.2)]=cost x.1 y.1:=by
        simp only[csum,At,B4,List.sum_cons,List.sum_nil,BA];rw[hx.nd,hy.nd]
       rw[zajk,zajk,e,hm];simp only[Ah,AK,zgg];omega
     ·split
      ·rename_i hd;obtain⟨a1,a2,a3,a4⟩:=ih _ _ (kidsT x++F) (y::G) (by simp only[zgg,zpg];omega) hF.opened hG oF.opened oG;refine⟨fun p hp=>⟨(a1 p hp).1.opened,(a1 p hp).2⟩,a2,a3,?_⟩;rw[hd];simp only[zgg,zpg]at a4 ⊢;omega
      ·rename_i hm hd;have hf:=zpf x.1 y.1 (F.map (·.1)) (G.map (·.1));obtain⟨a1,a2,a3,a4⟩:=ih _ _ (x::F) (kidsT y++G) (by simp only[zgg,zpg];omega) hF hG.opened oF oG.opened;refine⟨fun p hp=>⟨(a1 p hp).1,(a1 p hp).2.opened⟩,a2,a3,?_⟩;simp only[At,AO,zms]at hm hd a4 ⊢;simp only[zgg,zpg]at a4 ⊢;omega
 exact key _ a b F G (An _) hF hG oF oG
end
end Go.Ideal
namespace Go.Ideal
open Go
set_option maxHeartbeats 1000000
theorem zalk(k:Option (List Tree))(h:∀t∈klist k,∀H,CW tr.look F_46 [tagg t] H=some (J4 t.size,H))(hs:lsize (klist k)<1000000000000)(Q:J0)
 (hQ:Q .normal [(3, .int .i64 (lsize (klist k)+1:Nat))] ⟨[],[]⟩) :
 wpLoop (CW tr.look) 19 m_46_0 l_46_0 (blkK 0 b_46_0 Q) [(3, .int .i64 1),(7, .v (.p (kval k))),(8, .int .i64 (klist k).length),(9, .int .i64 0)] ⟨[],[]⟩:=by
 refine zac (α:=Nat×Nat) (fun a=>[(3, .int .i64 a.2),(7, .v (.p (kval k))),(8, .int .i64 (klist k).length),(9, .int .i64 a.1)]) (fun a=>⟨[],[]⟩)
  (fun a=>a.1<=(klist k).length/\a.2+lsize ((klist k).drop a.1)=lsize (klist k)+1) (fun a=>(klist k).length-a.1) ?_ (0,1) ⟨by omega,by simp;omega⟩
 rintro⟨j,acc⟩⟨hj,ha⟩ L hL;dsimp only at hj ha hL ⊢;dsimp only[l_46_0];by_cases hjl:j<(klist k).length
 ·have hl:=zyx hjl;have hc:=h _ (Ba hjl);have:=zay (klist k);have:=zvu hjl;simp(disch:=omega) [zhn,zai,hc,zaa];exact hL (j+1,acc+(klist k)[j].size) ⟨by dsimp only;omega,by dsimp only;omega⟩ (by dsimp only;omega)
 ·obtain rfl:j=(klist k).length:=by omega
  simp[lsize]at ha;subst ha;simp
  simpa using hQ
theorem zatr:∀(n:Nat)(t:Tree),t.size<n->n<=1000000000000->∀(H:J2),CW tr.look F_46 [tagg t] H=some (J4 t.size,H):=by
 intro n
 induction n with
 |zero=>intro t h;omega
 |succ n ih =>
  intro t h hb H;have ht:=zag t;refine zaz look_46 rfl (by simp) rfl ?_;dsimp only[i_46,c_46];simp;refine zalk _ (fun u hu H=>ih u (by have:=zbm hu;omega) (by omega) H) (by omega) _ ?_;simp[ht]
mutual
def Tree.deep:Tree->Nat
 | .mk _ _ _ _ none=>1
 | .mk _ _ _ _ (some l)=>ldeep l+1
def ldeep:List Tree->Nat
 | []=>0
 |t::l=>max t.deep (ldeep l)
end
theorem zaho(t:Tree):t.deep=ldeep (klist t.kids)+1:=by
 cases t with
 |mk a b c d e=>cases e<;>simp[Tree.deep,Tree.kids,klist,ldeep]
theorem zaou:∀(n:Nat)(t:Tree),t.size<n->t.deep<=t.size:=by
 intro n
 induction n with
 |zero=>intro t h;omega
 |succ n ih =>
  intro t h;have ht:=zag t
  have:∀l:List Tree,lsize l<n->ldeep l<=lsize l:=by
   intro l
   induction l with
   |nil=>intro _;simp[ldeep]
   |cons u l ihl =>
    intro hl;simp only[lsize]at hl;have h1:=ih u (by omega);have h2:=ihl (by omega);have:=zad u;simp only[ldeep,lsize];omega
  have:=this (klist t.kids) (by omega);rw[zaho];omega
theorem zaov:∀ {l:List Tree}{j:Nat}(h:j<l.length),max (l[j].deep) (ldeep (l.drop (j+1)))=ldeep (l.drop j):=by
 intro l j h;rw[AF h,ldeep]
theorem zahp(k:Option (List Tree))(h:∀t∈klist k,∀H,CW tr.look F_83 [tagg t] H=some (J4 t.deep,H))(hs:lsize (klist k)<1000000000000)(Q:J0)
 (hQ:Q .normal [(3, .int .i64 (ldeep (klist k):Nat))] ⟨[],[]⟩) :
 wpLoop (CW tr.look) 20 m_83_0 l_83_0 (blkK 0 b_83_0 Q) [(3, .int .i64 0),(7, .v (.p (kval k))),(8, .int .i64 (klist k).length),(9, .int .i64 0)] ⟨[],[]⟩:=by
 refine zac (α:=Nat×Nat) (fun a=>[(3, .int .i64 a.2),(7, .v (.p (kval k))),(8, .int .i64 (klist k).length),(9, .int .i64 a.1)]) (fun a=>⟨[],[]⟩)
  (fun a=>a.1<=(klist k).length/\max a.2 (ldeep ((klist k).drop a.1))=ldeep (klist k)) (fun a=>(klist k).length-a.1) ?_ (0,0) ⟨by omega,by simp⟩
 rintro⟨j,acc⟩⟨hj,ha⟩ L hL;dsimp only at hj ha hL ⊢;dsimp only[l_83_0];by_cases hjl:j<(klist k).length
 ·have hl:=zaov hjl;have hc:=h _ (Ba hjl);have:=zay (klist k);have:=zaou _ (klist k)[j] (An _);have:=zvu hjl
  have hm:evalExt (acc:Int) true [J4 ((klist k)[j].deep:Nat)]=some ((max acc (klist k)[j].deep:Nat):Int):=by
   simp only[evalExt,if_true];congr 1;split<;>omega
  simp(disch:=omega) [zhn,zai,hc,zaa,hm];exact hL (j+1,max acc (klist k)[j].deep) ⟨by dsimp only;omega,by dsimp only;omega⟩ (by dsimp only;omega)
 ·obtain rfl:j=(klist k).length:=by omega
  simp[ldeep]at ha;subst ha;simp
  simpa using hQ
theorem zaow:∀(n:Nat)(t:Tree),t.size<n->n<=1000000000000->∀(H:J2),CW tr.look F_83 [tagg t] H=some (J4 (t.deep:Nat),H):=by
 intro n
 induction n with
 |zero=>intro t h;omega
 |succ n ih =>
  intro t h hb H;have ht:=zag t;have hd:=zaho t;have hd2:=zaou _ t h;refine zaz look_83 rfl (by simp) rfl ?_;dsimp only[i_83,c_83];simp;refine zahp _ (fun u hu H=>ih u (by have:=zbm hu;omega) (by omega) H) (by omega) _ ?_;simp(disch:=omega) [zaa,hd]
def badC(c:UInt8):Bool:=c.toNat==9||c.toNat==10||c.toNat==12||c.toNat==32||c.toNat==0||c.toNat==34||c.toNat==39||c.toNat==62||c.toNat==47||c.toNat==61||c.toNat==60||(decide (65<=c.toNat)&&decide (c.toNat<=90))
def nameB(s:Bytes):Bool:=decide (1<=s.length)&&decide (s.length<=32)&&s.all fun c=>!badC c
theorem zall(s:Bytes)(hs:s.length<=32)(Q:J0)
 (h1:(s.all fun c=>!badC c)=true->Q .normal [] ⟨[],[]⟩)(h2:(s.all fun c=>!badC c)=false->∀E,lookE E 2 = .bool false->Q .ret E ⟨[],[]⟩) :
 wpLoop (CW tr.look) 40 m_120_0 l_120_0 (blkK 0 b_120_0 Q) [(0, .str s),(13, .int .i64 s.length),(14, .int .i64 0)] ⟨[],[]⟩:=by
 refine zac (α:=Nat) (fun j=>[(0, .str s),(13, .int .i64 s.length),(14, .int .i64 j)]) (fun _=>⟨[],[]⟩)
  (fun j=>j<=s.length/\(s.take j).all (fun c=>!badC c)=true) (fun j=>s.length-j) ?_ 0 ⟨by omega,by simp⟩
 rintro j ⟨hj,ht⟩ L hL;dsimp only[l_120_0];by_cases hjl:j<s.length
 ·have hb:=zann hjl;obtain⟨c,hc⟩:∃c,s[j]=c:=⟨_,rfl⟩;rw[hc]at hb;cases hbad:badC c with
  |false =>
   simp[badC]at hbad;have g1:¬(c.toNat:Int)=9:=(by omega);have g2:¬(c.toNat:Int)=10:=(by omega);have g3:¬(c.toNat:Int)=12:=(by omega);have g4:¬(c.toNat:Int)=32:=(by omega);have g5:¬(c.toNat:Int)=0:=(by omega);have g6:¬(c.toNat:Int)=34:=(by omega);have g7:¬(c.toNat:Int)=39:=(by omega);have g8:¬(c.toNat:Int)=62:=(by omega);have g9:¬(c.toNat:Int)=47:=(by omega);have ga:¬(c.toNat:Int)=61:=(by omega);have gb:¬(c.toNat:Int)=60:=(by omega)
   have hnext:L [(0,SV.str s),(13,SV.int IntKind.i64 s.length),(14,SV.int IntKind.i64 (j+1))] ⟨[],[]⟩:=by
    refine hL (j+1) ⟨by omega,?_⟩ (by omega);have hcb:badC c=false:=(by simp[badC];exact hbad);rw[A1,List.all_append,ht,Ae hjl,hc];simp[hcb]
   by_cases hu:(65:Int)<=c.toNat
   ·have hv:¬(c.toNat:Int)<=90:=(by omega);simp(disch:=omega) [hb,zaa];exact hnext
   ·simp(disch:=omega) [hb,zaa];exact hnext
  |true =>
   have hall:(s.all fun c=>!badC c)=false:=by
    rw[Bool.eq_false_iff];intro h;rw[BM]at h;have:=h s[j] (Ba hjl);rw[hc,hbad]at this;cases this
   have h2:=h2 hall;simp[badC]at hbad;rcases(show(c.toNat:Int)=9\/(c.toNat:Int)=10\/(c.toNat:Int)=12\/(c.toNat:Int)=32\/(c.toNat:Int)=0\/(c.toNat:Int)=34\/(c.toNat:Int)=39\/(c.toNat:Int)=62\/(c.toNat:Int)=47\/(c.toNat:Int)=61\/(c.toNat:Int)=60\/(65<=(c.toNat:Int)/\(c.toNat:Int)<=90)by omega)with g|g|g|g|g|g|g|g|g|g|g|g
   case inr.inr.inr.inr.inr.inr.inr.inr.inr.inr.inr =>
    have g1:¬(c.toNat:Int)=9:=(by omega);have g2:¬(c.toNat:Int)=10:=(by omega);have g3:¬(c.toNat:Int)=12:=(by omega);have g4:¬(c.toNat:Int)=32:=(by omega);have g5:¬(c.toNat:Int)=0:=(by omega);have g6:¬(c.toNat:Int)=34:=(by omega);have g7:¬(c.toNat:Int)=39:=(by omega);have g8:¬(c.toNat:Int)=62:=(by omega);have g9:¬(c.toNat:Int)=47:=(by omega);have ga:¬(c.toNat:Int)=61:=(by omega);have gb:¬(c.toNat:Int)=60:=(by omega);simp(disch:=omega) [hb];exact h2 _ rfl
   all_goals
    simp(disch:=omega) [hb,g];exact h2 _ rfl
 ·obtain rfl:j=s.length:=by omega
  simp;rw[Bk]at ht;exact h1 ht
theorem zabe(s:Bytes)(H:J2):CW tr.look F_120 [.p (.str s)] H=some (.p (.bool (nameB s)),H):=by
 refine zaz look_120 rfl (by simp) rfl ?_;dsimp only[i_120,c_120];by_cases h0:s=[]
 ·subst h0;simp[nameB]
 ·have hl0:1<=s.length:=(by cases s with|nil=>exact absurd rfl h0|cons a l=>simp);by_cases h1:32<s.length
  ·have h1':(32:Int)<s.length:=(by omega);have:¬s.length<=32:=(by omega);simp[nameB,h0,h1',this]
  ·have h1':¬(32:Int)<s.length:=(by omega);have h3:s.length<=32:=(by omega);simp[h0,h1'];refine zall s h3 _ (fun h=>?_) (fun h E hE=>?_)
   ·simp[nameB,h,hl0,h3]
   ·simp[nameB,h,hE]
end Go.Ideal
namespace Go.Ideal
open Go
set_option maxHeartbeats 4000000
set_option maxRecDepth 20000
attribute [-simp] getElem?_pos
theorem zgh(a b:Int)(H:J2):CW tr.look F_95 [J4 a, J4 b] H=some (J4 (icmp a b),H):=by
 have hn:∀(a:Int)(H:J2),CW tr.look F_139 [J4 a] H=some (.p (.bool false),H):=by
  intro a H;refine zaz look_139 rfl (by simp) rfl ?_;dsimp only[i_139,c_139];simp(disch:=omega) []
 refine zaz look_95 rfl (by simp) rfl ?_;dsimp only[i_95,c_95];unfold icmp sgn;by_cases h1:a<b
 ·simp(disch:=omega) [hn,h1]
 ·by_cases h2:b<a
  ·simp(disch:=omega) [hn,h1,h2]
  ·simp(disch:=omega) [hn,h1,h2]
def dice(p q r u:Nat):Int:=icmp ((if q=0 then 0 else p)*(if u=0 then 1 else u):Nat) ((if u=0 then 0 else r)*(if q=0 then 1 else q):Nat)
theorem zbae{a b:Nat}(ha:a<=1000000000)(hb:b<=1000000000):a*b<=1000000000000000000:=A8 (Nat.mul_le_mul ha hb) (by decide)
theorem zaox{a b:Nat}(ha:a<=1000000000)(hb:b<=1000000000):((a:Int)*(b:Int))=((a*b:Nat):Int)/\a*b<=1000000000000000000:=⟨by simp,zbae ha hb⟩
theorem zbaf(p q r u:Nat)(hp:p<=1000000000)(hq:q<=1000000000)(hr:r<=1000000000)(hu:u<=1000000000)(H:J2) :
 CW tr.look F_133 [J4 p, J4 q, J4 r, J4 u] H=some (J4 (dice p q r u),H):=by
 refine zaz look_133 rfl (by simp) rfl ?_;dsimp only[i_133,c_133];have h1:=zaox hp hu;have h2:=zaox hr hq;unfold dice;by_cases hq0:q=0<;>by_cases hu0:u=0
 ·subst hq0 hu0;simp(disch:=omega) [zaa,zgh]
 ·subst hq0;simp(disch:=omega) [zaa,zgh,hu0]
 ·subst hu0;simp(disch:=omega) [zaa,zgh,hq0]
 ·simp only[hq0,hu0,if_false];generalize p*u=m1 at *;generalize r*q=m2 at *;have e1:=h1.1;have e2:=h2.1;have b1:=h1.2;have b2:=h2.2;simp(disch:=omega) [zaa,zgh,e1,e2]
def half(p q:Nat):Bool:=decide (q<4*p)
theorem zbag(p q:Nat)(hp:p<=1000000000)(_:q<=1000000000)(H:J2) :
 CW tr.look F_134 [J4 p, J4 q] H=some (.p (.bool (half p q)),H):=by
 refine zaz look_134 rfl (by simp) rfl ?_;dsimp only[i_134,c_134];unfold half;by_cases h:q<4*p
 ·have:(q:Int)<4*(p:Int):=(by omega);simp(disch:=omega) [zaa,h]
 ·have:¬(q:Int)<4*(p:Int):=(by omega);simp(disch:=omega) [zaa,h]
end Go.Ideal
