import Derived.Test.YtjlnpggbekondaaGreatW7
import Derived.Test.YtjlnpggbekondaaGreatW4
import Derived.Test.YtjlnpggbekondaaGreatW5
import Derived.Test.YtjlnpggbekondaaGreatW6
import Derived.Test.YtjlnpggbekondaaGreatW3
namespace Go.Ideal
open Go
set_option maxHeartbeats 4000000
set_option maxRecDepth 20000
attribute [-simp] getElem?_pos
def NS (t:Tree):Prop:=t.name.length<=10/\t.text.length<=10/\(alist t.attrs).length<=2/\∀p∈alist t.attrs,p.1.length<=10/\p.2.length<=10
structure GT (t:Tree) (m dp:Nat):Prop where
 sz:t.size<=m
 dp:t.height<=dp
 ns:∀u∈t.nodes,NS u
def NV (t:Tree):Prop:=NS t/\nodeB t=true/\t.kind≠5
structure GV (t:Tree) (m dp:Nat):Prop where
 sz:t.size<=m
 dp:t.height<=dp
 ns:∀u∈t.nodes,NV u
theorem zrf {u:Tree} {l:List Tree} (h:u∈l):u∈lnodes l:=zfj.2 ⟨u,h,by rw[zbr];simp⟩
theorem zvc:∀ {l:List Tree} {r:Bool},(∀ u∈l,NV u)->kidsB r l=true
 | [],r,_=>rfl
 |t::l,r,h=>by
  have h1:=h t (by simp)
  have h2:=zvc (r:=r) fun u hu=>h u (An _ hu)
  simp only[kidsB,h1.2.1,h2,Bool.and_true,A3,BY,decide_eq_true_eq]
  exact .inl h1.2.2
def GrownSays (v:PVal) (deep:Nat):Prop:=∀(iat inn a n:Nat) (H:J2),iat≠inn->H[iat]? = some (cnt a)->H[inn]? = some (cnt n)->n<40->a<=n+1 ->
 ∃(cs:J3) (H':J2) (a' n':Nat) (t:Tree),CW tr.look F_Q45 [.p v, J5 iat 0 0, J5 inn 0 0, J4 deep] H=some (.agg cs,H')/\H'[iat]? = some (cnt a')/\H'[inn]? = some (cnt n')/\n<n'/\n'<=40/\a'<=n'+1 /\
  (∀ x,x<H.length->x≠iat->x≠inn->H'[x]? = H[x]?)/\H.length<=H'.length/\All2 (frzP (fun k=>H.length<=k) H' (20-deep)) cs t.cells/\cs.length=5/\GV t (n'-n) (7-deep)
def GrownQ (iat inn n deep:Nat) (H:J2) (r:IVal) (H':J2):Prop:=∃(cs:J3) (a' n':Nat) (t:Tree),r = .agg cs/\H'[iat]? = some (cnt a')/\H'[inn]? = some (cnt n')/\n<n'/\n'<=40/\a'<=n'+1 /\
    (∀ x,x<H.length->x≠iat->x≠inn->H'[x]? = H[x]?)/\H.length<=H'.length/\All2 (frzP (fun k=>H.length<=k) H' (20-deep)) cs t.cells/\cs.length=5/\GV t (n'-n) (7-deep)
structure GInv (H0:J2) (iat inn n0 deep:Nat) (AL:List (Bytes×Bytes)) (av kv:IVal) (ts:List Tree) (a n:Nat) (G:J2):Prop where
 ha:G[iat]? = some (cnt a)
 hn:G[inn]? = some (cnt n)
 b1:n0<=n
 b2:n<=40
 b3:a<=n+1
 le:H0.length<=G.length
 fr:∀x,x<H0.length->x≠iat->x≠inn->G[x]? = H0[x]?
 va:av = .p .nilslice/\AL=[]\/∃ka,H0.length<=ka/\HS G ka 2 AL.length av (pcells (acells AL))/\(∀ kb c d e,kv = .slice kb c d e->ka≠kb)/\AL≠[]
 vk:kv = .p .nilslice/\ts=[]\/∃kb X,H0.length<=kb/\HS G kb 5 ts.length kv X/\All2 (frzP (fun k=>H0.length<=k/\k≠kb) G (19-deep)) X (kcells ts)/\ts≠[]
 sz:lsize ts+n0<=n
 hh:lheight ts<=6-deep
 ns:∀u∈lnodes ts,NV u
theorem zrg:∀(ts:List Tree) (t:Tree),kcells (ts++[t])=kcells ts++t.cells
 | [],t=>by simp[kcells]
 |u::ts,t=>by simp only[Aq,kcells,zrg ts t,As]
theorem zoo:∀(ts:List Tree) (t:Tree),lheight (ts++[t])=max (lheight ts) t.height
 | [],t=>by simp[lheight]
 |u::ts,t=>by simp only[Aq,lheight,zoo ts t];omega
theorem zrh:∀(ts:List Tree) (t:Tree),lnodes (ts++[t])=lnodes ts++t.nodes
 | [],t=>by simp[lnodes]
 |u::ts,t=>by simp only[Aq,lnodes,zrh ts t,As]
theorem GInv.kid {H0:J2} {iat inn n0 deep:Nat} {AL:List (Bytes×Bytes)} {av kv:IVal} {ts:List Tree} {a n:Nat} {G:J2} (h:GInv H0 iat inn n0 deep AL av kv ts a n G) (hi:iat<H0.length/\inn<H0.length) (_:deep<=5)
 {cs:J3} {G':J2} {a' n':Nat} {t:Tree} (e1:G'[iat]? = some (cnt a')) (e2:G'[inn]? = some (cnt n')) (e3:n<n') (e4:n'<=40) (e5:a'<=n'+1)
 (e6:∀x,x<G.length->x≠iat->x≠inn->G'[x]? = G[x]?) (e7:G.length<=G'.length) (e8:All2 (frzP (fun k=>G.length<=k) G' (19-deep)) cs t.cells) (e9:cs.length=5) (e10:GV t (n'-n) (6-deep)) :
 up kv = .v kv/\∃kv' G2,evalAppend ⟨[],G'++[.cells cs 5 0 false]⟩ 5 kv (.slice G'.length 0 0 1)=some (kv',⟨[],G2⟩)/\(∃ a b c,kv' = .slice a b 0 c)/\GInv H0 iat inn n0 deep AL av kv' (ts++[t]) a' n' G2:=by
 have hle:=h.le
 have htl:ts.length<=lsize ts:=by
  have:∀l:List Tree,l.length<=lsize l:=by
   intro l
   induction l with
   |nil=>simp
   |cons x l ih=>have:=zab x;simp only[lsize,Ax];omega
  exact this ts
 have hsz:=h.sz
 have hb2:=h.b2
 obtain⟨X,hX⟩:∃X,(kv = .p .nilslice/\ts.length=0/\X=[]/\ts=[])\/∃kb,H0.length<=kb/\kb<G.length/\HS G' kb 5 ts.length kv X/\All2 (frzP (fun k=>(H0.length<=k/\k≠kb)/\k<G.length) G' (19-deep)) X (kcells ts):=by
  rcases h.vk with⟨h1,h2⟩|⟨kb,X,h1,h2,h3,_⟩
  ·exact⟨[], .inl ⟨h1,by simp[h2],rfl,h2⟩⟩
  ·refine⟨X, .inr ⟨kb,h1,h2.lt,h2.keep (e6 kb h2.lt (by omega) (by omega)),h3.imp fun v p hv=>zbh (fun k hk hl=>⟨⟨hk,hl⟩,e6 k hl (by omega) (by omega)⟩) hv⟩⟩
 obtain⟨hup,kv',G2,kl,f1,⟨u1,u2,u3,rfl⟩,f3,f4,f5,f6⟩:=zjb (H:=G') (v:=kv) (e:=5) (n:=ts.length) (X:=X) (ys:=cs) (by
  rcases hX with⟨h1,h2,h3,_⟩|⟨kb,_,_,h2,_⟩
  ·exact .inl ⟨h1,h2,h3⟩
  ·exact .inr ⟨kb,h2⟩) e9 (by omega)
 have hkl:(G'.length<=kl)\/(H0.length<=kl/\kl<G.length/\∃c d e,kv = .slice kl c d e):=by
  rcases f6 with f6|f6
  ·exact .inl f6
  ·rcases hX with⟨rfl,_⟩|⟨kb,q1,q2,q3,_⟩
   ·obtain⟨_,_,_,hh,_⟩:=f6;cases hh
   ·obtain⟨_,_,_,hh,_⟩:=f6
    obtain⟨_,_,_,hh2,_⟩:=q3
    rw[hh]at hh2
    cases hh2
    exact .inr ⟨q1,q2,_,_,_,hh⟩
 have hklH:H0.length<=kl:=by rcases hkl with h1|h1<;>omega
 have hu:u1=kl:=by obtain⟨_,_,_,hh,_⟩:=f4;cases hh;rfl
 have hG2:∀y,y<G'.length->y≠kl->G2[y]? = G'[y]? := f5
 refine⟨hup,_,G2,f1,⟨_,_,_,rfl⟩,?_⟩
 refine⟨by rw[hG2 iat (by omega) (by omega)];exact e1,by rw[hG2 inn (by omega) (by omega)];exact e2,by have:=h.b1;omega,e4,e5,by omega,fun x hx h1 h2=>?_,?_,?_,?_,?_,?_⟩
 ·rw[hG2 x (by omega) (by omega),e6 x (by omega) h1 h2];exact h.fr x hx h1 h2
 ·rcases h.va with h1|⟨ka,h1,h2,h3,hA⟩
  ·exact .inl h1
  ·have hne:ka≠kl:=by
    rcases hkl with h4|⟨_,_,c,d,e,h4⟩
    ·have:=h2.lt;omega
    ·exact h3 _ _ _ _ h4
   refine .inr ⟨ka,h1,h2.keep ?_,fun kb c d e he=>?_,hA⟩
   ·have:=h2.lt
    rw[hG2 ka (by omega) hne,e6 ka this (by omega) (by omega)]
   ·cases he;rw[hu];exact hne
 ·refine .inr ⟨kl,X++cs,hklH,by rw[Af];exact f4,?_,by simp⟩
  rw[zrg]
  refine All2.append ?_ (e8.imp fun v p hv=>zbh (fun k hk hl=>?_) hv)
  ·rcases hX with⟨_,_,rfl,rfl⟩|⟨kb,q1,q2,q3,q4⟩
   ·rfl
   ·refine q4.imp fun v p hv=>zbh (fun k hk hl=>?_) hv
    have hne:k≠kl:=by
     rcases hkl with h4|⟨_,_,c,d,e,h4⟩
     ·omega
     ·obtain⟨_,_,_,hh,_⟩:=q3
      rw[h4]at hh;cases hh;exact hk.1.2
    exact⟨⟨hk.1.1,hne⟩,hG2 k (by omega) hne⟩
  ·have hne:k≠kl:=by rcases hkl with h4|⟨_,h4,_⟩<;>omega
   exact⟨⟨by omega,hne⟩,hG2 k hl hne⟩
 ·have:=e10.sz
  rw[zah]
  simp only[lsize];omega
 ·rw[zoo]
  have:=h.hh
  have:=e10.dp
  omega
 ·intro u hu
  rw[zrh]at hu
  rcases Ar.1 hu with h1|h1
  ·exact h.ns u h1
  ·exact e10.ns u h1
def nonil {α:Type} (l:List α):Option (List α):=if l=[]then none else some l
theorem zch (l:List Tree):klist (nonil l)=l:=by
 unfold nonil
 split
 ·rename_i h;rw[h];rfl
 ·rfl
theorem zld (l:List (Bytes×Bytes)):alist (nonil l)=l:=by
 unfold nonil
 split
 ·rename_i h;rw[h];rfl
 ·rfl
theorem GInv.done {H0:J2} {iat inn n0 deep:Nat} {AL:List (Bytes×Bytes)} {av kv:IVal} {ts:List Tree} {a n:Nat} {G:J2} (h:GInv H0 iat inn (n0+1) deep AL av kv ts a n G) (hd:deep<=5) (nm:Bytes) (hnm:nm.length<=10) (hnb:nameB nm=true) (hab:attrsB AL=true) (hAL:AL.length<=2/\∀p∈AL,p.1.length<=10/\p.2.length<=10) :
 up av = .v av/\up kv = .v kv/\GrownQ iat inn n0 deep H0 (.agg [J4 2, .p (.str nm), .p (.str []),av,kv]) G:=by
 have ua:up av = .v av:=by rcases h.va with⟨rfl,_⟩|⟨_,_,⟨_,_,_,rfl,_⟩,_⟩<;>rfl
 have uk:up kv = .v kv:=by rcases h.vk with⟨rfl,_⟩|⟨_,_,_,⟨_,_,_,rfl,_⟩,_⟩<;>rfl
 refine⟨ua,uk,_,a,n, .mk 2 nm [] (nonil AL) (nonil ts),rfl,h.ha,h.hn,h.b1,h.b2,h.b3,h.fr,h.le,?_,rfl,?_,?_,?_⟩
 ·rw[Tree.zau]
  refine⟨_,_,rfl,zaw (n:=1) (by omega) rfl,_,_,rfl,zaw (n:=1) (by omega) rfl,_,_,rfl,zaw (n:=1) (by omega) rfl,_,_,rfl,?_,_,_,rfl,?_,rfl⟩
  ·show frzP _ _ _ av (aval (nonil AL))
   rcases h.va with⟨rfl,rfl⟩|⟨ka,h1,h2,_,hn⟩
   ·exact zaw (n:=1) (by omega) rfl
   ·unfold nonil
    rw[if_neg hn]
    exact zaw (n:=2) (by omega) (h2.frz h1 (All2.plain (n:=0) _))
  ·show frzP _ _ _ kv (kval (nonil ts))
   rcases h.vk with⟨rfl,rfl⟩|⟨kb,X,h1,h2,h3,hn⟩
   ·exact zaw (n:=1) (by omega) rfl
   ·unfold nonil
    rw[if_neg hn]
    exact zaw (n:=19-deep+1) (by omega) (h2.frz h1 (h3.imp fun v p hv=>zbh (fun k hk _=>⟨hk.1,rfl⟩) hv))
 ·have:=h.sz
  rw[zag]
  show lsize (klist (nonil ts))+1<=_
  rw[zch];omega
 ·have:=h.hh
  rw[zbq]
  show lheight (klist (nonil ts))+1<=_
  rw[zch];omega
 ·intro u hu
  rw[zbr]at hu
  rcases Aj.1 hu with rfl|hu
  ·refine⟨⟨hnm,by simp[Tree.text],?_,?_⟩,?_,by simp[Tree.kind]⟩
   ·show(alist (nonil AL)).length<=2
    rw[zld];exact hAL.1
   ·show ∀p∈alist (nonil AL),_
    rw[zld];exact hAL.2
   ·rw[zjp,if_pos (show(Tree.mk 2 nm [] (nonil AL) (nonil ts)).kind=2 from rfl)]
    show(nameB nm&&decide (([]:Bytes)=[])&&attrsB (alist (nonil AL))&&kidsB false (klist (nonil ts)))=true
    rw[zld,zch,hnb,hab,zvc fun u hu=>h.ns u (zrf hu)]
    simp
  ·have:klist (Tree.mk 2 nm [] (nonil AL) (nonil ts)).kids=ts:=zch ts
   rw[this]at hu
   exact h.ns u hu
theorem zjw (v:PVal) (_:up (.p v) = .v (.p v)) (deep:Nat) (hd:deep<=5) (IH:GrownSays v (deep+1)) (H0:J2) (iat inn n0:Nat) (hne:iat≠inn) (hi:iat<H0.length/\inn<H0.length) (AL:List (Bytes×Bytes)) (av:IVal) (nm:Bytes) (z:KB) (Q:J0)
 (hQ:∀kv ts a n G,GInv H0 iat inn n0 deep AL av kv ts a n G->Q .normal [(8, .box 8 0),(10, .box 10 0)] ⟨[(10,some ⟨[.int .i64 2, .str nm, .str [], .v av, .v kv],5⟩),(8,some z)],G⟩) :
 ∀(k:Nat) (kv:IVal) (ts:List Tree) (a n:Nat) (G:J2),k<=3->GInv H0 iat inn n0 deep AL av kv ts a n G ->
 wpLoop (CW tr.look) 109 m_Q45_0 l_Q45_0 (blkK 1 b_Q45_1 Q) [(0, .v (.p v)),(1, .v (J5 iat 0 0)),(2, .v (J5 inn 0 0)),(3, .int .i64 deep),(8, .box 8 0),(10, .box 10 0),(11, .int .i64 k)] ⟨[(10,some ⟨[.int .i64 2, .str nm, .str [], .v av, .v kv],5⟩),(8,some z)],G⟩:=by
 intro k
 induction k with
 |zero =>
  intro kv ts a n G hk hG
  refine zbd ?_
  dsimp only[l_Q45_0]
  simp(disch:=omega) []
  exact hQ kv ts a n G hG
 |succ k ih =>
  intro kv ts a n G hk hG
  refine zbd ?_
  dsimp only[l_Q45_0]
  have l0:loadVal ⟨[],G⟩ none (J5 inn 0 0)=some (J4 n):=zad hG.hn rfl
  have hpos:(0:Int)<((k+1:Nat):Int):=by omega
  by_cases hn:n<40
  ·have hn':(n:Int)<40:=by omega
   obtain⟨cs,G',a',n',t,e0,e1,e2,e3,e4,e5,e6,e7,e8,e9,e10⟩:=IH iat inn a n G hne hG.ha hG.hn hn hG.b3
   obtain⟨uk,kv',G2,f1,⟨u1,u2,u3,rfl⟩,f2⟩:=hG.kid hi hd e1 e2 e3 e4 e5 e6 e7 (by rw[show 19-deep=20-(deep+1)by omega];exact e8) e9 (by rw[show 6-deep=7-(deep+1)by omega];exact e10)
   have e0':CW tr.look F_Q45 [.p v, J5 iat 0 0, J5 inn 0 0, J4 ((deep:Int)+1)] G=some (.agg cs,G'):=e0
   obtain⟨c0,c1,c2,c3,c4,rfl⟩:∃c0 c1 c2 c3 c4,cs=[c0,c1,c2,c3,c4]:=by
    match cs,e9 with
    | [c0,c1,c2,c3,c4],_=>exact⟨c0,c1,c2,c3,c4,rfl⟩
   have hc:((k+1:Nat):Int)-1=(k:Int):=by omega
   simp only[BR,Int.cast_ofNat_Int]at hpos hc
   have hku:kv≠.undef:=by rcases hG.vk with⟨rfl,_⟩|⟨_,_,_,⟨_,_,_,rfl,_⟩,_⟩<;>simp
   simp(disch:=omega) [l0,hku,zcl,zaa,e0',f1,hc]
   exact ih _ _ _ _ _ (by omega) f2
  ·have hn':¬(n:Int)<40:=by omega
   simp(disch:=omega) [l0]
   exact hQ kv ts a n G hG
theorem attrs1 {n t:Bytes} (hn:n=[105,100]\/n=[120]) (ht:t.length<=10):attrsB [(n,t)]=true:=by
 have:t.length<=4096:=by omega
 have h1:bytesLess [] n=true/\nameB n=true:=by rcases hn with rfl|rfl<;>exact⟨by decide,by decide⟩
 simp[attrsB,attrsG,h1.1,h1.2,this]
theorem attrs2 {t u:Bytes} (ht:t.length<=10) (hu:u.length<=10):attrsB [([105,100],t),([120],u)]=true:=by
 have h1:t.length<=4096:=by omega
 have h2:u.length<=4096:=by omega
 have h3:bytesLess [] [105,100]=true:=by decide
 have h4:nameB [105,100]=true:=by decide
 have h5:bytesLess [105,100] [120]=true:=by decide
 have h6:nameB [120]=true:=by decide
 simp[attrsB,attrsG,h1,h2,h3,h4,h5,h6]
theorem zadd (v:PVal) (L:List Int) (hv:IV v L) (deep:Nat) (hd:deep<=6) (IH:deep<=5->GrownSays v (deep+1)):GrownSays v deep:=by
 intro iat inn a n H hne hia hin hn ha
 have hup:=hv.up
 have l0:loadVal ⟨[],H⟩ none (J5 inn 0 0)=some (J4 n):=zad hin rfl
 have hw:=zam (bx:=[]) (off:=0) (new:=[J4 ((n:Int)+1)]) hin (by simp)
 have hsp:splice [IVal.p (.int .i64 (n:Int))] 0 [J4 ((n:Int)+1)]=[J4 ((n:Int)+1)]:=rfl
 rw[hsp]at hw
 obtain⟨K,hK⟩:∃K,H.set inn (.cells [J4 ((n:Int)+1)] 1 0 false)=K:=⟨_,rfl⟩
 rw[hK]at hw
 have hKa:K[iat]? = some (cnt a):=by rw[<- hK,Ad (Ne.symm hne)];exact hia
 obtain⟨x,a',hx,a1,a2,hnext⟩:=zvb v L hv iat a K hKa (by omega)
 have e:∃r H',CW tr.look F_Q45 [.p v, J5 iat 0 0, J5 inn 0 0, J4 deep] H=some (r,H')/\GrownQ iat inn n deep H r H':=by
  refine zar look_Q45 rfl rfl ?_
  dsimp only[i_Q45,c_Q45]
  have e7:(x:Int).tmod 7=((x % 7:Nat):Int):=by rw[AV (by omega)];simp
  have e74:((x:Int) / 7).tmod 4=((x / 7 % 4:Nat):Int):=by rw[AV (by omega)];simp
  have e76:((x:Int) / 7).tmod 6=((x / 7 % 6:Nat):Int):=by rw[AV (by omega)];simp
  have b7:x % 7<7:=B6 _ (by omega)
  have b74:x / 7 % 4<4:=B6 _ (by omega)
  have b76:x / 7 % 6<6:=B6 _ (by omega)
  have e28:((x:Int) / 28).tmod 3=((x / 28 % 3:Nat):Int):=by rw[AV (by omega)];simp
  have e285:((x:Int) / 28).tmod 5=((x / 28 % 5:Nat):Int):=by rw[AV (by omega)];simp
  have e844:((x:Int) / 84).tmod 4=((x / 84 % 4:Nat):Int):=by rw[AV (by omega)];simp
  have e843:((x:Int) / 84).tmod 3=((x / 84 % 3:Nat):Int):=by rw[AV (by omega)];simp
  have e512:((x:Int) / 512).tmod 4=((x / 512 % 4:Nat):Int):=by rw[AV (by omega)];simp
  have b844:x / 84 % 4<4:=B6 _ (by omega)
  have b843:x / 84 % 3<3:=B6 _ (by omega)
  have b512:x / 512 % 4<4:=B6 _ (by omega)
  generalize x % 7=y7 at *
  generalize x / 7 % 4=y74 at *
  generalize x / 7 % 6=y76 at *
  generalize x / 28 % 3=y283 at *
  generalize x / 28 % 5=y285 at *
  generalize x / 84 % 4=y844 at *
  generalize x / 84 % 3=y843 at *
  generalize x / 512 % 4=y512 at *
  have hKn:K[inn]? = some (cnt (n+1)):=by rw[<- hK];exact zao (Aa.1 hin).1
  have hKl:K.length=H.length:=by rw[<- hK,Ay]
  obtain⟨K1,hK1⟩:∃K1,K.set iat (cnt a')=K1:=⟨_,rfl⟩
  rw[hK1]at hnext
  have h1a:K1[iat]? = some (cnt a'):=by rw[<- hK1];exact zao (Aa.1 hKa).1
  have h1n:K1[inn]? = some (cnt (n+1)):=by rw[<- hK1,Ad hne];exact hKn
  have h1l:K1.length=H.length:=by rw[<- hK1,Ay];exact hKl
  have h1k:∀y,y<H.length->y≠iat->y≠inn->K1[y]? = H[y]? := fun y _ h1 h2=>by
   rw[<- hK1,Ad (Ne.symm h1),<-hK,Ad (Ne.symm h2)]
  have leaf:∀(k:Int) (s:Bytes),s.length<=10->(k=4\/k=3/\s≠[])->GrownQ iat inn n deep H (.agg [J4 k, .p (.str []), .p (.str s), .p .nilslice, .p .nilslice]) K1:=fun k s hs hl=>by
   refine⟨_,a',n+1, .mk k [] s none none,rfl,h1a,h1n,by omega,by omega,by omega,h1k,by omega,?_,rfl,⟨?_,?_,fun u hu=>?_⟩⟩
   ·rw[show 20-deep=(19-deep)+1 by omega]
    exact All2.plain [.int .i64 k, .str [], .str s, .nilslice, .nilslice]
   ·simp only[Tree.size,ksize];omega
   ·simp only[Tree.height,kheight];omega
   ·have:u = .mk k [] s none none:=by simpa[Tree.nodes,knodes]using hu
    subst this
    refine⟨⟨by simp[Tree.name],hs,by simp[Tree.attrs,alist],by simp[Tree.attrs,alist]⟩,?_,?_⟩
    ·rcases hl with rfl|⟨rfl,hl⟩
     ·have:s.length<=4096:=by omega
      simp[nodeB,leafB,alist,this]
     ·have:s.length<=4096:=by omega
      simp[nodeB,leafB,alist,this,hl]
    ·rcases hl with rfl|⟨rfl,hl⟩<;>simp[Tree.kind]
  by_cases c7:y7=0
  ·subst c7
   have s1:=zom (s:=[120,121,122]) (h:=(y74:Int)) (by omega) (by simp;omega)
   simp(disch:=omega) [hup,l0,hw,zaa,hnext,e7,e74,s1]
   exact leaf _ _ (by simp<;>omega) (.inl rfl)
  ·have c7':¬(y7:Int)=0:=by omega
   by_cases ct:y7<3\/5<deep
   ·have s2:=zgh (s:=[97,98,99,100,101,102]) (l:=(y76:Int)) (h:=(y76:Int)+1) (by omega) (by omega) (by simp;omega)
    by_cases c3:(y7:Int)<3
    ·simp(disch:=omega) [hup,l0,hw,zaa,hnext,e7,e76,s2]
     exact leaf _ _ (by simp<;>omega) (.inr ⟨rfl,fun h=>by have:=congrArg List.length h;simp at this;omega⟩)
    ·have c5:(5:Int)<(deep:Int):=by omega
     simp(disch:=omega) [hup,l0,hw,zaa,hnext,e7,e76,s2]
     exact leaf _ _ (by simp<;>omega) (.inr ⟨rfl,fun h=>by have:=congrArg List.length h;simp at this;omega⟩)
   ·have c3:¬(y7:Int)<3:=by omega
    have c5:¬(5:Int)<(deep:Int):=by omega
    have c4:(0:Int)<=(y74:Int)/\(y74:Int)<4:=by omega
    obtain⟨nm,hnm,hnl,hnb⟩:∃nm:Bytes,nth [SV.str [98],SV.str [112],SV.str [100,105,118],SV.str [108,105]] y74=some (.str nm)/\nm.length<=10/\nameB nm=true:=by
     rcases(show y74=0\/y74=1\/y74=2\/y74=3 by omega)with rfl|rfl|rfl|rfl
     ·exact⟨[98],rfl,by simp,by decide⟩
     ·exact⟨[112],rfl,by simp,by decide⟩
     ·exact⟨[100,105,118],rfl,by simp,by decide⟩
     ·exact⟨[108,105],rfl,by simp,by decide⟩
    obtain⟨t3,ht3,s3⟩:∃t3:Bytes,t3.length<=10/\sliceStrF (.p (.str [48,49,50,51])) (some (J4 (y844:Int))) (some (J4 ((y844:Int)+1)))=some (.p (.str t3)):=⟨_,by simp;omega,zgh (by omega) (by omega) (by simp;omega)⟩
    obtain⟨t4,ht4,s4⟩:∃t4:Bytes,t4.length<=10/\sliceStrF (.p (.str [117,118])) none (some (J4 (y843:Int)))=some (.p (.str t4)):=⟨_,by simp;omega,zom (by omega) (by simp;omega)⟩
    have p0:(.p .nilslice:IVal) = .p .nilslice/\(0:Nat)=0/\([]:J3)=[]:=⟨rfl,rfl,rfl⟩
    have hiH:iat<H.length/\inn<H.length:=⟨(Aa.1 hia).1,(Aa.1 hin).1⟩
    have base:∀(AL:List (Bytes×Bytes)) (av:IVal) (G:J2) (hGl:H.length<=G.length) (hG:∀y,y<H.length->G[y]? = K1[y]?) (hva:av = .p .nilslice/\AL=[]\/∃ka,H.length<=ka/\HS G ka 2 AL.length av (pcells (acells AL))/\AL≠[]),GInv H iat inn (n+1) deep AL av (.p .nilslice) [] a' (n+1) G:=by
     intro AL av G hGl hG hva
     refine⟨by rw[hG _ hiH.1];exact h1a,by rw[hG _ hiH.2];exact h1n,by omega,by omega,by omega,hGl,fun y hy h1 h2=>by rw[hG y hy];exact h1k y hy h1 h2,?_, .inl ⟨rfl,rfl⟩,by simp[lsize],by simp[lheight],by simp[lnodes]⟩
     rcases hva with h|⟨ka,h1,h2,h3⟩
     ·exact .inl h
     ·exact .inr ⟨ka,h1,h2,(fun kb c d e he=>by simp at he),h3⟩
    by_cases c28:y283=0
    ·obtain⟨_,v1,G1,k1,f1,⟨u1,u2,u3,rfl⟩,f3,f4,f5,f6⟩:=zjb (H:=K1) (e:=2) (ys:=[.p (.str [105,100]), .p (.str t3)]) (.inl p0) rfl (by omega)
     have hk1:K1.length<=k1:=by
      rcases f6 with f6|⟨_,_,_,h,_⟩
      ·exact f6
      ·cases h
     by_cases c285:y285=0
     ·obtain⟨_,v2,G2,k2,g1,⟨w1,w2,w3,rfl⟩,g3,g4,g5,g6⟩:=zjb (H:=G1) (e:=2) (ys:=[.p (.str [120]), .p (.str t4)]) (.inr ⟨k1,f4⟩) rfl (by omega)
      have hk2:H.length<=k2:=by
       rcases g6 with g6|g6
       ·omega
       ·obtain⟨_,_,_,h,_⟩:=g6
        obtain⟨_,_,_,h2,_⟩:=f4
        rw[h]at h2;cases h2;omega
      simp(disch:=omega) [hup,l0,hw,zaa,hnext,e7,e74,c4,hnm,e28,e285,e844,e843,e512,c28,c285,s3,s4,f1,g1]
      refine zjw v hup deep (by omega) (IH (by omega)) H iat inn (n+1) hne hiH [([105,100],t3),([120],t4)] _ nm _ _ (fun kv ts a n0 G hG=>?_) y512 _ [] a' (n+1) G2 (by omega) (base _ _ _ (by omega) (fun y hy=>by rw[g5 y (by omega) (by omega),f5 y (by omega) (by omega)]) (.inr ⟨k2,hk2,g4,by simp⟩))
      obtain⟨q1,q2,q3⟩:=hG.done (by omega) nm hnl hnb (attrs2 ht3 ht4) (by simp<;>omega)
      simp(disch:=omega) []
      exact q3
     ·have c285':¬(y285:Int)=0:=by omega
      simp(disch:=omega) [hup,l0,hw,zaa,hnext,e7,e74,c4,hnm,e28,e285,e844,e512,c28,s3,f1]
      refine zjw v hup deep (by omega) (IH (by omega)) H iat inn (n+1) hne hiH [([105,100],t3)] _ nm _ _ (fun kv ts a n0 G hG=>?_) y512 _ [] a' (n+1) G1 (by omega) (base _ _ _ (by omega) (fun y hy=>by rw[f5 y (by omega) (by omega)]) (.inr ⟨k1,by omega,f4,by simp⟩))
      obtain⟨q1,q2,q3⟩:=hG.done (by omega) nm hnl hnb (attrs1 (.inl rfl) ht3) (by simp<;>omega)
      simp(disch:=omega) []
      exact q3
    ·have c28':¬(y283:Int)=0:=by omega
     by_cases c285:y285=0
     ·obtain⟨_,v2,G2,k2,g1,⟨w1,w2,w3,rfl⟩,g3,g4,g5,g6⟩:=zjb (H:=K1) (e:=2) (ys:=[.p (.str [120]), .p (.str t4)]) (.inl p0) rfl (by omega)
      have hk2:K1.length<=k2:=by
       rcases g6 with g6|⟨_,_,_,h,_⟩
       ·exact g6
       ·cases h
      simp(disch:=omega) [hup,l0,hw,zaa,hnext,e7,e74,c4,hnm,e28,e285,e843,e512,c285,s4,g1]
      refine zjw v hup deep (by omega) (IH (by omega)) H iat inn (n+1) hne hiH [([120],t4)] _ nm _ _ (fun kv ts a n0 G hG=>?_) y512 _ [] a' (n+1) G2 (by omega) (base _ _ _ (by omega) (fun y hy=>by rw[g5 y (by omega) (by omega)]) (.inr ⟨k2,by omega,g4,by simp⟩))
      obtain⟨q1,q2,q3⟩:=hG.done (by omega) nm hnl hnb (attrs1 (.inr rfl) ht4) (by simp<;>omega)
      simp(disch:=omega) []
      exact q3
     ·have c285':¬(y285:Int)=0:=by omega
      simp(disch:=omega) [hup,l0,hw,zaa,hnext,e7,e74,c4,hnm,e28,e285,e512]
      refine zjw v hup deep (by omega) (IH (by omega)) H iat inn (n+1) hne hiH [] _ nm _ _ (fun kv ts a n0 G hG=>?_) y512 _ [] a' (n+1) K1 (by omega) (base _ _ _ (by omega) (fun y _=>rfl) (.inl ⟨rfl,rfl⟩))
      obtain⟨q1,q2,q3⟩:=hG.done (by omega) nm hnl hnb rfl (by simp<;>omega)
      simp(disch:=omega) []
      exact q3
 obtain⟨r,H',e1,cs,a2,n2,t,rfl,q⟩:=e
 exact⟨cs,H',a2,n2,t,e1,q⟩
theorem zyp (v:PVal) (L:List Int) (hv:IV v L):∀(k deep:Nat),deep+k=6->GrownSays v deep
 |0,deep,h=>zadd v L hv deep (by omega) (fun h=>by omega)
 |k+1,deep,h=>zadd v L hv deep (by omega) (fun _=>zyp v L hv k (deep+1) (by omega))
theorem zvd (v:PVal) (_:up (.p v) = .v (.p v)) (IH:GrownSays v 1) (z:KB) (Q:J0)
 (hQ:∀kv ts a n G,GInv [cnt 0,cnt 0] 0 1 0 0 [] (.p .nilslice) kv ts a n G->Q .normal [(2, .box 2 0),(5, .box 5 0)] ⟨[(5,some ⟨[.int .i64 1, .str [], .str [], .v (.p .nilslice), .v kv],5⟩),(2,some z)],G⟩) :
 ∀(k:Nat) (kv:IVal) (ts:List Tree) (a n:Nat) (G:J2),k<=4->GInv [cnt 0,cnt 0] 0 1 0 0 [] (.p .nilslice) kv ts a n G ->
 wpLoop (CW tr.look) 27 m_Q15_0 l_Q15_0 (blkK 0 b_Q15_0 Q) [(0, .v (.p v)),(2, .box 2 0),(3, .v (J5 0 0 0)),(4, .v (J5 1 0 0)),(5, .box 5 0),(6, .int .i64 ((k:Int)-1))] ⟨[(5,some ⟨[.int .i64 1, .str [], .str [], .v (.p .nilslice), .v kv],5⟩),(2,some z)],G⟩:=by
 intro k
 induction k with
 |zero =>
  intro kv ts a n G hk hG
  refine zbd ?_
  dsimp only[l_Q15_0]
  simp(disch:=omega) []
  exact hQ kv ts a n G hG
 |succ k ih =>
  intro kv ts a n G hk hG
  refine zbd ?_
  dsimp only[l_Q15_0]
  have l0:loadVal ⟨[],G⟩ none (J5 1 0 0)=some (J4 n):=zad hG.hn rfl
  have hc:((k+1:Nat):Int)-1=(k:Int):=by omega
  rw[hc]
  by_cases hn:n<40
  ·have hn':(n:Int)<40:=by omega
   obtain⟨cs,G',a',n',t,e0,e1,e2,e3,e4,e5,e6,e7,e8,e9,e10⟩:=IH 0 1 a n G (by omega) hG.ha hG.hn hn hG.b3
   obtain⟨uk,kv',G2,f1,⟨u1,u2,u3,rfl⟩,f2⟩:=hG.kid (by simp) (by omega) e1 e2 e3 e4 e5 e6 e7 e8 e9 e10
   have e0':CW tr.look F_Q45 [.p v, J5 0 0 0, J5 1 0 0, J4 1] G=some (.agg cs,G'):=e0
   obtain⟨c0,c1,c2,c3,c4,rfl⟩:∃c0 c1 c2 c3 c4,cs=[c0,c1,c2,c3,c4]:=by
    match cs,e9 with
    | [c0,c1,c2,c3,c4],_=>exact⟨c0,c1,c2,c3,c4,rfl⟩
   have hku:kv≠.undef:=by rcases hG.vk with⟨rfl,_⟩|⟨_,_,_,⟨_,_,_,rfl,_⟩,_⟩<;>simp
   simp(disch:=omega) [l0,hku,zcl,zaa,e0',f1]
   exact ih _ _ _ _ _ (by omega) f2
  ·have hn':¬(n:Int)<40:=by omega
   simp(disch:=omega) [l0]
   exact hQ kv ts a n G hG
theorem zajp {k:Int} {n x:Bytes} {a:Option Attrs} {c:Option (List Tree)}:IVal.agg [J4 k, .p (.str n), .p (.str x), .p (aval a), .p (kval c)]=tagg (.mk k n x a c):=rfl
theorem zabc (t:Tree):t.deep=t.height:=by
 have key:∀(n:Nat) (t:Tree),t.size<n->t.deep=t.height:=by
  intro n
  induction n with
  |zero=>intro t h;omega
  |succ n ih =>
   intro t h
   have hts:=zag t
   rw[zni,zbq]
   have:∀l:List Tree,lsize l<n->ldeep l=lheight l:=by
    intro l
    induction l with
    |nil=>intro _;rfl
    |cons x l ihl =>
     intro hl
     simp only[lsize]at hl
     simp only[ldeep,lheight,ih x (by omega),ihl (by omega)]
   rw[this _ (by omega)]
 exact key _ t (Al _)
theorem zabd (v:PVal) (L:List Int) (hv:IV v L):∃t,GT t 41 7/\checkB t=true/\∀H,CW tr.look F_Q15 [.p v] H=some (tagg t,H):=by
 have hup:=hv.up
 obtain⟨x,a',hx,a1,a2,hnext⟩:=zvb v L hv 0 0 [cnt 0,cnt 0] rfl (by omega)
 have e4:(x:Int).tmod 4=((x % 4:Nat):Int):=by rw[AV (by omega)];simp
 have b4:x % 4<4:=B6 _ (by omega)
 generalize x % 4=y at *
 obtain⟨r,e1,t,rfl,e2,e3⟩:∃r,CW tr.look F_Q15 [.p v] []=some (r,[])/\∃t,r=tagg t/\GT t 41 7/\checkB t=true:=by
  refine zdh look_Q15 rfl (zbc (by simp)) rfl ?_
  dsimp only[i_Q15,c_Q15]
  have hnext':CW tr.look F_Q44 [.p v, J5 0 0 0] [IBlk.cells [J4 0] 1 0 false,IBlk.cells [J4 0] 1 0 false]=some (J4 x,[cnt a',cnt 0]):=hnext
  have w1:writeCells ⟨[],[IBlk.cells [J4 0] 1 0 false,IBlk.cells [J4 0] 1 0 false]⟩ (J5 0 0 0) [J4 0]=some ⟨[],[IBlk.cells [J4 0] 1 0 false,IBlk.cells [J4 0] 1 0 false]⟩:=rfl
  have w2:writeCells ⟨[],[IBlk.cells [J4 0] 1 0 false,IBlk.cells [J4 0] 1 0 false]⟩ (J5 1 0 0) [J4 0]=some ⟨[],[IBlk.cells [J4 0] 1 0 false,IBlk.cells [J4 0] 1 0 false]⟩:=rfl
  simp(disch:=omega) [hup,hnext',w1,w2,e4]
  have hc:(y:Int)=((y+1:Nat):Int)-1:=by omega
  rw[hc]
  have h0:GInv [cnt 0,cnt 0] 0 1 0 0 [] (.p .nilslice) (.p .nilslice) [] a' 0 [cnt a',cnt 0]:=by
   refine⟨rfl,rfl,Ak _,by omega,by omega,by simp,fun x hx h1 h2=>?_, .inl ⟨rfl,rfl⟩, .inl ⟨rfl,rfl⟩,by simp[lsize],by simp[lheight],by simp[lnodes]⟩
   simp at hx;omega
  refine zvd v hup (zyp v L hv 5 1 rfl) _ _ (fun kv ts a n G hG=>?_) (y+1) _ [] a' 0 _ (by omega) h0
  have uk:up kv = .v kv:=by rcases hG.vk with⟨rfl,_⟩|⟨_,_,_,⟨_,_,_,rfl,_⟩,_⟩<;>rfl
  have hfz:freezeCell G 100 kv=some (kval (nonil ts)):=by
   rcases hG.vk with⟨rfl,rfl⟩|⟨kb,X,h1,h2,h3,hn⟩
   ·rfl
   ·unfold nonil
    rw[if_neg hn]
    exact zho (zaw (n:=20) (by omega) (h2.frz h1 (h3.imp fun v p hv=>zbh (fun k hk _=>⟨hk.1,rfl⟩) hv)))
  have hagg:freezeOne G (.agg [J4 1, .p (.str []), .p (.str []), .p .nilslice,kv])=some (tagg (.mk 1 [] [] none (nonil ts))):=by
   rw[<- zajp]
   have p:∀x:PVal,freezeCell G 100 (.p x)=some x:=fun _=>rfl
   simp only[freezeOne,freezeList,p,hfz,pcells,At,Cc]
   rfl
  simp(disch:=omega) []
  rw[hagg]
  have hsz:(Tree.mk 1 [] [] none (nonil ts)).size<=41:=by
   have:=hG.sz
   have:=hG.b2
   rw[zag]
   show lsize (klist (nonil ts))+1<=_
   rw[zch];omega
  have hhh:(Tree.mk 1 [] [] none (nonil ts)).height<=7:=by
   have:=hG.hh
   rw[zbq]
   show lheight (klist (nonil ts))+1<=_
   rw[zch];omega
  refine⟨_,rfl,_,rfl,⟨hsz,hhh,fun u hu=>?_⟩,?_⟩
  ·rw[zbr]at hu
   rcases Aj.1 hu with rfl|hu
   ·exact⟨by simp[Tree.name],by simp[Tree.text],by simp[Tree.attrs,alist],by simp[Tree.attrs,alist]⟩
   ·have:klist (Tree.mk 1 [] [] none (nonil ts)).kids=ts:=zch ts
    rw[this]at hu
    exact(hG.ns u hu).1
  ·have hk:kidsB true (klist (nonil ts))=true:=by
    rw[zch]
    exact zvc fun u hu=>hG.ns u (zrf hu)
   have hd:(Tree.mk 1 [] [] none (nonil ts)).deep<=60:=by rw[zabc];omega
   have hs3:(Tree.mk 1 [] [] none (nonil ts)).size<=300:=by omega
   show(decide ((1:Int)=1)&&decide ((Tree.mk 1 [] [] none (nonil ts)).size<=300)&&decide ((Tree.mk 1 [] [] none (nonil ts)).deep<=60)&&(decide (([]:Bytes)=[])&&decide (([]:Bytes)=[]))&&decide ((alist none).length=0)&&kidsB true (klist (nonil ts)))=true
   rw[hk,decide_eq_true hd,decide_eq_true hs3]
   simp[alist]
 exact⟨t,e2,e3,fun H=>zix look_Q15 rfl (by simp) e1⟩
theorem GT.fine {t:Tree} {m d:Nat} (h:GT t m d) (hm:m<1000000):Fine t:=⟨by have:=h.sz;omega,fun u hu=>by have:=(h.ns u hu).2.2.1;omega⟩
theorem GT.str {t:Tree} {m d:Nat} (h:GT t m d):∀u∈t.nodes,NodeStr u:=fun u hu=>by
 obtain⟨h1,h2,h3,h4⟩:=h.ns u hu
 exact⟨by omega,by omega,by omega,fun p hp=>by have:=h4 p hp;omega⟩
section
variable {G:J2} {d lo:Nat} {kv:IVal} {ts:List Tree} {ys:J3}
theorem zaok {H:J2} {v:IVal} {e n ny:Nat} {X:J3} (hv:v = .p .nilslice/\n=0/\X=[]\/∃kl,HS H kl e n v X) (hy:ys.length=ny*e) (h0:0<ny) (hb:n+ny<1000000) :
 up v = .v v/\∃v' H2 kl,evalAppend ⟨[],H++[.cells ys e 0 false]⟩ e v (.slice H.length 0 0 ny)=some (v',⟨[],H2⟩)/\(∃ b c,v' = .slice kl b 0 c)/\H.length<=H2.length/\HS H2 kl e (n+ny) v' (X++ys)/\(∀ y,y<H.length->y≠kl->H2[y]? = H[y]?)/\(H.length<=kl\/∃b c d,v = .slice kl b c d):=by
 have hsrc:srcCells ⟨[],H++[.cells ys e 0 false]⟩ e (.slice H.length 0 0 ny)=some ys:=zbv (op:=false) zaz hy
 rcases hv with⟨rfl,rfl,rfl⟩|⟨kl,hs⟩
 ·refine⟨rfl,_,_,H.length+1,append_nil (bx:=[]) hsrc rfl h0 (by omega),⟨0,ny,by simp⟩,by simp,⟨0,_,true,by simp,by rw[Ae (by simp)];simp;rfl,by simp[hy],by rw[AK,Au (by simp[hy])]⟩,fun y hl _=>?_, .inl (by omega)⟩
  rw[Ab (by simp;omega),Ab hl]
 ·obtain⟨ver,cs,op,rfl,hk,hn,hx⟩:=hs
  have hkl:=(Aa.1 hk).1
  have happ:=zbi (bx:=[]) (H:=H++[.cells ys e 0 false]) (y := .slice H.length 0 0 ny) (ny:=ny) (by rw[Ab hkl];exact hk) hn (ys:=ys) hsrc rfl h0 (by omega)
  have hnew:=zgr (H:=H++[.cells ys e 0 false]) (ver:=ver) (op:=op) (ys:=ys) (ny:=ny) (k:=kl) (by simp;omega) hn hy
  rw[hx]at hnew
  refine⟨rfl,_,_,kl,happ,⟨_,_,rfl⟩,by simp,hnew,fun y hl hne=>?_, .inr ⟨_,_,_,rfl⟩⟩
  rw[Ad (Ne.symm hne),Ab hl]
def KOK (lo d:Nat) (kv:IVal) (ts:List Tree) (G:J2):Prop:=kv = .p .nilslice/\ts=[]\/∃kb X,lo<=kb/\HS G kb 5 ts.length kv X/\All2 (frzP (fun k=>lo<=k/\k≠kb) G d) X (kcells ts)/\ts≠[]
theorem KOK.up (h:KOK lo d kv ts G):up kv = .v kv/\kv≠.undef:=by
 rcases h with⟨rfl,_⟩|⟨_,_,_,⟨_,_,_,rfl,_⟩,_⟩<;>exact⟨rfl,by simp⟩
theorem zri:∀(a b:List Tree),kcells (a++b)=kcells a++kcells b
 | [],b=>rfl
 |t::a,b=>by simp only[Aq,kcells,zri a b,As]
theorem znp:∀ts:List Tree,(kcells ts).length=ts.length*5
 | []=>rfl
 |t::ts=>by rw[kcells,Af,znp ts,Tree.zau];simp;omega
theorem All2.len {R:IVal->PVal->Prop}:∀ {l:J3} {m:List PVal},All2 R l m->l.length=m.length
 | [],m,e=>by simp only[All2]at e;subst e;rfl
 |v::vs,m,⟨p,ps,e,_,h⟩=>by subst e;simp[h.len]
theorem KOK.keep {G':J2} (h:KOK lo d kv ts G) (hk:∀k,lo<=k->k<G.length->G'[k]? = G[k]?):KOK lo d kv ts G':=by
 rcases h with h|⟨kb,X,h1,h2,h3,h4⟩
 ·exact .inl h
 ·exact .inr ⟨kb,X,h1,h2.keep (hk kb h1 h2.lt),h3.imp fun v p hv=>zbh (fun k hk' hl=>⟨hk',hk k hk'.1 hl⟩) hv,h4⟩
theorem KOK.app {us:List Tree} (h:KOK lo d kv ts G) (hlo:lo<=G.length) (hy:All2 (frzP (fun k=>lo<=k/\∀kb a b c,kv = .slice kb a b c->k≠kb) G d) ys (kcells us)) (h0:0<us.length) (hb:ts.length+us.length<1000000) :
 ∃kv' G2,evalAppend ⟨[],G++[.cells ys 5 0 false]⟩ 5 kv (.slice G.length 0 0 us.length)=some (kv',⟨[],G2⟩)/\(∃ a b c,kv' = .slice a b 0 c)/\G.length<=G2.length/\(∀ y,y<lo->G2[y]? = G[y]?)/\KOK lo d kv' (ts++us) G2:=by
 have hyl:=hy.len
 rw[znp]at hyl
 obtain⟨X,hX,hXa⟩:∃X,(kv = .p .nilslice/\ts.length=0/\X=[]\/∃kl,HS G kl 5 ts.length kv X)/\All2 (frzP (fun k=>lo<=k/\∀kb a b c,kv = .slice kb a b c->k≠kb) G d) X (kcells ts):=by
  rcases h with⟨h1,h2⟩|⟨kb,X,h1,h2,h3,_⟩
  ·exact⟨[], .inl ⟨h1,by simp[h2],rfl⟩,by subst h2;rfl⟩
  ·refine⟨X, .inr ⟨kb,h2⟩,h3.imp fun v p hv=>zbh (fun k hk hl=>⟨⟨hk.1,fun kb' a b c he=>?_⟩,rfl⟩) hv⟩
   obtain⟨_,_,_,hh,_⟩:=h2
   rw[hh]at he;cases he;exact hk.2
 obtain⟨_,v',G2,kl,f1,⟨b,c,rfl⟩,f3,f4,f5,f6⟩:=zaok (H:=G) (v:=kv) (e:=5) (n:=ts.length) (ny:=us.length) hX hyl h0 hb
 have hkl:lo<=kl:=by
  rcases f6 with f6|⟨b',c',d',f6⟩
  ·omega
  ·rcases h with⟨h1,_⟩|⟨kb,_,h1,h2,_⟩
   ·rw[h1]at f6;cases f6
   ·obtain⟨_,_,_,hh,_⟩:=h2
    rw[f6]at hh;cases hh;exact h1
 have hne:∀k,k<G.length->(∀ kb a b c,kv = .slice kb a b c->k≠kb)->k≠kl:=by
  intro k hk h1
  rcases f6 with f6|⟨b',c',d',f6⟩
  ·omega
  ·exact h1 _ _ _ _ f6
 refine⟨_,G2,f1,⟨_,_,_,rfl⟩,f3,fun y hy=>f5 y (by omega) (by omega), .inr ⟨kl,X++ys,hkl,by rw[Af];exact f4,?_,fun e=>?_⟩⟩
 ·rw[zri]
  exact(hXa.append hy).imp fun v p hv=>zbh (fun k hk hl=>⟨⟨hk.1,hne k hl hk.2⟩,f5 k hl (hne k hl hk.2)⟩) hv
 ·have:=congrArg List.length e
  simp at this
  rw[this.2]at h0;simp at h0
theorem KOK.pre {u:Tree} (h:KOK lo d kv ts G) (hlo:lo<=G.length) (hy:All2 (frzP (fun k=>lo<=k) G d) ys u.cells) (hb:ts.length+1<1000000) :
 ∃kv' G2,evalAppend ⟨[],G++[.cells ys 5 0 false]⟩ 5 (.slice G.length 0 0 1) kv=some (kv',⟨[],G2⟩)/\(∃ a b c,kv' = .slice a b 0 c)/\G.length<=G2.length/\(∀ y,y<lo->G2[y]? = G[y]?)/\KOK lo d kv' (u::ts) G2:=by
 have hyl:=hy.len
 rw[Tree.zau]at hyl
 have hyl:ys.length=5:=hyl
 have hget:(G++[IBlk.cells ys 5 0 false])[G.length]? = some (.cells ys 5 0 false):=zaz
 rcases h with⟨rfl,rfl⟩|⟨kb,X,h1,h2,h3,h4⟩
 ·refine⟨.slice G.length 0 0 1,G++[.cells ys 5 0 false],?_,⟨_,_,_,rfl⟩,by simp,fun y hy=>Ab (by omega), .inr ⟨G.length,ys,hlo,⟨0,ys,false,rfl,hget,by simp[hyl],by rw[Au (by simp[hyl])]⟩,?_,by simp⟩⟩
  ·have hc:((Nat.beq 0 0&&Nat.beq 5 5)&&Nat.ble (0+1*5) ys.length)=true:=by rw[hyl];rfl
   have hm:Nat.ble (1+0) maxAppend=true:=rfl
   have hl:srcLen (.p .nilslice)=some 0:=rfl
   simp only[evalAppend,srcCells,sliceLen,hl,Mem.get,hget,hc,hm]
  ·show All2 _ ys (u.cells++[])
   rw[AH]
   exact hy.imp fun v p hv=>zbh (fun k hk hl=>⟨⟨hk,by omega⟩,Ab hl⟩) hv
 ·have hkb:=h2.lt
  have hts:0<ts.length:=by
   rcases BH ts.length with h|h
   ·exact absurd (Aw.1 h) h4
   ·exact h
  have h2':HS (G++[IBlk.cells ys 5 0 false]) kb 5 ts.length kv X:=h2.keep (Ab hkb)
  have hXl:X.length=ts.length*5:=by have:=h3.len;rw[znp]at this;exact this
  have h2k:=h2'
  obtain⟨ver,cs,op,rfl,hk,hn,hx⟩:=h2'
  have hsrc:srcCells ⟨[],G++[IBlk.cells ys 5 0 false]⟩ 5 (.slice kb ver 0 ts.length)=some X:=by
   have hc:((Nat.beq ver ver&&Nat.beq 5 5)&&Nat.ble (0+ts.length*5) cs.length)=true:=by
    rw[AF,AF,A3,A3,AB]
    exact AE hn
   simp only[srcCells,Mem.get,hk,hc,BC,hx]
  have happ:=zbi (bx:=[]) (H:=G++[IBlk.cells ys 5 0 false]) (k:=G.length) (n:=1) (ny:=ts.length) hget (by simp[hyl]) hsrc rfl hts (by omega)
  have hnew:=zgr (H:=G++[IBlk.cells ys 5 0 false]) (ver:=0) (op:=false) (cs:=ys) (ys:=X) (n:=1) (ny:=ts.length) (k:=G.length) (esz:=5) (by simp) (by simp[hyl]) hXl
  have ht:ys.take (1*5)=ys:=Au (by simp[hyl])
  rw[ht]at hnew
  refine⟨_,_,happ,⟨_,_,_,rfl⟩,by simp,fun y hy=>by rw[Ad (by omega),Ab (by omega)], .inr ⟨G.length,ys++X,hlo,?_,?_,by simp⟩⟩
  ·rw[Ax,BJ];exact hnew
  ·show All2 _ (ys++X) (u.cells++kcells ts)
   have hkeep:∀k,k<G.length->((G++[IBlk.cells ys 5 0 false]).set G.length (appBlk ys X 5 1 ts.length 0 false))[k]? = G[k]? := fun k hl=>by
    rw[Ad (by omega),Ab hl]
   refine All2.append (hy.imp fun v p hv=>zbh (fun k hk hl=>⟨⟨hk,by omega⟩,hkeep k hl⟩) hv) (h3.imp fun v p hv=>zbh (fun k hk hl=>⟨⟨hk.1,by omega⟩,hkeep k hl⟩) hv)
end
def TurnedQ (t:Tree) (iat a:Nat) (H:J2) (r:IVal) (H':J2):Prop:=∃(cs:J3) (a':Nat) (u:Tree),r = .agg cs/\H'[iat]? = some (cnt a')/\a<=a'/\a'+1<=a+2*t.size/\(∀ x,x<H.length->x≠iat->H'[x]? = H[x]?)/\H.length<=H'.length /\
 All2 (frzP (fun k=>H.length<=k) H' (2*t.height)) cs u.cells/\cs.length=5/\u.size+1<=2*t.size/\u.height+1<=2*t.height/\((∀ w∈t.nodes,NS w)->∀w∈u.nodes,NS w)
def TurnedSays (v:PVal) (t:Tree):Prop:=∀(iat a deep:Nat) (H:J2),H[iat]? = some (cnt a)->a+2*t.size<1000000->deep+t.height<1000000 ->
 ∃r H',CW tr.look F_Q46 [tagg t, .p v, J5 iat 0 0, J4 deep] H=some (r,H')/\TurnedQ t iat a H r H'
structure TInv (t:Tree) (H0:J2) (iat a0:Nat) (j:Nat) (kv:IVal) (ts:List Tree) (a:Nat) (G:J2):Prop where
 ha:G[iat]? = some (cnt a)
 b1:a0<=a
 b2:a<=a0+1+2*lsize ((klist t.kids).take j)
 le:H0.length<=G.length
 fr:∀x,x<H0.length->x≠iat->G[x]? = H0[x]?
 ks:KOK H0.length (2*t.height-1) kv ts G
 sz:lsize ts<=2*lsize ((klist t.kids).take j)
 hh:lheight ts+2<=2*t.height
 ns:(∀ w∈t.nodes,NS w)->∀u∈lnodes ts,NS u
theorem KOK.zaol {lo d:Nat} {kv:IVal} {ts:List Tree} {G:J2} (h:KOK lo d kv ts G) {kb a b c:Nat} (e:kv = .slice kb a b c):kb<G.length:=by
 rcases h with⟨h1,_⟩|⟨_,_,_,h2,_⟩
 ·rw[h1]at e;cases e
 ·have:=h2.lt
  obtain⟨_,_,_,hh,_⟩:=h2
  rw[hh]at e;cases e;exact this
theorem zhp:∀(a b:List Tree),lheight (a++b)=max (lheight a) (lheight b)
 | [],b=>by simp[lheight]
 |t::a,b=>by simp only[Aq,lheight,zhp a b];omega
theorem zte:∀(a b:List Tree),lnodes (a++b)=lnodes a++lnodes b
 | [],b=>rfl
 |t::a,b=>by simp only[Aq,lnodes,zte a b,As]
theorem zafh {t u:Tree} (hu:u∈klist t.kids):u.height+1<=t.height:=by
 rw[zbq t]
 have:∀l:List Tree,u∈l->u.height<=lheight l:=by
  intro l
  induction l with
  |nil=>intro h;simp at h
  |cons x l ih =>
   intro h
   simp only[lheight]
   rcases Aj.1 h with rfl|h
   ·omega
   ·have:=ih h;omega
 have:=this _ hu
 omega
theorem TInv.next {t:Tree} {H0:J2} {iat a0 j:Nat} {kv kv':IVal} {ts ts':List Tree} {a a':Nat} {G G2:J2} (h:TInv t H0 iat a0 j kv ts a G) (hj:j<(klist t.kids).length)
 (e1:G2[iat]? = some (cnt a')) (e2:a<=a'/\a'<=a+2*(klist t.kids)[j].size) (e3:G.length<=G2.length) (e4:∀x,x<H0.length->x≠iat->G2[x]? = G[x]?) (e5:KOK H0.length (2*t.height-1) kv' ts' G2)
 (e6:lsize ts'<=lsize ts+2*(klist t.kids)[j].size) (e7:lheight ts'+2<=2*t.height) (e8:(∀ w∈t.nodes,NS w)->∀u∈lnodes ts',NS u):TInv t H0 iat a0 (j+1) kv' ts' a' G2:=by
 have hs:=zbf hj
 refine⟨e1,by have:=h.b1;omega,by have:=h.b2;omega,by have:=h.le;omega,fun x hx hne=>(e4 x hx hne).trans (h.fr x hx hne),e5,by have:=h.sz;omega,e7,e8⟩
theorem zde (v:PVal) (L:List Int) (hv:IV v L) (t:Tree) (_:Fine t) (IH:∀u∈klist t.kids,TurnedSays v u) (H0:J2) (iat a0 deep:Nat) (hi:iat<H0.length) (hb:a0+2*t.size<1000000) (hdb:deep+t.height<1000000) (tx:Bytes) (av:IVal) (z:KB) (Q:J0)
 (hQ:∀kv ts a G,TInv t H0 iat a0 (klist t.kids).length kv ts a G->∀B,Q .normal [(8, .box 8 0),(9, .box 9 0)] ⟨(9,some ⟨[.int .i64 t.kind, .str t.name, .str tx, .v av, .v kv],5⟩)::(8,some z)::B,G⟩) (_:True) (kv0:IVal) (G0:J2) (a1:Nat) (h0:TInv t H0 iat a0 0 kv0 [] a1 G0) :
 wpLoop (CW tr.look) 133 m_Q46_0 l_Q46_0 (blkK 1 b_Q46_1 Q) [(1, .v (.p v)),(2, .v (J5 iat 0 0)),(3, .int .i64 deep),(4, .box 4 0),(8, .box 8 0),(9, .box 9 0),(11, .int .i64 0)]
  ⟨[(9,some ⟨[.int .i64 t.kind, .str t.name, .str tx, .v av, .v kv0],5⟩),(8,some z),(4,some ⟨[.int .i64 t.kind, .str t.name, .str t.text, .v (.p (aval t.attrs)), .v (.p (kval t.kids))],5⟩)],G0⟩:=by
 have hts:=zag t
 refine zac (α:=Nat×IVal×List Tree×Nat×J2) (fun s=>[(1, .v (.p v)),(2, .v (J5 iat 0 0)),(3, .int .i64 deep),(4, .box 4 0),(8, .box 8 0),(9, .box 9 0),(11, .int .i64 s.1)])
  (fun s=>⟨[(9,some ⟨[.int .i64 t.kind, .str t.name, .str tx, .v av, .v s.2.1],5⟩),(8,some z),(4,some ⟨[.int .i64 t.kind, .str t.name, .str t.text, .v (.p (aval t.attrs)), .v (.p (kval t.kids))],5⟩)],s.2.2.2.2⟩)
  (fun s=>s.1<=(klist t.kids).length/\TInv t H0 iat a0 s.1 s.2.1 s.2.2.1 s.2.2.2.1 s.2.2.2.2) (fun s=>(klist t.kids).length-s.1) ?_ (0,kv0,[],a1,G0) ⟨AW _,h0⟩
 rintro⟨j,kv,ts,a,G⟩ ⟨hj,hT⟩ R hR
 dsimp only at hj hT hR ⊢
 dsimp only[l_Q46_0]
 have hup:=hv.up
 by_cases hjl:j<(klist t.kids).length
 ·have hu:(klist t.kids)[j]∈klist t.kids:=A4 hjl
  have ix:=zcu hjl
  have hsk:=zbf hjl
  have hle2:lsize ((klist t.kids).take (j+1))<=lsize (klist t.kids):=by
   have h1:=zah ((klist t.kids).take (j+1)) ((klist t.kids).drop (j+1))
   rw[Bs]at h1;omega
  have hkl:(klist t.kids).length<=lsize (klist t.kids):=by
   have:∀l:List Tree,l.length<=lsize l:=by
    intro l
    induction l with
    |nil=>simp
    |cons x l ih=>have:=zab x;simp only[lsize,Ax];omega
   exact this _
  have b1:=hT.b1
  have b2:=hT.b2
  have hhk:=zafh hu
  have onek:=zab (klist t.kids)[j]
  have hok:j<lsize (klist t.kids):=by omega
  obtain⟨w,a2,hw,q1,q2,hnext⟩:=zvb v L hv iat a G hT.ha (by omega)
  obtain⟨K,hK⟩:∃K,G.set iat (cnt a2)=K:=⟨_,rfl⟩
  rw[hK]at hnext
  have hiG:iat<G.length:=by have:=hT.le;omega
  have hKa:K[iat]? = some (cnt a2):=by rw[<- hK];exact zao hiG
  have hKx:∀x,x≠iat->K[x]? = G[x]? := fun x hx=>by rw[<- hK,Ad (Ne.symm hx)]
  have hKl:K.length=G.length:=by rw[<- hK,Ay]
  obtain⟨r,G1,c1,cs,a3,u,rfl,r1,r2,r3,r4,r5,r6,r7,r8,r9,r10⟩:=IH _ hu iat a2 (deep+1) K hKa (by omega) (by omega)
  have hnsk:(∀ w∈t.nodes,NS w)->∀w∈u.nodes,NS w:=fun h=>r10 fun w hw=>h w (by
   rw[zbr];exact An _ (zfj.2 ⟨_,hu,hw⟩))
  have c1':CW tr.look F_Q46 [tagg (klist t.kids)[j], .p v, J5 iat 0 0, J4 ((deep:Int)+1)] K=some (.agg cs,G1):=c1
  have hG1:∀x,x<G.length->x≠iat->G1[x]? = G[x]? := fun x hx hne=>by rw[r4 x (by omega) hne,hKx x hne]
  have hK1:KOK H0.length (2*t.height-1) kv ts G1:=hT.ks.keep fun k hk hl=>hG1 k hl (by omega)
  have hle:=hT.le
  have hcs:All2 (frzP (fun k=>G.length<=k) G1 (2*t.height-2)) cs u.cells:=r6.imp fun v p hv=>zaw (by omega) (zbh (fun k hk _=>⟨by omega,rfl⟩) hv)
  have hnk:∀k,G.length<=k->∀kb a b c,kv = .slice kb a b c->k≠kb:=fun k hk kb a b c he=>by
   have:=hT.ks.zaol he;omega
  have htl:ts.length+2<1000000:=by
   have h1:ts.length<=lsize ts:=by
    have:∀l:List Tree,l.length<=lsize l:=by
     intro l
     induction l with
     |nil=>simp
     |cons x l ih=>have:=zab x;simp only[lsize,Ax];omega
    exact this _
   have:=hT.sz
   omega
  obtain⟨uk,hku⟩:=hT.ks.up
  have e13:(w:Int).tmod 13=((w % 13:Nat):Int):=by rw[AV (by omega)];simp
  generalize w % 13=y at *
  obtain⟨k0,d1,d2,d3,d4,rfl⟩:∃k0 d1 d2 d3 d4,cs=[J4 k0,d1,d2,d3,d4]:=by
   match cs,r7,hcs with
   | [c0,c1,c2,c3,c4],_,h =>
     rw[Tree.zau]at h
     obtain⟨p,ps,e,hp,_⟩:=h
     cases e
     obtain⟨m,hm⟩:∃m,2*t.height-2=m+1:=⟨2*t.height-3,by omega⟩
     rw[hm]at hp
     unfold frzP at hp
     cases c0 with
     |p w=>simp only at hp;subst hp;exact⟨_,_,_,_,_,rfl⟩
     |slice k ver off len=>obtain⟨_,_,_,_,_,_,_,hh,_⟩:=hp;cases hh
     |_=>exact hp.elim
  have hcsd:All2 (frzP (fun k=>H0.length<=k/\∀kb a b c,kv = .slice kb a b c->k≠kb) G1 (2*t.height-1)) [J4 k0,d1,d2,d3,d4] u.cells:=hcs.imp fun v p hv=>zaw (by omega) (zbh (fun k hk _=>⟨⟨by omega,hnk k hk⟩,rfl⟩) hv)
  have hnx:∀(kv':IVal) (ts':List Tree) (G2:J2),G1.length<=G2.length->(∀ y,y<H0.length->G2[y]? = G1[y]?)->KOK H0.length (2*t.height-1) kv' ts' G2->lsize ts'<=lsize ts+2*(klist t.kids)[j].size->lheight ts'+2<=2*t.height->((∀ w∈t.nodes,NS w)->∀u∈lnodes ts',NS u)->TInv t H0 iat a0 (j+1) kv' ts' a3 G2:=by
   intro kv' ts' G2 g1 g2 g3 g4 g5 g6
   exact hT.next hjl (by rw[g2 iat hi];exact r1) ⟨by omega,by omega⟩ (by omega) (fun x hx hne=>by rw[g2 x hx];exact hG1 x (by omega) hne) g3 g4 g5 g6
  have hns0:=hT.ns
  have hhh:=hT.hh
  have hls:∀x:Tree,lsize [x]=x.size:=fun x=>by simp[lsize]
  have hlh:∀x:Tree,lheight [x]=x.height:=fun x=>by simp[lheight]
  have hln:∀x:Tree,lnodes [x]=x.nodes:=fun x=>by simp[lnodes]
  have hnsapp:∀us:List Tree,((∀ w∈t.nodes,NS w)->∀u∈lnodes us,NS u)->(∀ w∈t.nodes,NS w)->∀u∈lnodes (ts++us),NS u:=fun us h hn w hw=>by
   rw[zte]at hw
   rcases Ar.1 hw with hw|hw
   ·exact hns0 hn w hw
   ·exact h hn w hw
  obtain⟨kvA,GA,fA,⟨sA1,sA2,sA3,rfl⟩,lA,oA,kA⟩:=hK1.app (us:=[u]) (by omega) (by simpa[kcells]using hcsd) (by simp) (by simp;omega)
  have tA:TInv t H0 iat a0 (j+1) (.slice sA1 sA2 0 sA3) (ts++[u]) a3 GA:=hnx _ _ _ lA oA kA (by rw[zah,hls];omega) (by rw[zhp,hlh];omega) (hnsapp _ (by rw[hln];exact hnsk))
  have fA':evalAppend ⟨[],G1++[.cells [J4 k0,d1,d2,d3,d4] 5 0 false]⟩ 5 kv (.slice G1.length 0 0 1)=some (.slice sA1 sA2 0 sA3,⟨[],GA⟩):=fA
  by_cases y0:y=0
  ·subst y0
   simp(disch:=omega) [hnext,ix,zae,c1',e13,zaa]
   exact hR (j+1,kv,ts,a3,G1) ⟨by dsimp only;omega,hnx kv ts G1 (Ak _) (fun _ _=>rfl) hK1 (by omega) (by omega) hns0⟩ (by dsimp only;omega)
  by_cases y1:y=1
  ·subst y1
   obtain⟨tt,htt⟩:∃tt:Tree,tt = .mk 3 [] [110,101,119] none none:=⟨_,rfl⟩
   have htc:tt.cells=[.int .i64 3, .str [], .str [110,101,119], .nilslice, .nilslice]:=by rw[htt];rfl
   have hpl:All2 (frzP (fun k=>H0.length<=k/\∀kb a b c,kv = .slice kb a b c->k≠kb) G1 (2*t.height-1)) (pcells tt.cells) tt.cells:=by
    obtain⟨m,hm⟩:∃m,2*t.height-1=m+1:=⟨2*t.height-2,by omega⟩
    rw[hm];exact All2.plain _
   obtain⟨kvB,GB,fB,⟨sB1,sB2,sB3,rfl⟩,lB,oB,kB⟩:=hK1.app (us:=[tt,u]) (by omega) (by
    show All2 _ _ (tt.cells++(u.cells++[]))
    rw[AH];exact hpl.append hcsd) (by simp) (by simp;omega)
   have tts:tt.size=1:=by rw[htt];simp[Tree.size,ksize]
   have tth:tt.height=1:=by rw[htt];simp[Tree.height,kheight]
   have ttn:tt.nodes=[tt]:=by rw[htt];simp[Tree.nodes,knodes]
   have tns:NS tt:=by rw[htt];exact⟨by simp[Tree.name],by simp[Tree.text],by simp[Tree.attrs,alist],by simp[Tree.attrs,alist]⟩
   have tB:TInv t H0 iat a0 (j+1) (.slice sB1 sB2 0 sB3) (ts++[tt,u]) a3 GB:=hnx _ _ _ lB oB kB (by rw[zah];simp only[lsize];omega) (by rw[zhp];simp only[lheight];omega) (hnsapp _ (fun hn w hw=>by
    simp only[lnodes,ttn,AH,CZ]at hw
    rcases Aj.1 hw with rfl|hw
    ·exact tns
    ·exact hnsk hn w hw))
   rw[htc]at fB
   have fB':evalAppend ⟨[],G1++[.cells [J4 3, .p (.str []), .p (.str [110,101,119]), .p .nilslice, .p .nilslice, J4 k0,d1,d2,d3,d4] 5 0 false]⟩ 5 kv (.slice G1.length 0 0 2)=some (.slice sB1 sB2 0 sB3,⟨[],GB⟩):=fB
   simp(disch:=omega) [hnext,ix,zae,c1',e13,zcl,zaa,fB']
   exact hR (j+1,_,_,a3,GB) ⟨by dsimp only;omega,tB⟩ (by dsimp only;omega)
  by_cases y2:y=2
  ·subst y2
   obtain⟨kvC,GC,fC,⟨sC1,sC2,sC3,rfl⟩,lC,oC,kC⟩:=hK1.pre (u:=u) (ys:=[J4 k0,d1,d2,d3,d4]) (by omega) (hcsd.imp fun v p hv=>zbh (fun k hk _=>⟨hk.1,rfl⟩) hv) (by omega)
   have tC:TInv t H0 iat a0 (j+1) (.slice sC1 sC2 0 sC3) (u::ts) a3 GC:=hnx _ _ _ lC oC kC (by simp only[lsize];omega) (by simp only[lheight];omega) (fun hn w hw=>by
    simp only[lnodes]at hw
    rcases Ar.1 hw with hw|hw
    ·exact hnsk hn w hw
    ·exact hns0 hn w hw)
   simp(disch:=omega) [hnext,ix,zae,c1',e13,zcl,zaa,fC]
   exact hR (j+1,_,_,a3,GC) ⟨by dsimp only;omega,tC⟩ (by dsimp only;omega)
  have g0:¬(y:Int)=0:=by omega
  have g1:¬(y:Int)=1:=by omega
  have g2:¬(y:Int)=2:=by omega
  by_cases y3:y=3
  ·subst y3
   obtain⟨dv,hdv⟩:∃dv:Tree,dv = .mk 2 [100,105,118] [] none (some [u]):=⟨_,rfl⟩
   have hdc:dv.cells=[.int .i64 2, .str [100,105,118], .str [], .nilslice, .slice 5 1 (kcells [u])]:=by rw[hdv];rfl
   obtain⟨G1',hG1'⟩:∃G1',G1++[IBlk.cells [J4 k0,d1,d2,d3,d4] 5 0 false]=G1':=⟨_,rfl⟩
   have hK1':KOK H0.length (2*t.height-1) kv ts G1':=hK1.keep fun k hk hl=>by rw[<- hG1',Ab hl]
   have hHS:HS G1' G1.length 5 1 (.slice G1.length 0 0 1) [J4 k0,d1,d2,d3,d4]:=⟨0,_,false,rfl,by rw[<- hG1'];exact zaz,by simp,rfl⟩
   have hin:frzP (fun k=>H0.length<=k/\∀kb a b c,kv = .slice kb a b c->k≠kb) G1' (2*t.height-2+1) (.slice G1.length 0 0 1) (.slice 5 1 (kcells [u])):=by
    refine hHS.frz ⟨by omega,hnk _ (by omega)⟩ ?_
    show All2 _ _ (u.cells++[])
    rw[AH]
    exact hcs.imp fun v p hv=>zbh (fun k hk hl=>⟨⟨by omega,hnk k hk⟩,by rw[<- hG1',Ab hl]⟩) hv
   have hpp:∀p:PVal,frzP (fun k=>H0.length<=k/\∀kb a b c,kv = .slice kb a b c->k≠kb) G1' (2*t.height-1) (.p p) p:=fun p=>zaw (n:=1) (by omega) rfl
   obtain⟨kvD,GD,fD,⟨sD1,sD2,sD3,rfl⟩,lD,oD,kD⟩:=hK1'.app (us:=[dv]) (ys:=[J4 2, .p (.str [100,105,118]), .p (.str []), .p .nilslice, .slice G1.length 0 0 1]) (by rw[<- hG1'];simp;omega) (by
    show All2 _ _ (dv.cells++[])
    rw[AH,hdc]
    exact⟨_,_,rfl,hpp _,_,_,rfl,hpp _,_,_,rfl,hpp _,_,_,rfl,hpp _,_,_,rfl,zaw (by omega) hin,rfl⟩) (by simp) (by simp;omega)
   have dvs:dv.size=u.size+1:=by rw[hdv];simp[Tree.size,ksize,lsize]
   have dvh:dv.height=u.height+1:=by rw[hdv];simp[Tree.height,kheight,lheight]
   have dvn:dv.nodes=dv::u.nodes:=by rw[hdv];simp[Tree.nodes,knodes,lnodes]
   have dns:NS dv:=by rw[hdv];exact⟨by simp[Tree.name],by simp[Tree.text],by simp[Tree.attrs,alist],by simp[Tree.attrs,alist]⟩
   have hGl:G1'.length=G1.length+1:=by rw[<- hG1'];simp
   have tD:TInv t H0 iat a0 (j+1) (.slice sD1 sD2 0 sD3) (ts++[dv]) a3 GD:=hnx _ _ _ (by omega) (fun y hy=>by rw[oD y hy,<-hG1',Ab (by omega)]) kD (by rw[zah,hls];omega) (by rw[zhp,hlh];omega) (hnsapp _ (fun hn w hw=>by
    rw[hln,dvn]at hw
    rcases Aj.1 hw with rfl|hw
    ·exact dns
    ·exact hnsk hn w hw))
   have fD':evalAppend ⟨[],G1++[.cells [J4 k0,d1,d2,d3,d4] 5 0 false, .cells [J4 2, .p (.str [100,105,118]), .p (.str []), .p .nilslice, .slice G1.length 0 0 1] 5 0 false]⟩ 5 kv (.slice (G1.length+1) 0 0 1)=some (.slice sD1 sD2 0 sD3,⟨[],GD⟩):=by
    rw[<- hGl]
    have:G1++[IBlk.cells [J4 k0,d1,d2,d3,d4] 5 0 false, .cells [J4 2, .p (.str [100,105,118]), .p (.str []), .p .nilslice, .slice G1.length 0 0 1] 5 0 false]=G1'++[.cells [J4 2, .p (.str [100,105,118]), .p (.str []), .p .nilslice, .slice G1.length 0 0 1] 5 0 false]:=by rw[<- hG1'];simp
    rw[this]
    exact fD
   by_cases z1:t.kind=1
   ·by_cases z2:k0=5
    ·subst z2
     have z1':(t.kind=1)=True:=eq_true z1
     simp(disch:=omega) [hnext,ix,zae,c1',e13,zcl,zaa,fA']
     exact hR (j+1,_,_,a3,GA) ⟨by dsimp only;omega,tA⟩ (by dsimp only;omega)
    ·have z1':(t.kind=1)=True:=eq_true z1
     simp(disch:=omega) [hnext,ix,zae,c1',e13,zcl,zaa,fD']
     exact hR (j+1,_,_,a3,GD) ⟨by dsimp only;omega,tD⟩ (by dsimp only;omega)
   ·simp(disch:=omega) [hnext,ix,zae,c1',e13,zcl,zaa,fD']
    exact hR (j+1,_,_,a3,GD) ⟨by dsimp only;omega,tD⟩ (by dsimp only;omega)
  ·have g3:¬(y:Int)=3:=by omega
   simp(disch:=omega) [hnext,ix,zae,c1',e13,zcl,zaa,fA']
   exact hR (j+1,_,_,a3,GA) ⟨by dsimp only;omega,tA⟩ (by dsimp only;omega)
 ·obtain rfl:j=(klist t.kids).length:=by omega
  simp(disch:=omega) []
  exact hQ kv ts a G hT _
theorem zdf (t:Tree) (H:J2) (iat a:Nat) (hiat:iat<H.length) (G0:J2) (hG0:H.length<=G0.length/\∀x,x<H.length->x≠iat->G0[x]? = H[x]?) (tx:Bytes) (av:IVal) (A:Option Attrs) (hav:frzP (fun k=>H.length<=k/\k<G0.length) G0 2 av (aval A))
 (hA:(∀ w∈t.nodes,NS w)->tx.length<=10/\(alist A).length<=2/\∀p∈alist A,p.1.length<=10/\p.2.length<=10) {kv:IVal} {ts:List Tree} {a':Nat} {G:J2} (hT:TInv t G0 iat a (klist t.kids).length kv ts a' G) :
 TurnedQ t iat a H (.agg [J4 t.kind, .p (.str t.name), .p (.str tx),av,kv]) G:=by
 have hs:=zag t
 have hh1:=zbq t
 have ht:(klist t.kids).take (klist t.kids).length=klist t.kids:=AT
 have b2:=hT.b2
 have hsz:=hT.sz
 rw[ht]at b2 hsz
 have hle:=hT.le
 have hk:klist (Tree.mk t.kind t.name tx A (nonil ts)).kids=ts:=zch ts
 refine⟨_,a', .mk t.kind t.name tx A (nonil ts),rfl,hT.ha,hT.b1,by omega,fun x hx hne=>(hT.fr x (by omega) hne).trans (hG0.2 x hx hne),by omega,?_,rfl,?_,?_,fun hn w hw=>?_⟩
 ·rw[Tree.zau]
  have hp1:∀p:PVal,frzP (fun k=>H.length<=k) G (2*t.height) (.p p) p:=fun p=>zaw (n:=1) (by omega) rfl
  refine⟨_,_,rfl,hp1 _,_,_,rfl,hp1 _,_,_,rfl,hp1 _,_,_,rfl,?_,_,_,rfl,?_,rfl⟩
  ·exact zaw (by omega) (zbh (fun k hk _=>⟨hk.1,hT.fr k hk.2 (by omega)⟩) hav)
  ·show frzP _ _ _ kv (kval (nonil ts))
   rcases hT.ks with⟨rfl,rfl⟩|⟨kb,X,h1,h2,h3,hn⟩
   ·exact hp1 _
   ·unfold nonil
    rw[if_neg hn]
    exact zaw (n:=2*t.height-1+1) (by omega) (h2.frz (by omega) (h3.imp fun v p hv=>zbh (fun k hk _=>⟨by omega,rfl⟩) hv))
 ·rw[zag,hk];omega
 ·rw[zbq,hk];have:=hT.hh;omega
 ·rw[zbr]at hw
  rcases Aj.1 hw with rfl|hw
  ·obtain⟨q1,q2,q3⟩:=hA hn
   exact⟨(hn t (zas t)).1,q1,q2,q3⟩
  ·rw[hk]at hw
   exact hT.ns hn w hw
theorem zajq (v:PVal) (L:List Int) (hv:IV v L) (t:Tree) (hf:Fine t) (IH:∀u∈klist t.kids,TurnedSays v u):TurnedSays v t:=by
 intro iat a deep H hia hb hdb
 have hup:=hv.up
 have one:=zab t
 obtain⟨x,a1,hx,ha1,ha2,hnext⟩:=zvb v L hv iat a H hia (by omega)
 have hat:=zacs t.attrs (by have:=hf.attrs;have:=hf.2 t (zas t);omega)
 refine zar look_Q46 rfl rfl ?_
 dsimp only[i_Q46,c_Q46]
 have e9:(x:Int).tmod 9=((x % 9:Nat):Int):=by rw[AV (by omega)];simp
 have e93:((x:Int) / 9).tmod 3=((x / 9 % 3:Nat):Int):=by rw[AV (by omega)];simp
 have b93:x / 9 % 3<3:=B6 _ (by omega)
 generalize x % 9=y9 at *
 generalize x / 9 % 3=y93 at *
 have hiH:=(Aa.1 hia).1
 obtain⟨K,hK⟩:∃K,H.set iat (cnt a1)=K:=⟨_,rfl⟩
 rw[hK]at hnext
 have hKl:K.length=H.length:=by rw[<- hK,Ay]
 have hKa:K[iat]? = some (cnt a1):=by rw[<- hK];exact zao hiH
 have hKx:∀y,y≠iat->K[y]? = H[y]? := fun y hne=>by rw[<- hK,Ad (Ne.symm hne)]
 have hth:=zbq t
 have h0:∀G0:J2,K.length<=G0.length->(∀ y,y<K.length->G0[y]? = K[y]?)->TInv t G0 iat a 0 (.p .nilslice) [] a1 G0:=fun G0 h1 h2=>by
  refine⟨by rw[h2 iat (by omega)];exact hKa,ha1,by simp[lsize];omega,Ak _,fun _ _ _=>rfl, .inl ⟨rfl,rfl⟩,by simp[lsize],by simp[lheight];omega,fun _ u hu=>by simp[lnodes]at hu⟩
 by_cases c0:y9=0/\t.kind=3
 ·obtain⟨rfl,ck⟩:=c0
  obtain⟨tx,htx,s2⟩:∃tx:Bytes,tx.length<=10/\sliceStrF (.p (.str [103,104,105])) (some (J4 (y93:Int))) (some (J4 ((y93:Int)+1)))=some (.p (.str tx)):=⟨_,by simp;omega,zgh (by omega) (by omega) (by simp;omega)⟩
  have ck':(t.kind=3)=True:=eq_true ck
  simp(disch:=omega) [hup,hat,hnext,e9,e93,s2,zaa]
  refine⟨rfl,zde v L hv t hf IH K iat a deep (by omega) (by omega) (by omega) tx (.p (aval (nattr t.attrs))) _ _ (fun kv ts a' G hT B=>?_) trivial (.p .nilslice) K a1 (h0 _ (by omega) (fun _ _=>rfl))⟩
  obtain⟨uk,_⟩:=hT.ks.up
  have hfin:=zdf t H iat a hiH K ⟨by omega,fun y _ hne=>hKx y hne⟩ tx (.p (aval (nattr t.attrs))) (nattr t.attrs) (zaw (n:=1) (by omega) rfl) (fun hn=>⟨htx,by rw[zav];exact(hn t (zas t)).2.2.1,by rw[zav];exact(hn t (zas t)).2.2.2⟩) hT
  simp(disch:=omega) []
  exact hfin
 ·by_cases c1:y9=1/\t.kind=2
  ·obtain⟨rfl,ck⟩:=c1
   have ck':(t.kind=2)=True:=eq_true ck
   simp(disch:=omega) [hup,hat,hnext,e9]
   refine⟨rfl,zde v L hv t hf IH (K++[.cells [.p (.str [120]), .p (.str [119])] 2 0 false]) iat a deep (by simp[hKl];omega) (by omega) (by omega) t.text (.slice K.length 0 0 1) _ _ (fun kv ts a' G hT B=>?_) trivial (.p .nilslice) (K++[.cells [.p (.str [120]), .p (.str [119])] 2 0 false]) a1 (h0 _ (by simp[hKl]) (fun y hy=>Ab (by omega)))⟩
   obtain⟨uk,_⟩:=hT.ks.up
   have hfin:=zdf t H iat a hiH (K++[.cells [.p (.str [120]), .p (.str [119])] 2 0 false]) ⟨by simp[hKl],fun y hy hne=>by rw[Ab (by omega)];exact hKx y hne⟩ t.text (.slice K.length 0 0 1) (some [([120],[119])]) (HS.frz (n:=1) (k:=K.length) (e:=2) (len:=1) (X:=pcells [.str [120], .str [119]]) ⟨0,_,false,rfl,zaz,by simp,rfl⟩ ⟨by omega,by simp⟩ (All2.plain (n:=0) [.str [120], .str [119]])) (fun hn=>⟨(hn t (zas t)).2.1,by simp[alist],by simp[alist]⟩) hT
   simp(disch:=omega) []
   exact hfin
  ·by_cases c2:y9=2/\t.kind=2
   ·obtain⟨rfl,ck⟩:=c2
    have ck':(t.kind=2)=True:=eq_true ck
    simp(disch:=omega) [hup,hat,hnext,e9]
    refine⟨rfl,zde v L hv t hf IH K iat a deep (by omega) (by omega) (by omega) t.text (.p .nilslice) _ _ (fun kv ts a' G hT B=>?_) trivial (.p .nilslice) K a1 (h0 _ (by omega) (fun _ _=>rfl))⟩
    obtain⟨uk,_⟩:=hT.ks.up
    have hfin:=zdf t H iat a hiH K ⟨by omega,fun y _ hne=>hKx y hne⟩ t.text (.p .nilslice) none (zaw (n:=1) (by omega) rfl) (fun hn=>⟨(hn t (zas t)).2.1,by simp[alist],by simp[alist]⟩) hT
    simp(disch:=omega) []
    exact hfin
   ·by_cases z0:y9=0
    ·subst z0
     have k3:¬t.kind=3:=fun e=>c0 ⟨rfl,e⟩
     simp(disch:=omega) [hup,hat,hnext,e9]
     refine⟨rfl,zde v L hv t hf IH K iat a deep (by omega) (by omega) (by omega) t.text (.p (aval (nattr t.attrs))) _ _ (fun kv ts a' G hT B=>?_) trivial (.p .nilslice) K a1 (h0 _ (by omega) (fun _ _=>rfl))⟩
     obtain⟨uk,_⟩:=hT.ks.up
     have hfin:=zdf t H iat a hiH K ⟨by omega,fun y _ hne=>hKx y hne⟩ t.text (.p (aval (nattr t.attrs))) (nattr t.attrs) (zaw (n:=1) (by omega) rfl) (fun hn=>⟨(hn t (zas t)).2.1,by rw[zav];exact(hn t (zas t)).2.2.1,by rw[zav];exact(hn t (zas t)).2.2.2⟩) hT
     simp(disch:=omega) []
     exact hfin
    ·have w0:¬(y9:Int)=0:=by omega
     by_cases z1:y9=1
     ·subst z1
      have k2:¬t.kind=2:=fun e=>c1 ⟨rfl,e⟩
      simp(disch:=omega) [hup,hat,hnext,e9]
      refine⟨rfl,zde v L hv t hf IH K iat a deep (by omega) (by omega) (by omega) t.text (.p (aval (nattr t.attrs))) _ _ (fun kv ts a' G hT B=>?_) trivial (.p .nilslice) K a1 (h0 _ (by omega) (fun _ _=>rfl))⟩
      obtain⟨uk,_⟩:=hT.ks.up
      have hfin:=zdf t H iat a hiH K ⟨by omega,fun y _ hne=>hKx y hne⟩ t.text (.p (aval (nattr t.attrs))) (nattr t.attrs) (zaw (n:=1) (by omega) rfl) (fun hn=>⟨(hn t (zas t)).2.1,by rw[zav];exact(hn t (zas t)).2.2.1,by rw[zav];exact(hn t (zas t)).2.2.2⟩) hT
      simp(disch:=omega) []
      exact hfin
     ·have w1:¬(y9:Int)=1:=by omega
      by_cases z2:y9=2
      ·subst z2
       have k2:¬t.kind=2:=fun e=>c2 ⟨rfl,e⟩
       simp(disch:=omega) [hup,hat,hnext,e9]
       refine⟨rfl,zde v L hv t hf IH K iat a deep (by omega) (by omega) (by omega) t.text (.p (aval (nattr t.attrs))) _ _ (fun kv ts a' G hT B=>?_) trivial (.p .nilslice) K a1 (h0 _ (by omega) (fun _ _=>rfl))⟩
       obtain⟨uk,_⟩:=hT.ks.up
       have hfin:=zdf t H iat a hiH K ⟨by omega,fun y _ hne=>hKx y hne⟩ t.text (.p (aval (nattr t.attrs))) (nattr t.attrs) (zaw (n:=1) (by omega) rfl) (fun hn=>⟨(hn t (zas t)).2.1,by rw[zav];exact(hn t (zas t)).2.2.1,by rw[zav];exact(hn t (zas t)).2.2.2⟩) hT
       simp(disch:=omega) []
       exact hfin
      ·have w2:¬(y9:Int)=2:=by omega
       simp(disch:=omega) [hup,hat,hnext,e9]
       refine⟨rfl,zde v L hv t hf IH K iat a deep (by omega) (by omega) (by omega) t.text (.p (aval (nattr t.attrs))) _ _ (fun kv ts a' G hT B=>?_) trivial (.p .nilslice) K a1 (h0 _ (by omega) (fun _ _=>rfl))⟩
       obtain⟨uk,_⟩:=hT.ks.up
       have hfin:=zdf t H iat a hiH K ⟨by omega,fun y _ hne=>hKx y hne⟩ t.text (.p (aval (nattr t.attrs))) (nattr t.attrs) (zaw (n:=1) (by omega) rfl) (fun hn=>⟨(hn t (zas t)).2.1,by rw[zav];exact(hn t (zas t)).2.2.1,by rw[zav];exact(hn t (zas t)).2.2.2⟩) hT
       simp(disch:=omega) []
       exact hfin
end Go.Ideal

namespace Go.Ideal
open Go
set_option maxHeartbeats 4000000
set_option maxRecDepth 20000
attribute [-simp] getElem?_pos
theorem ztf (v:PVal) (L:List Int) (hv:IV v L):∀(n:Nat) (t:Tree),t.size<n->Fine t->TurnedSays v t
 |0,t,h,_=>by omega
 |n+1,t,h,hf=>zajq v L hv t hf fun u hu=>ztf v L hv n u (by have:=zag t;have:=zan hu;omega) (hf.kid hu)
theorem GT.norm {t:Tree} {m d:Nat} (h:GT t m d):GT t.norm m d:=by
 refine⟨by rw[zye];exact h.sz,by rw[zaaw];exact h.dp,fun u hu=>?_⟩
 rw[zafc]at hu
 obtain⟨w,hw,rfl⟩:=AG.1 hu
 obtain⟨h1,h2,h3,h4⟩:=h.ns w hw
 obtain⟨a1,a2,a3⟩:=zja w
 exact⟨by rw[a2];exact h1,by rw[a3];exact h2,by rw[zgx,zav];exact h3,by rw[zgx,zav];exact h4⟩
theorem zyq (v:PVal) (L:List Int) (hv:IV v L) (t:Tree) (d:Nat) (hg:GT t 60 d) (hd:d<=20):∃u,GT u 60 (2*d)/\(checkB t=true->checkB u=true)/\∀H,CW tr.look F_Q16 [tagg t, .p v] H=some (tagg u,H):=by
 have hf:=hg.fine (by omega)
 have hup:=hv.up
 have hsz:=hg.sz
 have hdp:=hg.dp
 have ht:=zauc _ t (Al _) hf
 obtain⟨r,G,c1,cs,a',u,rfl,q1,q2,q3,q4,q5,q6,q7,q8,q9,q10⟩:=ztf v L hv _ t (Al _) hf 0 0 1 [cnt 0] rfl (by omega) (by omega)
 have hfu:GT u 200 (2*d):=⟨by omega,by omega,q10 hg.ns⟩
 have hagg:freezeOne G (.agg cs)=some (tagg u):=zaud (n:=2*t.height) (by omega) q6
 have hck:CW tr.look F_Q33 [.agg cs] G=some (.p (.bool (checkB u)),G):=by
  refine zqq (al:=[tagg u]) look_Q33 rfl ?_ (by simp) rfl (zqr u (by have:=hfu.sz;omega) [])
  simp only[freezeAll,hagg]
 have hsi:CW tr.look F_Q18 [.agg cs] G=some (J4 u.size,G):=by
  refine zqq (al:=[tagg u]) look_Q18 rfl ?_ (by simp) rfl (zahg _ u (Al _) (by have:=hfu.sz;omega) [])
  simp only[freezeAll,hagg]
 have c1':CW tr.look F_Q46 [tagg t, .p v, J5 0 0 0, J4 1] [IBlk.cells [J4 0] 1 0 false]=some (.agg cs,G):=c1
 obtain⟨c0,d1,d2,d3,d4,rfl⟩:∃c0 d1 d2 d3 d4,cs=[c0,d1,d2,d3,d4]:=by
  match cs,q7 with
  | [c0,c1,c2,c3,c4],_=>exact⟨c0,c1,c2,c3,c4,rfl⟩
 have w1:writeCells ⟨[],[IBlk.cells [J4 0] 1 0 false]⟩ (J5 0 0 0) [J4 0]=some ⟨[],[IBlk.cells [J4 0] 1 0 false]⟩:=rfl
 obtain⟨r,e1,u',rfl,e2,e3⟩:∃r,CW tr.look F_Q16 [tagg t, .p v] []=some (r,[])/\∃u',r=tagg u'/\GT u' 60 (2*d)/\(checkB t=true->checkB u'=true):=by
  refine zdh look_Q16 rfl (zbc (by simp)) rfl ?_
  dsimp only[i_Q16,c_Q16]
  have hn:∃u',tagg t.norm=tagg u'/\GT u' 60 (2*d)/\(checkB t=true->checkB u'=true):=⟨_,rfl,⟨hg.norm.sz,by have:=hg.norm.dp;omega,hg.norm.ns⟩,fun h=>by rw[zafd];exact h⟩
  cases hc:checkB u
  ·rw[hc]at hck
   simp(disch:=omega) [zae,hup,w1,c1',hck,zcl,ht]
   exact hn
  ·rw[hc]at hck
   by_cases h60:u.size<=60
   ·have h6:¬(60:Int)<(u.size:Int):=by omega
    simp(disch:=omega) [zae,hup,w1,c1',hck,hsi,zcl,hagg]
    exact⟨_,rfl,⟨h60,hfu.dp,hfu.ns⟩,fun _=>hc⟩
   ·have h6:(60:Int)<(u.size:Int):=by omega
    simp(disch:=omega) [zae,hup,w1,c1',hck,hsi,zcl,ht]
    exact hn
 exact⟨u',e2,e3,fun H=>zix look_Q16 rfl (by simp) e1⟩
section
variable {L:J1} {a b:Tree}
theorem zve (a b:Tree):PI a b (sortP (alikeN a b 2)):=by
 have h:=zxt a b 2
 have hp:=zay (alikeN a b 2)
 refine⟨(hp.map _).nodup_iff.2 h.nx,(hp.map _).nodup_iff.2 h.nz,fun p hm=>?_⟩
 obtain⟨h1,h2,h3⟩:=h.ok p (hp.mem_iff.1 hm)
 have:=(zjm.1 h3).1
 exact⟨h1,h2,this.1,this.2.1⟩
theorem zajr {n:Nat} (hn:(L.map (·.1)).Nodup) (hd:∀p∈L,p.1=p.2/\p.1<n) (ha:∀i,i<n->i∈L.map (·.1)):sortP L=pairsN 0 0 n:=by
 symm
 refine zej hn ?_ (zmm 0 0 n)
 have hnL:L.Nodup:=by
  have h2:=BW.1 hn
  exact h2.imp fun h e=>h (by rw[e])
 have hnP:(pairsN 0 0 n).Nodup:=by
  have h1:((pairsN 0 0 n).map (·.1)).Nodup:=by rw[zgv];exact Ce
  have h2:=BW.1 h1
  exact h2.imp fun h e=>h (by rw[e])
 refine(Dg hnP hnL).2 fun p=>?_
 rw[zbz]
 constructor
 ·rintro⟨x,hx,rfl⟩
  obtain⟨q,hq,e⟩:=AG.1 (ha x hx)
  have:=hd q hq
  have e2:q=(0+x,0+x):=Prod.ext (by simp;exact e) (by simp;omega)
  rw[<- e2];exact hq
 ·intro hp
  have:=hd p hp
  exact⟨p.1,this.2,Prod.ext (by simp) (by simp;omega)⟩
theorem zyr (h:MF a b L):(sortP L)[0]? = some (0,0):=by
 have hm:=(zay L).mem_iff.2 h.root
 cases hs:sortP L with
 |nil=>rw[hs]at hm;cases hm
 |cons p R =>
  rw[AO]
  have hsd:=zgc L
  rw[hs]at hm hsd
  have hp:p∈L:=(zay L).mem_iff.1 (by rw[hs];simp)
  have h0:p.1=0:=by
   rcases Aj.1 hm with e|hm
   ·rw[<- e]
   ·have:=(B8.1 hsd).1 _ hm
    simp at this;omega
  rw[zzz h.pi.nx hp h.root h0]
theorem zajs (h:MF a b L):∀k p,(sortP L)[k]? = some p->VP a b ((sortP L).take k) p:=by
 intro k p hp
 have hpm:=zay L
 have hnx:((sortP L).map (·.1)).Nodup:=(hpm.map _).nodup_iff.2 h.pi.nx
 have hnz:((sortP L).map (·.2)).Nodup:=(hpm.map _).nodup_iff.2 h.pi.nz
 have hsd:=zgc L
 obtain⟨h1,h2,h3⟩:=h.pi.ok p (hpm.mem_iff.1 (Ao hp))
 have hin:∀f:Nat×Nat->Nat,f p∈((sortP L).drop k).map f:=fun f=>AG.2 ⟨p,BE.2 ⟨0,by rw[AY];simpa using hp⟩,rfl⟩
 have hsp:p∈(sortP L).drop k:=BE.2 ⟨0,by rw[AY];simpa using hp⟩
 rw[<- Bs k (sortP L)]at hnx hnz hsd
 rw[AC,Bc]at hnx hnz
 refine⟨?_,h1,h2,fun hm=>hnz.2.2 _ hm _ (hin (·.2)) rfl,h3⟩
 unfold lst
 cases hl:((sortP L).take k).getLast? with
 |none=>simp only;omega
 |some q =>
  have hq:q∈(sortP L).take k:=List.mem_of_getLast? hl
  have e1:=(Cy.1 hsd).2.2 q hq p hsp
  have e2:q.1≠p.1:=fun e=>hnx.2.2 q.1 (AG.2 ⟨q,hq,rfl⟩) p.1 (hin (·.1)) e
  simp only;omega
theorem zafi (h:PI a b L):(sortP L).length<=a.size:=by
 rw[(zay L).length_eq]
 have:=zft a.size _ h.nx (fun x hx=>by obtain⟨p,hp,rfl⟩:=AG.1 hx;exact(h.ok p hp).1)
 simpa using this
theorem zajt (fa:Fine a) (fb:Fine b) (ca:checkB a=true) (cb:checkB b=true) {L:J1} (h:MF a b L) {pv:PVal} (hpv:PV pv (sortP L)) (H:J2):CW tr.look F_Q11 [tagg a,tagg b, .p pv] H=some (.p (.bool true),H) :=
 zajo a b fa fb ca cb hpv (zyr h) (by have:=zafi h.pi;have:=fa.1;omega) (sortP L).length (Ak _) (fun k p _ hp=>zajs h k p hp) true (.inl ⟨rfl,rfl⟩) H
def tA (x:UInt8):Tree := .mk 1 [] [] none (some [.mk 3 [] [x] none none])
theorem zjx (x:UInt8):Fine (tA x)/\StrT (tA x)/\checkB (tA x)=true/\(tA x).size=2:=by
 have hn:(tA x).nodes=[tA x, .mk 3 [] [x] none none]:=rfl
 refine⟨⟨by show(2:Nat)<_;decide,fun u hu=>?_⟩,zgy fun u hu=>?_,rfl,rfl⟩
 ·rw[hn]at hu
  simp at hu
  rcases hu with rfl|rfl<;>simp[tA,Tree.attrs,alist]
 ·rw[hn]at hu
  simp at hu
  rcases hu with rfl|rfl
  ·exact⟨by simp[tA,Tree.name],by simp[tA,Tree.text],by simp[tA,Tree.attrs,alist],by simp[tA,Tree.attrs,alist]⟩
  ·exact⟨by simp[Tree.name],by simp[Tree.text],by simp[Tree.attrs,alist],by simp[Tree.attrs,alist]⟩
theorem zabe (h:MF (tA 97) (tA 98) L):sortP L=[(0,0),(1,1)]:=by
 have hs:∀x,(tA x).size=2:=fun x=>rfl
 have hk:∀x,kidsOf (tA x) 0=[1]:=fun x=>rfl
 have hd:∀p∈L,p.1=p.2/\p.1<2:=fun p hp=>by
  obtain⟨h1,h2,h3⟩:=h.pi.ok p hp
  have h4:=zem (zjx 97).2.2.1 h1
  have h5:=zem (zjx 98).2.2.1 h2
  rw[h3.1]at h4
  rw[hs]at h1 h2
  have:p.1=0↔p.2=0:=by rw[<- h4,<-h5]
  omega
 have h1:1∈L.map (·.1):=by
  refine Be fun hn=>?_
  have hz:1∉L.map (·.2):=fun hm=>by
   obtain⟨p,hp,e⟩:=AG.1 hm
   have:=hd p hp
   exact hn (AG.2 ⟨p,hp,by omega⟩)
  have:=h.shut (0,0) h.root (by rw[hs];decide) 1 (by rw[hk];simp) 1 (by rw[hk];simp)
  exact this ⟨zaba.2 ⟨hn,hz⟩,rfl,rfl⟩
 have:=zajr (n:=2) h.pi.nx hd (fun i hi=>by
  rcases(show i=0\/i=1 by omega)with rfl|rfl
  ·exact AG.2 ⟨_,h.root,rfl⟩
  ·exact h1)
 rw[this];rfl
theorem zaom (H:J2):CW tr.look F_Q6 [] H=some (.p (.bool true),H):=by
 obtain⟨fa,sa,ca,za⟩:=zjx 97
 obtain⟨fb,sb,cb,zb⟩:=zjx 98
 obtain⟨r,hm,pv,L,rfl,hpv,hF⟩:=zaoh (tA 97) (tA 98) fa fb sa sb ca cb (by omega) (by omega) (zve _ _)
 have hsl:=zabe hF
 have hch:=zajt fa fb ca cb hF hpv []
 rw[hsl]at hpv
 have hup:=hpv.up
 have hln:=hpv.len
 have i0:idxS 2 (.p pv) (J4 0)=_:=hpv.idx (i:=0) rfl
 have i1:idxS 2 (.p pv) (J4 1)=_:=hpv.idx (i:=1) rfl
 have hf:freezeAll [IBlk.cells [J4 3, .p (.str []), .p (.str [97]), .p .nilslice, .p .nilslice] 5 0 false,IBlk.cells [J4 3, .p (.str []), .p (.str [98]), .p .nilslice, .p .nilslice] 5 0 false] [IVal.agg [J4 1, .p (.str []), .p (.str []), .p .nilslice, .slice 0 0 0 1],IVal.agg [J4 1, .p (.str []), .p (.str []), .p .nilslice, .slice 1 0 0 1]]=some [tagg (tA 97),tagg (tA 98)]:=rfl
 have hm':=hm _ _ hf
 have hc':CW tr.look F_Q11 [IVal.agg [J4 1, .p (.str []), .p (.str []), .p .nilslice, .slice 0 0 0 1],IVal.agg [J4 1, .p (.str []), .p (.str []), .p .nilslice, .slice 1 0 0 1], .p pv] [IBlk.cells [J4 3, .p (.str []), .p (.str [97]), .p .nilslice, .p .nilslice] 5 0 false,IBlk.cells [J4 3, .p (.str []), .p (.str [98]), .p .nilslice, .p .nilslice] 5 0 false]=some (.p (.bool true),_) :=
  zqq (al:=[tagg (tA 97),tagg (tA 98), .p pv]) look_Q11 rfl rfl (by simp) rfl hch
 have main:CW tr.look F_Q6 [] []=some (.p (.bool true),[]):=by
  refine zaj look_Q6 rfl rfl rfl ?_
  dsimp only[i_Q6,c_Q6]
  simp(disch:=omega) [hup,hln,hm',hc',i0,i1,eqVals,eqCls,clsEq,negIf]
 exact zix look_Q6 rfl rfl main
end
theorem zmt {t:Tree} {j:Nat} (hj:j<t.size):∃v rest a1 a2 a3 n1 x1 y1,t.vis[j]? = some v/\subT t j=v.t/\idxS 15 (.p (rval t)) (J4 j)=some (.p (.ptr (.int .i64 v.parent :: .int .i64 v.t.size :: .int .i64 a1 :: .int .i64 a2 :: .int .i64 a3 :: .int .i64 v.t.kind :: .str v.t.name :: .str n1::x1::y1::rest))):=by
 obtain⟨v,hv,_,hs,_⟩:=zcg hj
 exact⟨v,_,_,_,_,_,_,_,hv,hs,zcz hv⟩
theorem zaju {a b:Int} (h:b<a):icmp a b=1:=by unfold icmp sgn;simp[h];omega
theorem zajv {a b:Int} (h:a<b):icmp a b = -1:=by unfold icmp sgn;simp[h]
theorem zaon (p q r u:Nat) (hp:p<=1000000000) (hq:q<=1000000000) (hr:r<=1000000000) (hu:u<=1000000000) (H:J2) :
 CW tr.look F_Q101 [J4 p, J4 q, J4 r, J4 u] H=some (J4 (dice p q r u),H):=by
 refine zaj look_Q101 rfl (by simp) rfl ?_
 dsimp only[i_Q101,c_Q101]
 have h1:=zuk hp hu
 have h2:=zuk hr hq
 unfold dice
 have fin:∀(x y:Nat),x<=1000000000000000000->y<=1000000000000000000->True:=fun _ _ _ _=>trivial
 by_cases hq0:q=0<;>by_cases hu0:u=0
 ·subst hq0 hu0
  simp(disch:=omega) [zaa]
  rfl
 ·subst hq0
  simp(disch:=omega) [zaa,hu0]
  rcases BH r with h|h
  ·subst h
   simp(disch:=omega) []
   rfl
  ·have h':(0:Int)<(r:Int):=by omega
   have h'':¬(r:Int)<0:=by omega
   simp(disch:=omega) [h',h'',zajv]
   omega
 ·subst hu0
  simp(disch:=omega) [zaa,hq0]
  rcases BH p with h|h
  ·subst h
   simp(disch:=omega) []
   rfl
  ·have h':(0:Int)<(p:Int):=by omega
   simp(disch:=omega) [h',zaju]
   omega
 ·simp only[hq0,hu0,if_false]
  generalize p*u=m1 at *
  generalize r*q=m2 at *
  have e1:=h1.1
  have e2:=h2.1
  have b1:=h1.2
  have b2:=h2.2
  by_cases g1:(m2:Int)<(m1:Int)
  ·simp(disch:=omega) [zaa,hq0,hu0,e1,e2,g1,zaju]
  ·by_cases g2:(m1:Int)<(m2:Int)
   ·simp(disch:=omega) [zaa,hq0,hu0,e1,e2,g1,g2,zajv]
   ·have:icmp (m1:Int) (m2:Int)=0:=zdn.2 (by omega)
    simp(disch:=omega) [zaa,hq0,hu0,e1,e2,g1,g2,this]
theorem zaoo (p q:Nat) (hp:p<=1000000000) (hq:q<=1000000000) (H:J2) :
 CW tr.look F_Q76 [J4 p, J4 q] H=some (.p (.bool (half p q)),H):=by
 refine zaj look_Q76 rfl (by simp) rfl ?_
 dsimp only[i_Q76,c_Q76]
 unfold half
 by_cases h:q<4*p
 ·have:(q:Int)<4*(p:Int):=by omega
  simp(disch:=omega) [zaa,h,this]
 ·have:¬(q:Int)<4*(p:Int):=by omega
  simp(disch:=omega) [zaa,h,this]
theorem znq:∀L:J1,pcells (prcells L)=L.flatMap pc
 | []=>rfl
 |p::L=>by
  have:=znq L
  simp only[prcells,pcells,AD,AC,pc,At,Cc]at this ⊢
  rw[this]
theorem pc_at:∀ {L:J1} {j:Nat} {p:Nat×Nat},L[j]? = some p->((L.flatMap pc).drop (j*2)).take 2=pc p
 | [],j,p,h=>by simp at h
 |q::L,0,p,h=>by
  rw[AO]at h
  injection h with h
  subst h
  simp[pc]
 |q::L,j+1,p,h=>by
  rw[Az]at h
  rw[AD,Co]
  simp only[pc,Aq,AK,Bl]
  exact pc_at h
theorem zaqm:∀ {L:J1} {j:Nat} {p:Nat×Nat},j<L.length->splice (L.flatMap pc) (j*2) (pc p)=(L.set j p).flatMap pc
 | [],j,p,h=>by simp at h
 |q::L,0,p,h=>by simp[splice,pc]
 |q::L,j+1,p,h=>by
  have:=zaqm (L:=L) (j:=j) (p:=p) (by simpa using h)
  simp only[splice]at this ⊢
  rw[AD,Co,CJ,AD,<-this]
  rw[show j*2+2+(pc p).length=(j*2+(pc p).length)+2 by omega]
  rfl
def ins:Nat->J1->J1
 |0,L=>L
 |j+1,L=>match L[j+1]?,L[j]? with
  |some x,some y=>if x.1<y.1 then ins j ((L.set (j+1) y).set j x)else L
  |_,_=>L
def sortN (i:Nat):Nat->J1->J1
 |0,L=>L
 |n+1,L=>sortN (i+1) n (ins i L)
theorem zajw:∀(j:Nat) (L:J1),(ins j L).length=L.length
 |0,L=>rfl
 |j+1,L=>by
  rw[ins]
  split
  ·split
   ·rw[zajw];simp
   ·rfl
  ·rfl
def PL (H:J2) (k ver:Nat) (L:J1):Prop:=HS H k 2 L.length (.slice k ver 0 L.length) (L.flatMap pc)
theorem PL.load {bx:List (Nat×IBlk)} {H:J2} {k ver j:Nat} {L:J1} {p:Nat×Nat} (h:PL H k ver L) (hj:L[j]? = some p):idxS 2 (.slice k ver 0 L.length) (J4 j)=some (J5 k ver (j*2))/\loadVal ⟨bx,H⟩ (some 2) (J5 k ver (j*2))=some (.agg (pc p)):=by
 have hjl:=(Aa.1 hj).1
 obtain⟨v2,h1,h2⟩:=HS.load (bx:=bx) h hjl
 have h3:idxS 2 (.slice k ver 0 L.length) (J4 j)=some (J5 k ver (j*2)):=by rw[zbe hjl,AB]
 rw[h3]at h1
 injection h1 with h1
 injection h1 with _ h1 _
 subst h1
 exact⟨h3,by rw[h2,pc_at hj]⟩
theorem PL.store {bx:List (Nat×IBlk)} {H:J2} {k ver j:Nat} {L:J1} (h:PL H k ver L) (p:Nat×Nat) (hj:j<L.length):∃b,writeCells ⟨bx,H⟩ (J5 k ver (j*2)) (pc p)=some ⟨bx,H.set k b⟩/\PL (H.set k b) k ver (L.set j p):=by
 have:j*2+(pc p).length<=L.length*2:=by simp[pc];omega
 obtain⟨b,h1,h2⟩:=HS.store (bx:=bx) h this
 refine⟨b,h1,?_⟩
 unfold PL
 rw[Ay,<-zaqm hj]
 exact h2
theorem zrj:∀(n i:Nat) (L:J1),(sortN i n L).length=L.length
 |0,i,L=>rfl
 |n+1,i,L=>by rw[sortN,zrj,zajw]
theorem zafj (i:Nat) (L:J1) (n:Nat):sortN i (n+1) L=ins (i+n) (sortN i n L):=by
 induction n generalizing i L with
 |zero=>rfl
 |succ n ih=>rw[sortN,ih,sortN];congr 1;omega
def sorted (L:J1):J1:=sortN 1 (L.length-1) L
theorem zrk (L:J1):(sorted L).length=L.length:=zrj _ _ _
end Go.Ideal
namespace Go.Ideal
open Go
attribute [-simp] getElem?_pos
abbrev PP:=Nat×Nat
def insR:List PP->PP->List PP
 | [],x=>[x]
 |y::R,x=>if x.1<y.1 then y::insR R x else x::y::R
theorem zmu:∀(R:List PP) (x:PP),(insR R x).Perm (x::R)
 | [],x=>.refl _
 |y::R,x=>by
  rw[insR]
  split
  ·exact((zmu R x).cons y).trans (.swap x y R)
  ·exact .refl _
theorem zys:∀(R:List PP) (x:PP),R.Pairwise (fun p q=>q.1<=p.1)->(insR R x).Pairwise (fun p q=>q.1<=p.1)
 | [],x,_=>BV _ _
 |y::R,x,h=>by
  rw[B8]at h
  rw[insR]
  split
  ·rename_i hx
   refine List.Pairwise.cons (fun q hq=>?_) (zys R x h.2)
   rcases Aj.1 ((zmu R x).mem_iff.1 hq)with rfl|hq
   ·omega
   ·exact h.1 q hq
  ·rename_i hx
   refine List.Pairwise.cons (fun q hq=>?_) (List.Pairwise.cons h.1 h.2)
   rcases Aj.1 hq with rfl|hq
   ·omega
   ·have:=h.1 q hq;omega
theorem zade:∀(R:List PP) (x:PP) (B:List PP),ins R.length (R.reverse++x::B)=(insR R x).reverse++B
 | [],x,B=>rfl
 |y::R,x,B=>by
  have e:(y::R).reverse++x::B=R.reverse++(y::x::B):=by simp
  have h1:(R.reverse++(y::x::B))[R.length+1]? = some x:=by
   rw[Ae (by simp),CG,A2];rfl
  have h2:(R.reverse++(y::x::B))[R.length]? = some y:=by
   rw[Ae (by simp),CG,Bk];rfl
  rw[Ax,e,ins,h1,h2]
  dsimp only
  rw[insR]
  split
  ·have h3:((R.reverse++(y::x::B)).set (R.length+1) y).set R.length x=R.reverse++x::(y::B):=by
    rw[Ct _ _ (by simp),CG,A2,Ct _ _ (by simp),CG,Bk]
    rfl
   rw[h3,zade R x (y::B)]
   simp
  ·simp
def srt:List PP->List PP->List PP
 |R,[]=>R
 |R,x::B=>srt (insR R x) B
theorem zaop (R:List PP) (x:PP):(insR R x).length=R.length+1:=by rw[(zmu R x).length_eq];rfl
theorem zrl:∀(B R:List PP),sortN R.length B.length (R.reverse++B)=(srt R B).reverse
 | [],R=>by simp[sortN,srt]
 |x::B,R=>by
  have ih:=zrl B (insR R x)
  rw[zaop]at ih
  rw[Ax,sortN,zade,srt]
  exact ih
theorem zadf:∀(B R:List PP),(srt R B).Perm (R++B)
 | [],R=>by simp[srt]
 |x::B,R=>by
  rw[srt]
  refine(zadf B (insR R x)).trans ?_
  refine((zmu R x).append_right B).trans ?_
  exact List.perm_middle.symm
theorem zadg:∀(B R:List PP),R.Pairwise (fun p q=>q.1<=p.1)->(srt R B).Pairwise (fun p q=>q.1<=p.1)
 | [],R,h=>h
 |x::B,R,h=>by rw[srt];exact zadg B _ (zys R x h)
theorem sorted_perm (L:List PP):(sorted L).Perm L:=by
 cases L with
 |nil=>exact .refl _
 |cons x B =>
  have h:=zrl B [x]
  have e:sorted (x::B)=(srt [x] B).reverse:=h
  rw[e]
  exact(List.reverse_perm _).trans (zadf B [x])
theorem zafk (L:List PP):(sorted L).Pairwise (fun p q=>p.1<=q.1):=by
 cases L with
 |nil=>exact List.Pairwise.nil
 |cons x B =>
  have h:=zrl B [x]
  have e:sorted (x::B)=(srt [x] B).reverse:=h
  rw[e,List.pairwise_reverse]
  exact zadg B [x] (BV _ _)
end Go.Ideal
namespace Go.Ideal
open Go
set_option maxHeartbeats 4000000
set_option maxRecDepth 20000
attribute [-simp] getElem?_pos
theorem zbaj (t:Tree):IVal.agg [J4 t.kind, .p (.str t.name), .p (.str t.text), .p (aval (nattr t.attrs)), .p .nilslice]=tagg t.nbare:=by simp[tagg,Tree.zau]
theorem zafl (t u:Tree):cost t.nbare u.nbare=cost t u:=by
 unfold cost kin
 simp[zav]
theorem zajx {t u:Tree}:cost t u=0↔SameNode t u:=by
 unfold cost kin SameNode
 by_cases h1:t.kind=u.kind/\t.name=u.name
 ·rw[if_neg (not_not_intro h1)]
  by_cases h2:t.text=u.text/\alist t.attrs=alist u.attrs
  ·rw[if_pos h2];simp[h1,h2]
  ·rw[if_neg h2];simp[h1];simpa using h2
 ·rw[if_pos h1]
  simp
  intro a b;exact absurd ⟨a,b⟩ h1
theorem zafm (a b:Tree) (hs:(alist a.attrs).length<1000000000000) (H:J2):CW tr.look F_Q132 [tagg a,tagg b] H=some (J4 (cost a b),H):=by
 refine zaj look_Q132 rfl (by simp) rfl ?_
 dsimp only[i_Q132,c_Q132]
 have hn:=zahj a b hs
 by_cases h0:nodeCmp a b=0
 ·obtain⟨h1,h2,h3,h4⟩:=zgd.1 h0
  have hc:cost a b=0:=zajx.2 ⟨h1,h2,h3,h4⟩
  simp(disch:=omega) [zae,hn,h0,hc]
 ·have hne:¬SameNode a b:=fun h=>h0 (zgd.2 h)
  by_cases h1:a.kind=b.kind
  ·by_cases h2:a.name=b.name
   ·have hc:cost a b=1:=by
     unfold cost
     rw[if_neg (not_not_intro ⟨h1,h2⟩),if_neg (fun h=>hne ⟨h1,h2,h⟩)]
    have d2:decide (a.name=b.name)=true:=decide_eq_true h2
    simp(disch:=omega) [zae,hn,d2,hc]
   ·have hc:cost a b=3:=by unfold cost kin;rw[if_pos (fun h=>h2 h.2)]
    have d2:decide (a.name=b.name)=false:=decide_eq_false h2
    simp(disch:=omega) [zae,hn,d2,hc]
  ·have hc:cost a b=3:=by unfold cost kin;rw[if_pos (fun h=>h1 h.1)]
   simp(disch:=omega) [zae,hn,hc]
def RPost (t:Tree) (v:Vis) (k:Nat):Prop:=∀H,CW tr.look F_Q74 [.p (rval t), J4 k] H=some (.p (nval (postT v.t k)),H)
theorem zafn (t:Tree) (k:Nat) (v:Vis) (hv:t.vis[k]? = some v) (hs:t.size<1000000) (ih:∀(k':Nat) (w:Vis),t.vis[k']? = some w->w.t.size<v.t.size->RPost t w k') (H0:J2) (Q:J0)
 (hQ:∀H' o lv,VS H' o 1 (lsize (klist v.t.kids)) lv (pcells (nints (postL (klist v.t.kids) (k+1))))->Q .normal [(1, .int .i64 k),(5, .v lv)] ⟨[],H'⟩) :
 wpLoop (CW tr.look) 34 m_Q74_0 l_Q74_0 (blkK 0 b_Q74_0 Q) [(0, .v (.p (rval t))),(1, .int .i64 k),(5, .v (.p .nilslice)),(6, .int .i64 (k+1:Nat))] ⟨[],H0⟩:=by
 refine zac (α:=Nat×IVal×Option Nat×J2) (fun a=>[(0, .v (.p (rval t))),(1, .int .i64 k),(5, .v a.2.1),(6, .int .i64 (k+1+lsize ((klist v.t.kids).take a.1):Nat))]) (fun a=>⟨[],a.2.2.2⟩)
  (fun a=>a.1<=(klist v.t.kids).length/\VS a.2.2.2 a.2.2.1 1 (lsize ((klist v.t.kids).take a.1)) a.2.1 (pcells (nints (postL ((klist v.t.kids).take a.1) (k+1))))) (fun a=>(klist v.t.kids).length-a.1) ?_ (0, .p .nilslice,none,H0) ⟨AW _,VS.nil⟩
 rintro⟨j,lv,o,H⟩ ⟨hj,hV⟩ R hR
 dsimp only at hj hV hR ⊢
 dsimp only[l_Q74_0]
 have ht:=zag v.t
 have hend:=znk hv
 have hup:=hV.up
 have hne:lv≠.undef:=by rintro rfl;exact absurd hV.pass (by decide)
 have x1:=zcz hv
 by_cases hc:j<(klist v.t.kids).length
 ·obtain⟨w,w1,w2,_⟩:=zqt hv hc
  have hjs:=zbf hc
  have hle:=zml (klist v.t.kids) (j+1)
  have h1s:=zab (klist v.t.kids)[j]
  have x2:=zcz w1
  have hcall:=ih _ w w1 (by rw[w2];omega)
  rw[RPost,w2]at hcall
  obtain⟨lv',H',o',a1,a2,a3,a4⟩:=hV.appendP (v2 := .p (nval (postT (klist v.t.kids)[j] (k+1+lsize ((klist v.t.kids).take j))))) rfl rfl (by simp[nints]) (by rw[zal];omega)
  have hup':=a2.up
  have hne':lv'≠.undef:=by rintro rfl;exact absurd a2.pass (by decide)
  have c1:((k+1+lsize ((klist v.t.kids).take j):Nat):Int)<(k:Int)+(v.t.size:Nat):=by omega
  have c2:((k+1+lsize ((klist v.t.kids).take j):Nat):Int)+((klist v.t.kids)[j].size:Nat)=((k+1+lsize ((klist v.t.kids).take (j+1)):Nat):Int):=by omega
  rw[w2]at x2
  simp(disch:=omega) [-Int.natCast_add,x1,x2,hcall,a1,hup',c2,zaa]
  refine hR (j+1,lv',o',H') ⟨by dsimp only;omega,?_⟩ (by dsimp only;omega)
  dsimp only
  rw[zaex hc,hjs]
  rw[zal]at a2
  simpa[nints,pcells]using a2
 ·obtain rfl:j=(klist v.t.kids).length:=by omega
  rw[AT]at hV ⊢
  have c1:¬((k+1+lsize (klist v.t.kids):Nat):Int)<(k:Int)+(v.t.size:Nat):=by omega
  simp(disch:=omega) [-Int.natCast_add,x1,zaa]
  exact hQ H o lv hV
theorem zaoq (t:Tree) (hs:t.size<1000000):∀(n:Nat) (k:Nat) (v:Vis),v.t.size<n->t.vis[k]? = some v->RPost t v k:=by
 intro n
 induction n with
 |zero=>intro k v h;omega
 |succ n ih =>
  intro k v h hv H
  have hend:=znk hv
  refine zaj look_Q74 rfl (by simp) rfl ?_
  dsimp only[i_Q74,c_Q74]
  have e1:(k:Int)+1=((k+1:Nat):Int):=by omega
  simp(disch:=omega) [-Int.natCast_add,zaa,e1]
  refine zafn t k v hv hs (fun k' w hw hlt=>ih k' w (by omega) hw) [] _ ?_
  intro H' o lv hV
  have ht:=zag v.t
  obtain⟨lv',H2,o',a1,a2,a3,a4,a5,k2,rfl⟩:=hV.append1 (ys:=[J4 k]) rfl (by omega)
  have hup:=hV.up
  have hne:lv≠.undef:=by rintro rfl;exact absurd hV.pass (by decide)
  have hup':=a2.up
  have hps':=a2.pass
  have hne':lv'≠.undef:=by rintro rfl;exact absurd hps' (by decide)
  have e2:pcells (nints (postL (klist v.t.kids) (k+1)))++[J4 k]=pcells (nints (postT v.t k)):=by rw[zjn];simp[nints]
  rw[e2]at a2
  have e3:lsize (klist v.t.kids)+1=v.t.size:=by omega
  rw[e3]at a2
  have hfz:=zdp a2
  have hfr:freezeRes H2 lv'=some (.p (nval (postT v.t k))):=by
   obtain⟨ver,cs,op,rfl,_⟩:=a2
   rw[zbx,zby,hfz,nval,zal];rfl
  simp(disch:=omega) [a1,hup',hps',hfr]
theorem znr (t:Tree) (hf:Fine t) (H:J2):CW tr.look F_Q36 [tagg t] H=some (.p (nval (postT t 0)),H):=by
 refine zaj look_Q36 rfl (by simp) rfl ?_
 dsimp only[i_Q36,c_Q36]
 have h1:=fun H=>zdv t hf H
 have h0:t.vis[0]? = some ⟨t, -1,0,0⟩:=by rw[Tree.vis,zbm];rfl
 have h2:∀H,CW tr.look F_Q74 [.p (rval t), J4 0] H=some (.p (nval (postT t 0)),H):=zaoq t hf.1 _ 0 _ (Al _) h0
 simp(disch:=omega) [zae,h1,h2]
theorem zmv (t:Tree):(firsts t).length=t.size:=by rw[firsts,Bz,zak]
theorem zop (t:Tree) (hs:t.size<1000000) (H:J2):CW tr.look F_Q124 [.p (rval t), .p (nval (postT t 0))] H=some (.p (nval (firsts t)),H):=by
 refine zaj look_Q124 rfl (by simp) rfl ?_
 dsimp only[i_Q124,c_Q124]
 simp(disch:=omega) []
 refine zac (α:=Nat×IVal×Option Nat×J2) (fun a=>[(0, .v (.p (rval t))),(1, .v (.p (nval (postT t 0)))),(5, .v a.2.1),(6, .int .i64 a.1)]) (fun a=>⟨[],a.2.2.2⟩)
  (fun a=>a.1<=t.size/\VS a.2.2.2 a.2.2.1 1 a.1 a.2.1 (pcells (nints ((firsts t).take a.1)))/\(0<a.1->∃k,a.2.2.1=some k)) (fun a=>t.size-a.1) ?_ (0, .p .nilslice,none,[]) ⟨AW _,VS.nil,fun h=>absurd h (Nat.lt_irrefl _)⟩
 rintro⟨j,lv,o,H⟩ ⟨hj,hV,ho⟩ R hR
 dsimp only at hj hV ho hR ⊢
 dsimp only[l_Q124_0]
 have hup:=hV.up
 have hps:=hV.pass
 have hne:lv≠.undef:=by rintro rfl;exact absurd hps (by decide)
 have h1s:=zab t
 by_cases hc:j<t.size
 ·obtain⟨i,hi⟩:∃i,(postT t 0)[j]? = some i:=⟨_,Ac (by rw[zal];exact hc)⟩
  obtain⟨u,v,p1,p2,p3,p4,p5⟩:=zgs hi
  obtain⟨A,B,_,hAB⟩:=zss t j u p1
  have x1:=zeb hi
  have x2:=zcz (t:=t) (j:=i) p2
  rw[p3]at x2
  have hfj:(firsts t)[j]? = some (j+1-u.size):=by rw[firsts,C6,p1];rfl
  obtain⟨lv',H2,o',a1,a2,a3,a4,a5,k2,rfl⟩:=hV.append1 (ys:=[J4 (j+1-u.size:Nat)]) rfl (by omega)
  have hup':=a2.up
  have hne':lv'≠.undef:=by rintro rfl;exact absurd a2.pass (by decide)
  have hu1:=zab u
  have e1:(j:Int)-(u.size:Nat)+1=((j+1-u.size:Nat):Int):=by omega
  simp(disch:=omega) [zal,x1,x2,a1,hup',e1,zaa]
  refine hR (j+1,lv',some k2,H2) ⟨by dsimp only;omega,?_,fun _=>⟨_,rfl⟩⟩ (by dsimp only;omega)
  dsimp only
  rw[AQ,hfj]
  simpa[nints,pcells]using a2
 ·obtain rfl:j=t.size:=by omega
  obtain⟨k,rfl⟩:=ho (by omega)
  rw[Au (by rw[zmv];omega)]at hV
  have hfz:=zdp hV
  have hfr:freezeRes H lv=some (.p (nval (firsts t))):=by
   obtain⟨ver,cs,op,rfl,_⟩:=hV
   rw[zbx,zby,hfz,nval,zmv];rfl
  simp(disch:=omega) [zal,hps,hfr]
section
variable {H:J2} {k:Nat} {o1 o2:Option Nat} {s t:Tree}
def qc (q:Quad):J3:=[J4 q.1, J4 q.2.1, J4 q.2.2.1, J4 q.2.2.2]
def rg (a n:Nat):IVal := .agg [J4 a, J4 (a+n:Nat)]
def qd (a m b n:Nat):Quad:=((a:Int),((a+m:Nat):Int),(b:Int),((b+n:Nat):Int))
def Known2 (s t:Tree) (q:Quad) (v:Nat):Prop:=∃a b F G,Rep s a F/\Rep t b G/\F≠[]/\G≠[]/\q=qd a (lsize F) b (lsize G)/\v=fd F G
theorem Known2.right {v:Nat} {a b:Nat} {F G:List Tree} (hF:Rep s a F) (hG:Rep t b G) (h:Known2 s t (qd a (lsize F) b (lsize G)) v):v=fd F G:=by
 obtain⟨a',b',F',G',g1,g2,g3,g4,g5,g6⟩:=h
 simp only[qd,Prod.mk.injEq]at g5
 obtain⟨e1,e2,e3,e4⟩:=g5
 obtain rfl:a=a':=by omega
 obtain rfl:b=b':=by omega
 rw[g6,hF.same g1 (by omega),hG.same g2 (by omega)]
abbrev Memo2:=List (Quad×Nat)
structure ZAt (H:J2) (k:Nat) (o1 o2:Option Nat) (s t:Tree) (M:Memo2):Prop where
 blk:∃kv dv,H[k]? = some (.cells [.p (rval s), .p (rval t), .p (nval (postT s 0)), .p (nval (postT t 0)), .p (nval (firsts s)), .p (nval (firsts t)),kv,dv] 8 0 false)/\VS H o1 4 M.length kv (M.flatMap fun e=>qc e.1)/\VS H o2 1 M.length dv (pcells (nints (M.map (·.2))))/\o1≠some k/\o2≠some k/\(∀ j,o1=some j->o2≠some j)
 memo:∀e∈M,Known2 s t e.1 e.2
theorem qc_at:∀ {M:Memo2} {j:Nat} {e:Quad×Nat},M[j]? = some e->((M.flatMap fun e=>qc e.1).drop (j*4)).take 4=qc e.1
 | [],j,e,h=>by simp at h
 |x::M,0,e,h=>by
  rw[AO]at h
  injection h with h
  subst h
  simp[qc]
 |x::M,j+1,e,h=>by
  rw[Az]at h
  rw[AD,Co]
  simp only[qc,Aq,AK,Bl]
  exact qc_at h
theorem VS.at4 {o:Option Nat} {M:Memo2} {v:IVal} (h:VS H o 4 M.length v (M.flatMap fun e=>qc e.1)) {j:Nat} {e:Quad×Nat} (hj:M[j]? = some e):∃q,idxS 4 v (J4 j)=some q/\Ideal.up q=SV.v q/\loadVal ⟨[],H⟩ (some 4) q=some (.agg (qc e.1)):=by
 have hjl:=(Aa.1 hj).1
 cases o with
 |none=>have:=h.2.1;omega
 |some k =>
  obtain⟨ver,e1,e2⟩:=HS.load (bx:=[]) h hjl
  exact⟨_,e1,rfl,by rw[e2,qc_at hj]⟩
theorem VS.atN {o:Option Nat} {l:List Nat} {v:IVal} (h:VS H o 1 l.length v (pcells (nints l))) {j n:Nat} (hj:l[j]? = some n):∃q,idxS 1 v (J4 j)=some q/\Ideal.up q=SV.v q/\loadVal ⟨[],H⟩ none q=some (J4 n):=by
 have hjl:=(Aa.1 hj).1
 cases o with
 |none=>have:=h.2.1;omega
 |some k =>
  obtain⟨ver,e1,e2⟩:=VS.at1 h hjl
  exact⟨_,e1,rfl,e2 _ (zaca hj)⟩
theorem ZAt.fields {M:Memo2} (h:ZAt H k o1 o2 s t M) :
 loadVal ⟨[],H⟩ none (J5 k 0 0)=some (.p (rval s))/\loadVal ⟨[],H⟩ none (J5 k 0 1)=some (.p (rval t))/\loadVal ⟨[],H⟩ none (J5 k 0 2)=some (.p (nval (postT s 0)))/\loadVal ⟨[],H⟩ none (J5 k 0 3)=some (.p (nval (postT t 0))) /\
 loadVal ⟨[],H⟩ none (J5 k 0 4)=some (.p (nval (firsts s)))/\loadVal ⟨[],H⟩ none (J5 k 0 5)=some (.p (nval (firsts t))):=by
 obtain⟨kv,dv,h1,_⟩:=h.blk
 exact⟨zad h1 rfl,zad h1 rfl,zad h1 rfl,zad h1 rfl,zad h1 rfl,zad h1 rfl⟩
theorem zadh {M:Memo2} (hZ:ZAt H k o1 o2 s t M) (hs:s.size<1000000) (ht:t.size<1000000) {a b:Nat} {w u:Tree} {F G:List Tree} (hF:Rep s a (w::F)) (hG:Rep t b (u::G)) :
 CW tr.look F_Q125 [J5 k 0 0,rg a (lsize (w::F)),rg b (lsize (u::G))] H=some (.tup [rg (a+lsize F) (lsize (kidsR w)),rg (b+lsize G) (lsize (kidsR u)),rg a (lsize F),rg b (lsize G)],H):=by
 obtain⟨f0,f1,f2,f3,f4,f5⟩:=hZ.fields
 have hkw:=zai w
 have hku:=zai u
 have lF:=hF.le
 have lG:=hG.le
 have e1:lsize (w::F)=w.size+lsize F:=rfl
 have e2:lsize (u::G)=u.size+lsize G:=rfl
 have x1:=zeb hF.first
 have x2:=zeb hG.first
 have g1:((a+lsize (w::F):Nat):Int)-1=((a+lsize F+w.size-1:Nat):Int):=by omega
 have g2:((b+lsize (u::G):Nat):Int)-1=((b+lsize G+u.size-1:Nat):Int):=by omega
 have g3:a+lsize F+w.size-1=a+lsize F+lsize (kidsR w):=by omega
 have g4:b+lsize G+u.size-1=b+lsize G+lsize (kidsR u):=by omega
 obtain⟨r,H',h1,h2,rfl⟩:=zar (args:=[J5 k 0 0,rg a (lsize (w::F)),rg b (lsize (u::G))]) (H:=H) (Q:=fun r H'=>r = .tup [rg (a+lsize F) (lsize (kidsR w)),rg (b+lsize G) (lsize (kidsR u)),rg a (lsize F),rg b (lsize G)]/\H'=H) look_Q125 rfl rfl (by
  dsimp only[i_Q125,c_Q125]
  rw[g3]at x1 g1
  rw[g4]at x2 g2
  simp(disch:=omega) [-Int.natCast_add,rg,f4,f5,g1,g2,x1,x2,zaa])
 rw[h1,h2]
theorem zadi {M:Memo2} (hZ:ZAt H k o1 o2 s t M) (hs:Fine s) (ht:Fine t) {a b:Nat} {w u:Tree} {F G:List Tree} (hF:Rep s a (w::F)) (hG:Rep t b (u::G)) :
 CW tr.look F_Q126 [J5 k 0 0,rg a (lsize (w::F)),rg b (lsize (u::G))] H=some (J4 (cost w u),H):=by
 obtain⟨f0,f1,f2,f3,f4,f5⟩:=hZ.fields
 have hs1:=hs.1
 have ht1:=ht.1
 have hkw:=zai w
 have hku:=zai u
 have lF:=hF.le
 have lG:=hG.le
 have e1:lsize (w::F)=w.size+lsize F:=rfl
 have e2:lsize (u::G)=u.size+lsize G:=rfl
 have g1:((a+lsize (w::F):Nat):Int)-1=((a+lsize F+w.size-1:Nat):Int):=by omega
 have g2:((b+lsize (u::G):Nat):Int)-1=((b+lsize G+u.size-1:Nat):Int):=by omega
 obtain⟨i,hi⟩:∃i,(postT s 0)[a+lsize F+w.size-1]? = some i:=⟨_,Ac (by rw[zal];omega)⟩
 obtain⟨j,hj⟩:∃i,(postT t 0)[b+lsize G+u.size-1]? = some i:=⟨_,Ac (by rw[zal];omega)⟩
 obtain⟨w',v,p1,p2,p3,p4,p5⟩:=zgs hi
 obtain⟨u',v',q1,q2,q3,q4,q5⟩:=zgs hj
 have hw:w'=w:=by have:=hF.top;rw[p1]at this;injection this
 have hu:u'=u:=by have:=hG.top;rw[q1]at this;injection this
 have x1:=zeb hi
 have x2:=zeb hj
 have y1:=zcz (t:=s) (j:=i) p2
 have y2:=zcz (t:=t) (j:=j) q2
 rw[p3,hw]at y1
 rw[q3,hu]at y2
 have cc:=fun H=>zafm w.nbare u.nbare (by
  have:=hs.2 w (zng s w (Ao hF.top))
  rw[zaah,zav];omega) H
 rw[zafl]at cc
 obtain⟨r,H',h1,h2,rfl⟩:=zar (args:=[J5 k 0 0,rg a (lsize (w::F)),rg b (lsize (u::G))]) (H:=H) (Q:=fun r H'=>r = J4 (cost w u)/\H'=H) look_Q126 rfl rfl (by
  dsimp only[i_Q126,c_Q126]
  simp(disch:=omega) [-Int.natCast_add,rg,f0,f1,f2,f3,g1,g2,x1,x2,y1,y2,zbaj,cc,zaa])
 rw[h1,h2]
theorem zaor {M:Memo2} (hZ:ZAt H k o1 o2 s t M) (hM:M.length<1000000000) (q:Quad) {kf kg:KB} (Q:J0)
 (h1:∀e∈M,e.1=q->∀E B,lookE E 6 = .int .i64 e.2->Q .ret E ⟨B,H⟩)
 (h2:Q .normal [(0, .v (J5 k 0 0)),(4, .box 4 0),(5, .box 5 0),(7, .box 7 0)] ⟨[(7,some ⟨[.int .i64 q.1, .int .i64 q.2.1, .int .i64 q.2.2.1, .int .i64 q.2.2.2],4⟩),(5,some kg),(4,some kf)],H⟩) :
 wpLoop (CW tr.look) 137 m_Q104_0 l_Q104_0 (blkK 0 b_Q104_0 Q) [(0, .v (J5 k 0 0)),(4, .box 4 0),(5, .box 5 0),(7, .box 7 0),(8, .int .i64 0)] ⟨[(7,some ⟨[.int .i64 q.1, .int .i64 q.2.1, .int .i64 q.2.2.1, .int .i64 q.2.2.2],4⟩),(5,some kg),(4,some kf)],H⟩:=by
 obtain⟨kv,dv,g1,g2,g3,g4,g5,g6⟩:=hZ.blk
 have l6:loadVal ⟨[],H⟩ none (J5 k 0 6)=some kv:=zad g1 rfl
 have l7:loadVal ⟨[],H⟩ none (J5 k 0 7)=some dv:=zad g1 rfl
 have u6:=g2.up
 have n6:kv≠.undef:=by rintro rfl;exact absurd g2.pass (by decide)
 have u7:=g3.up
 have n7:dv≠.undef:=by rintro rfl;exact absurd g3.pass (by decide)
 have s6:=g2.len
 refine zac (α:=Nat) (fun j=>[(0, .v (J5 k 0 0)),(4, .box 4 0),(5, .box 5 0),(7, .box 7 0),(8, .int .i64 j)]) (fun _=>⟨[(7,some ⟨[.int .i64 q.1, .int .i64 q.2.1, .int .i64 q.2.2.1, .int .i64 q.2.2.2],4⟩),(5,some kg),(4,some kf)],H⟩) (fun j=>j<=M.length) (fun j=>M.length-j) ?_ 0 (AW _)
 rintro j hj R hR
 dsimp only[l_Q104_0]
 by_cases hc:j<M.length
 ·obtain⟨e,he⟩:∃e,M[j]? = some e:=⟨_,Ac hc⟩
  obtain⟨p,x1,x2,x3⟩:=g2.at4 he
  have g3':VS H o2 1 (M.map (·.2)).length dv (pcells (nints (M.map (·.2)))):=by rw[A9];exact g3
  obtain⟨p',y1,y2,y3⟩:=g3'.atN (j:=j) (n:=e.2) (by rw[Ap,he];rfl)
  simp only[qc]at x3
  by_cases hq:e.1=q
  ·have hm:=h1 e (Ao he) hq
   subst hq
   simp(disch:=omega) [l6,u6,s6,x1,x2,x3,negIf,eqVals,eqCls,clsEq,l7,u7,y1,y2,y3]
   refine hm _ _ ?_
   rfl
  ·have hb:(e.1.1==q.1&&(e.1.2.1==q.2.1&&(e.1.2.2.1==q.2.2.1&&e.1.2.2.2==q.2.2.2)))=false:=by
    rw[Cu];intro h;simp at h;exact hq (Prod.ext h.1 (Prod.ext h.2.1 (Prod.ext h.2.2.1 h.2.2.2)))
   simp(disch:=omega) [l6,u6,s6,x1,x2,x3,hb,negIf,eqVals,eqCls,clsEq,zaa]
   exact hR (j+1) (by omega) (by omega)
 ·obtain rfl:j=M.length:=by omega
  simp(disch:=omega) [l6,u6,s6]
  exact h2
end
structure ZG (k:Nat) (o1 o2:Option Nat) (H:J2) (o1' o2':Option Nat) (H':J2):Prop where
 keep:Keep (fun x=>x=k\/o1=some x\/o2=some x) H H'
 b1:o1'=o1\/∃j,o1'=some j/\H.length<=j
 b2:o2'=o2\/∃j,o2'=some j/\H.length<=j
theorem ZG.refl {k:Nat} {o1 o2:Option Nat} {H:J2}:ZG k o1 o2 H o1 o2 H:=⟨Keep.refl, .inl rfl, .inl rfl⟩
theorem ZG.trans {k:Nat} {o1 o2 p1 p2 q1 q2:Option Nat} {H H1 H2:J2} (h:ZG k o1 o2 H p1 p2 H1) (g:ZG k p1 p2 H1 q1 q2 H2):ZG k o1 o2 H q1 q2 H2:=by
 have hl:=h.keep.1
 refine⟨h.keep.trans' g.keep fun i hi e=>?_,?_,?_⟩
 ·rcases e with e|e|e
  ·exact .inl e
  ·rcases h.b1 with h1|⟨j,h1,h2⟩
   ·exact .inr (.inl (by rw[<- h1];exact e))
   ·rw[h1]at e;injection e with e;omega
  ·rcases h.b2 with h1|⟨j,h1,h2⟩
   ·exact .inr (.inr (by rw[<- h1];exact e))
   ·rw[h1]at e;injection e with e;omega
 ·rcases g.b1 with h1|⟨j,h1,h2⟩
  ·rw[h1];exact h.b1
  ·exact .inr ⟨j,h1,by omega⟩
 ·rcases g.b2 with h1|⟨j,h1,h2⟩
  ·rw[h1];exact h.b2
  ·exact .inr ⟨j,h1,by omega⟩
theorem pow3 {x y m:Nat} (h:x+y+2<=m):3 ^ x+3 ^ y+1+2*3 ^ (m-1)<=3 ^ m:=by
 obtain⟨n,rfl⟩:∃n,m=n+2:=⟨m-2,by omega⟩
 have e1:(3:Nat) ^ (n+2)=3*3 ^ (n+1):=by rw[Nat.pow_succ,Nat.mul_comm]
 have e2:(3:Nat) ^ (n+1)=3*3 ^ n:=by rw[Nat.pow_succ,Nat.mul_comm]
 have h3:1<=3 ^ n:=B9 _ _ (by omega)
 have e3:n+2-1=n+1:=by omega
 rw[e3,e1]
 have hxy:3 ^ x+3 ^ y<=3 ^ n+1:=by
  by_cases hx:x=0
  ·subst hx
   have:3 ^ y<=3 ^ n:=Cf (by omega) (by omega)
   simp;omega
  ·by_cases hy:y=0
   ·subst hy
    have:3 ^ x<=3 ^ n:=Cf (by omega) (by omega)
    simp;omega
   ·have a1:3 ^ x<=3 ^ (n-1):=Cf (by omega) (by omega)
    have a2:3 ^ y<=3 ^ (n-1):=Cf (by omega) (by omega)
    have a3:3 ^ n=3*3 ^ (n-1):=by
     have:n=(n-1)+1:=by omega
     rw[this,Nat.pow_succ,Nat.mul_comm];simp
    omega
 omega
def ZDist (s t:Tree) (n:Nat):Prop:=∀(H:J2) (k:Nat) (o1 o2:Option Nat) (M:Memo2) (a b:Nat) (F G:List Tree),ZAt H k o1 o2 s t M->Rep s a F->Rep t b G->lsize F+lsize G<n->M.length+3 ^ (lsize F+lsize G)<=900000000 ->
 ∃H' o1' o2' M',CW tr.look F_Q104 [J5 k 0 0,rg a (lsize F),rg b (lsize G)] H=some (J4 (fd F G:Nat),H')/\ZAt H' k o1' o2' s t M'/\ZG k o1 o2 H o1' o2' H'/\M'.length<=M.length+3 ^ (lsize F+lsize G)
theorem zaos (s t:Tree) (hs:Fine s) (ht:Fine t) (n:Nat) (ih:ZDist s t n):ZDist s t (n+1):=by
 intro H k o1 o2 M a b F G hZ hF hG hn hM
 have hs1:=hs.1
 have ht1:=ht.1
 have lF:=hF.le
 have lG:=hG.le
 cases F with
 |nil =>
  obtain⟨r,H',h1,rfl,h2⟩:=zar (args:=[J5 k 0 0,rg a (lsize []),rg b (lsize G)]) (H:=H) (Q:=fun r H'=>r = J4 (fd [] G:Nat)/\H'=H) look_Q104 rfl rfl (by
   dsimp only[i_Q104,c_Q104]
   simp only[lsize]at lG ⊢
   rw[zcr]
   simp(disch:=omega) [rg,zaa]
   omega)
  subst h2
  exact⟨_,o1,o2,M,h1,hZ,ZG.refl,B5 _ _⟩
 |cons w F =>
  have hkw:=zai w
  have e1:lsize (w::F)=w.size+lsize F:=rfl
  have na:(a:Int)≠((a+lsize (w::F):Nat):Int):=by omega
  cases G with
  |nil =>
   obtain⟨r,H',h1,rfl,h2⟩:=zar (args:=[J5 k 0 0,rg a (lsize (w::F)),rg b (lsize [])]) (H:=H) (Q:=fun r H'=>r = J4 (fd (w::F) []:Nat)/\H'=H) look_Q104 rfl rfl (by
    dsimp only[i_Q104,c_Q104]
    rw[zek]
    have e0:lsize []=0:=rfl
    have e3:((a+lsize (w::F):Nat):Int)-a+b-b=(lsize (w::F):Nat):=by omega
    simp(disch:=omega) [-Int.natCast_add,rg,zaa,e0,e3])
   subst h2
   exact⟨_,o1,o2,M,h1,hZ,ZG.refl,B5 _ _⟩
  |cons u G =>
   have hku:=zai u
   have e2:lsize (u::G)=u.size+lsize G:=rfl
   have nb:(b:Int)≠((b+lsize (u::G):Nat):Int):=by omega
   have hp:=zadh hZ hs1 ht1 hF hG
   have hpow:=pow3 (x:=lsize (kidsR w)+lsize (kidsR u)) (y:=lsize F+lsize G) (m:=lsize (w::F)+lsize (u::G)) (by omega)
   have v1:1<=3 ^ (lsize (kidsR w)+lsize (kidsR u)):=B9 _ _ (by omega)
   have v2:1<=3 ^ (lsize F+lsize G):=B9 _ _ (by omega)
   have v3:1<=3 ^ (lsize (w::F)+lsize (u::G)-1):=B9 _ _ (by omega)
   have q1:lsize (kidsR w++F)+lsize (u::G)=lsize (w::F)+lsize (u::G)-1:=by rw[zah];omega
   have q2:lsize (w::F)+lsize (kidsR u++G)=lsize (w::F)+lsize (u::G)-1:=by rw[zah];omega
   obtain⟨H1,a1,a2,M1,c1,Z1,G1,L1⟩:=ih H k o1 o2 M _ _ (kidsR w) (kidsR u) hZ hF.kids hG.kids (by omega) (by omega)
   obtain⟨H2,b1,b2,M2,c2,Z2,G2,L2⟩:=ih H1 k a1 a2 M1 _ _ F G Z1 hF.rest hG.rest (by omega) (by omega)
   have hcost:=zadi Z2 hs ht hF hG
   obtain⟨H3,d1,d2,M3,c3,Z3,G3,L3⟩:=ih H2 k b1 b2 M2 a b (kidsR w++F) (u::G) Z2 hF.opened hG (by omega) (by rw[q1];omega)
   rw[q1]at L3
   obtain⟨H4,f1,f2,M4,c4,Z4,G4,L4⟩:=ih H3 k d1 d2 M3 a b (w::F) (kidsR u++G) Z3 hF hG.opened (by omega) (by rw[q2];omega)
   rw[q2]at L4
   have x1:((a+lsize (w::F):Nat):Int)-1=((a+lsize (kidsR w++F):Nat):Int):=by rw[zah];omega
   have x2:((b+lsize (u::G):Nat):Int)-1=((b+lsize (kidsR u++G):Nat):Int):=by rw[zah];omega
   have y1:=fd_le (kidsR w) (kidsR u)
   have y2:=fd_le F G
   have y3:=fd_le (kidsR w++F) (u::G)
   have y4:=fd_le (w::F) (kidsR u++G)
   have hc3:=zahy w u
   rw[zah]at y3 y4
   have hm:=ext3 (fd (kidsR w) (kidsR u)+fd F G+cost w u) (fd (kidsR w++F) (u::G)) (fd (w::F) (kidsR u++G))
   rw[<- zir]at hm
   obtain⟨kv,dv,g1,g2,g3,g4,g5,g6⟩:=Z4.blk
   have hkl:=(Aa.1 g1).1
   have l6:loadVal ⟨[],H4⟩ none (J5 k 0 6)=some kv:=zad g1 rfl
   have u6:=g2.up
   have n6:kv≠.undef:=by rintro rfl;exact absurd g2.pass (by decide)
   obtain⟨kv',H5,p1,t1,t2,t3,t4,t5,j1,rfl⟩:=g2.append1 (ys:=qc (qd a (lsize (w::F)) b (lsize (u::G)))) rfl (by omega)
   have k5:H5[k]? = some (.cells [.p (rval s), .p (rval t), .p (nval (postT s 0)), .p (nval (postT t 0)), .p (nval (firsts s)), .p (nval (firsts t)),kv,dv] 8 0 false):=by rw[t3.2 k hkl (fun e=>g4 e)];exact g1
   have w5:writeCells ⟨[],H5⟩ (J5 k 0 6) [kv']=some ⟨[],H5.set k (.cells [.p (rval s), .p (rval t), .p (nval (postT s 0)), .p (nval (postT t 0)), .p (nval (firsts s)), .p (nval (firsts t)),kv',dv] 8 0 false)⟩:=by rw[zam k5 (by simp)];rfl
   have u5:=t2.up
   have n5:kv'≠.undef:=by rintro rfl;exact absurd t2.pass (by decide)
   have hlt5:=t3.1
   have hj1:j1≠k:=by
    rcases t5 with e|⟨k',e,e2⟩
    ·intro e3;subst e3;exact g4 e.symm
    ·injection e with e;omega
   generalize hH6:H5.set k (.cells [.p (rval s), .p (rval t), .p (nval (postT s 0)), .p (nval (postT t 0)), .p (nval (firsts s)), .p (nval (firsts t)),kv',dv] 8 0 false)=H6 at w5
   have k6:H6[k]? = some (.cells [.p (rval s), .p (rval t), .p (nval (postT s 0)), .p (nval (postT t 0)), .p (nval (firsts s)), .p (nval (firsts t)),kv',dv] 8 0 false):=by rw[<- hH6];exact zao (by omega)
   have K56:Keep (fun x=>x=k) H5 H6:=by rw[<- hH6];exact Keep.set (.inl rfl)
   have l7:loadVal ⟨[],H6⟩ none (J5 k 0 7)=some dv:=zad k6 rfl
   have D6:VS H6 f2 1 M4.length dv (pcells (nints (M4.map (·.2)))):=(g3.keep t3 (fun x hx e=>g6 x e hx)).keep K56 (fun x hx e=>g5 (by rw[hx,e]))
   have u7:=D6.up
   have n7:dv≠.undef:=by rintro rfl;exact absurd D6.pass (by decide)
   obtain⟨dv',H7,p2,r1,r2,r3,r4,r5,j2,rfl⟩:=D6.append1 (ys:=[J4 (fd (w::F) (u::G):Nat)]) rfl (by omega)
   have hkl6:=(Aa.1 k6).1
   have k7:H7[k]? = some (.cells [.p (rval s), .p (rval t), .p (nval (postT s 0)), .p (nval (postT t 0)), .p (nval (firsts s)), .p (nval (firsts t)),kv',dv] 8 0 false):=by rw[r3.2 k hkl6 (fun e=>g5 e)];exact k6
   have w7:writeCells ⟨[],H7⟩ (J5 k 0 7) [dv']=some ⟨[],H7.set k (.cells [.p (rval s), .p (rval t), .p (nval (postT s 0)), .p (nval (postT t 0)), .p (nval (firsts s)), .p (nval (firsts t)),kv',dv'] 8 0 false)⟩:=by rw[zam k7 (by simp)];rfl
   have u8:=r2.up
   have n8:dv'≠.undef:=by rintro rfl;exact absurd r2.pass (by decide)
   have hj2:j2≠k:=by
    rcases r5 with e|⟨k',e,e2⟩
    ·intro e3;subst e3;exact g5 e.symm
    ·injection e with e;omega
   have hj12:j1≠j2:=by
    have hj1l:=VS.lt t2
    have hl6:H6.length=H5.length:=by rw[<- hH6];simp
    rcases r5 with e|⟨k',e,e2⟩
    ·rcases t5 with e3|⟨k',e3,e4⟩
     ·intro e5;subst e5;exact g6 _ e3.symm e.symm
     ·injection e3 with e3
      have hd:=VS.lt (e ▸ g3)
      omega
    ·injection e with e;omega
   have hd6:f2≠some j1:=by
    intro e
    rcases t5 with e3|⟨k',e3,e4⟩
    ·exact g6 _ e3.symm e
    ·injection e3 with e3
     have hd:=VS.lt (e ▸ g3)
     omega
   generalize hH8:H7.set k (.cells [.p (rval s), .p (rval t), .p (nval (postT s 0)), .p (nval (postT t 0)), .p (nval (firsts s)), .p (nval (firsts t)),kv',dv'] 8 0 false)=H8 at w7
   have K78:Keep (fun x=>x=k) H7 H8:=by rw[<- hH8];exact Keep.set (.inl rfl)
   have hnew:Known2 s t (qd a (lsize (w::F)) b (lsize (u::G))) (fd (w::F) (u::G)):=⟨a,b,w::F,u::G,hF,hG,by simp,by simp,rfl,rfl⟩
   have Z8:ZAt H8 k (some j1) (some j2) s t (M4++[(qd a (lsize (w::F)) b (lsize (u::G)),fd (w::F) (u::G))]):=by
    refine⟨⟨kv',dv',by rw[<- hH8];exact zao (Aa.1 k7).1,?_,?_,by simp[hj1],by simp[hj2],fun j e=>by simp at e ⊢;omega⟩,?_⟩
    ·have:=((t2.keep K56 (fun x hx e=>by injection hx with hx;omega)).keep r3 (fun x hx e=>by injection hx with hx;subst hx;exact hd6 e)).keep K78 (fun x hx e=>by injection hx with hx;omega)
     simpa using this
    ·have:=r2.keep K78 (fun x hx e=>by injection hx with hx;omega)
     simpa[nints]using this
    ·intro e he
     rcases Ar.1 he with he|he
     ·exact Z4.memo e he
     ·simp at he;subst he;exact hnew
   have G8:ZG k o1 o2 H (some j1) (some j2) H8:=by
    have GA:ZG k f1 f2 H4 (some j1) f2 H6:=by
     refine⟨(t3.mono fun i _ e=>.inr (.inl e)).trans (K56.mono fun i _ e=>.inl e),?_, .inl rfl⟩
     rcases t5 with e|e
     ·exact .inl e
     ·exact .inr e
    have GB:ZG k (some j1) f2 H6 (some j1) (some j2) H8:=by
     refine⟨(r3.mono fun i _ e=>.inr (.inr e)).trans (K78.mono fun i _ e=>.inl e), .inl rfl,?_⟩
     rcases r5 with e|e
     ·exact .inl e
     ·exact .inr e
    exact((((G1.trans G2).trans G3).trans G4).trans GA).trans GB
   simp only[rg]at hp c1 c2 c3 c4 hcost
   simp only[qc,qd]at t1
   simp only[BR]at hm
   obtain⟨r,H',h1,h2⟩:=zar (args:=[J5 k 0 0,rg a (lsize (w::F)),rg b (lsize (u::G))]) (H:=H) (Q:=fun r H'=>r = J4 (fd (w::F) (u::G):Nat)/\((H'=H8)\/(H'=H))) look_Q104 rfl rfl (by
    dsimp only[i_Q104,c_Q104]
    simp(disch:=omega) [-Int.natCast_add,rg]
    refine zaor hZ (by omega) (qd a (lsize (w::F)) b (lsize (u::G))) _ ?_ ?_
    ·intro e he hq E B hE
     have hv:=Known2.right hF hG (hq ▸ hZ.memo e he)
     simp(disch:=omega) [hE,hv]
    ·simp(disch:=omega) [-Int.natCast_add,qd,hp,c1,c2,hcost,x1,x2,c3,c4,zaa,hm,l6,u6,t1,u5,w5,zgu t2.cells u5,l7,u7,r1,u8,w7,zgu r2.cells u8])
   obtain⟨rfl,rfl|rfl⟩:=h2
   ·refine⟨_,some j1,some j2,_,h1,Z8,G8,?_⟩
    simp only[Af,AN]
    omega
   ·exact⟨_,o1,o2,M,h1,hZ,ZG.refl,B5 _ _⟩
theorem zfv (s t:Tree) (hs:Fine s) (ht:Fine t):∀n,ZDist s t n
 |0=>fun _ _ _ _ _ _ _ _ _ _ _ _ h=>absurd h (C7 _)
 |n+1=>zaos s t hs ht n (zfv s t hs ht n)
end Go.Ideal
