import Derived.Test.YtjlnpggbekondaaGreatW7
import Derived.Test.YtjlnpggbekondaaGreatW4
import Derived.Test.YtjlnpggbekondaaGreatW3
import Derived.Test.YtjlnpggbekondaaGreatW5
import Derived.Test.YtjlnpggbekondaaGreatW6
namespace Go.Ideal
open Go
set_option maxHeartbeats 4000000
set_option maxRecDepth 20000
attribute [-simp] getElem?_pos
def NS (t:Tree):Prop:=t.name.length<=10/\t.text.length<=10/\(alist t.attrs).length<=2/\∀p∈alist t.attrs,p.1.length<=10/\p.2.length<=10
structure GT (t:Tree) (m dp:Nat):Prop where
 sz:t.size<=m
 dp:t.height<=dp
 ns:∀u∈t.nodes,NS u
def NV (t:Tree):Prop:=NS t/\nodeB t=true/\t.kind≠5
structure GV (t:Tree) (m dp:Nat):Prop where
 sz:t.size<=m
 dp:t.height<=dp
 ns:∀u∈t.nodes,NV u
theorem zach {u:Tree} {l:List Tree} (h:u∈l):u∈lnodes l:=zfl.2 ⟨u,h,by rw[zbu];simp⟩
theorem zaei:∀ {l:List Tree} {r:Bool},(∀ u∈l,NV u)->kidsB r l=true
 | [],r,_=>rfl
 |t::l,r,h=>by
  have h1:=h t (by simp)
  have h2:=zaei (r:=r) fun u hu=>h u (An _ hu)
  simp only[kidsB,h1.2.1,h2,Bool.and_true,A3,BZ,decide_eq_true_eq]
  exact .inl h1.2.2
def GrownQ (iat inn n deep:Nat) (H:J2) (r:IVal) (H':J2):Prop:=∃(cs:J3) (a' n':Nat) (t:Tree),r = .agg cs/\H'[iat]? = some (cnt a')/\H'[inn]? = some (cnt n')/\n<n'/\n'<=40/\a'<=n'+1 /\
    (∀ x,x<H.length->x≠iat->x≠inn->H'[x]? = H[x]?)/\H.length<=H'.length/\All2 (frzP (fun k=>H.length<=k) H' (20-deep)) cs t.cells/\cs.length=5/\GV t (n'-n) (7-deep)
structure GInv (H0:J2) (iat inn n0 deep:Nat) (AL:List (Bytes×Bytes)) (av kv:IVal) (ts:List Tree) (a n:Nat) (G:J2):Prop where
 ha:G[iat]? = some (cnt a)
 hn:G[inn]? = some (cnt n)
 b1:n0<=n
 b2:n<=40
 b3:a<=n+1
 le:H0.length<=G.length
 fr:∀x,x<H0.length->x≠iat->x≠inn->G[x]? = H0[x]?
 va:av = .p .nilslice/\AL=[]\/∃ka,H0.length<=ka/\HS G ka 2 AL.length av (pcells (acells AL))/\(∀ kb c d e,kv = .slice kb c d e->ka≠kb)/\AL≠[]
 vk:kv = .p .nilslice/\ts=[]\/∃kb X,H0.length<=kb/\HS G kb 5 ts.length kv X/\All2 (frzP (fun k=>H0.length<=k/\k≠kb) G (19-deep)) X (kcells ts)/\ts≠[]
 sz:lsize ts+n0<=n
 hh:lheight ts<=6-deep
 ns:∀u∈lnodes ts,NV u
theorem zrv:∀(ts:List Tree) (t:Tree),kcells (ts++[t])=kcells ts++t.cells
 | [],t=>by simp[kcells]
 |u::ts,t=>by simp only[At,kcells,zrv ts t,Aw]
theorem zow:∀(ts:List Tree) (t:Tree),lheight (ts++[t])=max (lheight ts) t.height
 | [],t=>by simp[lheight]
 |u::ts,t=>by simp only[At,lheight,zow ts t];omega
theorem zrw:∀(ts:List Tree) (t:Tree),lnodes (ts++[t])=lnodes ts++t.nodes
 | [],t=>by simp[lnodes]
 |u::ts,t=>by simp only[At,lnodes,zrw ts t,Aw]
theorem GInv.kid {H0:J2} {iat inn n0 deep:Nat} {AL:List (Bytes×Bytes)} {av kv:IVal} {ts:List Tree} {a n:Nat} {G:J2} (h:GInv H0 iat inn n0 deep AL av kv ts a n G) (hi:iat<H0.length/\inn<H0.length) (_:deep<=5)
 {cs:J3} {G':J2} {a' n':Nat} {t:Tree} (e1:G'[iat]? = some (cnt a')) (e2:G'[inn]? = some (cnt n')) (e3:n<n') (e4:n'<=40) (e5:a'<=n'+1)
 (e6:∀x,x<G.length->x≠iat->x≠inn->G'[x]? = G[x]?) (e7:G.length<=G'.length) (e8:All2 (frzP (fun k=>G.length<=k) G' (19-deep)) cs t.cells) (e9:cs.length=5) (e10:GV t (n'-n) (6-deep)) :
 up kv = .v kv/\∃kv' G2,evalAppend ⟨[],G'++[.cells cs 5 0 false]⟩ 5 kv (.slice G'.length 0 0 1)=some (kv',⟨[],G2⟩)/\(∃ a b c,kv' = .slice a b 0 c)/\GInv H0 iat inn n0 deep AL av kv' (ts++[t]) a' n' G2:=by
 have hle:=h.le
 have htl:ts.length<=lsize ts:=by
  have:∀l:List Tree,l.length<=lsize l:=by
   intro l
   induction l with
   |nil=>simp
   |cons x l ih=>have:=zac x;simp only[lsize,AA];omega
  exact this ts
 have hsz:=h.sz
 have hb2:=h.b2
 obtain⟨X,hX⟩:∃X,(kv = .p .nilslice/\ts.length=0/\X=[]/\ts=[])\/∃kb,H0.length<=kb/\kb<G.length/\HS G' kb 5 ts.length kv X/\All2 (frzP (fun k=>(H0.length<=k/\k≠kb)/\k<G.length) G' (19-deep)) X (kcells ts):=by
  rcases h.vk with⟨h1,h2⟩|⟨kb,X,h1,h2,h3,_⟩
  ·exact⟨[], .inl ⟨h1,by simp[h2],rfl,h2⟩⟩
  ·refine⟨X, .inr ⟨kb,h1,h2.lt,h2.keep (e6 kb h2.lt (by omega) (by omega)),h3.imp fun v p hv=>zcu (fun k hk hl=>⟨⟨hk,hl⟩,e6 k hl (by omega) (by omega)⟩) hv⟩⟩
 obtain⟨hup,kv',G2,kl,f1,⟨u1,u2,u3,rfl⟩,f3,f4,f5,f6⟩:=zzc (H:=G') (v:=kv) (e:=5) (n:=ts.length) (X:=X) (ys:=cs) (by
  rcases hX with⟨h1,h2,h3,_⟩|⟨kb,_,_,h2,_⟩
  ·exact .inl ⟨h1,h2,h3⟩
  ·exact .inr ⟨kb,h2⟩) e9 (by omega)
 have hkl:(G'.length<=kl)\/(H0.length<=kl/\kl<G.length/\∃c d e,kv = .slice kl c d e):=by
  rcases f6 with f6|f6
  ·exact .inl f6
  ·rcases hX with⟨rfl,_⟩|⟨kb,q1,q2,q3,_⟩
   ·obtain⟨_,_,_,hh,_⟩:=f6;cases hh
   ·obtain⟨_,_,_,hh,_⟩:=f6
    obtain⟨_,_,_,hh2,_⟩:=q3
    rw[hh]at hh2
    cases hh2
    exact .inr ⟨q1,q2,_,_,_,hh⟩
 have hklH:H0.length<=kl:=by rcases hkl with h1|h1<;>omega
 have hu:u1=kl:=by obtain⟨_,_,_,hh,_⟩:=f4;cases hh;rfl
 have hG2:∀y,y<G'.length->y≠kl->G2[y]? = G'[y]? := f5
 refine⟨hup,_,G2,f1,⟨_,_,_,rfl⟩,?_⟩
 refine⟨by rw[hG2 iat (by omega) (by omega)];exact e1,by rw[hG2 inn (by omega) (by omega)];exact e2,by have:=h.b1;omega,e4,e5,by omega,fun x hx h1 h2=>?_,?_,?_,?_,?_,?_⟩
 ·rw[hG2 x (by omega) (by omega),e6 x (by omega) h1 h2];exact h.fr x hx h1 h2
 ·rcases h.va with h1|⟨ka,h1,h2,h3,hA⟩
  ·exact .inl h1
  ·have hne:ka≠kl:=by
    rcases hkl with h4|⟨_,_,c,d,e,h4⟩
    ·have:=h2.lt;omega
    ·exact h3 _ _ _ _ h4
   refine .inr ⟨ka,h1,h2.keep ?_,fun kb c d e he=>?_,hA⟩
   ·have:=h2.lt
    rw[hG2 ka (by omega) hne,e6 ka this (by omega) (by omega)]
   ·cases he;rw[hu];exact hne
 ·refine .inr ⟨kl,X++cs,hklH,by rw[Af];exact f4,?_,by simp⟩
  rw[zrv]
  refine All2.append ?_ (e8.imp fun v p hv=>zcu (fun k hk hl=>?_) hv)
  ·rcases hX with⟨_,_,rfl,rfl⟩|⟨kb,q1,q2,q3,q4⟩
   ·rfl
   ·refine q4.imp fun v p hv=>zcu (fun k hk hl=>?_) hv
    have hne:k≠kl:=by
     rcases hkl with h4|⟨_,_,c,d,e,h4⟩
     ·omega
     ·obtain⟨_,_,_,hh,_⟩:=q3
      rw[h4]at hh;cases hh;exact hk.1.2
    exact⟨⟨hk.1.1,hne⟩,hG2 k (by omega) hne⟩
  ·have hne:k≠kl:=by rcases hkl with h4|⟨_,h4,_⟩<;>omega
   exact⟨⟨by omega,hne⟩,hG2 k hl hne⟩
 ·have:=e10.sz
  rw[zah]
  simp only[lsize];omega
 ·rw[zow]
  have:=h.hh
  have:=e10.dp
  omega
 ·intro u hu
  rw[zrw]at hu
  rcases Ar.1 hu with h1|h1
  ·exact h.ns u h1
  ·exact e10.ns u h1
def nonil {α:Type} (l:List α):Option (List α):=if l=[]then none else some l
theorem zht (l:List Tree):klist (nonil l)=l:=by
 unfold nonil
 split
 ·rename_i h;rw[h];rfl
 ·rfl
theorem zlk (l:List (Bytes×Bytes)):alist (nonil l)=l:=by
 unfold nonil
 split
 ·rename_i h;rw[h];rfl
 ·rfl
theorem GInv.done {H0:J2} {iat inn n0 deep:Nat} {AL:List (Bytes×Bytes)} {av kv:IVal} {ts:List Tree} {a n:Nat} {G:J2} (h:GInv H0 iat inn (n0+1) deep AL av kv ts a n G) (hd:deep<=5) (nm:Bytes) (hnm:nm.length<=10) (hnb:nameB nm=true) (hab:attrsB AL=true) (hAL:AL.length<=2/\∀p∈AL,p.1.length<=10/\p.2.length<=10) :
 up av = .v av/\up kv = .v kv/\GrownQ iat inn n0 deep H0 (.agg [J4 2, .p (.str nm), .p (.str []),av,kv]) G:=by
 have ua:up av = .v av:=by rcases h.va with⟨rfl,_⟩|⟨_,_,⟨_,_,_,rfl,_⟩,_⟩<;>rfl
 have uk:up kv = .v kv:=by rcases h.vk with⟨rfl,_⟩|⟨_,_,_,⟨_,_,_,rfl,_⟩,_⟩<;>rfl
 refine⟨ua,uk,_,a,n, .mk 2 nm [] (nonil AL) (nonil ts),rfl,h.ha,h.hn,h.b1,h.b2,h.b3,h.fr,h.le,?_,rfl,?_,?_,?_⟩
 ·rw[Tree.zau]
  refine⟨_,_,rfl,zem (n:=1) (by omega) rfl,_,_,rfl,zem (n:=1) (by omega) rfl,_,_,rfl,zem (n:=1) (by omega) rfl,_,_,rfl,?_,_,_,rfl,?_,rfl⟩
  ·show frzP _ _ _ av (aval (nonil AL))
   rcases h.va with⟨rfl,rfl⟩|⟨ka,h1,h2,_,hn⟩
   ·exact zem (n:=1) (by omega) rfl
   ·unfold nonil
    rw[if_neg hn]
    exact zem (n:=2) (by omega) (h2.frz h1 (All2.plain (n:=0) _))
  ·show frzP _ _ _ kv (kval (nonil ts))
   rcases h.vk with⟨rfl,rfl⟩|⟨kb,X,h1,h2,h3,hn⟩
   ·exact zem (n:=1) (by omega) rfl
   ·unfold nonil
    rw[if_neg hn]
    exact zem (n:=19-deep+1) (by omega) (h2.frz h1 (h3.imp fun v p hv=>zcu (fun k hk _=>⟨hk.1,rfl⟩) hv))
 ·have:=h.sz
  rw[zag]
  show lsize (klist (nonil ts))+1<=_
  rw[zht];omega
 ·have:=h.hh
  rw[zdr]
  show lheight (klist (nonil ts))+1<=_
  rw[zht];omega
 ·intro u hu
  rw[zbu]at hu
  rcases Ak.1 hu with rfl|hu
  ·refine⟨⟨hnm,by simp[Tree.text],?_,?_⟩,?_,by simp[Tree.kind]⟩
   ·show(alist (nonil AL)).length<=2
    rw[zlk];exact hAL.1
   ·show ∀p∈alist (nonil AL),_
    rw[zlk];exact hAL.2
   ·rw[zju,if_pos (show(Tree.mk 2 nm [] (nonil AL) (nonil ts)).kind=2 from rfl)]
    show(nameB nm&&decide (([]:Bytes)=[])&&attrsB (alist (nonil AL))&&kidsB false (klist (nonil ts)))=true
    rw[zlk,zht,hnb,hab,zaei fun u hu=>h.ns u (zach hu)]
    simp
  ·have:klist (Tree.mk 2 nm [] (nonil AL) (nonil ts)).kids=ts:=zht ts
   rw[this]at hu
   exact h.ns u hu
theorem GT.str {t:Tree} {m d:Nat} (h:GT t m d):∀u∈t.nodes,NodeStr u:=fun u hu=>by
 obtain⟨h1,h2,h3,h4⟩:=h.ns u hu
 exact⟨by omega,by omega,by omega,fun p hp=>by have:=h4 p hp;omega⟩
section
variable {G:J2} {d lo:Nat} {kv:IVal} {ts:List Tree} {ys:J3}
theorem zaqb {H:J2} {v:IVal} {e n ny:Nat} {X:J3} (hv:v = .p .nilslice/\n=0/\X=[]\/∃kl,HS H kl e n v X) (hy:ys.length=ny*e) (h0:0<ny) (hb:n+ny<1000000) :
 up v = .v v/\∃v' H2 kl,evalAppend ⟨[],H++[.cells ys e 0 false]⟩ e v (.slice H.length 0 0 ny)=some (v',⟨[],H2⟩)/\(∃ b c,v' = .slice kl b 0 c)/\H.length<=H2.length/\HS H2 kl e (n+ny) v' (X++ys)/\(∀ y,y<H.length->y≠kl->H2[y]? = H[y]?)/\(H.length<=kl\/∃b c d,v = .slice kl b c d):=by
 have hsrc:srcCells ⟨[],H++[.cells ys e 0 false]⟩ e (.slice H.length 0 0 ny)=some ys:=zbv (op:=false) zaz hy
 rcases hv with⟨rfl,rfl,rfl⟩|⟨kl,hs⟩
 ·refine⟨rfl,_,_,H.length+1,append_nil (bx:=[]) hsrc rfl h0 (by omega),⟨0,ny,by simp⟩,by simp,⟨0,_,true,by simp,by rw[Ae (by simp)];simp;rfl,by simp[hy],by rw[AN,Au (by simp[hy])]⟩,fun y hl _=>?_, .inl (by omega)⟩
  rw[Ab (by simp;omega),Ab hl]
 ·obtain⟨ver,cs,op,rfl,hk,hn,hx⟩:=hs
  have hkl:=(Aa.1 hk).1
  have happ:=zbd (bx:=[]) (H:=H++[.cells ys e 0 false]) (y := .slice H.length 0 0 ny) (ny:=ny) (by rw[Ab hkl];exact hk) hn (ys:=ys) hsrc rfl h0 (by omega)
  have hnew:=zgw (H:=H++[.cells ys e 0 false]) (ver:=ver) (op:=op) (ys:=ys) (ny:=ny) (k:=kl) (by simp;omega) hn hy
  rw[hx]at hnew
  refine⟨rfl,_,_,kl,happ,⟨_,_,rfl⟩,by simp,hnew,fun y hl hne=>?_, .inr ⟨_,_,_,rfl⟩⟩
  rw[Ad (Ne.symm hne),Ab hl]
def KOK (lo d:Nat) (kv:IVal) (ts:List Tree) (G:J2):Prop:=kv = .p .nilslice/\ts=[]\/∃kb X,lo<=kb/\HS G kb 5 ts.length kv X/\All2 (frzP (fun k=>lo<=k/\k≠kb) G d) X (kcells ts)/\ts≠[]
theorem KOK.up (h:KOK lo d kv ts G):up kv = .v kv/\kv≠.undef:=by
 rcases h with⟨rfl,_⟩|⟨_,_,_,⟨_,_,_,rfl,_⟩,_⟩<;>exact⟨rfl,by simp⟩
theorem zrx:∀(a b:List Tree),kcells (a++b)=kcells a++kcells b
 | [],b=>rfl
 |t::a,b=>by simp only[At,kcells,zrx a b,Aw]
theorem zny:∀ts:List Tree,(kcells ts).length=ts.length*5
 | []=>rfl
 |t::ts=>by rw[kcells,Af,zny ts,Tree.zau];simp;omega
theorem All2.len {R:IVal->PVal->Prop}:∀ {l:J3} {m:List PVal},All2 R l m->l.length=m.length
 | [],m,e=>by simp only[All2]at e;subst e;rfl
 |v::vs,m,⟨p,ps,e,_,h⟩=>by subst e;simp[h.len]
theorem KOK.keep {G':J2} (h:KOK lo d kv ts G) (hk:∀k,lo<=k->k<G.length->G'[k]? = G[k]?):KOK lo d kv ts G':=by
 rcases h with h|⟨kb,X,h1,h2,h3,h4⟩
 ·exact .inl h
 ·exact .inr ⟨kb,X,h1,h2.keep (hk kb h1 h2.lt),h3.imp fun v p hv=>zcu (fun k hk' hl=>⟨hk',hk k hk'.1 hl⟩) hv,h4⟩
theorem KOK.app {us:List Tree} (h:KOK lo d kv ts G) (hlo:lo<=G.length) (hy:All2 (frzP (fun k=>lo<=k/\∀kb a b c,kv = .slice kb a b c->k≠kb) G d) ys (kcells us)) (h0:0<us.length) (hb:ts.length+us.length<1000000) :
 ∃kv' G2,evalAppend ⟨[],G++[.cells ys 5 0 false]⟩ 5 kv (.slice G.length 0 0 us.length)=some (kv',⟨[],G2⟩)/\(∃ a b c,kv' = .slice a b 0 c)/\G.length<=G2.length/\(∀ y,y<lo->G2[y]? = G[y]?)/\KOK lo d kv' (ts++us) G2:=by
 have hyl:=hy.len
 rw[zny]at hyl
 obtain⟨X,hX,hXa⟩:∃X,(kv = .p .nilslice/\ts.length=0/\X=[]\/∃kl,HS G kl 5 ts.length kv X)/\All2 (frzP (fun k=>lo<=k/\∀kb a b c,kv = .slice kb a b c->k≠kb) G d) X (kcells ts):=by
  rcases h with⟨h1,h2⟩|⟨kb,X,h1,h2,h3,_⟩
  ·exact⟨[], .inl ⟨h1,by simp[h2],rfl⟩,by subst h2;rfl⟩
  ·refine⟨X, .inr ⟨kb,h2⟩,h3.imp fun v p hv=>zcu (fun k hk hl=>⟨⟨hk.1,fun kb' a b c he=>?_⟩,rfl⟩) hv⟩
   obtain⟨_,_,_,hh,_⟩:=h2
   rw[hh]at he;cases he;exact hk.2
 obtain⟨_,v',G2,kl,f1,⟨b,c,rfl⟩,f3,f4,f5,f6⟩:=zaqb (H:=G) (v:=kv) (e:=5) (n:=ts.length) (ny:=us.length) hX hyl h0 hb
 have hkl:lo<=kl:=by
  rcases f6 with f6|⟨b',c',d',f6⟩
  ·omega
  ·rcases h with⟨h1,_⟩|⟨kb,_,h1,h2,_⟩
   ·rw[h1]at f6;cases f6
   ·obtain⟨_,_,_,hh,_⟩:=h2
    rw[f6]at hh;cases hh;exact h1
 have hne:∀k,k<G.length->(∀ kb a b c,kv = .slice kb a b c->k≠kb)->k≠kl:=by
  intro k hk h1
  rcases f6 with f6|⟨b',c',d',f6⟩
  ·omega
  ·exact h1 _ _ _ _ f6
 refine⟨_,G2,f1,⟨_,_,_,rfl⟩,f3,fun y hy=>f5 y (by omega) (by omega), .inr ⟨kl,X++ys,hkl,by rw[Af];exact f4,?_,fun e=>?_⟩⟩
 ·rw[zrx]
  exact(hXa.append hy).imp fun v p hv=>zcu (fun k hk hl=>⟨⟨hk.1,hne k hl hk.2⟩,f5 k hl (hne k hl hk.2)⟩) hv
 ·have:=congrArg List.length e
  simp at this
  rw[this.2]at h0;simp at h0
theorem KOK.pre {u:Tree} (h:KOK lo d kv ts G) (hlo:lo<=G.length) (hy:All2 (frzP (fun k=>lo<=k) G d) ys u.cells) (hb:ts.length+1<1000000) :
 ∃kv' G2,evalAppend ⟨[],G++[.cells ys 5 0 false]⟩ 5 (.slice G.length 0 0 1) kv=some (kv',⟨[],G2⟩)/\(∃ a b c,kv' = .slice a b 0 c)/\G.length<=G2.length/\(∀ y,y<lo->G2[y]? = G[y]?)/\KOK lo d kv' (u::ts) G2:=by
 have hyl:=hy.len
 rw[Tree.zau]at hyl
 have hyl:ys.length=5:=hyl
 have hget:(G++[IBlk.cells ys 5 0 false])[G.length]? = some (.cells ys 5 0 false):=zaz
 rcases h with⟨rfl,rfl⟩|⟨kb,X,h1,h2,h3,h4⟩
 ·refine⟨.slice G.length 0 0 1,G++[.cells ys 5 0 false],?_,⟨_,_,_,rfl⟩,by simp,fun y hy=>Ab (by omega), .inr ⟨G.length,ys,hlo,⟨0,ys,false,rfl,hget,by simp[hyl],by rw[Au (by simp[hyl])]⟩,?_,by simp⟩⟩
  ·have hc:((Nat.beq 0 0&&Nat.beq 5 5)&&Nat.ble (0+1*5) ys.length)=true:=by rw[hyl];rfl
   have hm:Nat.ble (1+0) maxAppend=true:=rfl
   have hl:srcLen (.p .nilslice)=some 0:=rfl
   simp only[evalAppend,srcCells,sliceLen,hl,Mem.get,hget,hc,hm]
  ·show All2 _ ys (u.cells++[])
   rw[AQ]
   exact hy.imp fun v p hv=>zcu (fun k hk hl=>⟨⟨hk,by omega⟩,Ab hl⟩) hv
 ·have hkb:=h2.lt
  have hts:0<ts.length:=by
   rcases BH ts.length with h|h
   ·exact absurd (Av.1 h) h4
   ·exact h
  have h2':HS (G++[IBlk.cells ys 5 0 false]) kb 5 ts.length kv X:=h2.keep (Ab hkb)
  have hXl:X.length=ts.length*5:=by have:=h3.len;rw[zny]at this;exact this
  have h2k:=h2'
  obtain⟨ver,cs,op,rfl,hk,hn,hx⟩:=h2'
  have hsrc:srcCells ⟨[],G++[IBlk.cells ys 5 0 false]⟩ 5 (.slice kb ver 0 ts.length)=some X:=by
   have hc:((Nat.beq ver ver&&Nat.beq 5 5)&&Nat.ble (0+ts.length*5) cs.length)=true:=by
    rw[AH,AH,A3,A3,AB]
    exact AG hn
   simp only[srcCells,Mem.get,hk,hc,Bz,hx]
  have happ:=zbd (bx:=[]) (H:=G++[IBlk.cells ys 5 0 false]) (k:=G.length) (n:=1) (ny:=ts.length) hget (by simp[hyl]) hsrc rfl hts (by omega)
  have hnew:=zgw (H:=G++[IBlk.cells ys 5 0 false]) (ver:=0) (op:=false) (cs:=ys) (ys:=X) (n:=1) (ny:=ts.length) (k:=G.length) (esz:=5) (by simp) (by simp[hyl]) hXl
  have ht:ys.take (1*5)=ys:=Au (by simp[hyl])
  rw[ht]at hnew
  refine⟨_,_,happ,⟨_,_,_,rfl⟩,by simp,fun y hy=>by rw[Ad (by omega),Ab (by omega)], .inr ⟨G.length,ys++X,hlo,?_,?_,by simp⟩⟩
  ·rw[AA,BK];exact hnew
  ·show All2 _ (ys++X) (u.cells++kcells ts)
   have hkeep:∀k,k<G.length->((G++[IBlk.cells ys 5 0 false]).set G.length (appBlk ys X 5 1 ts.length 0 false))[k]? = G[k]? := fun k hl=>by
    rw[Ad (by omega),Ab hl]
   refine All2.append (hy.imp fun v p hv=>zcu (fun k hk hl=>⟨⟨hk,by omega⟩,hkeep k hl⟩) hv) (h3.imp fun v p hv=>zcu (fun k hk hl=>⟨⟨hk.1,by omega⟩,hkeep k hl⟩) hv)
end
structure TInv (t:Tree) (H0:J2) (iat a0:Nat) (j:Nat) (kv:IVal) (ts:List Tree) (a:Nat) (G:J2):Prop where
 ha:G[iat]? = some (cnt a)
 b1:a0<=a
 b2:a<=a0+1+2*lsize ((klist t.kids).take j)
 le:H0.length<=G.length
 fr:∀x,x<H0.length->x≠iat->G[x]? = H0[x]?
 ks:KOK H0.length (2*t.height-1) kv ts G
 sz:lsize ts<=2*lsize ((klist t.kids).take j)
 hh:lheight ts+2<=2*t.height
 ns:(∀ w∈t.nodes,NS w)->∀u∈lnodes ts,NS u
theorem TInv.next {t:Tree} {H0:J2} {iat a0 j:Nat} {kv kv':IVal} {ts ts':List Tree} {a a':Nat} {G G2:J2} (h:TInv t H0 iat a0 j kv ts a G) (hj:j<(klist t.kids).length)
 (e1:G2[iat]? = some (cnt a')) (e2:a<=a'/\a'<=a+2*(klist t.kids)[j].size) (e3:G.length<=G2.length) (e4:∀x,x<H0.length->x≠iat->G2[x]? = G[x]?) (e5:KOK H0.length (2*t.height-1) kv' ts' G2)
 (e6:lsize ts'<=lsize ts+2*(klist t.kids)[j].size) (e7:lheight ts'+2<=2*t.height) (e8:(∀ w∈t.nodes,NS w)->∀u∈lnodes ts',NS u):TInv t H0 iat a0 (j+1) kv' ts' a' G2:=by
 have hs:=zbg hj
 refine⟨e1,by have:=h.b1;omega,by have:=h.b2;omega,by have:=h.le;omega,fun x hx hne=>(e4 x hx hne).trans (h.fr x hx hne),e5,by have:=h.sz;omega,e7,e8⟩
end Go.Ideal

namespace Go.Ideal
open Go
set_option maxHeartbeats 4000000
set_option maxRecDepth 20000
attribute [-simp] getElem?_pos
theorem GT.norm {t:Tree} {m d:Nat} (h:GT t m d):GT t.norm m d:=by
 refine⟨by rw[zap];exact h.sz,by rw[zhs];exact h.dp,fun u hu=>?_⟩
 rw[zjz]at hu
 obtain⟨w,hw,rfl⟩:=AF.1 hu
 obtain⟨h1,h2,h3,h4⟩:=h.ns w hw
 obtain⟨a1,a2,a3⟩:=zbl w
 exact⟨by rw[a2];exact h1,by rw[a3];exact h2,by rw[zcf,zbe];exact h3,by rw[zcf,zbe];exact h4⟩
section
variable {L:J1} {a b:Tree}
theorem zvv (a b:Tree):PI a b (sortP (alikeN a b 2)):=by
 have h:=zyq a b 2
 have hp:=zaw (alikeN a b 2)
 refine⟨(hp.map _).nodup_iff.2 h.nx,(hp.map _).nodup_iff.2 h.nz,fun p hm=>?_⟩
 obtain⟨h1,h2,h3⟩:=h.ok p (hp.mem_iff.1 hm)
 have:=(zgh.1 h3).1
 exact⟨h1,h2,this.1,this.2.1⟩
theorem zale {n:Nat} (hn:(L.map (·.1)).Nodup) (hd:∀p∈L,p.1=p.2/\p.1<n) (ha:∀i,i<n->i∈L.map (·.1)):sortP L=pairsN 0 0 n:=by
 symm
 refine zel hn ?_ (zmt 0 0 n)
 have hnL:L.Nodup:=by
  have h2:=BX.1 hn
  exact h2.imp fun h e=>h (by rw[e])
 have hnP:(pairsN 0 0 n).Nodup:=by
  have h1:((pairsN 0 0 n).map (·.1)).Nodup:=by rw[zhb];exact Cf
  have h2:=BX.1 h1
  exact h2.imp fun h e=>h (by rw[e])
 refine(De hnP hnL).2 fun p=>?_
 rw[zce]
 constructor
 ·rintro⟨x,hx,rfl⟩
  obtain⟨q,hq,e⟩:=AF.1 (ha x hx)
  have:=hd q hq
  have e2:q=(0+x,0+x):=Prod.ext (by simp;exact e) (by simp;omega)
  rw[<- e2];exact hq
 ·intro hp
  have:=hd p hp
  exact⟨p.1,this.2,Prod.ext (by simp) (by simp;omega)⟩
theorem zzn (h:MF a b L):(sortP L)[0]? = some (0,0):=by
 have hm:=(zaw L).mem_iff.2 h.root
 cases hs:sortP L with
 |nil=>rw[hs]at hm;cases hm
 |cons p R =>
  rw[AK]
  have hsd:=zgf L
  rw[hs]at hm hsd
  have hp:p∈L:=(zaw L).mem_iff.1 (by rw[hs];simp)
  have h0:p.1=0:=by
   rcases Ak.1 hm with e|hm
   ·rw[<- e]
   ·have:=(Ca.1 hsd).1 _ hm
    simp at this;omega
  rw[zabb h.pi.nx hp h.root h0]
theorem zalf (h:MF a b L):∀k p,(sortP L)[k]? = some p->VP a b ((sortP L).take k) p:=by
 intro k p hp
 have hpm:=zaw L
 have hnx:((sortP L).map (·.1)).Nodup:=(hpm.map _).nodup_iff.2 h.pi.nx
 have hnz:((sortP L).map (·.2)).Nodup:=(hpm.map _).nodup_iff.2 h.pi.nz
 have hsd:=zgf L
 obtain⟨h1,h2,h3⟩:=h.pi.ok p (hpm.mem_iff.1 (Ao hp))
 have hin:∀f:Nat×Nat->Nat,f p∈((sortP L).drop k).map f:=fun f=>AF.2 ⟨p,BD.2 ⟨0,by rw[AX];simpa using hp⟩,rfl⟩
 have hsp:p∈(sortP L).drop k:=BD.2 ⟨0,by rw[AX];simpa using hp⟩
 rw[<- BE k (sortP L)]at hnx hnz hsd
 rw[Ay,Bb]at hnx hnz
 refine⟨?_,h1,h2,fun hm=>hnz.2.2 _ hm _ (hin (·.2)) rfl,h3⟩
 unfold lst
 cases hl:((sortP L).take k).getLast? with
 |none=>simp only;omega
 |some q =>
  have hq:q∈(sortP L).take k:=List.mem_of_getLast? hl
  have e1:=(Cz.1 hsd).2.2 q hq p hsp
  have e2:q.1≠p.1:=fun e=>hnx.2.2 q.1 (AF.2 ⟨q,hq,rfl⟩) p.1 (hin (·.1)) e
  simp only;omega
theorem zagu (h:PI a b L):(sortP L).length<=a.size:=by
 rw[(zaw L).length_eq]
 have:=zfx a.size _ h.nx (fun x hx=>by obtain⟨p,hp,rfl⟩:=AF.1 hx;exact(h.ok p hp).1)
 simpa using this
theorem zalg (fa:Fine a) (fb:Fine b) (ca:checkB a=true) (cb:checkB b=true) {L:J1} (h:MF a b L) {pv:PVal} (hpv:PV pv (sortP L)) (H:J2):CW tr.look F_Q11 [tagg a,tagg b, .p pv] H=some (.p (.bool true),H) :=
 zald a b fa fb ca cb hpv (zzn h) (by have:=zagu h.pi;have:=fa.1;omega) (sortP L).length (Am _) (fun k p _ hp=>zalf h k p hp) true (.inl ⟨rfl,rfl⟩) H
def tA (x:UInt8):Tree := .mk 1 [] [] none (some [.mk 3 [] [x] none none])
theorem zkd (x:UInt8):Fine (tA x)/\StrT (tA x)/\checkB (tA x)=true/\(tA x).size=2:=by
 have hn:(tA x).nodes=[tA x, .mk 3 [] [x] none none]:=rfl
 refine⟨⟨by show(2:Nat)<_;decide,fun u hu=>?_⟩,znv fun u hu=>?_,rfl,rfl⟩
 ·rw[hn]at hu
  simp at hu
  rcases hu with rfl|rfl<;>simp[tA,Tree.attrs,alist]
 ·rw[hn]at hu
  simp at hu
  rcases hu with rfl|rfl
  ·exact⟨by simp[tA,Tree.name],by simp[tA,Tree.text],by simp[tA,Tree.attrs,alist],by simp[tA,Tree.attrs,alist]⟩
  ·exact⟨by simp[Tree.name],by simp[Tree.text],by simp[Tree.attrs,alist],by simp[Tree.attrs,alist]⟩
theorem zaci (h:MF (tA 97) (tA 98) L):sortP L=[(0,0),(1,1)]:=by
 have hs:∀x,(tA x).size=2:=fun x=>rfl
 have hk:∀x,kidsOf (tA x) 0=[1]:=fun x=>rfl
 have hd:∀p∈L,p.1=p.2/\p.1<2:=fun p hp=>by
  obtain⟨h1,h2,h3⟩:=h.pi.ok p hp
  have h4:=zen (zkd 97).2.2.1 h1
  have h5:=zen (zkd 98).2.2.1 h2
  rw[h3.1]at h4
  rw[hs]at h1 h2
  have:p.1=0↔p.2=0:=by rw[<- h4,<-h5]
  omega
 have h1:1∈L.map (·.1):=by
  refine Bd fun hn=>?_
  have hz:1∉L.map (·.2):=fun hm=>by
   obtain⟨p,hp,e⟩:=AF.1 hm
   have:=hd p hp
   exact hn (AF.2 ⟨p,hp,by omega⟩)
  have:=h.shut (0,0) h.root (by rw[hs];decide) 1 (by rw[hk];simp) 1 (by rw[hk];simp)
  exact this ⟨zacf.2 ⟨hn,hz⟩,rfl,rfl⟩
 have:=zale (n:=2) h.pi.nx hd (fun i hi=>by
  rcases(show i=0\/i=1 by omega)with rfl|rfl
  ·exact AF.2 ⟨_,h.root,rfl⟩
  ·exact h1)
 rw[this];rfl
theorem zvw (H:J2):CW tr.look F_Q6 [] H=some (.p (.bool true),H):=by
 obtain⟨fa,sa,ca,za⟩:=zkd 97
 obtain⟨fb,sb,cb,zb⟩:=zkd 98
 obtain⟨r,hm,pv,L,rfl,hpv,hF⟩:=zapz (tA 97) (tA 98) fa fb sa sb ca cb (by omega) (by omega) (zvv _ _)
 have hsl:=zaci hF
 have hch:=zalg fa fb ca cb hF hpv []
 rw[hsl]at hpv
 have hup:=hpv.up
 have hln:=hpv.len
 have i0:idxS 2 (.p pv) (J4 0)=_:=hpv.idx (i:=0) rfl
 have i1:idxS 2 (.p pv) (J4 1)=_:=hpv.idx (i:=1) rfl
 have hf:freezeAll [IBlk.cells [J4 3, .p (.str []), .p (.str [97]), .p .nilslice, .p .nilslice] 5 0 false,IBlk.cells [J4 3, .p (.str []), .p (.str [98]), .p .nilslice, .p .nilslice] 5 0 false] [IVal.agg [J4 1, .p (.str []), .p (.str []), .p .nilslice, .slice 0 0 0 1],IVal.agg [J4 1, .p (.str []), .p (.str []), .p .nilslice, .slice 1 0 0 1]]=some [tagg (tA 97),tagg (tA 98)]:=rfl
 have hm':=hm _ _ hf
 have hc':CW tr.look F_Q11 [IVal.agg [J4 1, .p (.str []), .p (.str []), .p .nilslice, .slice 0 0 0 1],IVal.agg [J4 1, .p (.str []), .p (.str []), .p .nilslice, .slice 1 0 0 1], .p pv] [IBlk.cells [J4 3, .p (.str []), .p (.str [97]), .p .nilslice, .p .nilslice] 5 0 false,IBlk.cells [J4 3, .p (.str []), .p (.str [98]), .p .nilslice, .p .nilslice] 5 0 false]=some (.p (.bool true),_) :=
  zabm (al:=[tagg (tA 97),tagg (tA 98), .p pv]) look_Q11 rfl rfl (by simp) rfl hch
 have main:CW tr.look F_Q6 [] []=some (.p (.bool true),[]):=by
  refine zaj look_Q6 rfl rfl rfl ?_
  dsimp only[i_Q6,c_Q6]
  simp(disch:=omega) [hup,hln,hm',hc',i0,i1,eqVals,eqCls,clsEq,negIf]
 exact zns look_Q6 rfl rfl main
end
theorem zji {t:Tree} {j:Nat} (hj:j<t.size):∃v rest a1 a2 a3 n1 x1 y1,t.vis[j]? = some v/\subT t j=v.t/\idxS 15 (.p (rval t)) (J4 j)=some (.p (.ptr (.int .i64 v.parent :: .int .i64 v.t.size :: .int .i64 a1 :: .int .i64 a2 :: .int .i64 a3 :: .int .i64 v.t.kind :: .str v.t.name :: .str n1::x1::y1::rest))):=by
 obtain⟨v,hv,_,hs,_⟩:=zca hj
 exact⟨v,_,_,_,_,_,_,_,hv,hs,zdd hv⟩
theorem zalh {a b:Int} (h:b<a):icmp a b=1:=by unfold icmp sgn;simp[h];omega
theorem zali {a b:Int} (h:a<b):icmp a b = -1:=by unfold icmp sgn;simp[h]
theorem zaqc (p q r u:Nat) (hp:p<=1000000000) (hq:q<=1000000000) (hr:r<=1000000000) (hu:u<=1000000000) (H:J2) :
 CW tr.look F_Q101 [J4 p, J4 q, J4 r, J4 u] H=some (J4 (dice p q r u),H):=by
 refine zaj look_Q101 rfl (by simp) rfl ?_
 dsimp only[i_Q101,c_Q101]
 have h1:=zvc hp hu
 have h2:=zvc hr hq
 unfold dice
 have fin:∀(x y:Nat),x<=1000000000000000000->y<=1000000000000000000->True:=fun _ _ _ _=>trivial
 by_cases hq0:q=0<;>by_cases hu0:u=0
 ·subst hq0 hu0
  simp(disch:=omega) [zaa]
  rfl
 ·subst hq0
  simp(disch:=omega) [zaa,hu0]
  rcases BH r with h|h
  ·subst h
   simp(disch:=omega) []
   rfl
  ·have h':(0:Int)<(r:Int):=by omega
   have h'':¬(r:Int)<0:=by omega
   simp(disch:=omega) [h',h'',zali]
   omega
 ·subst hu0
  simp(disch:=omega) [zaa,hq0]
  rcases BH p with h|h
  ·subst h
   simp(disch:=omega) []
   rfl
  ·have h':(0:Int)<(p:Int):=by omega
   simp(disch:=omega) [h',zalh]
   omega
 ·simp only[hq0,hu0,if_false]
  generalize p*u=m1 at *
  generalize r*q=m2 at *
  have e1:=h1.1
  have e2:=h2.1
  have b1:=h1.2
  have b2:=h2.2
  by_cases g1:(m2:Int)<(m1:Int)
  ·simp(disch:=omega) [zaa,hq0,hu0,e1,e2,g1,zalh]
  ·by_cases g2:(m1:Int)<(m2:Int)
   ·simp(disch:=omega) [zaa,hq0,hu0,e1,e2,g1,g2,zali]
   ·have:icmp (m1:Int) (m2:Int)=0:=zdp.2 (by omega)
    simp(disch:=omega) [zaa,hq0,hu0,e1,e2,g1,g2,this]
theorem zaqd (p q:Nat) (hp:p<=1000000000) (hq:q<=1000000000) (H:J2) :
 CW tr.look F_Q76 [J4 p, J4 q] H=some (.p (.bool (half p q)),H):=by
 refine zaj look_Q76 rfl (by simp) rfl ?_
 dsimp only[i_Q76,c_Q76]
 unfold half
 by_cases h:q<4*p
 ·have:(q:Int)<4*(p:Int):=by omega
  simp(disch:=omega) [zaa,h,this]
 ·have:¬(q:Int)<4*(p:Int):=by omega
  simp(disch:=omega) [zaa,h,this]
theorem znz:∀L:J1,pcells (prcells L)=L.flatMap pc
 | []=>rfl
 |p::L=>by
  have:=znz L
  simp only[prcells,pcells,AD,Ay,pc,Aq,BG]at this ⊢
  rw[this]
theorem pc_at:∀ {L:J1} {j:Nat} {p:Nat×Nat},L[j]? = some p->((L.flatMap pc).drop (j*2)).take 2=pc p
 | [],j,p,h=>by simp at h
 |q::L,0,p,h=>by
  rw[AK]at h
  injection h with h
  subst h
  simp[pc]
 |q::L,j+1,p,h=>by
  rw[Ax]at h
  rw[AD,Cp]
  simp only[pc,At,AN,Bl]
  exact pc_at h
theorem zask:∀ {L:J1} {j:Nat} {p:Nat×Nat},j<L.length->splice (L.flatMap pc) (j*2) (pc p)=(L.set j p).flatMap pc
 | [],j,p,h=>by simp at h
 |q::L,0,p,h=>by simp[splice,pc]
 |q::L,j+1,p,h=>by
  have:=zask (L:=L) (j:=j) (p:=p) (by simpa using h)
  simp only[splice]at this ⊢
  rw[AD,Cp,CK,AD,<-this]
  rw[show j*2+2+(pc p).length=(j*2+(pc p).length)+2 by omega]
  rfl
def ins:Nat->J1->J1
 |0,L=>L
 |j+1,L=>match L[j+1]?,L[j]? with
  |some x,some y=>if x.1<y.1 then ins j ((L.set (j+1) y).set j x)else L
  |_,_=>L
def sortN (i:Nat):Nat->J1->J1
 |0,L=>L
 |n+1,L=>sortN (i+1) n (ins i L)
theorem zalj:∀(j:Nat) (L:J1),(ins j L).length=L.length
 |0,L=>rfl
 |j+1,L=>by
  rw[ins]
  split
  ·split
   ·rw[zalj];simp
   ·rfl
  ·rfl
def PL (H:J2) (k ver:Nat) (L:J1):Prop:=HS H k 2 L.length (.slice k ver 0 L.length) (L.flatMap pc)
theorem PL.load {bx:List (Nat×IBlk)} {H:J2} {k ver j:Nat} {L:J1} {p:Nat×Nat} (h:PL H k ver L) (hj:L[j]? = some p):idxS 2 (.slice k ver 0 L.length) (J4 j)=some (J5 k ver (j*2))/\loadVal ⟨bx,H⟩ (some 2) (J5 k ver (j*2))=some (.agg (pc p)):=by
 have hjl:=(Aa.1 hj).1
 obtain⟨v2,h1,h2⟩:=HS.load (bx:=bx) h hjl
 have h3:idxS 2 (.slice k ver 0 L.length) (J4 j)=some (J5 k ver (j*2)):=by rw[zba hjl,AB]
 rw[h3]at h1
 injection h1 with h1
 injection h1 with _ h1 _
 subst h1
 exact⟨h3,by rw[h2,pc_at hj]⟩
theorem PL.store {bx:List (Nat×IBlk)} {H:J2} {k ver j:Nat} {L:J1} (h:PL H k ver L) (p:Nat×Nat) (hj:j<L.length):∃b,writeCells ⟨bx,H⟩ (J5 k ver (j*2)) (pc p)=some ⟨bx,H.set k b⟩/\PL (H.set k b) k ver (L.set j p):=by
 have:j*2+(pc p).length<=L.length*2:=by simp[pc];omega
 obtain⟨b,h1,h2⟩:=HS.store (bx:=bx) h this
 refine⟨b,h1,?_⟩
 unfold PL
 rw[AC,<-zask hj]
 exact h2
theorem zry:∀(n i:Nat) (L:J1),(sortN i n L).length=L.length
 |0,i,L=>rfl
 |n+1,i,L=>by rw[sortN,zry,zalj]
theorem zagv (i:Nat) (L:J1) (n:Nat):sortN i (n+1) L=ins (i+n) (sortN i n L):=by
 induction n generalizing i L with
 |zero=>rfl
 |succ n ih=>rw[sortN,ih,sortN];congr 1;omega
def sorted (L:J1):J1:=sortN 1 (L.length-1) L
theorem zrz (L:J1):(sorted L).length=L.length:=zry _ _ _
end Go.Ideal
namespace Go.Ideal
open Go
attribute [-simp] getElem?_pos
abbrev PP:=Nat×Nat
def insR:List PP->PP->List PP
 | [],x=>[x]
 |y::R,x=>if x.1<y.1 then y::insR R x else x::y::R
theorem zna:∀(R:List PP) (x:PP),(insR R x).Perm (x::R)
 | [],x=>.refl _
 |y::R,x=>by
  rw[insR]
  split
  ·exact((zna R x).cons y).trans (.swap x y R)
  ·exact .refl _
theorem zzo:∀(R:List PP) (x:PP),R.Pairwise (fun p q=>q.1<=p.1)->(insR R x).Pairwise (fun p q=>q.1<=p.1)
 | [],x,_=>BW _ _
 |y::R,x,h=>by
  rw[Ca]at h
  rw[insR]
  split
  ·rename_i hx
   refine List.Pairwise.cons (fun q hq=>?_) (zzo R x h.2)
   rcases Ak.1 ((zna R x).mem_iff.1 hq)with rfl|hq
   ·omega
   ·exact h.1 q hq
  ·rename_i hx
   refine List.Pairwise.cons (fun q hq=>?_) (List.Pairwise.cons h.1 h.2)
   rcases Ak.1 hq with rfl|hq
   ·omega
   ·have:=h.1 q hq;omega
theorem zaej:∀(R:List PP) (x:PP) (B:List PP),ins R.length (R.reverse++x::B)=(insR R x).reverse++B
 | [],x,B=>rfl
 |y::R,x,B=>by
  have e:(y::R).reverse++x::B=R.reverse++(y::x::B):=by simp
  have h1:(R.reverse++(y::x::B))[R.length+1]? = some x:=by
   rw[Ae (by simp),CH,A1];rfl
  have h2:(R.reverse++(y::x::B))[R.length]? = some y:=by
   rw[Ae (by simp),CH,Bk];rfl
  rw[AA,e,ins,h1,h2]
  dsimp only
  rw[insR]
  split
  ·have h3:((R.reverse++(y::x::B)).set (R.length+1) y).set R.length x=R.reverse++x::(y::B):=by
    rw[Cu _ _ (by simp),CH,A1,Cu _ _ (by simp),CH,Bk]
    rfl
   rw[h3,zaej R x (y::B)]
   simp
  ·simp
def srt:List PP->List PP->List PP
 |R,[]=>R
 |R,x::B=>srt (insR R x) B
theorem zaqe (R:List PP) (x:PP):(insR R x).length=R.length+1:=by rw[(zna R x).length_eq];rfl
theorem zsa:∀(B R:List PP),sortN R.length B.length (R.reverse++B)=(srt R B).reverse
 | [],R=>by simp[sortN,srt]
 |x::B,R=>by
  have ih:=zsa B (insR R x)
  rw[zaqe]at ih
  rw[AA,sortN,zaej,srt]
  exact ih
theorem zaek:∀(B R:List PP),(srt R B).Perm (R++B)
 | [],R=>by simp[srt]
 |x::B,R=>by
  rw[srt]
  refine(zaek B (insR R x)).trans ?_
  refine((zna R x).append_right B).trans ?_
  exact List.perm_middle.symm
theorem zael:∀(B R:List PP),R.Pairwise (fun p q=>q.1<=p.1)->(srt R B).Pairwise (fun p q=>q.1<=p.1)
 | [],R,h=>h
 |x::B,R,h=>by rw[srt];exact zael B _ (zzo R x h)
theorem sorted_perm (L:List PP):(sorted L).Perm L:=by
 cases L with
 |nil=>exact .refl _
 |cons x B =>
  have h:=zsa B [x]
  have e:sorted (x::B)=(srt [x] B).reverse:=h
  rw[e]
  exact(List.reverse_perm _).trans (zaek B [x])
theorem zagw (L:List PP):(sorted L).Pairwise (fun p q=>p.1<=q.1):=by
 cases L with
 |nil=>exact List.Pairwise.nil
 |cons x B =>
  have h:=zsa B [x]
  have e:sorted (x::B)=(srt [x] B).reverse:=h
  rw[e,List.pairwise_reverse]
  exact zael B [x] (BW _ _)
end Go.Ideal
namespace Go.Ideal
open Go
set_option maxHeartbeats 4000000
set_option maxRecDepth 20000
attribute [-simp] getElem?_pos
theorem zbcj (t:Tree):IVal.agg [J4 t.kind, .p (.str t.name), .p (.str t.text), .p (aval (nattr t.attrs)), .p .nilslice]=tagg t.nbare:=by simp[tagg,Tree.zau]
theorem zagx (t u:Tree):cost t.nbare u.nbare=cost t u:=by
 unfold cost kin
 simp[zbe]
theorem zalk {t u:Tree}:cost t u=0↔SameNode t u:=by
 unfold cost kin SameNode
 by_cases h1:t.kind=u.kind/\t.name=u.name
 ·rw[if_neg (not_not_intro h1)]
  by_cases h2:t.text=u.text/\alist t.attrs=alist u.attrs
  ·rw[if_pos h2];simp[h1,h2]
  ·rw[if_neg h2];simp[h1];simpa using h2
 ·rw[if_pos h1]
  simp
  intro a b;exact absurd ⟨a,b⟩ h1
theorem zagy (a b:Tree) (hs:(alist a.attrs).length<1000000000000) (H:J2):CW tr.look F_Q132 [tagg a,tagg b] H=some (J4 (cost a b),H):=by
 refine zaj look_Q132 rfl (by simp) rfl ?_
 dsimp only[i_Q132,c_Q132]
 have hn:=zajd a b hs
 by_cases h0:nodeCmp a b=0
 ·obtain⟨h1,h2,h3,h4⟩:=zgg.1 h0
  have hc:cost a b=0:=zalk.2 ⟨h1,h2,h3,h4⟩
  simp(disch:=omega) [zad,hn,h0,hc]
 ·have hne:¬SameNode a b:=fun h=>h0 (zgg.2 h)
  by_cases h1:a.kind=b.kind
  ·by_cases h2:a.name=b.name
   ·have hc:cost a b=1:=by
     unfold cost
     rw[if_neg (not_not_intro ⟨h1,h2⟩),if_neg (fun h=>hne ⟨h1,h2,h⟩)]
    have d2:decide (a.name=b.name)=true:=decide_eq_true h2
    simp(disch:=omega) [zad,hn,d2,hc]
   ·have hc:cost a b=3:=by unfold cost kin;rw[if_pos (fun h=>h2 h.2)]
    have d2:decide (a.name=b.name)=false:=decide_eq_false h2
    simp(disch:=omega) [zad,hn,d2,hc]
  ·have hc:cost a b=3:=by unfold cost kin;rw[if_pos (fun h=>h1 h.1)]
   simp(disch:=omega) [zad,hn,hc]
def RPost (t:Tree) (v:Vis) (k:Nat):Prop:=∀H,CW tr.look F_Q74 [.p (rval t), J4 k] H=some (.p (nval (postT v.t k)),H)
theorem zagz (t:Tree) (k:Nat) (v:Vis) (hv:t.vis[k]? = some v) (hs:t.size<1000000) (ih:∀(k':Nat) (w:Vis),t.vis[k']? = some w->w.t.size<v.t.size->RPost t w k') (H0:J2) (Q:J0)
 (hQ:∀H' o lv,VS H' o 1 (lsize (klist v.t.kids)) lv (pcells (nints (postL (klist v.t.kids) (k+1))))->Q .normal [(1, .int .i64 k),(5, .v lv)] ⟨[],H'⟩) :
 wpLoop (CW tr.look) 34 m_Q74_0 l_Q74_0 (blkK 0 b_Q74_0 Q) [(0, .v (.p (rval t))),(1, .int .i64 k),(5, .v (.p .nilslice)),(6, .int .i64 (k+1:Nat))] ⟨[],H0⟩:=by
 refine zab (α:=Nat×IVal×Option Nat×J2) (fun a=>[(0, .v (.p (rval t))),(1, .int .i64 k),(5, .v a.2.1),(6, .int .i64 (k+1+lsize ((klist v.t.kids).take a.1):Nat))]) (fun a=>⟨[],a.2.2.2⟩)
  (fun a=>a.1<=(klist v.t.kids).length/\VS a.2.2.2 a.2.2.1 1 (lsize ((klist v.t.kids).take a.1)) a.2.1 (pcells (nints (postL ((klist v.t.kids).take a.1) (k+1))))) (fun a=>(klist v.t.kids).length-a.1) ?_ (0, .p .nilslice,none,H0) ⟨AU _,VS.nil⟩
 rintro⟨j,lv,o,H⟩ ⟨hj,hV⟩ R hR
 dsimp only at hj hV hR ⊢
 dsimp only[l_Q74_0]
 have ht:=zag v.t
 have hend:=znk hv
 have hup:=hV.up
 have hne:lv≠.undef:=by rintro rfl;exact absurd hV.pass (by decide)
 have x1:=zdd hv
 by_cases hc:j<(klist v.t.kids).length
 ·obtain⟨w,w1,w2,_⟩:=zrb hv hc
  have hjs:=zbg hc
  have hle:=zmm (klist v.t.kids) (j+1)
  have h1s:=zac (klist v.t.kids)[j]
  have x2:=zdd w1
  have hcall:=ih _ w w1 (by rw[w2];omega)
  rw[RPost,w2]at hcall
  obtain⟨lv',H',o',a1,a2,a3,a4⟩:=hV.appendP (v2 := .p (nval (postT (klist v.t.kids)[j] (k+1+lsize ((klist v.t.kids).take j))))) rfl rfl (by simp[nints]) (by rw[zal];omega)
  have hup':=a2.up
  have hne':lv'≠.undef:=by rintro rfl;exact absurd a2.pass (by decide)
  have c1:((k+1+lsize ((klist v.t.kids).take j):Nat):Int)<(k:Int)+(v.t.size:Nat):=by omega
  have c2:((k+1+lsize ((klist v.t.kids).take j):Nat):Int)+((klist v.t.kids)[j].size:Nat)=((k+1+lsize ((klist v.t.kids).take (j+1)):Nat):Int):=by omega
  rw[w2]at x2
  simp(disch:=omega) [-Int.natCast_add,x1,x2,hcall,a1,hup',c2,zaa]
  refine hR (j+1,lv',o',H') ⟨by dsimp only;omega,?_⟩ (by dsimp only;omega)
  dsimp only
  rw[zafq hc,hjs]
  rw[zal]at a2
  simpa[nints,pcells]using a2
 ·obtain rfl:j=(klist v.t.kids).length:=by omega
  rw[AT]at hV ⊢
  have c1:¬((k+1+lsize (klist v.t.kids):Nat):Int)<(k:Int)+(v.t.size:Nat):=by omega
  simp(disch:=omega) [-Int.natCast_add,x1,zaa]
  exact hQ H o lv hV
theorem zaqf (t:Tree) (hs:t.size<1000000):∀(n:Nat) (k:Nat) (v:Vis),v.t.size<n->t.vis[k]? = some v->RPost t v k:=by
 intro n
 induction n with
 |zero=>intro k v h;omega
 |succ n ih =>
  intro k v h hv H
  have hend:=znk hv
  refine zaj look_Q74 rfl (by simp) rfl ?_
  dsimp only[i_Q74,c_Q74]
  have e1:(k:Int)+1=((k+1:Nat):Int):=by omega
  simp(disch:=omega) [-Int.natCast_add,zaa,e1]
  refine zagz t k v hv hs (fun k' w hw hlt=>ih k' w (by omega) hw) [] _ ?_
  intro H' o lv hV
  have ht:=zag v.t
  obtain⟨lv',H2,o',a1,a2,a3,a4,a5,k2,rfl⟩:=hV.append1 (ys:=[J4 k]) rfl (by omega)
  have hup:=hV.up
  have hne:lv≠.undef:=by rintro rfl;exact absurd hV.pass (by decide)
  have hup':=a2.up
  have hps':=a2.pass
  have hne':lv'≠.undef:=by rintro rfl;exact absurd hps' (by decide)
  have e2:pcells (nints (postL (klist v.t.kids) (k+1)))++[J4 k]=pcells (nints (postT v.t k)):=by rw[zgi];simp[nints]
  rw[e2]at a2
  have e3:lsize (klist v.t.kids)+1=v.t.size:=by omega
  rw[e3]at a2
  have hfz:=zcz a2
  have hfr:freezeRes H2 lv'=some (.p (nval (postT v.t k))):=by
   obtain⟨ver,cs,op,rfl,_⟩:=a2
   rw[zcb,zcc,hfz,nval,zal];rfl
  simp(disch:=omega) [a1,hup',hps',hfr]
theorem zoa (t:Tree) (hf:Fine t) (H:J2):CW tr.look F_Q36 [tagg t] H=some (.p (nval (postT t 0)),H):=by
 refine zaj look_Q36 rfl (by simp) rfl ?_
 dsimp only[i_Q36,c_Q36]
 have h1:=fun H=>zcx t hf H
 have h0:t.vis[0]? = some ⟨t, -1,0,0⟩:=by rw[Tree.vis,zbj];rfl
 have h2:∀H,CW tr.look F_Q74 [.p (rval t), J4 0] H=some (.p (nval (postT t 0)),H):=zaqf t hf.1 _ 0 _ (Ai _) h0
 simp(disch:=omega) [zad,h1,h2]
theorem znb (t:Tree):(firsts t).length=t.size:=by rw[firsts,By,zak]
theorem zox (t:Tree) (hs:t.size<1000000) (H:J2):CW tr.look F_Q124 [.p (rval t), .p (nval (postT t 0))] H=some (.p (nval (firsts t)),H):=by
 refine zaj look_Q124 rfl (by simp) rfl ?_
 dsimp only[i_Q124,c_Q124]
 simp(disch:=omega) []
 refine zab (α:=Nat×IVal×Option Nat×J2) (fun a=>[(0, .v (.p (rval t))),(1, .v (.p (nval (postT t 0)))),(5, .v a.2.1),(6, .int .i64 a.1)]) (fun a=>⟨[],a.2.2.2⟩)
  (fun a=>a.1<=t.size/\VS a.2.2.2 a.2.2.1 1 a.1 a.2.1 (pcells (nints ((firsts t).take a.1)))/\(0<a.1->∃k,a.2.2.1=some k)) (fun a=>t.size-a.1) ?_ (0, .p .nilslice,none,[]) ⟨AU _,VS.nil,fun h=>absurd h (Nat.lt_irrefl _)⟩
 rintro⟨j,lv,o,H⟩ ⟨hj,hV,ho⟩ R hR
 dsimp only at hj hV ho hR ⊢
 dsimp only[l_Q124_0]
 have hup:=hV.up
 have hps:=hV.pass
 have hne:lv≠.undef:=by rintro rfl;exact absurd hps (by decide)
 have h1s:=zac t
 by_cases hc:j<t.size
 ·obtain⟨i,hi⟩:∃i,(postT t 0)[j]? = some i:=⟨_,Ac (by rw[zal];exact hc)⟩
  obtain⟨u,v,p1,p2,p3,p4,p5⟩:=zgx hi
  obtain⟨A,B,_,hAB⟩:=ztg t j u p1
  have x1:=zec hi
  have x2:=zdd (t:=t) (j:=i) p2
  rw[p3]at x2
  have hfj:(firsts t)[j]? = some (j+1-u.size):=by rw[firsts,C4,p1];rfl
  obtain⟨lv',H2,o',a1,a2,a3,a4,a5,k2,rfl⟩:=hV.append1 (ys:=[J4 (j+1-u.size:Nat)]) rfl (by omega)
  have hup':=a2.up
  have hne':lv'≠.undef:=by rintro rfl;exact absurd a2.pass (by decide)
  have hu1:=zac u
  have e1:(j:Int)-(u.size:Nat)+1=((j+1-u.size:Nat):Int):=by omega
  simp(disch:=omega) [zal,x1,x2,a1,hup',e1,zaa]
  refine hR (j+1,lv',some k2,H2) ⟨by dsimp only;omega,?_,fun _=>⟨_,rfl⟩⟩ (by dsimp only;omega)
  dsimp only
  rw[AE,hfj]
  simpa[nints,pcells]using a2
 ·obtain rfl:j=t.size:=by omega
  obtain⟨k,rfl⟩:=ho (by omega)
  rw[Au (by rw[znb];omega)]at hV
  have hfz:=zcz hV
  have hfr:freezeRes H lv=some (.p (nval (firsts t))):=by
   obtain⟨ver,cs,op,rfl,_⟩:=hV
   rw[zcb,zcc,hfz,nval,znb];rfl
  simp(disch:=omega) [zal,hps,hfr]
section
variable {H:J2} {k:Nat} {o1 o2:Option Nat} {s t:Tree}
def qc (q:Quad):J3:=[J4 q.1, J4 q.2.1, J4 q.2.2.1, J4 q.2.2.2]
def rg (a n:Nat):IVal := .agg [J4 a, J4 (a+n:Nat)]
def qd (a m b n:Nat):Quad:=((a:Int),((a+m:Nat):Int),(b:Int),((b+n:Nat):Int))
def Known2 (s t:Tree) (q:Quad) (v:Nat):Prop:=∃a b F G,Rep s a F/\Rep t b G/\F≠[]/\G≠[]/\q=qd a (lsize F) b (lsize G)/\v=fd F G
theorem Known2.right {v:Nat} {a b:Nat} {F G:List Tree} (hF:Rep s a F) (hG:Rep t b G) (h:Known2 s t (qd a (lsize F) b (lsize G)) v):v=fd F G:=by
 obtain⟨a',b',F',G',g1,g2,g3,g4,g5,g6⟩:=h
 simp only[qd,Prod.mk.injEq]at g5
 obtain⟨e1,e2,e3,e4⟩:=g5
 obtain rfl:a=a':=by omega
 obtain rfl:b=b':=by omega
 rw[g6,hF.same g1 (by omega),hG.same g2 (by omega)]
abbrev Memo2:=List (Quad×Nat)
structure ZAt (H:J2) (k:Nat) (o1 o2:Option Nat) (s t:Tree) (M:Memo2):Prop where
 blk:∃kv dv,H[k]? = some (.cells [.p (rval s), .p (rval t), .p (nval (postT s 0)), .p (nval (postT t 0)), .p (nval (firsts s)), .p (nval (firsts t)),kv,dv] 8 0 false)/\VS H o1 4 M.length kv (M.flatMap fun e=>qc e.1)/\VS H o2 1 M.length dv (pcells (nints (M.map (·.2))))/\o1≠some k/\o2≠some k/\(∀ j,o1=some j->o2≠some j)
 memo:∀e∈M,Known2 s t e.1 e.2
theorem qc_at:∀ {M:Memo2} {j:Nat} {e:Quad×Nat},M[j]? = some e->((M.flatMap fun e=>qc e.1).drop (j*4)).take 4=qc e.1
 | [],j,e,h=>by simp at h
 |x::M,0,e,h=>by
  rw[AK]at h
  injection h with h
  subst h
  simp[qc]
 |x::M,j+1,e,h=>by
  rw[Ax]at h
  rw[AD,Cp]
  simp only[qc,At,AN,Bl]
  exact qc_at h
theorem VS.at4 {o:Option Nat} {M:Memo2} {v:IVal} (h:VS H o 4 M.length v (M.flatMap fun e=>qc e.1)) {j:Nat} {e:Quad×Nat} (hj:M[j]? = some e):∃q,idxS 4 v (J4 j)=some q/\Ideal.up q=SV.v q/\loadVal ⟨[],H⟩ (some 4) q=some (.agg (qc e.1)):=by
 have hjl:=(Aa.1 hj).1
 cases o with
 |none=>have:=h.2.1;omega
 |some k =>
  obtain⟨ver,e1,e2⟩:=HS.load (bx:=[]) h hjl
  exact⟨_,e1,rfl,by rw[e2,qc_at hj]⟩
theorem VS.atN {o:Option Nat} {l:List Nat} {v:IVal} (h:VS H o 1 l.length v (pcells (nints l))) {j n:Nat} (hj:l[j]? = some n):∃q,idxS 1 v (J4 j)=some q/\Ideal.up q=SV.v q/\loadVal ⟨[],H⟩ none q=some (J4 n):=by
 have hjl:=(Aa.1 hj).1
 cases o with
 |none=>have:=h.2.1;omega
 |some k =>
  obtain⟨ver,e1,e2⟩:=VS.at1 h hjl
  exact⟨_,e1,rfl,e2 _ (zadi hj)⟩
theorem ZAt.fields {M:Memo2} (h:ZAt H k o1 o2 s t M) :
 loadVal ⟨[],H⟩ none (J5 k 0 0)=some (.p (rval s))/\loadVal ⟨[],H⟩ none (J5 k 0 1)=some (.p (rval t))/\loadVal ⟨[],H⟩ none (J5 k 0 2)=some (.p (nval (postT s 0)))/\loadVal ⟨[],H⟩ none (J5 k 0 3)=some (.p (nval (postT t 0))) /\
 loadVal ⟨[],H⟩ none (J5 k 0 4)=some (.p (nval (firsts s)))/\loadVal ⟨[],H⟩ none (J5 k 0 5)=some (.p (nval (firsts t))):=by
 obtain⟨kv,dv,h1,_⟩:=h.blk
 exact⟨zae h1 rfl,zae h1 rfl,zae h1 rfl,zae h1 rfl,zae h1 rfl,zae h1 rfl⟩
theorem zaem {M:Memo2} (hZ:ZAt H k o1 o2 s t M) (hs:s.size<1000000) (ht:t.size<1000000) {a b:Nat} {w u:Tree} {F G:List Tree} (hF:Rep s a (w::F)) (hG:Rep t b (u::G)) :
 CW tr.look F_Q125 [J5 k 0 0,rg a (lsize (w::F)),rg b (lsize (u::G))] H=some (.tup [rg (a+lsize F) (lsize (kidsR w)),rg (b+lsize G) (lsize (kidsR u)),rg a (lsize F),rg b (lsize G)],H):=by
 obtain⟨f0,f1,f2,f3,f4,f5⟩:=hZ.fields
 have hkw:=zai w
 have hku:=zai u
 have lF:=hF.le
 have lG:=hG.le
 have e1:lsize (w::F)=w.size+lsize F:=rfl
 have e2:lsize (u::G)=u.size+lsize G:=rfl
 have x1:=zec hF.first
 have x2:=zec hG.first
 have g1:((a+lsize (w::F):Nat):Int)-1=((a+lsize F+w.size-1:Nat):Int):=by omega
 have g2:((b+lsize (u::G):Nat):Int)-1=((b+lsize G+u.size-1:Nat):Int):=by omega
 have g3:a+lsize F+w.size-1=a+lsize F+lsize (kidsR w):=by omega
 have g4:b+lsize G+u.size-1=b+lsize G+lsize (kidsR u):=by omega
 obtain⟨r,H',h1,h2,rfl⟩:=zat (args:=[J5 k 0 0,rg a (lsize (w::F)),rg b (lsize (u::G))]) (H:=H) (Q:=fun r H'=>r = .tup [rg (a+lsize F) (lsize (kidsR w)),rg (b+lsize G) (lsize (kidsR u)),rg a (lsize F),rg b (lsize G)]/\H'=H) look_Q125 rfl rfl (by
  dsimp only[i_Q125,c_Q125]
  rw[g3]at x1 g1
  rw[g4]at x2 g2
  simp(disch:=omega) [-Int.natCast_add,rg,f4,f5,g1,g2,x1,x2,zaa])
 rw[h1,h2]
theorem zaen {M:Memo2} (hZ:ZAt H k o1 o2 s t M) (hs:Fine s) (ht:Fine t) {a b:Nat} {w u:Tree} {F G:List Tree} (hF:Rep s a (w::F)) (hG:Rep t b (u::G)) :
 CW tr.look F_Q126 [J5 k 0 0,rg a (lsize (w::F)),rg b (lsize (u::G))] H=some (J4 (cost w u),H):=by
 obtain⟨f0,f1,f2,f3,f4,f5⟩:=hZ.fields
 have hs1:=hs.1
 have ht1:=ht.1
 have hkw:=zai w
 have hku:=zai u
 have lF:=hF.le
 have lG:=hG.le
 have e1:lsize (w::F)=w.size+lsize F:=rfl
 have e2:lsize (u::G)=u.size+lsize G:=rfl
 have g1:((a+lsize (w::F):Nat):Int)-1=((a+lsize F+w.size-1:Nat):Int):=by omega
 have g2:((b+lsize (u::G):Nat):Int)-1=((b+lsize G+u.size-1:Nat):Int):=by omega
 obtain⟨i,hi⟩:∃i,(postT s 0)[a+lsize F+w.size-1]? = some i:=⟨_,Ac (by rw[zal];omega)⟩
 obtain⟨j,hj⟩:∃i,(postT t 0)[b+lsize G+u.size-1]? = some i:=⟨_,Ac (by rw[zal];omega)⟩
 obtain⟨w',v,p1,p2,p3,p4,p5⟩:=zgx hi
 obtain⟨u',v',q1,q2,q3,q4,q5⟩:=zgx hj
 have hw:w'=w:=by have:=hF.top;rw[p1]at this;injection this
 have hu:u'=u:=by have:=hG.top;rw[q1]at this;injection this
 have x1:=zec hi
 have x2:=zec hj
 have y1:=zdd (t:=s) (j:=i) p2
 have y2:=zdd (t:=t) (j:=j) q2
 rw[p3,hw]at y1
 rw[q3,hu]at y2
 have cc:=fun H=>zagy w.nbare u.nbare (by
  have:=hs.2 w (znn s w (Ao hF.top))
  rw[zabf,zbe];omega) H
 rw[zagx]at cc
 obtain⟨r,H',h1,h2,rfl⟩:=zat (args:=[J5 k 0 0,rg a (lsize (w::F)),rg b (lsize (u::G))]) (H:=H) (Q:=fun r H'=>r = J4 (cost w u)/\H'=H) look_Q126 rfl rfl (by
  dsimp only[i_Q126,c_Q126]
  simp(disch:=omega) [-Int.natCast_add,rg,f0,f1,f2,f3,g1,g2,x1,x2,y1,y2,zbcj,cc,zaa])
 rw[h1,h2]
theorem zaqg {M:Memo2} (hZ:ZAt H k o1 o2 s t M) (hM:M.length<1000000000) (q:Quad) {kf kg:KB} (Q:J0)
 (h1:∀e∈M,e.1=q->∀E B,lookE E 6 = .int .i64 e.2->Q .ret E ⟨B,H⟩)
 (h2:Q .normal [(0, .v (J5 k 0 0)),(4, .box 4 0),(5, .box 5 0),(7, .box 7 0)] ⟨[(7,some ⟨[.int .i64 q.1, .int .i64 q.2.1, .int .i64 q.2.2.1, .int .i64 q.2.2.2],4⟩),(5,some kg),(4,some kf)],H⟩) :
 wpLoop (CW tr.look) 137 m_Q104_0 l_Q104_0 (blkK 0 b_Q104_0 Q) [(0, .v (J5 k 0 0)),(4, .box 4 0),(5, .box 5 0),(7, .box 7 0),(8, .int .i64 0)] ⟨[(7,some ⟨[.int .i64 q.1, .int .i64 q.2.1, .int .i64 q.2.2.1, .int .i64 q.2.2.2],4⟩),(5,some kg),(4,some kf)],H⟩:=by
 obtain⟨kv,dv,g1,g2,g3,g4,g5,g6⟩:=hZ.blk
 have l6:loadVal ⟨[],H⟩ none (J5 k 0 6)=some kv:=zae g1 rfl
 have l7:loadVal ⟨[],H⟩ none (J5 k 0 7)=some dv:=zae g1 rfl
 have u6:=g2.up
 have n6:kv≠.undef:=by rintro rfl;exact absurd g2.pass (by decide)
 have u7:=g3.up
 have n7:dv≠.undef:=by rintro rfl;exact absurd g3.pass (by decide)
 have s6:=g2.len
 refine zab (α:=Nat) (fun j=>[(0, .v (J5 k 0 0)),(4, .box 4 0),(5, .box 5 0),(7, .box 7 0),(8, .int .i64 j)]) (fun _=>⟨[(7,some ⟨[.int .i64 q.1, .int .i64 q.2.1, .int .i64 q.2.2.1, .int .i64 q.2.2.2],4⟩),(5,some kg),(4,some kf)],H⟩) (fun j=>j<=M.length) (fun j=>M.length-j) ?_ 0 (AU _)
 rintro j hj R hR
 dsimp only[l_Q104_0]
 by_cases hc:j<M.length
 ·obtain⟨e,he⟩:∃e,M[j]? = some e:=⟨_,Ac hc⟩
  obtain⟨p,x1,x2,x3⟩:=g2.at4 he
  have g3':VS H o2 1 (M.map (·.2)).length dv (pcells (nints (M.map (·.2)))):=by rw[A4];exact g3
  obtain⟨p',y1,y2,y3⟩:=g3'.atN (j:=j) (n:=e.2) (by rw[Ap,he];rfl)
  simp only[qc]at x3
  by_cases hq:e.1=q
  ·have hm:=h1 e (Ao he) hq
   subst hq
   simp(disch:=omega) [l6,u6,s6,x1,x2,x3,negIf,eqVals,eqCls,clsEq,l7,u7,y1,y2,y3]
   refine hm _ _ ?_
   rfl
  ·have hb:(e.1.1==q.1&&(e.1.2.1==q.2.1&&(e.1.2.2.1==q.2.2.1&&e.1.2.2.2==q.2.2.2)))=false:=by
    rw[Cv];intro h;simp at h;exact hq (Prod.ext h.1 (Prod.ext h.2.1 (Prod.ext h.2.2.1 h.2.2.2)))
   simp(disch:=omega) [l6,u6,s6,x1,x2,x3,hb,negIf,eqVals,eqCls,clsEq,zaa]
   exact hR (j+1) (by omega) (by omega)
 ·obtain rfl:j=M.length:=by omega
  simp(disch:=omega) [l6,u6,s6]
  exact h2
end
structure ZG (k:Nat) (o1 o2:Option Nat) (H:J2) (o1' o2':Option Nat) (H':J2):Prop where
 keep:Keep (fun x=>x=k\/o1=some x\/o2=some x) H H'
 b1:o1'=o1\/∃j,o1'=some j/\H.length<=j
 b2:o2'=o2\/∃j,o2'=some j/\H.length<=j
theorem ZG.refl {k:Nat} {o1 o2:Option Nat} {H:J2}:ZG k o1 o2 H o1 o2 H:=⟨Keep.refl, .inl rfl, .inl rfl⟩
theorem ZG.trans {k:Nat} {o1 o2 p1 p2 q1 q2:Option Nat} {H H1 H2:J2} (h:ZG k o1 o2 H p1 p2 H1) (g:ZG k p1 p2 H1 q1 q2 H2):ZG k o1 o2 H q1 q2 H2:=by
 have hl:=h.keep.1
 refine⟨h.keep.trans' g.keep fun i hi e=>?_,?_,?_⟩
 ·rcases e with e|e|e
  ·exact .inl e
  ·rcases h.b1 with h1|⟨j,h1,h2⟩
   ·exact .inr (.inl (by rw[<- h1];exact e))
   ·rw[h1]at e;injection e with e;omega
  ·rcases h.b2 with h1|⟨j,h1,h2⟩
   ·exact .inr (.inr (by rw[<- h1];exact e))
   ·rw[h1]at e;injection e with e;omega
 ·rcases g.b1 with h1|⟨j,h1,h2⟩
  ·rw[h1];exact h.b1
  ·exact .inr ⟨j,h1,by omega⟩
 ·rcases g.b2 with h1|⟨j,h1,h2⟩
  ·rw[h1];exact h.b2
  ·exact .inr ⟨j,h1,by omega⟩
theorem pow3 {x y m:Nat} (h:x+y+2<=m):3 ^ x+3 ^ y+1+2*3 ^ (m-1)<=3 ^ m:=by
 obtain⟨n,rfl⟩:∃n,m=n+2:=⟨m-2,by omega⟩
 have e1:(3:Nat) ^ (n+2)=3*3 ^ (n+1):=by rw[Nat.pow_succ,Nat.mul_comm]
 have e2:(3:Nat) ^ (n+1)=3*3 ^ n:=by rw[Nat.pow_succ,Nat.mul_comm]
 have h3:1<=3 ^ n:=Cb _ _ (by omega)
 have e3:n+2-1=n+1:=by omega
 rw[e3,e1]
 have hxy:3 ^ x+3 ^ y<=3 ^ n+1:=by
  by_cases hx:x=0
  ·subst hx
   have:3 ^ y<=3 ^ n:=Cg (by omega) (by omega)
   simp;omega
  ·by_cases hy:y=0
   ·subst hy
    have:3 ^ x<=3 ^ n:=Cg (by omega) (by omega)
    simp;omega
   ·have a1:3 ^ x<=3 ^ (n-1):=Cg (by omega) (by omega)
    have a2:3 ^ y<=3 ^ (n-1):=Cg (by omega) (by omega)
    have a3:3 ^ n=3*3 ^ (n-1):=by
     have:n=(n-1)+1:=by omega
     rw[this,Nat.pow_succ,Nat.mul_comm];simp
    omega
 omega
def ZDist (s t:Tree) (n:Nat):Prop:=∀(H:J2) (k:Nat) (o1 o2:Option Nat) (M:Memo2) (a b:Nat) (F G:List Tree),ZAt H k o1 o2 s t M->Rep s a F->Rep t b G->lsize F+lsize G<n->M.length+3 ^ (lsize F+lsize G)<=900000000 ->
 ∃H' o1' o2' M',CW tr.look F_Q104 [J5 k 0 0,rg a (lsize F),rg b (lsize G)] H=some (J4 (fd F G:Nat),H')/\ZAt H' k o1' o2' s t M'/\ZG k o1 o2 H o1' o2' H'/\M'.length<=M.length+3 ^ (lsize F+lsize G)
theorem zaqh (s t:Tree) (hs:Fine s) (ht:Fine t) (n:Nat) (ih:ZDist s t n):ZDist s t (n+1):=by
 intro H k o1 o2 M a b F G hZ hF hG hn hM
 have hs1:=hs.1
 have ht1:=ht.1
 have lF:=hF.le
 have lG:=hG.le
 cases F with
 |nil =>
  obtain⟨r,H',h1,rfl,h2⟩:=zat (args:=[J5 k 0 0,rg a (lsize []),rg b (lsize G)]) (H:=H) (Q:=fun r H'=>r = J4 (fd [] G:Nat)/\H'=H) look_Q104 rfl rfl (by
   dsimp only[i_Q104,c_Q104]
   simp only[lsize]at lG ⊢
   rw[zbz]
   simp(disch:=omega) [rg,zaa]
   omega)
  subst h2
  exact⟨_,o1,o2,M,h1,hZ,ZG.refl,B7 _ _⟩
 |cons w F =>
  have hkw:=zai w
  have e1:lsize (w::F)=w.size+lsize F:=rfl
  have na:(a:Int)≠((a+lsize (w::F):Nat):Int):=by omega
  cases G with
  |nil =>
   obtain⟨r,H',h1,rfl,h2⟩:=zat (args:=[J5 k 0 0,rg a (lsize (w::F)),rg b (lsize [])]) (H:=H) (Q:=fun r H'=>r = J4 (fd (w::F) []:Nat)/\H'=H) look_Q104 rfl rfl (by
    dsimp only[i_Q104,c_Q104]
    rw[zcs]
    have e0:lsize []=0:=rfl
    have e3:((a+lsize (w::F):Nat):Int)-a+b-b=(lsize (w::F):Nat):=by omega
    simp(disch:=omega) [-Int.natCast_add,rg,zaa,e0,e3])
   subst h2
   exact⟨_,o1,o2,M,h1,hZ,ZG.refl,B7 _ _⟩
  |cons u G =>
   have hku:=zai u
   have e2:lsize (u::G)=u.size+lsize G:=rfl
   have nb:(b:Int)≠((b+lsize (u::G):Nat):Int):=by omega
   have hp:=zaem hZ hs1 ht1 hF hG
   have hpow:=pow3 (x:=lsize (kidsR w)+lsize (kidsR u)) (y:=lsize F+lsize G) (m:=lsize (w::F)+lsize (u::G)) (by omega)
   have v1:1<=3 ^ (lsize (kidsR w)+lsize (kidsR u)):=Cb _ _ (by omega)
   have v2:1<=3 ^ (lsize F+lsize G):=Cb _ _ (by omega)
   have v3:1<=3 ^ (lsize (w::F)+lsize (u::G)-1):=Cb _ _ (by omega)
   have q1:lsize (kidsR w++F)+lsize (u::G)=lsize (w::F)+lsize (u::G)-1:=by rw[zah];omega
   have q2:lsize (w::F)+lsize (kidsR u++G)=lsize (w::F)+lsize (u::G)-1:=by rw[zah];omega
   obtain⟨H1,a1,a2,M1,c1,Z1,G1,L1⟩:=ih H k o1 o2 M _ _ (kidsR w) (kidsR u) hZ hF.kids hG.kids (by omega) (by omega)
   obtain⟨H2,b1,b2,M2,c2,Z2,G2,L2⟩:=ih H1 k a1 a2 M1 _ _ F G Z1 hF.rest hG.rest (by omega) (by omega)
   have hcost:=zaen Z2 hs ht hF hG
   obtain⟨H3,d1,d2,M3,c3,Z3,G3,L3⟩:=ih H2 k b1 b2 M2 a b (kidsR w++F) (u::G) Z2 hF.opened hG (by omega) (by rw[q1];omega)
   rw[q1]at L3
   obtain⟨H4,f1,f2,M4,c4,Z4,G4,L4⟩:=ih H3 k d1 d2 M3 a b (w::F) (kidsR u++G) Z3 hF hG.opened (by omega) (by rw[q2];omega)
   rw[q2]at L4
   have x1:((a+lsize (w::F):Nat):Int)-1=((a+lsize (kidsR w++F):Nat):Int):=by rw[zah];omega
   have x2:((b+lsize (u::G):Nat):Int)-1=((b+lsize (kidsR u++G):Nat):Int):=by rw[zah];omega
   have y1:=fd_le (kidsR w) (kidsR u)
   have y2:=fd_le F G
   have y3:=fd_le (kidsR w++F) (u::G)
   have y4:=fd_le (w::F) (kidsR u++G)
   have hc3:=zajm w u
   rw[zah]at y3 y4
   have hm:=ext3 (fd (kidsR w) (kidsR u)+fd F G+cost w u) (fd (kidsR w++F) (u::G)) (fd (w::F) (kidsR u++G))
   rw[<- zgm]at hm
   obtain⟨kv,dv,g1,g2,g3,g4,g5,g6⟩:=Z4.blk
   have hkl:=(Aa.1 g1).1
   have l6:loadVal ⟨[],H4⟩ none (J5 k 0 6)=some kv:=zae g1 rfl
   have u6:=g2.up
   have n6:kv≠.undef:=by rintro rfl;exact absurd g2.pass (by decide)
   obtain⟨kv',H5,p1,t1,t2,t3,t4,t5,j1,rfl⟩:=g2.append1 (ys:=qc (qd a (lsize (w::F)) b (lsize (u::G)))) rfl (by omega)
   have k5:H5[k]? = some (.cells [.p (rval s), .p (rval t), .p (nval (postT s 0)), .p (nval (postT t 0)), .p (nval (firsts s)), .p (nval (firsts t)),kv,dv] 8 0 false):=by rw[t3.2 k hkl (fun e=>g4 e)];exact g1
   have w5:writeCells ⟨[],H5⟩ (J5 k 0 6) [kv']=some ⟨[],H5.set k (.cells [.p (rval s), .p (rval t), .p (nval (postT s 0)), .p (nval (postT t 0)), .p (nval (firsts s)), .p (nval (firsts t)),kv',dv] 8 0 false)⟩:=by rw[zan k5 (by simp)];rfl
   have u5:=t2.up
   have n5:kv'≠.undef:=by rintro rfl;exact absurd t2.pass (by decide)
   have hlt5:=t3.1
   have hj1:j1≠k:=by
    rcases t5 with e|⟨k',e,e2⟩
    ·intro e3;subst e3;exact g4 e.symm
    ·injection e with e;omega
   generalize hH6:H5.set k (.cells [.p (rval s), .p (rval t), .p (nval (postT s 0)), .p (nval (postT t 0)), .p (nval (firsts s)), .p (nval (firsts t)),kv',dv] 8 0 false)=H6 at w5
   have k6:H6[k]? = some (.cells [.p (rval s), .p (rval t), .p (nval (postT s 0)), .p (nval (postT t 0)), .p (nval (firsts s)), .p (nval (firsts t)),kv',dv] 8 0 false):=by rw[<- hH6];exact zaq (by omega)
   have K56:Keep (fun x=>x=k) H5 H6:=by rw[<- hH6];exact Keep.set (.inl rfl)
   have l7:loadVal ⟨[],H6⟩ none (J5 k 0 7)=some dv:=zae k6 rfl
   have D6:VS H6 f2 1 M4.length dv (pcells (nints (M4.map (·.2)))):=(g3.keep t3 (fun x hx e=>g6 x e hx)).keep K56 (fun x hx e=>g5 (by rw[hx,e]))
   have u7:=D6.up
   have n7:dv≠.undef:=by rintro rfl;exact absurd D6.pass (by decide)
   obtain⟨dv',H7,p2,r1,r2,r3,r4,r5,j2,rfl⟩:=D6.append1 (ys:=[J4 (fd (w::F) (u::G):Nat)]) rfl (by omega)
   have hkl6:=(Aa.1 k6).1
   have k7:H7[k]? = some (.cells [.p (rval s), .p (rval t), .p (nval (postT s 0)), .p (nval (postT t 0)), .p (nval (firsts s)), .p (nval (firsts t)),kv',dv] 8 0 false):=by rw[r3.2 k hkl6 (fun e=>g5 e)];exact k6
   have w7:writeCells ⟨[],H7⟩ (J5 k 0 7) [dv']=some ⟨[],H7.set k (.cells [.p (rval s), .p (rval t), .p (nval (postT s 0)), .p (nval (postT t 0)), .p (nval (firsts s)), .p (nval (firsts t)),kv',dv'] 8 0 false)⟩:=by rw[zan k7 (by simp)];rfl
   have u8:=r2.up
   have n8:dv'≠.undef:=by rintro rfl;exact absurd r2.pass (by decide)
   have hj2:j2≠k:=by
    rcases r5 with e|⟨k',e,e2⟩
    ·intro e3;subst e3;exact g5 e.symm
    ·injection e with e;omega
   have hj12:j1≠j2:=by
    have hj1l:=VS.lt t2
    have hl6:H6.length=H5.length:=by rw[<- hH6];simp
    rcases r5 with e|⟨k',e,e2⟩
    ·rcases t5 with e3|⟨k',e3,e4⟩
     ·intro e5;subst e5;exact g6 _ e3.symm e.symm
     ·injection e3 with e3
      have hd:=VS.lt (e ▸ g3)
      omega
    ·injection e with e;omega
   have hd6:f2≠some j1:=by
    intro e
    rcases t5 with e3|⟨k',e3,e4⟩
    ·exact g6 _ e3.symm e
    ·injection e3 with e3
     have hd:=VS.lt (e ▸ g3)
     omega
   generalize hH8:H7.set k (.cells [.p (rval s), .p (rval t), .p (nval (postT s 0)), .p (nval (postT t 0)), .p (nval (firsts s)), .p (nval (firsts t)),kv',dv'] 8 0 false)=H8 at w7
   have K78:Keep (fun x=>x=k) H7 H8:=by rw[<- hH8];exact Keep.set (.inl rfl)
   have hnew:Known2 s t (qd a (lsize (w::F)) b (lsize (u::G))) (fd (w::F) (u::G)):=⟨a,b,w::F,u::G,hF,hG,by simp,by simp,rfl,rfl⟩
   have Z8:ZAt H8 k (some j1) (some j2) s t (M4++[(qd a (lsize (w::F)) b (lsize (u::G)),fd (w::F) (u::G))]):=by
    refine⟨⟨kv',dv',by rw[<- hH8];exact zaq (Aa.1 k7).1,?_,?_,by simp[hj1],by simp[hj2],fun j e=>by simp at e ⊢;omega⟩,?_⟩
    ·have:=((t2.keep K56 (fun x hx e=>by injection hx with hx;omega)).keep r3 (fun x hx e=>by injection hx with hx;subst hx;exact hd6 e)).keep K78 (fun x hx e=>by injection hx with hx;omega)
     simpa using this
    ·have:=r2.keep K78 (fun x hx e=>by injection hx with hx;omega)
     simpa[nints]using this
    ·intro e he
     rcases Ar.1 he with he|he
     ·exact Z4.memo e he
     ·simp at he;subst he;exact hnew
   have G8:ZG k o1 o2 H (some j1) (some j2) H8:=by
    have GA:ZG k f1 f2 H4 (some j1) f2 H6:=by
     refine⟨(t3.mono fun i _ e=>.inr (.inl e)).trans (K56.mono fun i _ e=>.inl e),?_, .inl rfl⟩
     rcases t5 with e|e
     ·exact .inl e
     ·exact .inr e
    have GB:ZG k (some j1) f2 H6 (some j1) (some j2) H8:=by
     refine⟨(r3.mono fun i _ e=>.inr (.inr e)).trans (K78.mono fun i _ e=>.inl e), .inl rfl,?_⟩
     rcases r5 with e|e
     ·exact .inl e
     ·exact .inr e
    exact((((G1.trans G2).trans G3).trans G4).trans GA).trans GB
   simp only[rg]at hp c1 c2 c3 c4 hcost
   simp only[qc,qd]at t1
   simp only[B3]at hm
   obtain⟨r,H',h1,h2⟩:=zat (args:=[J5 k 0 0,rg a (lsize (w::F)),rg b (lsize (u::G))]) (H:=H) (Q:=fun r H'=>r = J4 (fd (w::F) (u::G):Nat)/\((H'=H8)\/(H'=H))) look_Q104 rfl rfl (by
    dsimp only[i_Q104,c_Q104]
    simp(disch:=omega) [-Int.natCast_add,rg]
    refine zaqg hZ (by omega) (qd a (lsize (w::F)) b (lsize (u::G))) _ ?_ ?_
    ·intro e he hq E B hE
     have hv:=Known2.right hF hG (hq ▸ hZ.memo e he)
     simp(disch:=omega) [hE,hv]
    ·simp(disch:=omega) [-Int.natCast_add,qd,hp,c1,c2,hcost,x1,x2,c3,c4,zaa,hm,l6,u6,t1,u5,w5,zgz t2.cells u5,l7,u7,r1,u8,w7,zgz r2.cells u8])
   obtain⟨rfl,rfl|rfl⟩:=h2
   ·refine⟨_,some j1,some j2,_,h1,Z8,G8,?_⟩
    simp only[Af,AO]
    omega
   ·exact⟨_,o1,o2,M,h1,hZ,ZG.refl,B7 _ _⟩
theorem zfy (s t:Tree) (hs:Fine s) (ht:Fine t):∀n,ZDist s t n
 |0=>fun _ _ _ _ _ _ _ _ _ _ _ _ h=>absurd h (C5 _)
 |n+1=>zaqh s t hs ht n (zfy s t hs ht n)
section
variable {A B:List Nat} {H:J2} {a b k:Nat} {o1 o2 o3:Option Nat} {t:Tree}
def rp (A B:List Nat):Nat->Nat->List Tree->List Tree->J1
 |_,_,[],_=>[]
 |_,_,_::_,[]=>[]
 |a,b,t::F,u::G =>
  if fd (t::F) (u::G)=fd (kidsR t) (kidsR u)+fd F G+cost t u then(A.getD (a+lsize F+t.size-1) 0,B.getD (b+lsize G+u.size-1) 0)::(rp A B (a+lsize F) (b+lsize G) (kidsR t) (kidsR u)++rp A B a b F G)
  else if fd (t::F) (u::G)=fd (kidsR t++F) (u::G)+1 then rp A B a b (kidsR t++F) (u::G)else rp A B a b (t::F) (kidsR u++G)
termination_by _ _ F G=>lsize F+lsize G
decreasing_by
 all_goals
  have h1:=zai t
  have h2:=zai u
  simp only[lsize,zah]
  omega
theorem zasl {G:List Tree}:rp A B a b [] G=[]:=by rw[rp]
theorem zall {F:List Tree}:rp A B a b F []=[]:=by
 cases F with
 |nil=>rw[rp]
 |cons t F=>rw[rp]
theorem zalm {u:Tree} {F G:List Tree}:rp A B a b (t::F) (u::G)=if fd (t::F) (u::G)=fd (kidsR t) (kidsR u)+fd F G+cost t u then(A.getD (a+lsize F+t.size-1) 0,B.getD (b+lsize G+u.size-1) 0)::(rp A B (a+lsize F) (b+lsize G) (kidsR t) (kidsR u)++rp A B a b F G)
 else if fd (t::F) (u::G)=fd (kidsR t++F) (u::G)+1 then rp A B a b (kidsR t++F) (u::G)else rp A B a b (t::F) (kidsR u++G):=by rw[rp]
theorem zacj (A B:List Nat) (a b:Nat) (F G:List Tree):(rp A B a b F G).Perm (pr A B a b F G):=by
 have key:∀(n:Nat) (a b:Nat) (F G:List Tree),lsize F+lsize G<n->(rp A B a b F G).Perm (pr A B a b F G):=by
  intro n
  induction n with
  |zero=>intro a b F G h;omega
  |succ n ih =>
   intro a b F G h
   cases F with
   |nil=>rw[zasl,ztm]
   |cons t F =>
    cases G with
    |nil=>rw[zall,zno]
    |cons u G =>
     have h1:=zai t
     have h2:=zai u
     simp only[lsize]at h
     rw[zalm,znp]
     split
     ·have a1:=ih (a+lsize F) (b+lsize G) (kidsR t) (kidsR u) (by omega)
      have a2:=ih a b F G (by omega)
      exact((a1.append a2).cons _).trans (List.perm_append_singleton _ _).symm
     ·split
      ·exact ih a b (kidsR t++F) (u::G) (by simp only[lsize,zah];omega)
      ·exact ih a b (t::F) (kidsR u++G) (by simp only[lsize,zah];omega)
 exact key _ a b F G (Ai _)
def Dis (o3:Option Nat) (k:Nat) (o1 o2:Option Nat):Prop:=o3≠some k/\∀j,o3=some j->o1≠some j/\o2≠some j
theorem ZG.slice {o1' o2':Option Nat} {H':J2} {e n:Nat} {v:IVal} {xs:J3} (h:ZG k o1 o2 H o1' o2' H') (hV:VS H o3 e n v xs) (hd:Dis o3 k o1 o2):VS H' o3 e n v xs/\Dis o3 k o1' o2':=by
 refine⟨hV.keep h.keep fun j hj e=>?_,hd.1,fun j hj=>?_⟩
 ·obtain⟨d1,d2⟩:=hd.2 j hj
  rcases e with e|e|e
  ·exact hd.1 (by rw[hj,e])
  ·exact d1 e
  ·exact d2 e
 ·obtain⟨d1,d2⟩:=hd.2 j hj
  subst hj
  have hl:=hV.lt
  constructor
  ·rcases h.b1 with e|⟨i,e,hi⟩
   ·rw[e];exact d1
   ·rw[e];intro e2;injection e2 with e2;omega
  ·rcases h.b2 with e|⟨i,e,hi⟩
   ·rw[e];exact d2
   ·rw[e];intro e2;injection e2 with e2;omega
theorem ZAt.later {H':J2} {s:Tree} {M:Memo2} (h:ZAt H k o1 o2 s t M) (hk:Keep (fun x=>o3=some x) H H') (hd:Dis o3 k o1 o2):ZAt H' k o1 o2 s t M:=by
 obtain⟨kv,dv,h1,h2,h3,h4,h5,h6⟩:=h.blk
 refine⟨⟨kv,dv,?_,h2.keep hk (fun j hj e=>(hd.2 j e).1 hj),h3.keep hk (fun j hj e=>(hd.2 j e).2 hj),h4,h5,h6⟩,h.memo⟩
 rw[hk.2 k (Aa.1 h1).1 (fun e=>hd.1 e)];exact h1
theorem Dis.later {o3':Option Nat} {s:Tree} {M:Memo2} (h:ZAt H k o1 o2 s t M) (hd:Dis o3 k o1 o2) (hb:o3'=o3\/∃j,o3'=some j/\H.length<=j):Dis o3' k o1 o2:=by
 rcases hb with rfl|⟨j,rfl,hj⟩
 ·exact hd
 ·obtain⟨kv,dv,h1,h2,h3,h4,h5,h6⟩:=h.blk
  have hl:=(Aa.1 h1).1
  refine⟨fun e=>by injection e with e;omega,fun i hi=>⟨fun e=>?_,fun e=>?_⟩⟩
  ·injection hi with hi;subst e;have:=h2.lt;omega
  ·injection hi with hi;subst e;have:=h3.lt;omega
theorem pow3b {x y m:Nat} (h:x+y+2<=m):5*(3 ^ x+3 ^ y)<=3*3 ^ m/\3 ^ x+3 ^ y+5*3 ^ (m-1)<=3*3 ^ m:=by
 have h1:=pow3 h
 obtain⟨n,rfl⟩:∃n,m=n+1:=⟨m-1,by omega⟩
 have e1:(3:Nat) ^ (n+1)=3*3 ^ n:=by rw[Nat.pow_succ,Nat.mul_comm]
 simp only[Nat.add_sub_cancel]at h1 ⊢
 rw[e1]at h1 ⊢
 omega
def ZMap (s t:Tree) (n:Nat):Prop:=∀(H:J2) (k:Nat) (o1 o2 o3:Option Nat) (M:Memo2) (a b:Nat) (F G:List Tree) (lv:IVal) (L:List PP),ZAt H k o1 o2 s t M->Rep s a F->Rep t b G->VS H o3 2 L.length lv (pcells (prcells L))->Dis o3 k o1 o2->lsize F+lsize G<n ->
 M.length+4*3 ^ (lsize F+lsize G)<=900000000->L.length+lsize F<=1000000 ->
 ∃H' o1' o2' o3' M' lv',CW tr.look F_Q103 [J5 k 0 0,lv,rg a (lsize F),rg b (lsize G)] H=some (lv',H')/\ZAt H' k o1' o2' s t M' /\
  VS H' o3' 2 (L++rp (postT s 0) (postT t 0) a b F G).length lv' (pcells (prcells (L++rp (postT s 0) (postT t 0) a b F G)))/\Dis o3' k o1' o2'/\M'.length<=M.length+4*3 ^ (lsize F+lsize G)
theorem zawj (s t:Tree) (hs:Fine s) (ht:Fine t) (n:Nat) (ih:ZMap s t n):ZMap s t (n+1):=by
 intro H k o1 o2 o3 M a b F G lv L hZ hF hG hV hD hn hM hL
 have hs1:=hs.1
 have ht1:=ht.1
 have lF:=hF.le
 have lG:=hG.le
 have hup:=hV.up
 have hps:=hV.pass
 have hne:lv≠.undef:=by rintro rfl;exact absurd hps (by decide)
 have hki:=fun s=>hV.kill (s:=s)
 cases F with
 |nil =>
  obtain⟨r,H',h1,rfl,h2⟩:=zat (args:=[J5 k 0 0,lv,rg a (lsize []),rg b (lsize G)]) (H:=H) (Q:=fun r H'=>r=lv/\H'=H) look_Q103 rfl rfl (by
   dsimp only[i_Q103,c_Q103]
   simp only[lsize]at lG ⊢
   simp(disch:=omega) [rg,hup,hps,hki])
  subst h2
  rw[zasl,AQ]
  exact⟨_,o1,o2,o3,M,_,h1,hZ,hV,hD,B7 _ _⟩
 |cons w F =>
  have hkw:=zai w
  have e1:lsize (w::F)=w.size+lsize F:=rfl
  have na:(a:Int)≠((a+lsize (w::F):Nat):Int):=by omega
  cases G with
  |nil =>
   obtain⟨r,H',h1,rfl,h2⟩:=zat (args:=[J5 k 0 0,lv,rg a (lsize (w::F)),rg b (lsize [])]) (H:=H) (Q:=fun r H'=>r=lv/\H'=H) look_Q103 rfl rfl (by
    dsimp only[i_Q103,c_Q103]
    have e0:lsize []=0:=rfl
    simp(disch:=omega) [-Int.natCast_add,rg,e0,hup,hps,hki])
   subst h2
   rw[zall,AQ]
   exact⟨_,o1,o2,o3,M,_,h1,hZ,hV,hD,B7 _ _⟩
  |cons u G =>
   have hku:=zai u
   have e2:lsize (u::G)=u.size+lsize G:=rfl
   have nb:(b:Int)≠((b+lsize (u::G):Nat):Int):=by omega
   obtain⟨hpb1,hpb2⟩:=pow3b (x:=lsize (kidsR w)+lsize (kidsR u)) (y:=lsize F+lsize G) (m:=lsize (w::F)+lsize (u::G)) (by omega)
   have v0:1<=3 ^ (lsize (w::F)+lsize (u::G)):=Cb _ _ (by omega)
   have v1:1<=3 ^ (lsize (kidsR w)+lsize (kidsR u)):=Cb _ _ (by omega)
   have v2:1<=3 ^ (lsize F+lsize G):=Cb _ _ (by omega)
   have v3:1<=3 ^ (lsize (w::F)+lsize (u::G)-1):=Cb _ _ (by omega)
   have q1:lsize (kidsR w++F)+lsize (u::G)=lsize (w::F)+lsize (u::G)-1:=by rw[zah];omega
   have q2:lsize (w::F)+lsize (kidsR u++G)=lsize (w::F)+lsize (u::G)-1:=by rw[zah];omega
   obtain⟨H1,a1,a2,M1,c1,Z1,G1,L1⟩:=zfy s t hs ht _ H k o1 o2 M a b (w::F) (u::G) hZ hF hG (Ai _) (by omega)
   obtain⟨V1,D1⟩:=G1.slice hV hD
   have hp:=zaem Z1 hs1 ht1 hF hG
   obtain⟨H2,b1,b2,M2,c2,Z2,G2,L2⟩:=zfy s t hs ht _ H1 k a1 a2 M1 _ _ (kidsR w) (kidsR u) Z1 hF.kids hG.kids (Ai _) (by omega)
   obtain⟨V2,D2⟩:=G2.slice V1 D1
   obtain⟨H3,d1,d2,M3,c3,Z3,G3,L3⟩:=zfy s t hs ht _ H2 k b1 b2 M2 a b F G Z2 hF.rest hG.rest (Ai _) (by omega)
   obtain⟨V3,D3⟩:=G3.slice V2 D2
   have hcost:=zaen Z3 hs ht hF hG
   have x1:((a+lsize (w::F):Nat):Int)-1=((a+lsize (kidsR w++F):Nat):Int):=by rw[zah];omega
   have x2:((b+lsize (u::G):Nat):Int)-1=((b+lsize (kidsR u++G):Nat):Int):=by rw[zah];omega
   have y1:=fd_le (kidsR w) (kidsR u)
   have y2:=fd_le F G
   have y3:=fd_le (kidsR w++F) (u::G)
   have y4:=fd_le (w::F) (kidsR u++G)
   have y5:=fd_le (w::F) (u::G)
   have hc3:=zajm w u
   rw[zah]at y3 y4
   simp only[rg]at hp c1 c2 c3 hcost
   rw[zalm]
   by_cases hm:fd (w::F) (u::G)=fd (kidsR w) (kidsR u)+fd F G+cost w u
   ·rw[if_pos hm]
    have hcl:=znq hm
    have hmi:((fd (kidsR w) (kidsR u):Nat):Int)+(fd F G:Nat)+(cost w u:Nat)=(fd (w::F) (u::G):Nat):=by omega
    obtain⟨f0,f1,f2,f3,f4,f5⟩:=Z3.fields
    have g1:((a+lsize (w::F):Nat):Int)-1=((a+lsize F+w.size-1:Nat):Int):=by omega
    have g2:((b+lsize (u::G):Nat):Int)-1=((b+lsize G+u.size-1:Nat):Int):=by omega
    obtain⟨i,hi⟩:∃i,(postT s 0)[a+lsize F+w.size-1]? = some i:=⟨_,Ac (by rw[zal];omega)⟩
    obtain⟨j,hj⟩:∃i,(postT t 0)[b+lsize G+u.size-1]? = some i:=⟨_,Ac (by rw[zal];omega)⟩
    have gA:(postT s 0).getD (a+lsize F+w.size-1) 0=i:=by rw[Aj,hi];rfl
    have gB:(postT t 0).getD (b+lsize G+u.size-1) 0=j:=by rw[Aj,hj];rfl
    rw[gA,gB]
    have i1:=zec hi
    have i2:=zec hj
    obtain⟨lv4,H4,o4,c4,V4,K4,l4,N4,_⟩:=V3.append1 (ys:=[J4 i, J4 j]) rfl (by omega)
    have Z4:=Z3.later K4 D3
    have D4:=Dis.later Z3 D3 N4
    have V4':VS H4 o4 2 (L++[(i,j)]).length lv4 (pcells (prcells (L++[(i,j)]))):=by
     rw[zlf,zdj,Af]
     exact V4
    have hLl:(L++[(i,j)]).length=L.length+1:=by simp
    obtain⟨H5,p1,p2,o5,M5,lv5,c5,Z5,V5,D5,L5⟩:=ih H4 k d1 d2 o4 M3 _ _ (kidsR w) (kidsR u) lv4 (L++[(i,j)]) Z4 hF.kids hG.kids V4' D4 (by omega) (by omega) (by omega)
    have hrl:(rp (postT s 0) (postT t 0) (a+lsize F) (b+lsize G) (kidsR w) (kidsR u)).length<=lsize (kidsR w):=by rw[(zacj _ _ _ _ _ _).length_eq];exact zyg _ _ _ _ _ _
    obtain⟨H6,r1,r2,o6,M6,lv6,c6,Z6,V6,D6,L6⟩:=ih H5 k p1 p2 o5 M5 _ _ F G lv5 _ Z5 hF.rest hG.rest V5 D5 (by omega) (by omega) (by rw[Af];omega)
    have u3:=V3.up
    have u4:=V4.up
    have n4:lv4≠.undef:=by rintro rfl;exact absurd V4.pass (by decide)
    have u5:=V5.up
    have n5:lv5≠.undef:=by rintro rfl;exact absurd V5.pass (by decide)
    have u6:=V6.up
    have n6:lv6≠.undef:=by rintro rfl;exact absurd V6.pass (by decide)
    have s4:=V4.pass
    have s5:=V5.pass
    have s6:=V6.pass
    simp only[rg]at c5 c6
    obtain⟨r,H',h1,rfl,h2⟩:=zat (args:=[J5 k 0 0,lv,rg a (lsize (w::F)),rg b (lsize (u::G))]) (H:=H) (Q:=fun r H'=>r=lv6/\H'=H6) look_Q103 rfl rfl (by
     dsimp only[i_Q103,c_Q103]
     simp(disch:=omega) [-Int.natCast_add,rg,hup,hki,c1,hp,c2,c3,hcost,hmi,f2,f3,g1,g2,i1,i2,c4,u4,s4,c5,u5,s5,c6,u6,s6,zaa])
    subst h2
    refine⟨_,r1,r2,o6,M6,_,h1,Z6,?_,D6,by omega⟩
    simpa[Aw]using V6
   ·rw[if_neg hm]
    have hmi:((fd (kidsR w) (kidsR u):Nat):Int)+(fd F G:Nat)+(cost w u:Nat)≠(fd (w::F) (u::G):Nat):=by omega
    obtain⟨H4,f1,f2,M4,c4,Z4,G4,L4⟩:=zfy s t hs ht _ H3 k d1 d2 M3 a b (kidsR w++F) (u::G) Z3 hF.opened hG (Ai _) (by rw[q1];omega)
    rw[q1]at L4
    obtain⟨V4,D4⟩:=G4.slice V3 D3
    simp only[rg]at c4
    by_cases hd:fd (w::F) (u::G)=fd (kidsR w++F) (u::G)+1
    ·rw[if_pos hd]
     have hdi:((fd (kidsR w++F) (u::G):Nat):Int)+1=(fd (w::F) (u::G):Nat):=by omega
     obtain⟨H5,p1,p2,o5,M5,lv5,c5,Z5,V5,D5,L5⟩:=ih H4 k f1 f2 o3 M4 _ _ (kidsR w++F) (u::G) lv L Z4 hF.opened hG V4 D4 (by omega) (by rw[q1];omega) (by rw[zah];omega)
     rw[q1]at L5
     have u5:=V5.up
     have n5:lv5≠.undef:=by rintro rfl;exact absurd V5.pass (by decide)
     have s5:=V5.pass
     simp only[rg]at c5
     obtain⟨r,H',h1,rfl,h2⟩:=zat (args:=[J5 k 0 0,lv,rg a (lsize (w::F)),rg b (lsize (u::G))]) (H:=H) (Q:=fun r H'=>r=lv5/\H'=H5) look_Q103 rfl rfl (by
      dsimp only[i_Q103,c_Q103]
      simp(disch:=omega) [-Int.natCast_add,rg,hup,hps,hki,c1,hp,c2,c3,hcost,x1,c4,hdi,c5,u5,s5,zaa])
     subst h2
     exact⟨_,p1,p2,o5,M5,_,h1,Z5,V5,D5,by omega⟩
    ·rw[if_neg hd]
     have hdi:((fd (kidsR w++F) (u::G):Nat):Int)+1≠(fd (w::F) (u::G):Nat):=by omega
     obtain⟨H5,p1,p2,o5,M5,lv5,c5,Z5,V5,D5,L5⟩:=ih H4 k f1 f2 o3 M4 _ _ (w::F) (kidsR u++G) lv L Z4 hF hG.opened V4 D4 (by omega) (by rw[q2];omega) hL
     rw[q2]at L5
     have u5:=V5.up
     have n5:lv5≠.undef:=by rintro rfl;exact absurd V5.pass (by decide)
     have s5:=V5.pass
     simp only[rg]at c5
     obtain⟨r,H',h1,rfl,h2⟩:=zat (args:=[J5 k 0 0,lv,rg a (lsize (w::F)),rg b (lsize (u::G))]) (H:=H) (Q:=fun r H'=>r=lv5/\H'=H5) look_Q103 rfl rfl (by
      dsimp only[i_Q103,c_Q103]
      simp(disch:=omega) [-Int.natCast_add,rg,hup,hps,hki,c1,hp,c2,c3,hcost,x1,x2,c4,c5,u5,s5,zaa])
     subst h2
     exact⟨_,p1,p2,o5,M5,_,h1,Z5,V5,D5,by omega⟩
theorem zaeo (s t:Tree) (hs:Fine s) (ht:Fine t):∀n,ZMap s t n
 |0=>fun _ _ _ _ _ _ _ _ _ _ _ _ _ _ _ _ _ h=>absurd h (C5 _)
 |n+1=>zawj s t hs ht n (zaeo s t hs ht n)
end
theorem zaqi (s t:Tree) (hs:Fine s) (ht:Fine t) (H:J2):∃H',CW tr.look F_Q102 [tagg s,tagg t] H=some (J5 H.length 0 0,H')/\ZAt H' H.length none none s t []:=by
 have a1:=fun H=>zcx s hs H
 have a2:=fun H=>zcx t ht H
 have a3:=fun H=>zoa s hs H
 have a4:=fun H=>zoa t ht H
 have a5:=fun H=>zox s hs.1 H
 have a6:=fun H=>zox t ht.1 H
 have g1:(H++[IBlk.cells [.p (rval s), .p (rval t), .p (nval (postT s 0)), .p (nval (postT t 0)), .p .nilslice, .p .nilslice, .p .nilslice, .p .nilslice] 8 0 false])[H.length]? = some (.cells [.p (rval s), .p (rval t), .p (nval (postT s 0)), .p (nval (postT t 0)), .p .nilslice, .p .nilslice, .p .nilslice, .p .nilslice] 8 0 false):=zaz
 generalize hH1:H++[IBlk.cells [.p (rval s), .p (rval t), .p (nval (postT s 0)), .p (nval (postT t 0)), .p .nilslice, .p .nilslice, .p .nilslice, .p .nilslice] 8 0 false]=H1 at g1
 have hl1:=(Aa.1 g1).1
 have b0:loadVal ⟨[],H1⟩ none (J5 H.length 0 0)=some (.p (rval s)):=zae g1 rfl
 have b2:loadVal ⟨[],H1⟩ none (J5 H.length 0 2)=some (.p (nval (postT s 0))):=zae g1 rfl
 have w1:writeCells ⟨[],H1⟩ (J5 H.length 0 4) [.p (nval (firsts s))]=some ⟨[],H1.set H.length (.cells [.p (rval s), .p (rval t), .p (nval (postT s 0)), .p (nval (postT t 0)), .p (nval (firsts s)), .p .nilslice, .p .nilslice, .p .nilslice] 8 0 false)⟩:=by rw[zan g1 (by simp)];rfl
 have g2:(H1.set H.length (.cells [.p (rval s), .p (rval t), .p (nval (postT s 0)), .p (nval (postT t 0)), .p (nval (firsts s)), .p .nilslice, .p .nilslice, .p .nilslice] 8 0 false))[H.length]? = some (.cells [.p (rval s), .p (rval t), .p (nval (postT s 0)), .p (nval (postT t 0)), .p (nval (firsts s)), .p .nilslice, .p .nilslice, .p .nilslice] 8 0 false):=zaq hl1
 generalize hH2:H1.set H.length (.cells [.p (rval s), .p (rval t), .p (nval (postT s 0)), .p (nval (postT t 0)), .p (nval (firsts s)), .p .nilslice, .p .nilslice, .p .nilslice] 8 0 false)=H2 at g2 w1
 have hl2:=(Aa.1 g2).1
 have c1:loadVal ⟨[],H2⟩ none (J5 H.length 0 1)=some (.p (rval t)):=zae g2 rfl
 have c3:loadVal ⟨[],H2⟩ none (J5 H.length 0 3)=some (.p (nval (postT t 0))):=zae g2 rfl
 have w2:writeCells ⟨[],H2⟩ (J5 H.length 0 5) [.p (nval (firsts t))]=some ⟨[],H2.set H.length (.cells [.p (rval s), .p (rval t), .p (nval (postT s 0)), .p (nval (postT t 0)), .p (nval (firsts s)), .p (nval (firsts t)), .p .nilslice, .p .nilslice] 8 0 false)⟩:=by rw[zan g2 (by simp)];rfl
 have g3:(H2.set H.length (.cells [.p (rval s), .p (rval t), .p (nval (postT s 0)), .p (nval (postT t 0)), .p (nval (firsts s)), .p (nval (firsts t)), .p .nilslice, .p .nilslice] 8 0 false))[H.length]? = some (.cells [.p (rval s), .p (rval t), .p (nval (postT s 0)), .p (nval (postT t 0)), .p (nval (firsts s)), .p (nval (firsts t)), .p .nilslice, .p .nilslice] 8 0 false):=zaq hl2
 obtain⟨r,H',h1,rfl,h2⟩:=zat (args:=[tagg s,tagg t]) (H:=H) (Q:=fun r H'=>r = J5 H.length 0 0/\H'[H.length]? = some (.cells [.p (rval s), .p (rval t), .p (nval (postT s 0)), .p (nval (postT t 0)), .p (nval (firsts s)), .p (nval (firsts t)), .p .nilslice, .p .nilslice] 8 0 false)) look_Q102 rfl rfl (by
  dsimp only[i_Q102,c_Q102]
  simp(disch:=omega) [zad,a1,a2,a3,a4,hH1,b0,b2,a5,w1,c1,c3,a6,w2])
 exact⟨H',h1,⟨_,_,h2,VS.nil,VS.nil,by simp,by simp,by simp⟩,by simp⟩
theorem PL.first {bx:List (Nat×IBlk)} {H:J2} {k ver j:Nat} {L:List PP} {p:PP} (h:PL H k ver L) (hj:L[j]? = some p):loadVal ⟨bx,H⟩ none (J5 k ver (j*2))=some (J4 p.1):=by
 refine HS.field h ?_
 have h1:=pc_at hj
 have h2:=congrArg (fun x=>x[0]?) h1
 simp only[Bg,AX]at h2
 rw[if_pos (by omega),Bi]at h2
 exact h2
theorem zaln (k ver i:Nat) (L0:List PP) (hi:i<L0.length) (hs:L0.length<1000000) (H0:J2) (h0:PL H0 k ver L0) {zv:IVal} (hz:up zv = .v zv) {b7 b8:KB} (Q:J0)
 (h1:∀H',PL H' k ver (ins i L0)->Keep (fun x=>x=k) H0 H'->Q .normal [(6, .v zv),(7, .box 7 0),(8, .box 8 0),(9, .v (.slice k ver 0 L0.length)),(10, .int .i64 i)] ⟨[(8,some b8),(7,some b7)],H'⟩) :
 wpLoop (CW tr.look) 77 m_Q77_0 l_Q77_0 (blkK 2 b_Q77_2 Q) [(6, .v zv),(7, .box 7 0),(8, .box 8 0),(9, .v (.slice k ver 0 L0.length)),(10, .int .i64 i),(11, .int .i64 i)] ⟨[(8,some b8),(7,some b7)],H0⟩:=by
 refine zab (α:=Nat×List PP×J2) (fun a=>[(6, .v zv),(7, .box 7 0),(8, .box 8 0),(9, .v (.slice k ver 0 L0.length)),(10, .int .i64 i),(11, .int .i64 a.1)]) (fun a=>⟨[(8,some b8),(7,some b7)],a.2.2⟩)
  (fun a=>a.1<L0.length/\a.2.1.length=L0.length/\PL a.2.2 k ver a.2.1/\Keep (fun x=>x=k) H0 a.2.2/\ins a.1 a.2.1=ins i L0) (fun a=>a.1) ?_ (i,L0,H0) ⟨hi,rfl,h0,Keep.refl,rfl⟩
 rintro⟨j,L,H⟩ ⟨hj,hl,hP,hK,he⟩ R hR
 dsimp only at hj hl hP hK he hR ⊢
 dsimp only[l_Q77_0]
 cases j with
 |zero =>
  rw[ins]at he
  subst he
  simp(disch:=omega) []
  exact h1 H hP hK
 |succ j =>
  obtain⟨x,hx⟩:∃x,L[j+1]? = some x:=⟨_,Ac (by omega)⟩
  obtain⟨y,hy⟩:∃y,L[j]? = some y:=⟨_,Ac (by omega)⟩
  obtain⟨p1,p2⟩:=hP.load (bx:=[]) hx
  obtain⟨q1,q2⟩:=hP.load (bx:=[]) hy
  have p3:=hP.first (bx:=[]) hx
  have q3:=hP.first (bx:=[]) hy
  rw[hl]at p1 q1
  have e1:((j+1:Nat):Int)-1=(j:Int):=by omega
  have g1:(0:Int)<((j+1:Nat):Int):=by omega
  rw[ins,hx,hy]at he
  dsimp only at he
  simp only[pc]at p2 q2
  by_cases hc:x.1<y.1
  ·rw[if_pos hc]at he
   have hci:(x.1:Int)<(y.1:Int):=by omega
   obtain⟨b1,w1,hP1⟩:=hP.store (bx:=[]) y (show j+1<L.length by omega)
   obtain⟨b2,w2,hP2⟩:=hP1.store (bx:=[]) x (show j<(L.set (j+1) y).length by rw[AC];omega)
   simp only[pc]at w1 w2
   simp(disch:=omega) [-Int.natCast_add,p1,p2,p3,q1,q2,q3,e1,zaa,w1,w2]
   rw[CD]at hP2
   refine hR (j,(L.set (j+1) y).set j x,H.set k b2) ⟨by dsimp only;omega,by simp[hl],hP2,hK.trans (Keep.set (S:=fun x=>x=k) (.inl rfl)),he⟩ (by dsimp only;omega)
  ·rw[if_neg hc]at he
   subst he
   have hci:¬(x.1:Int)<(y.1:Int):=by omega
   simp(disch:=omega) [-Int.natCast_add,p1,p3,q1,q3,e1,zaa]
   exact h1 H hP hK
theorem zaha (k ver:Nat) (L0:List PP) (hs:L0.length<1000000) (H0:J2) (h0:PL H0 k ver L0) {zv:IVal} (hz:up zv = .v zv) {b7 b8:KB} (Q:J0)
 (h1:∀H',PL H' k ver (sorted L0)->Keep (fun x=>x=k) H0 H'->Q .normal [(6, .v zv),(7, .box 7 0),(8, .box 8 0),(9, .v (.slice k ver 0 L0.length))] ⟨[(8,some b8),(7,some b7)],H'⟩) :
 wpLoop (CW tr.look) 77 m_Q77_1 l_Q77_1 (blkK 0 b_Q77_0 Q) [(6, .v zv),(7, .box 7 0),(8, .box 8 0),(9, .v (.slice k ver 0 L0.length)),(10, .int .i64 1)] ⟨[(8,some b8),(7,some b7)],H0⟩:=by
 refine zab (α:=Nat×J2) (fun a=>[(6, .v zv),(7, .box 7 0),(8, .box 8 0),(9, .v (.slice k ver 0 L0.length)),(10, .int .i64 ((a.1+1:Nat)))]) (fun a=>⟨[(8,some b8),(7,some b7)],a.2⟩)
  (fun a=>a.1<=L0.length-1/\PL a.2 k ver (sortN 1 a.1 L0)/\Keep (fun x=>x=k) H0 a.2) (fun a=>L0.length-1-a.1) ?_ (0,H0) ⟨by omega,h0,Keep.refl⟩
 rintro⟨j,H⟩ ⟨hj,hP,hK⟩ R hR
 dsimp only at hj hP hK hR ⊢
 dsimp only[l_Q77_1]
 by_cases hc:j+1<L0.length
 ·have hlen:(sortN 1 j L0).length=L0.length:=zry j 1 L0
  have g1:((j+1:Nat):Int)<(L0.length:Int):=by omega
  simp(disch:=omega) [-Int.natCast_add]
  rw[<- hlen]
  refine zaln k ver (j+1) (sortN 1 j L0) (by omega) (by omega) H hP hz _ ?_
  intro H' h2 h3
  rw[hlen]
  have e2:((j+1:Nat):Int)+1=((j+1+1:Nat):Int):=by omega
  simp(disch:=omega) [-Int.natCast_add,zaa,e2]
  refine hR (j+1,H') ⟨by dsimp only;omega,?_,hK.trans h3⟩ (by dsimp only;omega)
  dsimp only
  rw[zagv,BK 1 j]
  exact h2
 ·have g1:¬((j+1:Nat):Int)<(L0.length:Int):=by omega
  simp(disch:=omega) [-Int.natCast_add]
  obtain rfl:j=L0.length-1:=by omega
  exact h1 H hP hK
def refMapping (s t:Tree):List PP:=sorted (rp (postT s 0) (postT t 0) 0 0 [s] [t])
theorem zahb (s t:Tree) (hs:Fine s) (ht:Fine t) (h8:s.size<=8/\t.size<=8):∃pv,PV pv (refMapping s t)/\∀H,CW tr.look F_Q77 [tagg s,tagg t] H=some (.tup [J4 (fd [s] [t]:Nat), .p pv],H):=by
 obtain⟨H1,a1,Z1⟩:=zaqi s t hs ht []
 simp only[BT]at a1 Z1
 obtain⟨f0,f1,f2,f3,f4,f5⟩:=Z1.fields
 have hp16:3 ^ (lsize [s]+lsize [t])<=43046721:=by
  rw[zds,zds]
  exact Bo (Cg (by omega) (show s.size+t.size<=16 by omega)) (by decide)
 obtain⟨H2,o1,o2,o3,M2,lv,c2,Z2,V2,D2,L2⟩:=zaeo s t hs ht _ H1 0 none none none [] 0 0 [s] [t] (.p .nilslice) [] Z1 (Rep.root s) (Rep.root t) VS.nil ⟨by simp,by simp⟩ (Ai _) (by simp only[BT];omega) (by simp only[BT];rw[zds];omega)
 rw[AN]at V2
 have hrl:(rp (postT s 0) (postT t 0) 0 0 [s] [t]).length<=s.size:=by
  rw[(zacj _ _ _ _ _ _).length_eq]
  have:=zyg (postT s 0) (postT t 0) 0 0 [s] [t]
  rw[zds]at this;exact this
 have hup:=V2.up
 have hps:=V2.pass
 have hne:lv≠.undef:=by rintro rfl;exact absurd hps (by decide)
 have hle:=V2.len
 have e1:lsize [s]=s.size:=zds s
 have e2:lsize [t]=t.size:=zds t
 have r1:rg 0 (lsize [s]) = .agg [J4 0, J4 s.size]:=by rw[e1,rg];simp
 have r2:rg 0 (lsize [t]) = .agg [J4 0, J4 t.size]:=by rw[e2,rg];simp
 rw[r1,r2]at c2
 simp only[BT]at L2
 cases o3 with
 |none =>
  obtain⟨rfl,hz,_⟩:=V2
  have hrz:rp (postT s 0) (postT t 0) 0 0 [s] [t]=[]:=Av.1 hz
  obtain⟨H3,p1,p2,M3,c3,Z3,G3,L3⟩:=zfy s t hs ht _ H2 0 o1 o2 M2 0 0 [s] [t] Z2 (Rep.root s) (Rep.root t) (Ai _) (by omega)
  rw[r1,r2]at c3
  refine⟨.nilslice, .inl ⟨rfl,by rw[refMapping,hrz];rfl⟩,fun H=>?_⟩
  refine zaj look_Q77 rfl (by simp) rfl ?_
  dsimp only[i_Q77,c_Q77]
  simp(disch:=omega) [zad,a1,f2,f3,zal,c2]
  refine zbp ?_
  dsimp only[l_Q77_1]
  simp(disch:=omega) [c3]
 |some k3 =>
  have V2':=V2
  rw[znz]at V2'
  obtain⟨ver,cs,op,rfl,hk,hn,hx⟩:=V2
  have hPL:PL H2 k3 ver (rp (postT s 0) (postT t 0) 0 0 [s] [t]):=V2'
  refine⟨.slice 2 (refMapping s t).length (prcells (refMapping s t)), .inr rfl,fun H=>?_⟩
  refine zaj look_Q77 rfl (by simp) rfl ?_
  dsimp only[i_Q77,c_Q77]
  simp(disch:=omega) [zad,a1,f2,f3,zal,c2]
  refine zaha k3 ver _ (by omega) H2 hPL rfl _ ?_
  intro H' hP hK
  have hK':Keep (fun x=>some k3=some x) H2 H':=hK.mono fun i _ e=>by rw[e]
  have Z2':=Z2.later hK' D2
  obtain⟨H3,p1,p2,M3,c3,Z3,G3,L3⟩:=zfy s t hs ht _ H' 0 o1 o2 M2 0 0 [s] [t] Z2' (Rep.root s) (Rep.root t) (Ai _) (by omega)
  rw[r1,r2]at c3
  have hVS:VS H' (some k3) 2 (rp (postT s 0) (postT t 0) 0 0 [s] [t]).length (.slice k3 ver 0 (rp (postT s 0) (postT t 0) 0 0 [s] [t]).length) (pcells (prcells (refMapping s t))):=by
   unfold PL at hP
   rw[zrz]at hP
   rw[znz]
   exact hP
  obtain⟨V3,_⟩:=G3.slice hVS D2
  have hfz:=zcz V3
  have hlen:(refMapping s t).length=(rp (postT s 0) (postT t 0) 0 0 [s] [t]).length:=zrz _
  simp(disch:=omega) [c3,hfz,hlen]
theorem zvx {s t:Tree} {L:List PP} (h:L.Pairwise (Fit s t)):(sorted L).Pairwise (fun p q=>p.1<q.1):=by
 have hp:=sorted_perm L
 have ha:=zagw L
 have hf:(sorted L).Pairwise (Fit s t):=(hp.pairwise_iff (fun h=>h.symm)).2 h
 refine(ha.and hf).imp fun {p q} ⟨h1,h2⟩=>?_
 rcases h2 with h2|h2<;>omega
theorem zke (t:Tree):kidsR t.norm=(kidsR t).map Tree.norm:=by
 rw[kidsR,zct,kidsR,List.map_reverse]
theorem zzp (t u:Tree):cost t.norm u.norm=cost t u:=by
 obtain⟨a1,a2,a3⟩:=zbl t
 obtain⟨b1,b2,b3⟩:=zbl u
 simp[cost,kin,a1,a2,a3,b1,b2,b3,zcf,zbe]
theorem zvy (F G:List Tree):fd (F.map Tree.norm) (G.map Tree.norm)=fd F G:=by
 have key:∀(n:Nat) (F G:List Tree),lsize F+lsize G<n->fd (F.map Tree.norm) (G.map Tree.norm)=fd F G:=by
  intro n
  induction n with
  |zero=>intro F G h;omega
  |succ n ih =>
   intro F G h
   cases F with
   |nil=>rw[BG,zbz,zbz,zfn]
   |cons t F =>
    cases G with
    |nil=>rw[BG,zcs,zcs,zfn]
    |cons u G =>
     have h1:=zai t
     have h2:=zai u
     simp only[lsize]at h
     have i1:=ih (kidsR t) (kidsR u) (by omega)
     have i2:=ih F G (by omega)
     have i3:=ih (kidsR t++F) (u::G) (by simp only[lsize,zah];omega)
     have i4:=ih (t::F) (kidsR u++G) (by simp only[lsize,zah];omega)
     simp only[Aq,Ay]at i3 i4 ⊢
     rw[zgm,zgm,zke,zke,i1,i2,i3,i4,zzp]
 exact key _ F G (Ai _)
theorem zawk (A B:List Nat) (a b:Nat) (F G:List Tree):pr A B a b (F.map Tree.norm) (G.map Tree.norm)=pr A B a b F G:=by
 have key:∀(n:Nat) (a b:Nat) (F G:List Tree),lsize F+lsize G<n->pr A B a b (F.map Tree.norm) (G.map Tree.norm)=pr A B a b F G:=by
  intro n
  induction n with
  |zero=>intro a b F G h;omega
  |succ n ih =>
   intro a b F G h
   cases F with
   |nil=>rw[BG,ztm,ztm]
   |cons t F =>
    cases G with
    |nil=>rw[BG,zno,zno]
    |cons u G =>
     have h1:=zai t
     have h2:=zai u
     simp only[lsize]at h
     have i1:=ih (a+lsize F) (b+lsize G) (kidsR t) (kidsR u) (by omega)
     have i2:=ih a b F G (by omega)
     have i3:=ih a b (kidsR t++F) (u::G) (by simp only[lsize,zah];omega)
     have i4:=ih a b (t::F) (kidsR u++G) (by simp only[lsize,zah];omega)
     have f0:=zvy (t::F) (u::G)
     have f1:=zvy (kidsR t) (kidsR u)
     have f2:=zvy F G
     have f3:=zvy (kidsR t++F) (u::G)
     simp only[Aq,Ay]at i3 i4 f0 f3 ⊢
     rw[znp,znp,zke,zke,f0,f1,f2,f3,zzp,zfn,zfn,zap,zap,i1,i2,i3,i4]
 exact key _ a b F G (Ai _)
theorem zob (t:Tree):∀i,postT t.norm i=postT t i:=by
 have key:∀(n:Nat) (t:Tree),t.size<n->∀i,postT t.norm i=postT t i:=by
  intro n
  induction n with
  |zero=>intro t h;omega
  |succ n ih =>
   intro t h i
   have ht:=zag t
   have hl:∀(l:List Tree),lsize l<n->∀i,postL (l.map Tree.norm) i=postL l i:=by
    intro l
    induction l with
    |nil=>intro _ i;rfl
    |cons u l ih2 =>
     intro hl i
     simp only[lsize]at hl
     simp only[Aq,postL,ih u (by omega),ih2 (by omega),zap]
   rw[zgi,zgi,zct,hl _ (by omega)]
 exact key _ t (Ai _)
theorem zzq (s t:Tree):mapping s.norm t.norm=mapping s t:=by
 unfold mapping
 rw[zob,zob]
 have:=zawk (postT s 0) (postT t 0) 0 0 [s] [t]
 simp only[Aq,BG]at this
 rw[this]
theorem zaep (t:Tree) (hs:t.size<=60) (i:Nat) (hi:i<t.size) (H:J2):CW tr.look F_Q78 [.p (rval t), J4 i] H=some (.p (islice (kidsOf t i)),H):=by
 rw[zrt hi]
 unfold kidN
 obtain⟨v,rest,_,_,_,_,_,_,hv,hsv,ixi⟩:=zji hi
 rw[hsv]
 have hts:=zag v.t
 have hend:=zbc hi
 rw[hsv]at hend
 obtain⟨F,hF⟩:∃F:Nat->Nat,F=fun j=>i+1+lsize ((klist v.t.kids).take j):=⟨_,rfl⟩
 rw[<- hF]
 have hFj:∀j,F j=i+1+lsize ((klist v.t.kids).take j):=fun j=>by rw[hF]
 have main:CW tr.look F_Q78 [.p (rval t), J4 i] []=some (.p (islice ((List.range (klist v.t.kids).length).map F)),[]):=by
  refine zaj look_Q78 rfl (by simp) rfl ?_
  dsimp only[i_Q78,c_Q78]
  simp(disch:=omega) [zaa]
  rw[show((i:Int)+1)=((F 0:Nat):Int)by rw[hFj 0];simp[lsize]]
  have hK:(klist v.t.kids).length<=lsize (klist v.t.kids):=by
   have:∀l:List Tree,l.length<=lsize l:=by
    intro l
    induction l with
    |nil=>simp
    |cons x l ih=>have:=zac x;simp only[lsize,AA];omega
   exact this _
  refine zab (α:=Nat×Option Nat×IVal×J2) (fun s=>[(0, .v (.p (rval t))),(1, .int .i64 i),(5, .v s.2.2.1),(6, .int .i64 (F s.1))]) (fun s=>⟨[],s.2.2.2⟩)
   (fun s=>s.1<=(klist v.t.kids).length/\VS s.2.2.2 s.2.1 1 s.1 s.2.2.1 (pcells (idl ((List.range s.1).map F)))/\(s.2.1=none\/0<s.1)) (fun s=>(klist v.t.kids).length-s.1) ?_ (0,none, .p .nilslice,[]) ⟨AU _,⟨rfl,rfl,rfl⟩, .inl rfl⟩
  rintro⟨j,o,lv,K⟩ ⟨hj,hV,ho⟩ R hR
  dsimp only at hj hV ho hR ⊢
  dsimp only[l_Q78_0]
  have hup:=hV.up
  have hps:=hV.pass
  have hne:lv≠.undef:=by rintro rfl;exact absurd hps (by decide)
  have hFe:=hFj j
  by_cases hjl:j<(klist v.t.kids).length
  ·have h1:=zbg hjl
   have hF1:=hFj (j+1)
   have hle2:lsize ((klist v.t.kids).take (j+1))<=lsize (klist v.t.kids):=by
    have h1:=zah ((klist v.t.kids).take (j+1)) ((klist v.t.kids).drop (j+1))
    rw[BE]at h1;omega
   have one:=zac (klist v.t.kids)[j]
   obtain⟨w,hw,hwt,hwp,_⟩:=zrb hv hjl
   rw[<- hFe]at hw
   obtain⟨id,hid⟩:∃id,F j=id:=⟨_,rfl⟩
   rw[hid]at hw hFe
   have hidl:id<t.size:=by omega
   obtain⟨w2,rest2,_,_,_,_,_,_,hw2,_,ixw⟩:=zji hidl
   have:w2=w:=by rw[hw]at hw2;injection hw2 with hw2;exact hw2.symm
   subst this
   obtain⟨lv2,K2,o2,a1,a2,a3,a4,a5,⟨k2,a6⟩⟩:=hV.append1 (ys:=[J4 id]) rfl (by omega)
   have hwsz:w2.t.size=(klist v.t.kids)[j].size:=by rw[hwt]
   have hlt:(id:Int)<(i:Int)+(v.t.size:Int):=by omega
   obtain⟨u1,rfl⟩:∃u1,lv2 = .slice k2 u1 0 (j+1):=by
    have a2':=a2
    rw[a6]at a2'
    obtain⟨ver',cs',op',e,_⟩:=a2'
    exact⟨ver',e⟩
   have hcell:pcells (idl ((List.range (j+1)).map F))=pcells (idl ((List.range j).map F))++[J4 id]:=by rw[Cs,Ay];simp[idl,pcells,hid]
   rw[hid]
   simp(disch:=omega) [ixi,ixw,a1,zaa]
   have hn:=hR (j+1,o2, .slice k2 u1 0 (j+1),K2) ⟨by dsimp only;omega,by rw[hcell];exact a2, .inr (by simp)⟩ (by dsimp only;omega)
   have hidn:(F (j+1):Int)=(id:Int)+(w2.t.size:Int):=by rw[hwt];omega
   dsimp only at hn
   rw[hidn]at hn
   exact hn
  ·obtain rfl:j=(klist v.t.kids).length:=by omega
   rw[AT]at hFe
   obtain⟨id,hid⟩:∃id,F (klist v.t.kids).length=id:=⟨_,rfl⟩
   rw[hid]at hFe ⊢
   have hlt:¬(id:Int)<(i:Int)+(v.t.size:Int):=by omega
   simp(disch:=omega) [ixi,zaa]
   have hfz:=zcz hV
   cases o with
   |none =>
    obtain⟨rfl,h2,_⟩:=hV
    have h2':(klist v.t.kids).length=0:=h2
    rw[h2']
    exact⟨rfl,rfl⟩
   |some k =>
    have hne0:¬((List.range (klist v.t.kids).length).map F)=[]:=by
     have hpos:0<(klist v.t.kids).length:=ho.elim (fun h=>by cases h) fun h=>h
     intro e
     have h9:=congrArg List.length e
     rw[A4,List.length_range,BT]at h9
     omega
    simp only at hfz
    obtain⟨ver,cs,op,rfl,_⟩:=hV
    unfold islice
    rw[if_neg hne0]
    refine⟨rfl,?_⟩
    simp only[freezeRes,freezeOne,hfz]
    simp[idl]
 exact zns look_Q78 rfl rfl main
def pI (o:Option Nat):Int:=match o with|some j=>(j:Int)|none => -1
theorem zawl {n:Nat} {L:J1} (hn:(L.map (·.1)).Nodup) {i:Nat} (hi:i<n):(mapA n L).getD i (-1)=pI (toN L i):=by
 rcases zjy L hn i hi with⟨j,h1,h2⟩|⟨h1,h2⟩
 ·rw[Aj,h2,(zef hn).2 h1];rfl
 ·rw[Aj,h2,zka.2 h1];rfl
theorem zawm {n:Nat} {L:J1} (hn:(L.map (·.2)).Nodup) {j:Nat} (hj:j<n):0<=(mapB n L).getD j (-1)↔(byN L j).isNone=false:=by
 rcases zpk L hn j hj with⟨i,h1,h2⟩|⟨h1,h2⟩
 ·rw[Aj,h2]
  have:byN L j≠none:=fun h=>zmv.1 h (AF.2 ⟨_,h1,rfl⟩)
  cases h:byN L j with
  |none=>exact absurd h this
  |some x=>simp
 ·rw[Aj,h2,zmv.2 h1];simp
structure WM (a b:Tree) (L:J1) (kw k0 ka kb:Nat) (H:J2):Prop where
 blk:H[kw]? = some (.cells [.p (rval a), .p (rval b), J5 k0 0 0] 3 0 false)
 m:MOK k0 ka kb (mapA a.size L) (mapB b.size L) H
 d1:kw≠k0
 d2:kw≠ka
 d3:kw≠kb
section
variable {a b:Tree} {L:J1} {kw k0 ka kb:Nat} {H:J2}
theorem WM.lx (h:WM a b L kw k0 ka kb H):loadVal ⟨[],H⟩ none (J5 kw 0 0)=some (.p (rval a)):=zae h.blk rfl
theorem WM.ly (h:WM a b L kw k0 ka kb H):loadVal ⟨[],H⟩ none (J5 kw 0 1)=some (.p (rval b)):=zae h.blk rfl
theorem WM.lm (h:WM a b L kw k0 ka kb H):loadVal ⟨[],H⟩ none (J5 kw 0 2)=some (J5 k0 0 0):=zae h.blk rfl
theorem WM.ga (h:WM a b L kw k0 ka kb H):∃av,loadVal ⟨[],H⟩ none (J5 k0 0 0)=some av/\up av = .v av/\∀i,i<a.size->(L.map (·.1)).Nodup->∃ver,idxS 1 av (J4 i)=some (J5 ka ver i)/\loadVal ⟨[],H⟩ none (J5 ka ver i)=some (J4 (pI (toN L i))):=by
 obtain⟨av,bv,m1,m2,m3,m4,m5,m6⟩:=h.m
 have l0:loadVal ⟨[],H⟩ none (J5 k0 0 0)=some av:=zae m1 rfl
 refine⟨av,l0,?_,fun i hi hn=>?_⟩
 ·obtain⟨ver,cs,op,rfl,_⟩:=m2;rfl
 ·obtain⟨u1,_,vr,g1,g2⟩:=m2.getI (j:=i) (by rw[zff];exact hi)
  rw[zawl hn hi]at g2
  exact⟨vr,g1,g2⟩
theorem WM.gb (h:WM a b L kw k0 ka kb H):∃bv,loadVal ⟨[],H⟩ none (J5 k0 0 1)=some bv/\up bv = .v bv/\∀j,j<b.size->(L.map (·.2)).Nodup->∃ver x,idxS 1 bv (J4 j)=some (J5 kb ver j)/\loadVal ⟨[],H⟩ none (J5 kb ver j)=some (J4 x)/\(0<=x↔(byN L j).isNone=false):=by
 obtain⟨av,bv,m1,m2,m3,m4,m5,m6⟩:=h.m
 have l0:loadVal ⟨[],H⟩ none (J5 k0 0 1)=some bv:=zae m1 rfl
 refine⟨bv,l0,?_,fun j hj hn=>?_⟩
 ·obtain⟨ver,cs,op,rfl,_⟩:=m3;rfl
 ·obtain⟨u1,_,vr,g1,g2⟩:=m3.getI (j:=j) (by rw[zhr];exact hj)
  exact⟨vr,_,g1,g2,zawm hn hj⟩
theorem WM.add (h:WM a b L kw k0 ka kb H) {i j:Nat} (hi:i<a.size) (hj:j<b.size):∃H',CW tr.look F_Q38 [J5 k0 0 0, J4 i, J4 j] H=some (.tup [],H')/\WM a b (L++[(i,j)]) kw k0 ka kb H':=by
 obtain⟨H',e1,e2,e3,e4⟩:=zash h.m i j (by rw[zff];exact hi) (by rw[zhr];exact hj)
 rw[<- zvl (p:=(i,j)),<-zvm (p:=(i,j))]at e2
 exact⟨H',e1,by rw[e4 _ h.d2 h.d3];exact h.blk,e2,h.d1,h.d2,h.d3⟩
end
theorem zack (k1 k2:Int) (n1 n2 x1 x2:Bytes) (a1 z1 a2 z2:PVal) (H:J2):CW tr.look F_Q42 [.agg [J4 k1, .p (.str n1), .p (.str x1), .p a1, .p z1], .agg [J4 k2, .p (.str n2), .p (.str x2), .p a2, .p z2]] H=some (.p (.bool (decide (k1=k2)&&decide (n1=n2))),H):=by
 refine zaj look_Q42 rfl (by simp[plainArg,cellsPlain]) rfl ?_
 dsimp only[i_Q42,c_Q42]
 by_cases h:k1=k2
 ·simp(disch:=omega) [h]
 ·simp(disch:=omega) [h]
theorem zahc {a b:Tree} {L:J1} {kw k0 ka kb:Nat} {H:J2} (h:WM a b L kw k0 ka kb H) (hP:PI a b L) (sa:a.size<=60) (sb:b.size<=60) (i q:Nat) (hi:i<a.size) (hq:q<b.size) :
 CW tr.look F_Q100 [J5 kw 0 0, J4 i, J4 q] H=some (J4 (comN b L q i ((subT a i).size-1)),H):=by
 obtain⟨v,rest,_,_,_,_,_,_,hv,hsv,ixi⟩:=zji hi
 obtain⟨w,restw,_,_,_,_,_,_,hw,hsw,ixq⟩:=zji hq
 have lx:=h.lx
 have ly:=h.ly
 have lm:=h.lm
 obtain⟨av,la,ua,hA⟩:=h.ga
 have hend:=zbc hi
 have hendq:=zbc hq
 rw[hsv]at hend
 rw[hsw]at hendq
 have hs1:=zac v.t
 rw[hsv]
 obtain⟨r,H',e1,rfl,rfl⟩:=zat (args:=[J5 kw 0 0, J4 i, J4 q]) (H:=H) (Q:=fun r H'=>r = J4 (comN b L q i (v.t.size-1))/\H'=H) look_Q100 rfl rfl (by
  dsimp only[i_Q100,c_Q100]
  simp(disch:=omega) [zaa]
  refine zab (α:=Nat) (fun k=>[(0, .v (J5 kw 0 0)),(1, .int .i64 i),(2, .int .i64 q),(7, .int .i64 (comN b L q i (k-(i+1)))),(8, .int .i64 k)]) (fun _=>⟨[],H⟩)
   (fun k=>i+1<=k/\k<=i+v.t.size) (fun k=>i+v.t.size-k) ?_ (i+1) ⟨Am _,by omega⟩ |> fun hh=>by simpa[comN]using hh
  rintro k ⟨h1,h2⟩ R hR
  dsimp only[l_Q100_0]
  by_cases hk:k<i+v.t.size
  ·have hk':(k:Int)<(i:Int)+(v.t.size:Int):=by omega
   obtain⟨vr,g1,g2⟩:=hA k (by omega) hP.nx
   have hsucc:comN b L q i (k+1-(i+1))=comN b L q i (k-(i+1))+if hitB b L q k=true then 1 else 0:=by
    rw[show k+1-(i+1)=(k-(i+1))+1 by omega,zzi,show i+1+(k-(i+1))=k by omega]
   have hcl:=znw b L q i (k-(i+1))
   have hn:=hR (k+1) ⟨by omega,by omega⟩ (by omega)
   rw[hsucc]at hn
   cases ht:toN L k with
   |none =>
    rw[ht]at g2
    have g2':loadVal ⟨[],H⟩ none (J5 ka vr k)=some (J4 (-1)):=g2
    have hh:hitB b L q k=false:=by unfold hitB;rw[ht]
    rw[hh]at hn
    simp(disch:=omega) [lx,ly,lm,la,ua,g1,g2',ixi,ixq,zaa]
    exact hn
   |some j =>
    rw[ht]at g2
    have g2':loadVal ⟨[],H⟩ none (J5 ka vr k)=some (J4 j):=g2
    have hh:hitB b L q k=decide (q<j/\j<q+w.t.size):=by unfold hitB;rw[ht,hsw]
    by_cases c1:q<j
    ·by_cases c2:j<q+w.t.size
     ·rw[hh,decide_eq_true ⟨c1,c2⟩]at hn
      have c2':(j:Int)<(q:Int)+(w.t.size:Int):=by omega
      simp(disch:=omega) [lx,ly,lm,la,ua,g1,g2',ixi,ixq,zaa]
      exact hn
     ·rw[hh,decide_eq_false (by omega)]at hn
      have c2':¬(j:Int)<(q:Int)+(w.t.size:Int):=by omega
      simp(disch:=omega) [lx,ly,lm,la,ua,g1,g2',ixi,ixq,zaa]
      exact hn
    ·rw[hh,decide_eq_false (by omega)]at hn
     simp(disch:=omega) [lx,ly,lm,la,ua,g1,g2',ixi,ixq,zaa]
     exact hn
  ·obtain rfl:k=i+v.t.size:=by omega
   simp(disch:=omega) [lx,ixi,zaa]
   rw[show i+v.t.size-(i+1)=v.t.size-1 by omega])
 exact e1
theorem zvz (s t:Tree):refMapping s t=mapping s t:=by
 have h2:=(zvp s t).1
 have hp:=zacj (postT s 0) (postT t 0) 0 0 [s] [t]
 have h5:(rp (postT s 0) (postT t 0) 0 0 [s] [t]).Pairwise (Fit s t):=(hp.pairwise_iff (fun h=>h.symm)).2 h2
 refine zel ?_ ((sorted_perm _).trans hp) ((zvx h5).imp fun h=>Da h)
 refine BX.2 (h2.imp fun {p q} h=>?_)
 rcases h with h|h<;>omega
theorem zasm {t:Tree} {j:Nat} (hj:j<t.size):∃v rest a1 a2 a3 n1 x1 y1 d1 d2 d3 d4 d5,t.vis[j]? = some v/\subT t j=v.t/\d1=PVal.int .i64 v.t.kind/\d2=PVal.str v.t.name/\d3=PVal.str v.t.text/\d4=aval v.t.attrs/\d5=kval v.t.kids/\idxS 15 (.p (rval t)) (J4 j)=some (.p (.ptr (.int .i64 v.parent :: .int .i64 v.t.size :: .int .i64 a1 :: .int .i64 a2 :: .int .i64 a3 :: .int .i64 v.t.kind :: .str v.t.name :: .str n1::x1::y1::d1::d2::d3::d4::d5::rest))):=by
 obtain⟨v,hv,_,hs,_⟩:=zca hj
 exact⟨v,_,_,_,_,_,_,_,_,_,_,_,_,hv,hs,rfl,rfl,rfl,rfl,rfl,zdd hv⟩
def bcnt (a b:Tree) (L:J1) (i:Nat) (o:Option Nat):Nat:=match o with|some m=>comN b L m i ((subT a i).size-1)|none=>0
theorem zaqj {a b:Tree} {L:J1} {kw k0 ka kb:Nat} {H:J2} (h:WM a b L kw k0 ka kb H) (hP:PI a b L) (sa:a.size<=60) (sb:b.size<=60) (i:Nat) (hi:i<a.size) (hti:toN L i=none) :
 CW tr.look F_Q75 [J5 kw 0 0, J4 i] H=some (.tup [J4 (pI (bfold a b L i b.size)), J4 (bcnt a b L i (bfold a b L i b.size))],H):=by
 obtain⟨v,rest,_,_,_,_,_,_,hv,hsv,ixi⟩:=zji hi
 have lx:=h.lx
 have ly:=h.ly
 have lm:=h.lm
 obtain⟨bv,lb,ub,hB⟩:=h.gb
 have hend:=zbc hi
 rw[hsv]at hend
 have hs1:=zac v.t
 obtain⟨r,H',e1,rfl,rfl⟩:=zat (args:=[J5 kw 0 0, J4 i]) (H:=H) (Q:=fun r H'=>r = .tup [J4 (pI (bfold a b L i b.size)), J4 (bcnt a b L i (bfold a b L i b.size))]/\H'=H) look_Q75 rfl rfl (by
  dsimp only[i_Q75,c_Q75]
  simp(disch:=omega) []
  refine zab (α:=Nat) (fun k=>[(0, .v (J5 kw 0 0)),(1, .int .i64 i),(6, .int .i64 (pI (bfold a b L i k))),(7, .int .i64 (bcnt a b L i (bfold a b L i k))),(8, .int .i64 k)]) (fun _=>⟨[],H⟩)
   (fun k=>k<=b.size) (fun k=>b.size-k) ?_ 0 (AU _)
  rintro k hk R hR
  dsimp only[l_Q75_0]
  by_cases hkl:k<b.size
  ·have hlt:(k:Int)<(b.size:Int):=by omega
   obtain⟨w,restw,_,_,_,_,_,_,hw,hsw,ixk⟩:=zji hkl
   obtain⟨vr,x,g1,g2,g3⟩:=hB k hkl hP.nz
   have hn:=hR (k+1) (by omega) (by omega)
   rw[znx]at hn
   have hst:bstep a b L i (bfold a b L i k) k=if comN b L k i (v.t.size-1)=0\/frE L i k=false\/¬kinT v.t w.t then bfold a b L i k else match bfold a b L i k with|none=>some k|some m=>if 0<dice (comN b L k i (v.t.size-1)) (sumN a b i k) (comN b L m i (v.t.size-1)) (sumN a b i m)then some k else some m:=by unfold bstep;rw[hsv,hsw];rfl
   have hfr:frE L i k=(byN L k).isNone:=by unfold frE;rw[hti];rfl
   have hskip:(comN b L k i (v.t.size-1)=0\/frE L i k=false\/¬kinT v.t w.t)->bstep a b L i (bfold a b L i k) k=bfold a b L i k:=fun hc=>by rw[hst,if_pos hc]
   by_cases hx:0<=x
   ·have hf:frE L i k=false:=by rw[hfr];exact g3.1 hx
    rw[hskip (.inr (.inl hf))]at hn
    simp(disch:=omega) [lx,ly,lm,lb,ub,g1,g2,zaa]
    exact hn
   ·have hf:frE L i k=true:=by
     rw[hfr]
     cases hh:(byN L k).isNone with
     |true=>rfl
     |false=>exact absurd (g3.2 hh) hx
    have kin:=fun y1 y2 z1 z2 u1 u2=>zack v.t.kind w.t.kind v.t.name w.t.name y1 y2 z1 z2 u1 u2 H
    by_cases hkin:kinT v.t w.t
    ·obtain⟨hk1,hk2⟩:=hkin
     have hkin:kinT v.t w.t:=⟨hk1,hk2⟩
     have hdec:(decide (v.t.kind=w.t.kind)&&decide (v.t.name=w.t.name))=true:=by simp[hk1,hk2]
     rw[hdec]at kin
     have hcom:=zahc h hP sa sb i k hi hkl
     rw[hsv]at hcom
     have hcl:=znw b L k i (v.t.size-1)
     by_cases hc0:comN b L k i (v.t.size-1)=0
     ·rw[hskip (.inl hc0)]at hn
      rw[hc0]at hcom
      have hcom':CW tr.look F_Q100 [J5 kw 0 0, J4 i, J4 k] H=some (J4 0,H):=hcom
      simp(disch:=omega) [lx,ly,lm,lb,ub,g1,g2,ixi,ixk,kin,zej,hcom',zaa]
      exact hn
     ·have hpos:0<comN b L k i (v.t.size-1):=by omega
      have hst2:=hst
      rw[if_neg (by rintro(h|h|h); · exact hc0 h
                    ·rw[hf]at h;cases h
                    ·exact h hkin)]at hst2
      cases hbf:bfold a b L i k with
      |none =>
       rw[hbf]at hst2 hn
       rw[hst2]at hn
       have hb1:bcnt a b L i (some k)=comN b L k i (v.t.size-1):=by unfold bcnt;rw[hsv]
       dsimp only at hn
       rw[hb1]at hn
       simp(disch:=omega) [lx,ly,lm,lb,ub,g1,g2,ixi,ixk,kin,zej,hcom,zaa,pI]
       exact hn
      |some m =>
       rw[hbf]at hst2 hn
       dsimp only at hst2
       have hm:=(zjh hbf).1
       obtain⟨wm,restm,_,_,_,_,_,_,hwm,hswm,ixm⟩:=zji (t:=b) (j:=m) (by omega)
       have hsk:((sumN a b i k:Nat):Int)=(v.t.size:Int)+(w.t.size:Int)-2:=by unfold sumN;rw[hsv,hsw];have:=zac w.t;omega
       have hsm:((sumN a b i m:Nat):Int)=(v.t.size:Int)+(wm.t.size:Int)-2:=by unfold sumN;rw[hsv,hswm];have:=zac wm.t;omega
       have hb1:bcnt a b L i (some k)=comN b L k i (v.t.size-1):=by unfold bcnt;rw[hsv]
       have hb2:bcnt a b L i (some m)=comN b L m i (v.t.size-1):=by unfold bcnt;rw[hsv]
       have ek:=zbc hkl
       have em:=zbc (t:=b) (i:=m) (by omega)
       rw[hsw]at ek
       rw[hswm]at em
       have hcm:=znw b L m i (v.t.size-1)
       have hdd:=zaqc (comN b L k i (v.t.size-1)) (sumN a b i k) (comN b L m i (v.t.size-1)) (sumN a b i m) (by omega) (by omega) (by omega) (by omega) H
       rw[hsk,hsm]at hdd
       have hm0:¬(m:Int)<0:=by omega
       have hpos':(0:Int)<((comN b L k i (v.t.size-1):Nat):Int):=by omega
       rw[hb2]
       by_cases hdp:0<dice (comN b L k i (v.t.size-1)) (sumN a b i k) (comN b L m i (v.t.size-1)) (sumN a b i m)
       ·rw[if_pos hdp]at hst2
        rw[hst2,hb1]at hn
        simp(disch:=omega) [lx,ly,lm,lb,ub,g1,g2,ixi,ixk,ixm,kin,zej,hcom,zaa,pI,hm0,hdd,hpos']
        exact hn
       ·rw[if_neg hdp]at hst2
        rw[hst2,hb2]at hn
        simp(disch:=omega) [lx,ly,lm,lb,ub,g1,g2,ixi,ixk,ixm,kin,zej,hcom,zaa,pI,hm0,hdd,hpos']
        exact hn
    ·rw[hskip (.inr (.inr hkin))]at hn
     have hdec:(decide (v.t.kind=w.t.kind)&&decide (v.t.name=w.t.name))=false:=by
      cases hh:(decide (v.t.kind=w.t.kind)&&decide (v.t.name=w.t.name))with
      |false=>rfl
      |true=>simp at hh;exact absurd hh hkin
     rw[hdec]at kin
     simp(disch:=omega) [lx,ly,lm,lb,ub,g1,g2,ixi,ixk,kin,zej,zaa]
     exact hn
  ·obtain rfl:k=b.size:=by omega
   simp(disch:=omega) [ly])
 exact e1
theorem zacl {L:J1} {i k:Nat} (hti:toN L i=none):frE L i k=(byN L k).isNone:=by unfold frE;rw[hti];rfl
theorem zaqk {a b:Tree} {kw k0 ka kb:Nat} (sa:a.size<=60) (sb:b.size<=60) (i j:Nat) (hi:i<a.size) (hj:j<b.size) {P:J1} {pv:PVal} (hpv:PV pv P) (hpm:∀p∈P,p.1<(subT a i).size/\p.2<(subT b j).size/\kinT (subT (subT a i) p.1) (subT (subT b j) p.2)) (hpl:P.length<=60) {L:J1} {H:J2} (h:WM a b L kw k0 ka kb H) (hP:PI a b L) (Q:J0)
 (hQ:∀K,WM a b (P.foldl (sstep i j) L) kw k0 ka kb K->PI a b (P.foldl (sstep i j) L)->Q .normal [] ⟨[],K⟩) :
 wpLoop (CW tr.look) 159 m_Q37_0 l_Q37_0 (blkK 0 b_Q37_0 Q) [(0, .v (J5 kw 0 0)),(1, .int .i64 i),(4, .int .i64 j),(7, .v (.p pv)),(8, .int .i64 0)] ⟨[],H⟩:=by
 have hup:=hpv.up
 have hln:=hpv.len
 have ea:=zbc hi
 have eb:=zbc hj
 refine zab (α:=Nat×J2) (fun s=>[(0, .v (J5 kw 0 0)),(1, .int .i64 i),(4, .int .i64 j),(7, .v (.p pv)),(8, .int .i64 s.1)]) (fun s=>⟨[],s.2⟩)
  (fun s=>s.1<=P.length/\WM a b ((P.take s.1).foldl (sstep i j) L) kw k0 ka kb s.2/\PI a b ((P.take s.1).foldl (sstep i j) L)) (fun s=>P.length-s.1) ?_ (0,H) ⟨AU _,h,hP⟩
 rintro⟨k,K⟩ ⟨hk,hM,hI⟩ R hR
 dsimp only at hk hM hI hR ⊢
 dsimp only[l_Q37_0]
 by_cases hkl:k<P.length
 ·have hlt:(k:Int)<(P.length:Int):=by omega
  obtain⟨p,hp⟩:∃p,P[k]? = some p:=⟨_,Ac hkl⟩
  have ix:=hpv.idx hp
  have htk:(P.take (k+1)).foldl (sstep i j) L=sstep i j ((P.take k).foldl (sstep i j) L) p:=by rw[AE,hp,BY];rfl
  generalize (P.take k).foldl (sstep i j) L=LX at *
  obtain⟨g1,g2,g3⟩:=hpm p (Ao hp)
  have hia:i+p.1<a.size:=by omega
  have hjb:j+p.2<b.size:=by omega
  have lm:=hM.lm
  obtain⟨av,la,ua,hA⟩:=hM.ga
  obtain⟨bv,lb,ub,hB⟩:=hM.gb
  obtain⟨va,a1,a2⟩:=hA (i+p.1) hia hI.nx
  obtain⟨vb,x,b1,b2,b3⟩:=hB (j+p.2) hjb hI.nz
  rw[B3]at a1 b1
  cases ht:toN LX (i+p.1)with
  |some q =>
   rw[ht]at a2
   have a2':loadVal ⟨[],K⟩ none (J5 ka va (i+p.1))=some (J4 q):=a2
   have hq:¬(q:Int)<0:=by omega
   have htk2:sstep i j LX p=LX:=by unfold sstep frE;rw[ht];rfl
   have hn:=hR (k+1,K) ⟨by dsimp only;omega,by dsimp only;rw[htk,htk2];exact hM,by dsimp only;rw[htk,htk2];exact hI⟩ (by dsimp only;omega)
   simp(disch:=omega) [ix,hln,lm,la,ua,a1,a2',hq,zaa]
   exact hn
  |none =>
   rw[ht]at a2
   have a2':loadVal ⟨[],K⟩ none (J5 ka va (i+p.1))=some (J4 (-1)):=a2
   have hfr:=zacl (k:=j+p.2) ht
   by_cases hx:0<=x
   ·have hx':¬x<0:=by omega
    have htk2:sstep i j LX p=LX:=by unfold sstep;rw[hfr,b3.1 hx];rfl
    have hn:=hR (k+1,K) ⟨by dsimp only;omega,by dsimp only;rw[htk,htk2];exact hM,by dsimp only;rw[htk,htk2];exact hI⟩ (by dsimp only;omega)
    simp(disch:=omega) [ix,hln,lm,la,lb,ua,ub,a1,a2',b1,b2,hx',zaa]
    exact hn
   ·have hx':x<0:=by omega
    have hf:frE LX (i+p.1) (j+p.2)=true:=by
     rw[hfr]
     cases hh:(byN LX (j+p.2)).isNone with
     |true=>rfl
     |false=>exact absurd (b3.2 hh) hx
    obtain⟨K',q1,q2⟩:=hM.add hia hjb
    simp only[B3]at q1
    have htk2:sstep i j LX p=LX++[(i+p.1,j+p.2)]:=by unfold sstep;rw[hf];rfl
    have hn:=hR (k+1,K') ⟨by dsimp only;omega,by dsimp only;rw[htk,htk2];exact q2,by dsimp only;rw[htk,htk2];exact hI.add hia hjb hf (by rw[sub_sub hi g1,sub_sub hj g2];exact g3)⟩ (by dsimp only;omega)
    simp(disch:=omega) [ix,hln,lm,la,lb,ua,ub,a1,a2',b1,b2,hx',q1,zaa]
    exact hn
 ·obtain rfl:k=P.length:=by omega
  rw[AT]at hM hI
  simp(disch:=omega) [hln]
  exact hQ K hM hI
theorem zbck {a b:Tree} (fa:Fine a) (fb:Fine b) {L:J1} {kw k0 ka kb:Nat} {H:J2} (h:WM a b L kw k0 ka kb H) (hP:PI a b L) (sa:a.size<=60) (sb:b.size<=60) (i:Nat) (hi:i<a.size) :
 ∃H',CW tr.look F_Q37 [J5 kw 0 0, J4 i] H=some (.tup [],H')/\WM a b (upN a b L i) kw k0 ka kb H'/\PI a b (upN a b L i):=by
 have lx:=h.lx
 have ly:=h.ly
 have lm:=h.lm
 obtain⟨av,la,ua,hA⟩:=h.ga
 obtain⟨va,a1,a2⟩:=hA i hi hP.nx
 suffices hh:∃r H',CW tr.look F_Q37 [J5 kw 0 0, J4 i] H=some (r,H')/\r = .tup []/\WM a b (upN a b L i) kw k0 ka kb H'/\PI a b (upN a b L i)by
  obtain⟨r,H',h1,rfl,h2⟩:=hh
  exact⟨H',h1,h2⟩
 refine zat look_Q37 rfl rfl ?_
 dsimp only[i_Q37,c_Q37]
 cases ht:toN L i with
 |some j =>
  rw[ht]at a2
  have a2':loadVal ⟨[],H⟩ none (J5 ka va i)=some (J4 j):=a2
  have hu:upN a b L i=L:=by unfold upN;rw[ht]
  rw[hu]
  simp(disch:=omega) [lm,la,ua,a1,a2']
  exact⟨h,hP⟩
 |none =>
  rw[ht]at a2
  have a2':loadVal ⟨[],H⟩ none (J5 ka va i)=some (J4 (-1)):=a2
  have hbest:=zaqj h hP sa sb i hi ht
  have hu:upN a b L i=match bestN a b L i with|none=>L|some j=>smallN a b (L++[(i,j)]) i j:=by unfold upN;rw[ht];rfl
  obtain⟨v,rest,_,_,_,_,_,_,d1,d2,d3,d4,d5,hv,hsv,e1,e2,e3,e4,e5,ixi⟩:=zasm hi
  cases hbf:bfold a b L i b.size with
  |none =>
   rw[hbf]at hbest
   have hbest':CW tr.look F_Q75 [J5 kw 0 0, J4 i] H=some (.tup [J4 (-1), J4 0],H):=hbest
   have hu2:upN a b L i=L:=by rw[hu,bestN,hbf]
   rw[hu2]
   simp(disch:=omega) [lm,la,ua,a1,a2',hbest']
   exact⟨h,hP⟩
  |some j =>
   rw[hbf]at hbest
   have hbest':CW tr.look F_Q75 [J5 kw 0 0, J4 i] H=some (.tup [J4 j, J4 (comN b L j i ((subT a i).size-1))],H):=hbest
   have hj:=(zjh hbf).1
   obtain⟨w,restw,_,_,_,_,_,_,f1,f2,f3,f4,f5,hw,hsw,g1,g2,g3,g4,g5,ixj⟩:=zasm hj
   have one1:=zac v.t
   have one2:=zac w.t
   have ei:=zbc hi
   have ej:=zbc hj
   have ei':=ei
   have ej':=ej
   rw[hsv]at ei'
   rw[hsw]at ej'
   have hcl:=znw b L j i ((subT a i).size-1)
   have hs:((sumN a b i j:Nat):Int)=(v.t.size:Int)+(w.t.size:Int)-2:=by unfold sumN;rw[hsv,hsw];omega
   have hhf:=zaqd (comN b L j i ((subT a i).size-1)) (sumN a b i j) (by omega) (by unfold sumN;omega) H
   rw[hs]at hhf
   have hj0:¬(j:Int)<0:=by omega
   cases hb:half (comN b L j i ((subT a i).size-1)) (sumN a b i j)with
   |false =>
    rw[hb]at hhf
    have hu2:upN a b L i=L:=by rw[hu,bestN,hbf];dsimp only;rw[hb];rfl
    rw[hu2]
    simp(disch:=omega) [lx,ly,lm,la,ua,a1,a2',hbest',ixi,ixj,hj0,hhf,zaa]
    exact⟨h,hP⟩
   |true =>
    rw[hb]at hhf
    have hbn:bestN a b L i=some j:=by rw[bestN,hbf];dsimp only;rw[hb];rfl
    obtain⟨_,hf,hkin⟩:=zzj hbn
    have hu2:upN a b L i=smallN a b (L++[(i,j)]) i j:=by rw[hu,hbn]
    have hI2:=hP.add hi hj hf hkin
    obtain⟨K,q1,q2⟩:=h.add hi hj
    have lx2:=q2.lx
    have ly2:=q2.ly
    rw[hu2]
    by_cases h8:v.t.size<=8
    ·by_cases h9:w.t.size<=8
     ·have hmp:mapN (subT a i) (subT b j)=mapping (subT a i) (subT b j):=by unfold mapN;rw[if_pos ⟨by rw[hsv];exact h8,by rw[hsw];exact h9⟩]
      obtain⟨pv,hpv,hwh⟩:=zahb (subT a i) (subT b j) (fa.sub hi) (fb.sub hj) ⟨by rw[hsv];exact h8,by rw[hsw];exact h9⟩
      rw[zvz]at hpv
      have hwh:=hwh K
      have ta:tagg (subT a i) = .agg [.p d1, .p d2, .p d3, .p d4, .p d5]:=by rw[hsv,e1,e2,e3,e4,e5,zad]
      have tb:tagg (subT b j) = .agg [.p f1, .p f2, .p f3, .p f4, .p f5]:=by rw[hsw,g1,g2,g3,g4,g5,zad]
      rw[ta,tb]at hwh
      have hup:=hpv.up
      unfold smallN
      rw[hmp]
      simp(disch:=omega) [lx,ly,lm,la,ua,a1,a2',hbest',ixi,ixj,hj0,hhf,zaa,q1,lx2,ly2,hwh,zej,hup]
      refine zaqk sa sb i j hi hj hpv (fun p hp=>?_) (Bo (zli _ _) (by omega)) q2 hI2 _ fun K' z1 z2=>?_
      ·obtain⟨y1,y2,y3⟩:=zrq hp
       rw[zadz _ y1,zadz _ y2]at y3
       exact⟨y1,y2,zaea y3⟩
      ·simp(disch:=omega) []
       exact⟨z1,z2⟩
     ·have hmp:mapN (subT a i) (subT b j)=[]:=by unfold mapN;rw[if_neg (by rw[hsw];omega)]
      have h9':(8:Int)<(w.t.size:Int):=by omega
      unfold smallN
      rw[hmp]
      simp(disch:=omega) [lx,ly,lm,la,ua,a1,a2',hbest',ixi,ixj,hj0,hhf,zaa,q1,lx2,ly2]
      exact⟨q2,hI2⟩
    ·have hmp:mapN (subT a i) (subT b j)=[]:=by unfold mapN;rw[if_neg (by rw[hsv];omega)]
     have h8':(8:Int)<(v.t.size:Int):=by omega
     unfold smallN
     rw[hmp]
     simp(disch:=omega) [lx,ly,lm,la,ua,a1,a2',hbest',ixi,ixj,hj0,hhf,zaa,q1,lx2,ly2]
     exact⟨q2,hI2⟩
end Go.Ideal
