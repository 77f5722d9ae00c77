import Derived.Test.YtjlnpggbekondaaGreatW3
namespace Go.Ideal
open Go
mutual
def postS:Tree->List Tree
 | .mk k n x a ks=>postSK ks++[.mk k n x a ks]
def postSK:Option (List Tree)->List Tree
 |none=>[]
 |some l=>postSL l
def postSL:List Tree->List Tree
 | []=>[]
 |t::l=>postS t++postSL l
end
theorem zdz (t:Tree):postS t=postSL (klist t.kids)++[t]:=by
 obtain⟨k,n,x,a,ks⟩:=t
 cases ks<;>simp[postS,postSK,postSL,klist,Tree.kids]
theorem zcf:∀a b:List Tree,postSL (a++b)=postSL a++postSL b
 | [],b=>rfl
 |t::a,b=>by simp only[Aq,postSL,zcf a b,As]
theorem zacc (t:Tree):∀(id:Nat) (p:Int) (d pl:Nat),(postT t id).map (fun i=>((visT t id p d pl)[i-id]?).map (·.t))=(postS t).map some/\∀i∈postT t id,id<=i/\i<id+t.size:=by
 have key:∀(n:Nat) (t:Tree),t.size<n->∀(id:Nat) (p:Int) (d pl:Nat),(postT t id).map (fun i=>((visT t id p d pl)[i-id]?).map (·.t))=(postS t).map some/\∀i∈postT t id,id<=i/\i<id+t.size:=by
  intro n
  induction n with
  |zero=>intro t h;omega
  |succ n ih =>
   intro t h id p d pl
   have ht:=zag t
   have hl:∀(l:List Tree),lsize l<n->∀(id p d pl:Nat),(postL l id).map (fun i=>((visL l id p d pl)[i-id]?).map (·.t))=(postSL l).map some/\∀i∈postL l id,id<=i/\i<id+lsize l:=by
    intro l
    induction l with
    |nil=>intro _ id p d pl;simp[postL,postSL]
    |cons u l ih2 =>
     intro hl id p d pl
     simp only[lsize]at hl
     obtain⟨a1,a2⟩:=ih u (by omega) id p d pl
     obtain⟨b1,b2⟩:=ih2 (by omega) (id+u.size) p d (pl+1)
     constructor
     ·simp only[postL,postSL,visL,AC,<-a1,<-b1]
      congr 1
      ·refine CF fun i hi=>?_
       have:=a2 i hi
       rw[Ab (by rw[zaf];omega)]
      ·refine CF fun i hi=>?_
       have:=b2 i hi
       rw[Ae (by rw[zaf];omega),zaf]
       congr 2;omega
     ·intro i hi
      simp only[postL,Ar]at hi
      simp only[lsize]
      rcases hi with hi|hi
      ·have:=a2 i hi;omega
      ·have:=b2 i hi;omega
   obtain⟨a1,a2⟩:=hl (klist t.kids) (by omega) (id+1) id (d+1) 0
   constructor
   ·simp only[zjn,zdz,zbm,AC,At,Cc,Bk,AO,AI,<-a1]
    congr 1
    refine CF fun i hi=>?_
    have:=a2 i hi
    rw[show i-id=(i-(id+1))+1 by omega,Az]
   ·intro i hi
    rw[zjn,Ar]at hi
    rcases hi with hi|hi
    ·have:=a2 i hi;omega
    ·simp at hi;omega
 exact key _ t (Al _)
theorem zak (t:Tree):(postS t).length=t.size:=by
 have:=congrArg List.length (zacc t 0 0 0 0).1
 simp only[A9,zal]at this
 exact this.symm
theorem zgs {t:Tree} {k i:Nat} (h:(postT t 0)[k]? = some i):∃u v,(postS t)[k]? = some u/\(visT t 0 (-1) 0 0)[i]? = some v/\v.t=u/\t.items[i]? = some (fullOf v)/\i<t.size:=by
 obtain⟨h1,h2⟩:=zacc t 0 (-1) 0 0
 have h3:=congrArg (fun l=>l[k]?) h1
 simp only[Ap,h,AI,C9]at h3
 have h4:=h2 i (Ao h)
 cases hv:(visT t 0 (-1) 0 0)[i]? with
 |none =>
  rw[CD,zaf]at hv
  omega
 |some v =>
  rw[hv]at h3
  cases hu:(postS t)[k]? with
  |none=>rw[hu]at h3;cases h3
  |some u =>
   rw[hu]at h3
   simp at h3
   exact⟨u,v,rfl,rfl,h3,by rw[Tree.items,zdy,Ap,hv];rfl,by omega⟩
theorem zss (t:Tree):∀(j:Nat) (u:Tree),(postS t)[j]? = some u->∃A B,postS t=A++(postS u++B)/\A.length+u.size=j+1:=by
 have key:∀(n:Nat) (t:Tree),t.size<n->∀(j:Nat) (u:Tree),(postS t)[j]? = some u->∃A B,postS t=A++(postS u++B)/\A.length+u.size=j+1:=by
  intro n
  induction n with
  |zero=>intro t h;omega
  |succ n ih =>
   intro t h j u hu
   have ht:=zag t
   have hl:∀(l:List Tree),lsize l<n->∀(j:Nat) (u:Tree),(postSL l)[j]? = some u->∃A B,postSL l=A++(postS u++B)/\A.length+u.size=j+1:=by
    intro l
    induction l with
    |nil=>intro _ j u h;simp[postSL]at h
    |cons w l ih2 =>
     intro hl j u h
     simp only[lsize]at hl
     simp only[postSL]at h ⊢
     by_cases hj:j<w.size
     ·rw[Ab (by rw[zak];exact hj)]at h
      obtain⟨A,B,e1,e2⟩:=ih w (by omega) j u h
      exact⟨A,B++postSL l,by rw[e1];simp,e2⟩
     ·rw[Ae (by rw[zak];omega),zak]at h
      obtain⟨A,B,e1,e2⟩:=ih2 (by omega) _ u h
      exact⟨postS w++A,B,by rw[e1];simp,by rw[Af,zak];omega⟩
   rw[zdz]at hu
   by_cases hj:j<(postSL (klist t.kids)).length
   ·rw[Ab hj]at hu
    obtain⟨A,B,e1,e2⟩:=hl _ (by omega) j u hu
    exact⟨A,B++[t],by rw[zdz,e1];simp,e2⟩
   ·rw[Ae (by omega)]at hu
    have hj2:j=(postSL (klist t.kids)).length:=by
     have:=(Aa.1 hu).1
     simp only[AN]at this;omega
    subst hj2
    rw[Bk]at hu
    injection hu with hu
    subst hu
    refine⟨[],[],by simp,?_⟩
    have:=zak t
    rw[zdz,Af,AN]at this
    simp;omega
 exact key _ t (Al _)
theorem VS.appendStore {H:J2} {o:Option Nat} {esz n:Nat} {v:IVal} {xs zs ys:J3} (h:VS H o esz n v xs) (hz:zs.length=esz) (hy:ys.length=esz) (hb:n<1000000000) :
 ∃v' H' k ver b,evalAppend ⟨[],H++[.cells zs esz 0 false]⟩ esz v (.slice H.length 0 0 1)=some (v',⟨[],H'⟩)/\Ideal.up v'=SV.v v'/\idxS esz v' (J4 n)=some (J5 k ver (n*esz)) /\
  (∀ H3:J2,H3[k]? = H'[k]? -> writeCells ⟨[],H3⟩ (J5 k ver (n*esz)) ys=some ⟨[],H3.set k b⟩)/\(∀ H3:J2,H3[k]? = some b->VS H3 (some k) esz (n+1) v' (xs++ys))/\Keep (fun x=>o=some x) H H'/\k<H'.length/\(o=some k\/H.length<=k)/\v'.cellsOf=some [v']/\H.length<H'.length:=by
 obtain⟨v',H',o',a1,a2,a3,a4,a5,k,rfl⟩:=h.append1 hz hb
 obtain⟨ver,cs,op,rfl,hkk,hnn,hxs⟩:=a2
 have hkl:=(Aa.1 hkk).1
 have hle:n*esz+esz=(n+1)*esz:=by rw[Co]
 refine⟨_,H',k,ver, .cells (splice cs (n*esz) ys) esz ver op,a1,rfl,by rw[zbe (by omega),AB],?_,?_,a3,hkl,?_,rfl,a4⟩
 ·intro H3 h3
  rw[zam (by rw[h3];exact hkk) (by omega)]
 ·intro H3 h3
  refine⟨ver,_,op,rfl,h3,?_,?_⟩
  ·simp only[splice,Af,A1,Bt];omega
  ·have hx:=VS.xlen h
   have h5:=congrArg (List.take (n*esz)) hxs
   rw[Cl,BI (by omega),List.take_left' hx]at h5
   unfold splice
   rw[h5,<-As,List.take_left' (by simp[hx,hy,hle])]
 ·rcases a5 with e|⟨k',e,hk'⟩
  ·exact .inl e.symm
  ·injection e with e;subst e;exact .inr hk'
end Go.Ideal
namespace Go.Ideal
open Go
attribute [-simp] getElem?_pos
section
variable {H:J2} {esz j n:Nat} {o o1:Option Nat} {t:Tree} {v:IVal} {xs ys:J3}
def nattr (a:Option Attrs):Option Attrs:=if alist a=[]then none else a
def Tree.nbare (t:Tree):Tree := .mk t.kind t.name t.text (nattr t.attrs) none
@[simp] theorem zaxl (t:Tree):t.nbare.kind=t.kind:=rfl
@[simp] theorem zaxm (t:Tree):t.nbare.name=t.name:=rfl
@[simp] theorem zaxn (t:Tree):t.nbare.text=t.text:=rfl
@[simp] theorem zaah (t:Tree):t.nbare.attrs=nattr t.attrs:=rfl
@[simp] theorem zaxo (t:Tree):t.nbare.kids=none:=rfl
@[simp] theorem zazy:kval none = .nilslice:=rfl
theorem zav (a:Option Attrs):alist (nattr a)=alist a:=by
 unfold nattr
 split
 ·rename_i h;rw[h];rfl
 ·rfl
def rcell (v:Vis) (s h:Nat):List PVal:=[.int .i64 v.parent, .int .i64 s, .int .i64 v.depth, .int .i64 h, .int .i64 v.place,
 .int .i64 v.t.kind, .str v.t.name, .str v.t.text,aval (nattr v.t.attrs), .nilslice, .int .i64 v.t.kind, .str v.t.name, .str v.t.text,aval v.t.attrs,kval v.t.kids]
def rfull (v:Vis):List PVal:=rcell v v.t.size v.t.height
def rcells (l:List Vis):List PVal:=l.flatMap rfull
theorem zst:∀l:List Vis,(rcells l).length=l.length*15
 | []=>rfl
 |v::l=>by
  have:=zst l
  simp only[rcells,AD,Af,Ax]at this ⊢
  rw[this];simp[rfull,rcell];omega
theorem zael (a b:List Vis):rcells (a++b)=rcells a++rcells b:=by simp[rcells]
theorem zaai {l:List Vis} {v:Vis} (h:l[j]? = some v):(rcells l).drop (j*15)=rfull v++(rcells l).drop (j*15+15):=by
 induction l generalizing j with
 |nil=>simp at h
 |cons x l ih =>
  have hx:(rfull x).length=15:=rfl
  cases j with
  |zero =>
   rw[AO]at h
   injection h with h
   subst h
   simp only[rcells,AD,CQ,BC,AB]
   rw[BK,AU (by omega),hx,AK]
   rfl
  |succ j =>
   rw[Az]at h
   have:=ih h
   simp only[rcells,AD]at this ⊢
   rw[show(j+1)*15=(rfull x).length+j*15 by rw[hx];omega,BK,AU (by omega),A2,AK,this,
    show(rfull x).length+j*15+15=(rfull x).length+(j*15+15)by omega,BK,AU (l:=rfull x) (by omega),A2,AK]
theorem zah:∀a b:List Tree,lsize (a++b)=lsize a+lsize b
 | [],b=>by simp[lsize]
 |t::a,b=>by simp only[Aq,lsize,zah a b];omega
def Tree.vis (t:Tree):List Vis:=visT t 0 (-1) 0 0
theorem zat (t:Tree):t.vis.length=t.size:=zaf t _ _ _ _
def rval (t:Tree):PVal := .slice 15 t.size (rcells t.vis)
theorem zcz {v:Vis} (h:t.vis[j]? = some v):idxS 15 (.p (rval t)) (J4 j)=some (.p (.ptr (.int .i64 v.parent :: .int .i64 v.t.size :: .int .i64 v.depth :: .int .i64 v.t.height :: .int .i64 v.place :: .int .i64 v.t.kind :: .str v.t.name :: .str v.t.text::aval (nattr v.t.attrs) :: .nilslice :: .int .i64 v.t.kind :: .str v.t.name :: .str v.t.text::aval v.t.attrs::kval v.t.kids::(rcells t.vis).drop (j*15+15)))):=by
 obtain⟨h1,h2⟩:=Aa.1 h
 rw[rval,zcp (by rw[<- zat];exact h1),zaai h]
 rfl
@[simp] theorem zamv:sliceLen (.p (rval t))=some t.size:=rfl
@[simp] theorem zbcx:up (.p (rval t)) = .v (.p (rval t)):=rfl
theorem zkx:∀(a b:List Tree) (id p d pl:Nat),visL (a++b) id p d pl=visL a id p d pl++visL b (id+lsize a) p d (pl+a.length)
 | [],b,id,p,d,pl=>by simp[visL,lsize]
 |t::a,b,id,p,d,pl=>by
  simp only[Aq,visL,lsize,Ax,zkx a b,As]
  congr 3
  ·omega
  ·omega
theorem zdc:∀(l:List Tree) (id p d pl:Nat),(visL l id p d pl).length=lsize l
 | [],_,_,_,_=>rfl
 |t::l,id,p,d,pl=>by simp only[visL,lsize,Af,zaf,zdc l]
theorem zxh {l:List Tree} (h:j<l.length) (id p d:Nat):visL (l.take (j+1)) id p d 0=visL (l.take j) id p d 0++visT l[j] (id+lsize (l.take j)) p d j:=by
 rw[AQ,Ac h,CK,zkx,A1,BI (by omega),AB]
 simp[visL]
theorem zbf {l:List Tree} (h:j<l.length):lsize (l.take (j+1))=lsize (l.take j)+l[j].size:=by
 have h1:=zxh h 0 0 0
 have h2:=congrArg List.length h1
 rw[Af,zdc,zdc,zaf]at h2
 exact h2
theorem zgt:∀ {l:List Tree} {j:Nat} (h:j<l.length),lheight (l.take (j+1))=max (lheight (l.take j)) l[j].height
 | [],j,h=>by simp at h
 |t::l,0,h=>by simp[lheight]
 |t::l,j+1,h=>by
  have:=zgt (l:=l) (j:=j) (by simpa using h)
  simp only[Cg,lheight,CV]at this ⊢
  omega
theorem zea (t:Tree):t.height<=t.size:=by
 have key:∀(n:Nat) (t:Tree),t.size<n->t.height<=t.size:=by
  intro n
  induction n with
  |zero=>intro t h;omega
  |succ n ih =>
   intro t h
   have h1:=zag t
   have h2:=zbq t
   have hl:∀l:List Tree,lsize l<n->lheight l<=lsize l:=by
    intro l
    induction l with
    |nil=>intro _;simp[lheight,lsize]
    |cons u l ih2 =>
     intro hl
     simp only[lsize]at hl
     have a1:=ih u (by omega)
     have a2:=ih2 (by omega)
     simp only[lheight,lsize];omega
   have:=hl (klist t.kids) (by omega)
   omega
 exact key _ t (Al _)
theorem VS.src {bx:List (Nat×IBlk)} (h:VS H o esz n v ys):srcCells ⟨bx,H⟩ esz v=some ys/\srcLen v=some n:=by
 cases o with
 |none=>obtain⟨rfl,rfl,rfl⟩:=h;exact⟨rfl,rfl⟩
 |some k =>
  obtain⟨ver,cs,op,rfl,hk,hn,hx⟩:=h
  have h2:((Nat.beq ver ver&&Nat.beq esz esz)&&Nat.ble (0+n*esz) cs.length)=true:=by
   rw[AF,AF,AB,A3,A3]
   exact AE hn
  refine⟨?_,rfl⟩
  simp only[srcCells,Mem.get,hk,h2,BC,hx]
theorem VS.kill {s:Nat} (h:VS H o esz n v ys):killV s v=v:=by
 cases o with
 |none=>obtain⟨rfl,rfl,rfl⟩:=h;rfl
 |some k=>obtain⟨ver,cs,op,rfl,hk,hn,hx⟩:=h;rfl
theorem VS.appendP {n1 n2:Nat} {v1 v2:IVal} (h:VS H o1 esz n1 v1 xs) (s1:srcCells ⟨[],H⟩ esz v2=some ys) (s2:srcLen v2=some n2) (hy:ys.length=n2*esz) (hb:n1+n2<1000000000) :
 ∃v' H' o',evalAppend ⟨[],H⟩ esz v1 v2=some (v',⟨[],H'⟩)/\VS H' o' esz (n1+n2) v' (xs++ys)/\Keep (fun x=>o1=some x) H H'/\(o'=o1\/∃k,o'=some k/\H.length<=k):=by
 by_cases hz:n2=0
 ·subst hz
  have hys:ys=[]:=by cases ys with|nil=>rfl|cons a l=>simp at hy
  subst hys
  rw[Bi,AH]
  cases o1 with
  |none =>
   obtain⟨rfl,rfl,rfl⟩:=h
   refine⟨_,H,none,?_,VS.nil,Keep.refl, .inl rfl⟩
   have h1:Nat.ble (0+0) maxAppend=true:=rfl
   have h3:Nat.beq 0 0=true:=rfl
   simp only[evalAppend,s1,s2,sliceLen,h1]
  |some k =>
   have hv:=h
   obtain⟨ver,cs,op,rfl,hkk,hnn,hxs⟩:=h
   refine⟨_,H,some k,?_,hv,Keep.refl, .inl rfl⟩
   have h1:Nat.ble (n1+0) maxAppend=true:=AE (by unfold maxAppend;omega)
   have h2:(Nat.beq ver ver&&Nat.beq esz esz&&Nat.ble (0+n1*esz) cs.length)=true:=by
    rw[AF,AF,AB,A3,A3]
    exact AE hnn
   have h3:Nat.beq 0 0=true:=rfl
   simp only[evalAppend,s1,s2,sliceLen,h1,Mem.get,hkk,h2]
 ·cases o1 with
  |none =>
   obtain⟨rfl,rfl,rfl⟩:=h
   refine⟨_,_,some H.length,append_nil s1 s2 (by omega) (by omega),?_,Keep.new, .inr ⟨_,rfl,Ak _⟩⟩
   refine⟨0,ys,true,by rw[AB],zaz,by rw[AB];omega,?_⟩
   rw[AB,Au (by omega)];rfl
  |some k =>
   obtain⟨ver,cs,op,rfl,hkk,hnn,hxs⟩:=h
   have hkl:=(Aa.1 hkk).1
   have happ:=zbi (bx:=[]) (ny:=n2) hkk hnn s1 s2 (by omega) (by omega)
   have hnew:=zgr (H:=H) (ver:=ver) (op:=op) (ys:=ys) (ny:=n2) (k:=k) hkl hnn hy
   rw[hxs]at hnew
   exact⟨_,_,some k,happ,hnew,Keep.set (.inl rfl), .inl rfl⟩
theorem VS.appendVS {o2:Option Nat} {n1 n2:Nat} {v1 v2:IVal} (h:VS H o1 esz n1 v1 xs) (g:VS H o2 esz n2 v2 ys) (hb:n1+n2<1000000000) :
 ∃v' H' o',evalAppend ⟨[],H⟩ esz v1 v2=some (v',⟨[],H'⟩)/\VS H' o' esz (n1+n2) v' (xs++ys)/\Keep (fun x=>o1=some x) H H'/\(o'=o1\/∃k,o'=some k/\H.length<=k):=by
 obtain⟨s1,s2⟩:=g.src (bx:=[])
 exact h.appendP s1 s2 g.xlen hb
theorem VS.field {bx:List (Nat×IBlk)} {k:Nat} (h:VS H (some k) esz n v xs) (hj:j<n) :
 ∃ver,idxS esz v (J4 j)=some (J5 k ver (j*esz))/\(∀ f x,xs[j*esz+f]? = some x->loadVal ⟨bx,H⟩ none (J5 k ver (j*esz+f))=some x) /\
  ∀f new,j*esz+f+new.length<=n*esz->∃b,writeCells ⟨bx,H⟩ (J5 k ver (j*esz+f)) new=some ⟨bx,H.set k b⟩/\VS (H.set k b) (some k) esz n v (splice xs (j*esz+f) new):=by
 obtain⟨ver,cs,op,rfl,hk,hn,hx⟩:=h
 have hH:HS H k esz n (.slice k ver 0 n) xs:=⟨ver,cs,op,rfl,hk,hn,hx⟩
 exact⟨ver,by rw[zbe hj,AB],fun f x hf=>hH.field hf,fun f new hf=>hH.store hf⟩
theorem Keep.trans' {S S':Nat->Prop} {H' H2:J2} (h:Keep S H H') (g:Keep S' H' H2) (hs:∀i,i<H.length->S' i->S i):Keep S H H2 :=
 ⟨Bo h.1 g.1,fun i hi hn=>by rw[g.2 i (A6 hi h.1) (fun e=>hn (hs i hi e)),h.2 i hi hn]⟩
structure Grow (o:Option Nat) (H:J2) (o':Option Nat) (H':J2):Prop where
 keep:Keep (fun x=>o=some x) H H'
 blk:o'=o\/∃k,o'=some k/\H.length<=k
theorem Grow.refl:Grow o H o H:=⟨Keep.refl, .inl rfl⟩
theorem Grow.trans {o2:Option Nat} {H1 H2:J2} (h:Grow o H o1 H1) (g:Grow o1 H1 o2 H2):Grow o H o2 H2:=by
 refine⟨h.keep.trans' g.keep fun i hi e=>?_,?_⟩
 ·rcases h.blk with rfl|⟨k,rfl,hk⟩
  ·exact e
  ·injection e with e;omega
 ·have:=h.keep.1
  rcases g.blk with rfl|⟨k,rfl,hk⟩
  ·exact h.blk
  ·exact .inr ⟨k,rfl,by omega⟩
theorem Grow.set {k:Nat} {H1:J2} {b:IBlk} (h:Grow o H (some k) H1):Grow o H (some k) (H1.set k b):=h.trans ⟨Keep.set (.inl rfl), .inl rfl⟩
theorem zsu {A B new:J3} {f:Nat} (hn:n=A.length+f):splice (A++B) n new=A++splice B f new:=by
 subst hn
 unfold splice
 rw[C3,Au (by omega),A2,BK,AU (l:=A) (by omega)]
 simp only[AK,As]
 congr 4
 omega
theorem zato {A B:J3} {f:Nat} (hn:n=A.length+f):(A++B)[n]? = B[f]? := by
 subst hn
 rw[Ae (by omega),A2]
theorem zdi (l m:List PVal):pcells (l++m)=pcells l++pcells m:=by simp[pcells]
theorem znf (l:List PVal):(pcells l).length=l.length:=by simp[pcells]
theorem zgu {y:IVal} {kl:List SV->Prop} (h:y.cellsOf=some [y]) (h2:up y = .v y):cellsK (.v y) n kl=(1=n/\kl [.v y]):=by
 simp only[cellsK,h,zfq,AN,ups,h2]
end
end Go.Ideal
namespace Go.Ideal
open Go
set_option maxHeartbeats 4000000
set_option maxRecDepth 20000
attribute [-simp] getElem?_pos
theorem zeb {l:List Nat} {j n:Nat} (h:l[j]? = some n):idxS 1 (.p (nval l)) (J4 j)=some (.p (.ptr (.int .i64 n::(nints l).drop (j+1)))):=by
 obtain⟨h1,h2⟩:=Aa.1 h
 have h3:(nints l).drop j = .int .i64 n::(nints l).drop (j+1):=by
  rw[Av (by simpa[nints]using h1)]
  simp[nints,h2]
 rw[nval,zcp h1,CP,h3]
@[simp] theorem zamw {l:List Nat}:sliceLen (.p (nval l))=some l.length:=rfl
@[simp] theorem zbcy {l:List Nat}:up (.p (nval l)) = .v (.p (nval l)):=rfl
def firsts (t:Tree):List Nat:=(postS t).mapIdx fun k u=>k+1-u.size
theorem zamx (t:Tree) (hs:t.size<1000000) (kb:Nat) (H0:J2) (hk0:H0[kb]? = some (.cells [.p .nilslice, .p (nval (postT t 0)), .p .nilslice] 3 0 false)) (Q:J0)
 (h1:∀H' m,m<=H'.length->SideAt H' kb m (postS t) (postT t 0) (firsts t)->Keep (fun x=>kb<=x) H0 H'->Q .normal [(4, .v (J5 kb 0 0))] ⟨[],H'⟩) :
 wpLoop (CW tr.look) 57 m_Q108_0 l_Q108_0 (blkK 0 b_Q108_0 Q) [(3, .v (.p (ival t))),(4, .v (J5 kb 0 0)),(16, .v (.p (nval (postT t 0)))),(17, .int .i64 t.size),(18, .int .i64 0)] ⟨[],H0⟩:=by
 refine zac (α:=Nat×J2) (fun a=>[(3, .v (.p (ival t))),(4, .v (J5 kb 0 0)),(16, .v (.p (nval (postT t 0)))),(17, .int .i64 t.size),(18, .int .i64 a.1)]) (fun a=>⟨[],a.2⟩)
  (fun a=>a.1<=t.size/\(∃ m,m<=a.2.length/\SideAt a.2 kb m ((postS t).take a.1) (postT t 0) ((firsts t).take a.1))/\Keep (fun x=>kb<=x) H0 a.2) (fun a=>t.size-a.1) ?_ (0,H0) ⟨by simp,⟨kb+1,(Aa.1 hk0).1,⟨.p .nilslice, .p .nilslice,none,none,hk0,VS.nil,VS.nil,by simp,by simp,by simp⟩⟩,⟨Ak _,fun _ _ _=>rfl⟩⟩
 rintro⟨j,H⟩ ⟨hj,⟨m,hm,hS⟩,hK⟩ L hL
 dsimp only at hj hS hK hL ⊢
 dsimp only[l_Q108_0]
 by_cases hc:j<t.size
 ·obtain⟨i,hi⟩:∃i,(postT t 0)[j]? = some i:=⟨_,Ac (by rw[zal];exact hc)⟩
  obtain⟨u,v,p1,p2,p3,p4,p5⟩:=zgs hi
  obtain⟨nv,fvv,o1,o2,g1,g2,g3,g4,g5,g6⟩:=hS.blk
  have hl1:((postS t).take j).length=j:=by simp[zak,hj]
  have hl2:((firsts t).take j).length=j:=by simp[firsts,zak,hj]
  rw[hl1]at g2
  rw[hl2]at g3
  have hkb:=(Aa.1 g1).1
  obtain⟨v',H',k,ver,b,a1,a2,a3,a4,a5,a6,a7,a8,a9,a10⟩:=g2.appendStore (zs:=[J4 0, .p (.str []), .p (.str []), .p .nilslice, .p .nilslice]) (ys:=[J4 (fullOf v).node.kind, .p (.str (fullOf v).node.name), .p (.str (fullOf v).node.text), .p (aval (fullOf v).node.attrs), .p .nilslice]) rfl rfl (by omega)
  have hkk:kb<k:=by
   rcases a8 with e|e
   ·exact(g5 k e).1
   ·omega
  have g1':H'[kb]? = some (.cells [nv, .p (nval (postT t 0)),fvv] 3 0 false):=by rw[a6.2 kb hkb (fun e=>by have:=g5 kb e;omega)];exact g1
  have s1:=fun b'=>a4 (H'.set kb b') (by rw[Ad (by omega)])
  have s2:=a4 H' rfl
  have gk:∀b',(H'.set k b')[kb]? = some (.cells [nv, .p (nval (postT t 0)),fvv] 3 0 false):=fun b'=>by rw[Ad (by omega)];exact g1'
  have s3:writeCells ⟨[],H'⟩ (J5 kb 0 0) [v']=some ⟨[],H'.set kb (.cells [v', .p (nval (postT t 0)),fvv] 3 0 false)⟩:=by rw[zam g1' (by simp)];rfl
  have s4:writeCells ⟨[],H'.set k b⟩ (J5 kb 0 0) [v']=some ⟨[],(H'.set k b).set kb (.cells [v', .p (nval (postT t 0)),fvv] 3 0 false)⟩:=by rw[zam (gk b) (by simp)];rfl
  have ld:loadVal ⟨[],H⟩ none (J5 kb 0 0)=some nv:=zad g1 rfl
  have hcm:(H'.set kb (.cells [v', .p (nval (postT t 0)),fvv] 3 0 false)).set k b=(H'.set k b).set kb (.cells [v', .p (nval (postT t 0)),fvv] 3 0 false):=List.set_comm _ _ (by omega)
  generalize hH1:(H'.set k b).set kb (.cells [v', .p (nval (postT t 0)),fvv] 3 0 false)=H1 at s4 hcm
  have hsl:(fullOf v).size<=j+1:=by
   obtain⟨A,B,_,e⟩:=zss t j u p1
   show v.t.size<=j+1
   rw[p3];omega
  have hln:H1.length=H'.length:=by rw[<- hH1];simp
  have k1:Keep (fun x=>x=kb\/o1=some x) H H1:=by
   refine⟨by omega,fun i hi hn=>?_⟩
   have q1:i≠kb:=fun e=>hn (.inl e)
   have q2:o1≠some i:=fun e=>hn (.inr e)
   have q3:k≠i:=by
    rcases a8 with e|e
    ·exact fun e2=>q2 (e2 ▸ e)
    ·omega
   rw[<- hH1,Ad (by omega),Ad q3]
   exact a6.2 i hi q2
  have n1:nv≠.undef:=by rintro rfl;exact absurd g2.pass (by decide)
  have w1:H1[kb]? = some (.cells [v', .p (nval (postT t 0)),fvv] 3 0 false):=by rw[<- hH1];exact zao (by rw[Ay];omega)
  have g2':VS H1 (some k) 5 (j+1) v' (pcells (((postS t).take (j+1)).flatMap nodecell)):=by
   have:pcells (((postS t).take (j+1)).flatMap nodecell)=pcells (((postS t).take j).flatMap nodecell)++pcells (nodecell u):=by
    rw[AQ,p1]
    simp[pcells,Ci]
   rw[this]
   subst p3
   exact a5 H1 (by rw[<- hH1,Ad (by omega)];exact zao a7)
  have n2:v'≠.undef:=by rintro rfl;exact absurd g2'.pass (by decide)
  have g3':VS H1 o2 1 j fvv (pcells (nints ((firsts t).take j))):=g3.keep k1 (fun x hx e=>by
   rcases e with e|e
   ·have:=g6 x hx;omega
   ·exact(g5 x e).2.2 hx)
  have ld2:loadVal ⟨[],H1⟩ none (J5 kb 0 2)=some fvv:=zad w1 rfl
  obtain⟨vv2,H2,o2',b1,b2,b3,b4,b5,k2,b6⟩:=g3'.append1 (ys:=[J4 (j+1-(fullOf v).size:Nat)]) rfl (by omega)
  have w2:H2[kb]? = some (.cells [v', .p (nval (postT t 0)),fvv] 3 0 false):=by rw[b3.2 kb (by omega) (fun e=>by have:=g6 kb e;omega)];exact w1
  have s5:writeCells ⟨[],H2⟩ (J5 kb 0 2) [vv2]=some ⟨[],H2.set kb (.cells [v', .p (nval (postT t 0)),vv2] 3 0 false)⟩:=by rw[zam w2 (by simp)];rfl
  have n3:fvv≠.undef:=by rintro rfl;exact absurd g3.pass (by decide)
  have n4:vv2≠.undef:=by rintro rfl;exact absurd b2.pass (by decide)
  have hi1:((j:Int)+1-((fullOf v).size:Nat))=((j+1-(fullOf v).size:Nat):Int):=by omega
  simp(disch:=omega) [zeb hi,ld,g2.up,g2.len,zbs p4,a1,a2,a3,s1,s2,s3,s4,hcm,zgu a9 a2,zaa,n1,n2,ld2,g3'.up,hi1,b1,b2.up,zgu b2.cells b2.up,s5]
  have hln2:((postS t).take (j+1)).length=j+1:=by rw[A1,zak];omega
  have hln3:((firsts t).take (j+1)).length=j+1:=by rw[A1,firsts,Bz,zak];omega
  have hk2:kb<k2/\k2<H2.length/\k2≠k:=by
   refine⟨?_,VS.lt (b6 ▸ b2),?_⟩
   ·rcases b5 with e|⟨k',e,e2⟩
    ·exact(g6 k2 (by rw[<- e,b6])).1
    ·rw[b6]at e;injection e with e;omega
   ·rcases b5 with e|⟨k',e,e2⟩
    ·rintro rfl
     rw[b6]at e
     rcases a8 with e3|e3
     ·exact(g5 k2 e3).2.2 e.symm
     ·have:=VS.lt (e ▸ g3);omega
    ·rw[b6]at e;injection e with e;omega
  have hfe:pcells (nints ((firsts t).take (j+1)))=pcells (nints ((firsts t).take j))++[J4 (j+1-(fullOf v).size:Nat)]:=by
   have:(firsts t)[j]? = some (j+1-(fullOf v).size):=by
    rw[firsts,C6,p1,<-p3];rfl
   rw[AQ,this]
   simp[pcells,nints]
  refine hL (j+1,H2.set kb (.cells [v', .p (nval (postT t 0)),vv2] 3 0 false)) ⟨by dsimp only;omega,⟨H2.length,by simp,⟨v',vv2,some k,o2',?_,?_,?_,by omega,?_,?_⟩⟩,?_⟩ (by dsimp only;omega)
  ·exact zao (by have:=b3.1;omega)
  ·dsimp only
   rw[hln2]
   exact(g2'.keep b3 (fun x hx e=>by
    injection hx with hx;subst hx
    rcases a8 with e3|e3
    ·exact(g5 _ e3).2.2 e
    ·have:=VS.lt (e ▸ g3);omega)).keep (Keep.set (S:=fun x=>x=kb) (.inl rfl)) (fun x hx e=>by injection hx with hx;omega)
  ·dsimp only
   rw[hln3,hfe]
   exact b2.keep (Keep.set (S:=fun x=>x=kb) (.inl rfl)) (fun x hx e=>by rw[b6]at hx;injection hx with hx;omega)
  ·intro x hx
   injection hx with hx
   refine⟨by omega,by omega,fun e=>?_⟩
   rw[b6]at e;injection e with e;omega
  ·intro x hx
   rw[b6]at hx;injection hx with hx;omega
  ·refine hK.trans (((k1.mono fun i _ e=>?_).trans (b3.mono fun i _ e=>?_)).trans (Keep.set (.inl (Ak _))))
   ·rcases e with e|e
    ·exact Nat.le_of_eq e.symm
    ·exact Dc (g5 i e).1
   ·exact Dc (g6 i e).1
 ·obtain rfl:j=t.size:=by omega
  have e1:(postS t).take t.size=postS t:=Au (by rw[zak];omega)
  have e2:(firsts t).take t.size=firsts t:=Au (by simp[firsts,zak])
  rw[e1,e2]at hS
  simp(disch:=omega) []
  exact h1 H m hm hS hK
theorem zaqd (t:Tree) (hf:Fine t) (H:J2):∃H' m,CW tr.look F_Q108 [tagg t] H=some (J5 H.length 0 0,H')/\m<=H'.length/\SideAt H' H.length m (postS t) (postT t 0) (firsts t)/\Keep (fun _=>False) H H':=by
 have hg:(H++[IBlk.cells [.p .nilslice, .p (nval (postT t 0)), .p .nilslice] 3 0 false])[H.length]? = some (.cells [.p .nilslice, .p (nval (postT t 0)), .p .nilslice] 3 0 false):=zaz
 have hld:loadVal ⟨[],H++[IBlk.cells [.p .nilslice, .p (nval (postT t 0)), .p .nilslice] 3 0 false]⟩ none (J5 H.length 0 1)=some (.p (nval (postT t 0))):=zad hg rfl
 obtain⟨r,H',h1,rfl,m,h2,h3,h4⟩:=zar (args:=[tagg t]) (H:=H) (Q:=fun r H'=>r = J5 H.length 0 0/\∃m,m<=H'.length/\SideAt H' H.length m (postS t) (postT t 0) (firsts t)/\Keep (fun _=>False) H H') look_Q108 rfl rfl (by
  dsimp only[i_Q108,c_Q108]
  simp(disch:=omega) [zae,zcq t hf,zqn t hf,zal,hld]
  refine zamx t hf.1 H.length _ hg _ ?_
  intro H' m h2 h3 h4
  simp(disch:=omega) []
  exact⟨m,h2,h3,Bo (by simp) h4.1,fun i hi _=>by rw[h4.2 i (by simp;omega) (by omega)];exact Ab hi⟩)
 exact⟨H',m,h1,h2,h3,h4⟩
structure BothAt (H:J2) (k:Nat) (s t:Tree) (es:List (IVal×IVal×Nat)) (ck:Nat):Prop where
 blk:∃ka kb km ma mb,H[k]? = some (.cells [J5 ka 0 0, J5 kb 0 0, .map km] 3 0 false)/\H[km]? = some (.map es ck)/\SideAt H ka ma (postS s) (postT s 0) (firsts s)/\SideAt H kb mb (postS t) (postT t 0) (firsts t)/\km<ka/\ma<=k/\km<kb/\mb<=k
theorem SideAt.nodes {H:J2} {k m:Nat} {N:List Tree} {ids fs:List Nat} (h:SideAt H k m N ids fs):∃v,loadVal ⟨[],H⟩ none (J5 k 0 0)=some v/\up v = .v v/\sliceLen v=some N.length/\v≠.undef:=by
 obtain⟨nv,fvv,o1,o2,h1,h2,h3⟩:=h.blk
 exact⟨nv,zad h1 rfl,h2.up,h2.len,by rintro rfl;exact absurd h2.pass (by decide)⟩
theorem zacd (s t:Tree) (hs:Fine s) (ht:Fine t) (H:J2):∃H' k,CW tr.look F_Q85 [tagg s,tagg t] H=some (.tup [J5 k 0 0,fv (someF 0 (s.size-1)),fv (someF 0 (t.size-1)), .p (.bool (decide (s.size<=8)&&decide (t.size<=8)))],H')/\BothAt H' k s t [] 0/\Keep (fun _=>False) H H':=by
 obtain⟨H1,ma,a1,a2,a3,a4⟩:=zaqd s hs (H++[.map [] 0])
 obtain⟨H2,mb,b1,b2,b3,b4⟩:=zaqd t ht H1
 have a5:=a3.keep b4 (fun x h=>h.elim)
 simp only[Af,AN]at a1 a3 a5
 have k1:Keep (fun _=>False) H H1:=Keep.new.trans a4
 have hm1:H1[H.length]? = some (.map [] 0):=by rw[a4.2 _ (by simp) (fun h=>h)];exact zaz
 have hm2:H2[H.length]? = some (.map [] 0):=by rw[b4.2 _ (Aa.1 hm1).1 (fun h=>h)];exact hm1
 have hl1:=a4.1
 have hl2:=b4.1
 simp only[Af,AN]at hl1
 generalize hHF:H2++[IBlk.cells [J5 (H.length+1) 0 0, J5 H1.length 0 0, .map H.length] 3 0 false]=HF
 have kF:Keep (fun _=>False) H2 HF:=by rw[<- hHF];exact Keep.new
 have gF:HF[H2.length]? = some (.cells [J5 (H.length+1) 0 0, J5 H1.length 0 0, .map H.length] 3 0 false):=by rw[<- hHF];exact zaz
 have gm:HF[H.length]? = some (.map [] 0):=by rw[kF.2 _ (Aa.1 hm2).1 (fun h=>h)];exact hm2
 have sF:=a5.keep kF (fun x h=>h.elim)
 have tF:=b3.keep kF (fun x h=>h.elim)
 have l0:loadVal ⟨[],HF⟩ none (J5 H2.length 0 0)=some (J5 (H.length+1) 0 0):=zad gF rfl
 have l1:loadVal ⟨[],HF⟩ none (J5 H2.length 0 1)=some (J5 H1.length 0 0):=zad gF rfl
 obtain⟨v1,c1,c2,c3,c4⟩:=sF.nodes
 obtain⟨v2,d1,d2,d3,d4⟩:=tF.nodes
 have hps:=zab s
 have hpt:=zab t
 have hs1:=hs.1
 have ht1:=ht.1
 rw[zak]at c3 d3
 have hB:BothAt HF H2.length s t [] 0:=⟨H.length+1,H1.length,H.length,ma,mb,gF,gm,sF,tF,by omega,by omega,by omega,b2⟩
 obtain⟨r,H',h1,rfl,m,h2,h3⟩:=zar (args:=[tagg s,tagg t]) (H:=H) (Q:=fun r H'=>r = .tup [J5 H2.length 0 0,fv (someF 0 (s.size-1)),fv (someF 0 (t.size-1)), .p (.bool (decide (s.size<=8)&&decide (t.size<=8)))]/\BothAt H' H2.length s t [] 0/\Keep (fun _=>False) H H') look_Q85 rfl rfl (by
  dsimp only[i_Q85,c_Q85]
  simp(disch:=omega) [zae,a1,b1,hm1,hHF,gm,l0,l1,c1,c2,c3,d1,d2,d3,zaa,zud,fv]
  have hK:Keep (fun _=>False) H HF:=(k1.trans b4).trans kF
  refine⟨fun h=>⟨?_,hB,hK⟩,fun h=>⟨?_,hB,hK⟩⟩
  ·have h8:s.size<=8:=by omega
   rw[decide_eq_true h8,A3]
   exact decide_eq_decide.2 (by omega)
  ·intro h;omega)
 exact⟨H',_,h1,m,h2,h3⟩
abbrev Quad:=Int×Int×Int×Int
def quad (q:Quad):IVal := .agg [J4 q.1, J4 q.2.1, J4 q.2.2.1, J4 q.2.2.2]
def K4:KTy:=⟨true,[.int, .int, .int, .int]⟩
theorem zahx (a b:Quad):eqVals ⟨true,[.int, .int, .int, .int]⟩ (quad a) (quad b)=some (decide (a=b)):=by
 obtain⟨a1,a2,a3,a4⟩:=a
 obtain⟨b1,b2,b3,b4⟩:=b
 by_cases h1:a1=b1<;>by_cases h2:a2=b2<;>by_cases h3:a3=b3<;>by_cases h4:a4=b4 <;>
  simp[quad,eqVals,eqCls,clsEq,h1,h2,h3,h4]
theorem zamy (a:Quad):isKey ⟨true,[.int, .int, .int, .int]⟩ (quad a)=true:=by rw[isKey,zahx]
def Memo (D:Quad->Int->Prop) (es:List (IVal×IVal×Nat)):Prop:=∀e∈es,∃q v n,e=(quad q,IVal.p (.int .i64 v),n)/\D q v
theorem zqo {D:Quad->Int->Prop} (q:Quad):∀(es:List (IVal×IVal×Nat)) (i:Nat),Memo D es->findEnt ⟨true,[.int, .int, .int, .int]⟩ (quad q) es i=some none\/∃j v,findEnt ⟨true,[.int, .int, .int, .int]⟩ (quad q) es i=some (some (j, J4 v))/\D q v
 | [],i,_=>.inl rfl
 |e::es,i,h=>by
  obtain⟨q2,v,n,rfl,hd⟩:=h e (by simp)
  have ih:=zqo q es (i+1) fun e he=>h e (by simp[he])
  simp only[findEnt,zahx]
  by_cases hq:q=q2
  ·subst hq
   exact .inr ⟨i,v,by simp,hd⟩
  ·simp only[hq,decide_false]
   exact ih
theorem zamz {D:Quad->Int->Prop} {es:List (IVal×IVal×Nat)} {q:Quad} {v:Int} {n:Nat} (h:Memo D es) (hd:D q v):Memo D (es++[(quad q, J4 v,n)]):=by
 intro e he
 rcases Ar.1 he with he|he
 ·exact h e he
 ·simp at he;exact⟨q,v,n,he,hd⟩
theorem zace {D:Quad->Int->Prop} {q:Quad} {v:Int}:∀(es:List (IVal×IVal×Nat)) (j:Nat),Memo D es->D q v->Memo D (es.modify j fun e=>(quad q, J4 v,e.2.2))
 | [],j,h,_=>by simpa using h
 |e::es,0,h,hd=>by
  intro e2 he
  simp at he
  rcases he with rfl|he
  ·exact⟨q,v,_,rfl,hd⟩
  ·exact h e2 (by simp[he])
 |e::es,j+1,h,hd=>by
  intro e2 he
  simp at he
  rcases he with rfl|he
  ·exact h e2 (by simp)
  ·exact zace es j (fun e he=>h e (by simp[he])) hd e2 he
end Go.Ideal
namespace Go.Ideal
open Go
section
variable {F:List Tree} {a:Nat} {t u:Tree}
theorem zdj:∀l:List Tree,(postSL l).length=lsize l
 | []=>rfl
 |t::l=>by rw[postSL,Af,zak,zdj l,lsize]
theorem zcw:∀a:List Tree,lsize a.reverse=lsize a
 | []=>rfl
 |t::a=>by simp only[Bd,zah,zcw a,lsize];omega
def kidsR (t:Tree):List Tree:=(klist t.kids).reverse
theorem zai (t:Tree):t.size=lsize (kidsR t)+1:=by rw[kidsR,zcw];exact zag t
def rng (a n:Nat):Int×Int:=if n=0 then(0, -1)else(a,a+n-1)
theorem zbw (a n:Nat):someF a (a+n-1)=rng a n:=by
 unfold someF rng
 by_cases h:n=0
 ·subst h;rw[if_pos (by omega),if_pos rfl]
 ·rw[if_neg (by omega),if_neg h]
def Rep (t:Tree) (a:Nat) (F:List Tree):Prop:=∃A B,postS t=A++(postSL F.reverse++B)/\A.length=a
theorem Rep.root (t:Tree):Rep t 0 [t]:=⟨[],[],by simp[postSL],rfl⟩
theorem Rep.kids (h:Rep t a (u::F)):Rep t (a+lsize F) (kidsR u):=by
 obtain⟨A,B,h1,h2⟩:=h
 refine⟨A++postSL F.reverse,u::B,?_,by rw[Af,zdj,zcw,h2]⟩
 rw[h1,kidsR,Cd,Bd,zcf,postSL,postSL,zdz]
 simp
theorem Rep.rest (h:Rep t a (u::F)):Rep t a F:=by
 obtain⟨A,B,h1,h2⟩:=h
 refine⟨A,postS u++B,?_,h2⟩
 rw[h1,Bd,zcf,postSL,postSL]
 simp
theorem Rep.opened (h:Rep t a (u::F)):Rep t a (kidsR u++F):=by
 obtain⟨A,B,h1,h2⟩:=h
 refine⟨A,u::B,?_,h2⟩
 rw[h1,kidsR,Cj,Cd,Bd,zcf,zcf,postSL,postSL,zdz]
 simp
theorem Rep.top (h:Rep t a (u::F)):(postS t)[a+lsize F+u.size-1]? = some u:=by
 obtain⟨A,B,h1,h2⟩:=h
 have hk:=zai u
 have:postS t=(A++(postSL F.reverse++postSL (klist u.kids)))++(u::B):=by
  rw[h1,Bd,zcf,postSL,postSL,zdz]
  simp
 rw[kidsR,zcw]at hk
 have hl:(A++(postSL F.reverse++postSL (klist u.kids))).length=a+lsize F+u.size-1:=by
  simp only[Af,zdj,zcw,h2];omega
 rw[this,Ae (by omega),hl,Bk]
 rfl
theorem Rep.first (h:Rep t a (u::F)):(firsts t)[a+lsize F+u.size-1]? = some (a+lsize F):=by
 have hk:=zai u
 rw[firsts,C6,h.top,AI]
 congr 1;omega
theorem Rep.le (h:Rep t a F):a+lsize F<=t.size:=by
 obtain⟨A,B,h1,h2⟩:=h
 have:=congrArg List.length h1
 simp only[Af,zak,zdj,zcw,h2]at this
 omega
theorem zkk:∀(F G:List Tree),postSL F.reverse=postSL G.reverse->F=G
 | [],[],_=>rfl
 | [],u::G,h=>by
   have:=congrArg List.length h
   have hk:=zai u
   simp only[zdj,zcw,lsize]at this;omega
 |u::F,[],h=>by
  have:=congrArg List.length h
  have hk:=zai u
  simp only[zdj,zcw,lsize]at this;omega
 |u::F,w::G,h=>by
  have e:∀(u:Tree) (F:List Tree),postSL (u::F).reverse=(postSL F.reverse++postSL (klist u.kids))++[u]:=fun u F=>by
   rw[Bd,zcf,postSL,postSL,zdz];simp
  have h0:=h
  rw[e,e]at h
  obtain⟨h1,h2⟩:=List.append_inj' h rfl
  injection h2 with h2
  subst h2
  rw[zkk F G (List.append_cancel_right h1)]
theorem Rep.same {G:List Tree} (h:Rep t a F) (g:Rep t a G) (e:lsize F=lsize G):F=G:=by
 obtain⟨A,B,h1,h2⟩:=h
 obtain⟨A',B',g1,g2⟩:=g
 rw[h1]at g1
 obtain⟨_,e2⟩:=List.append_inj g1 (by omega)
 obtain⟨e3,_⟩:=List.append_inj e2 (by simp only[zdj,zcw,e])
 exact zkk F G e3
end
def fd:List Tree->List Tree->Nat
 | [],G=>lsize G
 |t::F,[]=>lsize (t::F)
 |t::F,u::G=>min (min (fd (kidsR t) (kidsR u)+fd F G+cost t u) (fd (kidsR t++F) (u::G)+1)) (fd (t::F) (kidsR u++G)+1)
termination_by F G=>lsize F+lsize G
decreasing_by
 all_goals
  have h1:=zai t
  have h2:=zai u
  simp only[lsize,zah]
  omega
theorem fd_le (F G:List Tree):fd F G<=lsize F+lsize G:=by
 have key:∀(n:Nat) (F G:List Tree),lsize F+lsize G<n->fd F G<=lsize F+lsize G:=by
  intro n
  induction n with
  |zero=>intro F G h;omega
  |succ n ih =>
   intro F G h
   cases F with
   |nil=>rw[fd];simp only[lsize];omega
   |cons t F =>
    cases G with
    |nil=>rw[fd];simp only[lsize];omega
    |cons u G =>
     have h1:=zai t
     have h2:=zai u
     simp only[lsize]at h
     have a2:=ih (kidsR t) (kidsR u) (by omega)
     have b2:=ih F G (by omega)
     have c2:=ih (kidsR t++F) (u::G) (by simp only[lsize,zah];omega)
     have d2:=ih (t::F) (kidsR u++G) (by simp only[lsize,zah];omega)
     rw[fd]
     simp only[lsize,zah]at c2 d2 ⊢
     omega
 exact key _ F G (Al _)
theorem zxi (t u:Tree):cost t.bare u.bare=cost t u:=by
 obtain⟨k,n,x,a,ks⟩:=t
 obtain⟨k2,n2,x2,a2,ks2⟩:=u
 rfl
def Known (s t:Tree) (q:Quad) (v:Int):Prop:=∃a b F G,Rep s a F/\Rep t b G/\F≠[]/\G≠[]/\q=((rng a (lsize F)).1,(rng a (lsize F)).2,(rng b (lsize G)).1,(rng b (lsize G)).2)/\v=fd F G
theorem zmg {F:List Tree} (h:F≠[]):0<lsize F:=by
 cases F with
 |nil=>exact absurd rfl h
 |cons t F=>have:=zai t;simp only[lsize];omega
theorem Known.right {s t:Tree} {v:Int} {a b:Nat} {F G:List Tree} (hF:Rep s a F) (hG:Rep t b G) (h1:F≠[]) (h2:G≠[]) (h:Known s t ((rng a (lsize F)).1,(rng a (lsize F)).2,(rng b (lsize G)).1,(rng b (lsize G)).2) v):v=fd F G:=by
 obtain⟨a',b',F',G',g1,g2,g3,g4,g5,g6⟩:=h
 have p1:=zmg h1
 have p2:=zmg h2
 have p3:=zmg g3
 have p4:=zmg g4
 simp only[rng,if_neg (Nat.ne_of_gt p1),if_neg (Nat.ne_of_gt p2),if_neg (Nat.ne_of_gt p3),if_neg (Nat.ne_of_gt p4),Prod.mk.injEq]at g5
 obtain⟨e1,e2,e3,e4⟩:=g5
 obtain rfl:a=a':=by omega
 obtain rfl:b=b':=by omega
 rw[g6,hF.same g1 (by omega),hG.same g2 (by omega)]
end Go.Ideal
namespace Go.Ideal
open Go
set_option maxHeartbeats 4000000
set_option maxRecDepth 20000
attribute [-simp] getElem?_pos
structure Pair (H:J2) (k km:Nat) (s t:Tree):Prop where
 blk:∃ka kb ma mb es ck,H[k]? = some (.cells [J5 ka 0 0, J5 kb 0 0, .map km] 3 0 false)/\H[km]? = some (.map es ck)/\Memo (Known s t) es/\SideAt H ka ma (postS s) (postT s 0) (firsts s)/\SideAt H kb mb (postS t) (postT t 0) (firsts t)/\km<ka/\km<kb/\km<k
theorem zba {a:Nat} {u:Tree} {F:List Tree}:rng a (lsize (u::F))=((a:Int),((a+lsize F+u.size-1:Nat):Int)):=by
 have h1:=zai u
 have h2:lsize (u::F)=u.size+lsize F:=rfl
 rw[h2,rng,if_neg (by omega)]
 congr 1;omega
def ApartSays (s t:Tree) (n:Nat):Prop:=∀(H:J2) (k km a b:Nat) (F G:List Tree),Pair H k km s t->Rep s a F->Rep t b G->lsize F+lsize G<n ->
 ∃H',CW tr.look F_Q111 [J5 k 0 0,fv (rng a (lsize F)),fv (rng b (lsize G))] H=some (J4 (fd F G),H')/\Pair H' k km s t/\Keep (fun x=>x=km) H H'
theorem flat5:∀(N:List Tree) (j:Nat) (u:Tree),N[j]? = some u->((N.flatMap nodecell).drop (j*5)).take 5=nodecell u
 | [],j,u,h=>by rw[List.getElem?_nil]at h;cases h
 |x::N,0,u,h=>by
  rw[AO]at h
  injection h with h
  subst h
  simp[nodecell]
 |x::N,j+1,u,h=>by
  rw[Az]at h
  rw[<- flat5 N j u h,AD,Co]
  simp only[nodecell,Aq,AK,Bl]
theorem SideAt.node {S:Nat->Prop} {H:J2} {k m:Nat} {N:List Tree} {ids fs:List Nat} (h:SideAt H k m N ids fs) {j:Nat} {u:Tree} (hj:N[j]? = some u) (hS:∀x,S x->x<k\/m<=x):∃v q,up v = .v v/\up q = .v q/\idxS 5 v (J4 j)=some q/\v≠.undef/\q≠.undef/\∀H',Keep S H H'->loadVal ⟨[],H'⟩ none (J5 k 0 0)=some v/\loadVal ⟨[],H'⟩ (some 5) q=some (tagg u.bare):=by
 obtain⟨nv,fvv,o1,o2,h1,h2,h3,h4,h5,h6⟩:=h.blk
 have hjl:=(Aa.1 hj).1
 cases o1 with
 |none=>have:=h2.2.1;omega
 |some k2 =>
  obtain⟨ver,e1,_⟩:=HS.load (bx:=[]) h2 hjl
  refine⟨nv,_,h2.up,rfl,e1,by rintro rfl;exact absurd h2.pass (by decide),by simp,fun H' hk=>⟨?_,?_⟩⟩
  ·exact zad (by rw[hk.2 k (Aa.1 h1).1 (fun e=>by have:=hS k e;omega)];exact h1) rfl
  ·have h7:VS H' (some k2) 5 N.length nv (pcells (N.flatMap nodecell)):=h2.keep hk (fun x hx e=>by have:=h5 x hx;have:=hS x e;omega)
   obtain⟨ver2,e2,e3⟩:=HS.load (bx:=[]) h7 hjl
   rw[e1]at e2
   injection e2 with e2
   rw[e2,e3]
   have:=flat5 N j u hj
   have h8:((pcells (N.flatMap nodecell)).drop (j*5)).take 5=pcells (nodecell u):=by
    rw[<- this,pcells,pcells,List.map_take,List.map_drop]
   rw[h8]
   rfl
theorem Pair.keep {H:J2} {k km:Nat} {s t:Tree} (h:Pair H k km s t):∃ka kb ma mb,km<ka/\km<kb/\∀H',Keep (fun x=>x=km) H H'->loadVal ⟨[],H'⟩ none (J5 k 0 0)=some (J5 ka 0 0)/\loadVal ⟨[],H'⟩ none (J5 k 0 1)=some (J5 kb 0 0)/\loadVal ⟨[],H'⟩ none (J5 k 0 2)=some (.map km)/\SideAt H' ka ma (postS s) (postT s 0) (firsts s)/\SideAt H' kb mb (postS t) (postT t 0) (firsts t):=by
 obtain⟨ka,kb,ma,mb,es,ck,h1,h2,h3,h4,h5,h6,h7,h8⟩:=h.blk
 refine⟨ka,kb,ma,mb,h6,h7,fun H' hk=>?_⟩
 have g:H'[k]? = some (.cells [J5 ka 0 0, J5 kb 0 0, .map km] 3 0 false):=by rw[hk.2 k (Aa.1 h1).1 (by omega)];exact h1
 exact⟨zad g rfl,zad g rfl,zad g rfl,h4.keep hk (fun x e=>.inl (by omega)),h5.keep hk (fun x e=>.inl (by omega))⟩
theorem zsv {u:Tree}:∀l:List Tree,u∈postSL l->∃c∈l,u∈postS c
 | [],h=>by simp[postSL]at h
 |t::l,h=>by
  rw[postSL,Ar]at h
  rcases h with h|h
  ·exact⟨t,by simp,h⟩
  ·obtain⟨c,h1,h2⟩:=zsv l h
   exact⟨c,by simp[h1],h2⟩
theorem zng (t u:Tree):u∈postS t->u∈t.nodes:=by
 have key:∀(n:Nat) (t:Tree),t.size<n->u∈postS t->u∈t.nodes:=by
  intro n
  induction n with
  |zero=>intro t h;omega
  |succ n ih =>
   intro t h hu
   rw[zdz,Ar]at hu
   rcases hu with hu|hu
   ·obtain⟨c,h1,h2⟩:=zsv _ hu
    have:=zan h1
    have:=zag t
    exact zxa h1 (ih c (by omega) h2)
   ·simp at hu;subst hu;exact zas _
 exact key _ t (Al _)
theorem zsw (s t:Tree) (hs:Fine s) (ht:Fine t) (n:Nat) (ih:ApartSays s t n) (H:J2) (k km a b:Nat) (w u:Tree) (F G:List Tree) (hP:Pair H k km s t) (hF:Rep s a (w::F)) (hG:Rep t b (u::G)) (hn:lsize (w::F)+lsize (u::G)<=n) :
 ∃H',CW tr.look F_Q112 [J5 k 0 0,fv (rng a (lsize (w::F))),fv (rng b (lsize (u::G)))] H=some (J4 (fd (kidsR w) (kidsR u)+fd F G+cost w u:Nat),H')/\Pair H' k km s t/\Keep (fun x=>x=km) H H':=by
 have hs1:=hs.1
 have ht1:=ht.1
 have lF:=hF.le
 have lG:=hG.le
 have hkw:=zai w
 have hku:=zai u
 have e1:lsize (w::F)=w.size+lsize F:=rfl
 have e2:lsize (u::G)=u.size+lsize G:=rfl
 have fl1:=fd_le (kidsR w) (kidsR u)
 have fl2:=fd_le F G
 have hc3:cost w u<=3:=by unfold cost;(repeat' split)<;>omega
 obtain⟨H1,c1,P1,K1⟩:=ih H k km _ _ (kidsR w) (kidsR u) hP hF.kids hG.kids (by omega)
 obtain⟨H2,c2,P2,K2⟩:=ih H1 k km _ _ F G P1 hF.rest hG.rest (by omega)
 obtain⟨ka,kb,ma,mb,m1,m2,hA⟩:=hP.keep
 have K0:Keep (fun x=>x=km) H H:=Keep.refl
 have K12:=K1.trans K2
 obtain⟨p1,p2,p3,p4,p5⟩:=hA H K0
 obtain⟨q1,q2,q3,q4,q5⟩:=hA H1 K1
 obtain⟨r1,r2,r3,r4,r5⟩:=hA H2 K12
 obtain⟨v,q,x1,x2,x3,x4,x5,x6⟩:=p4.node (S:=fun x=>x=km) hF.top (fun x e=>.inl (by omega))
 obtain⟨v',q',y1,y2,y3,y4,y5,y6⟩:=p5.node (S:=fun x=>x=km) hG.top (fun x e=>.inl (by omega))
 have kk1:=zuf H ka ma _ _ _ p4 a _ _ hF.first (by rw[firsts,Bz,zak];omega)
 have kk2:=zuf H kb mb _ _ _ p5 b _ _ hG.first (by rw[firsts,Bz,zak];omega)
 have ww1:=zjo H1 ka ma _ _ _ q4 a _ _ hF.first (by rw[firsts,Bz,zak];omega) (by omega)
 have ww2:=zjo H1 kb mb _ _ _ q5 b _ _ hG.first (by rw[firsts,Bz,zak];omega) (by omega)
 have z1:someF ((a+lsize F:Nat):Int) (((a+lsize F+w.size-1:Nat):Int)-1)=rng (a+lsize F) (lsize (kidsR w)):=by rw[<- zbw];congr 1;omega
 have z2:someF ((b+lsize G:Nat):Int) (((b+lsize G+u.size-1:Nat):Int)-1)=rng (b+lsize G) (lsize (kidsR u)):=by rw[<- zbw];congr 1;omega
 have z3:someF (a:Int) (((a+lsize F:Nat):Int)-1)=rng a (lsize F):=by rw[<- zbw];congr 1
 have z4:someF (b:Int) (((b+lsize G:Nat):Int)-1)=rng b (lsize G):=by rw[<- zbw];congr 1
 rw[z1]at kk1
 rw[z2]at kk2
 rw[z3]at ww1
 rw[z4]at ww2
 have cc:=zahl w.bare u.bare (by
  have:=hs.2 w (zng s w (Ao hF.top))
  have e:w.bare.attrs=w.attrs:=rfl
  rw[e];omega) H2
 rw[zxi]at cc
 obtain⟨x7,x8⟩:=x6 H K0
 obtain⟨x9,x10⟩:=x6 H1 K1
 obtain⟨x11,x12⟩:=x6 H2 K12
 obtain⟨y7,y8⟩:=y6 H K0
 obtain⟨y9,y10⟩:=y6 H1 K1
 obtain⟨y11,y12⟩:=y6 H2 K12
 simp only[fv]at kk1 kk2 ww1 ww2 c1 c2
 obtain⟨r,H',h1,rfl,h2⟩:=zar (args:=[J5 k 0 0,fv (rng a (lsize (w::F))),fv (rng b (lsize (u::G)))]) (H:=H) (Q:=fun r H'=>r = J4 (fd (kidsR w) (kidsR u)+fd F G+cost w u:Nat)/\H'=H2) look_Q112 rfl rfl (by
  dsimp only[i_Q112,c_Q112]
  rw[zba,zba]
  simp(disch:=omega) [fv,p1,p2,q1,q2,r1,r2,x1,x2,x3,x4,x7,x8,x9,x10,x11,x12,y1,y2,y3,y4,y7,y8,y9,y10,y11,y12,kk1,kk2,ww1,ww2,c1,c2,zae,cc,zaa]
  )
 subst h2
 exact⟨H',h1,P2,K12⟩
theorem zaqe (G:List Tree):fd [] G=lsize G:=by rw[fd]
theorem zatp (F:List Tree):fd F []=lsize F:=by
 cases F with
 |nil=>rw[fd]
 |cons t F=>rw[fd]
theorem ext3 (x y z:Nat):evalExt (x:Int) false [J4 ((y:Int)+1), J4 ((z:Int)+1)]=some ((min (min x (y+1)) (z+1):Nat):Int):=by
 simp only[evalExt,Bq,if_false]
 congr 1
 by_cases h1:(y:Int)+1<x
 ·rw[if_pos h1]
  by_cases h2:(z:Int)+1<(y:Int)+1
  ·rw[if_pos h2];omega
  ·rw[if_neg h2];omega
 ·rw[if_neg h1]
  by_cases h2:(z:Int)+1<x
  ·rw[if_pos h2];omega
  ·rw[if_neg h2];omega
theorem Pair.put {H:J2} {k km:Nat} {s t:Tree} {es:List (IVal×IVal×Nat)} {ck:Nat} (h:Pair H k km s t) (hm:Memo (Known s t) es):Pair (H.set km (.map es ck)) k km s t:=by
 obtain⟨ka,kb,ma,mb,es0,ck0,h1,h2,h3,h4,h5,h6,h7,h8⟩:=h.blk
 have hk:Keep (fun x=>x=km) H (H.set km (.map es ck)):=Keep.set (.inl rfl)
 refine⟨ka,kb,ma,mb,es,ck,?_,zao (Aa.1 h2).1,hm,h4.keep hk (fun x e=>.inl (by omega)),h5.keep hk (fun x e=>.inl (by omega)),h6,h7,h8⟩
 rw[Ad (by omega)];exact h1
theorem zana (s t:Tree) (hs:Fine s) (ht:Fine t) (n:Nat) (ih:ApartSays s t n):ApartSays s t (n+1):=by
 intro H k km a b F G hP hF hG hn
 have hs1:=hs.1
 have ht1:=ht.1
 have lF:=hF.le
 have lG:=hG.le
 have K0:Keep (fun x=>x=km) H H:=Keep.refl
 have hnil:fv (rng 0 0)=fv (0, -1):=rfl
 cases F with
 |nil =>
  cases G with
  |nil =>
   obtain⟨r,H',h1,rfl,rfl⟩:=zar (args:=[J5 k 0 0,fv (rng a (lsize [])),fv (rng b (lsize []))]) (H:=H) (Q:=fun r H'=>r = J4 (fd [] []:Nat)/\H'=H) look_Q111 rfl rfl (by
    dsimp only[i_Q111,c_Q111]
    simp(disch:=omega) [fv,rng,lsize,zer,eqVals,eqCls,clsEq,zaqe])
   exact⟨_,h1,hP,K0⟩
  |cons u G =>
   have hku:=zai u
   have e2:lsize (u::G)=u.size+lsize G:=rfl
   have hne:¬((b:Int)=0/\((b+lsize G+u.size-1:Nat):Int) = -1):=by omega
   have hb2:((b+lsize G+u.size-1:Nat):Int) ≠ -1:=by omega
   obtain⟨r,H',h1,rfl,h2⟩:=zar (args:=[J5 k 0 0,fv (rng a (lsize [])),fv (rng b (lsize (u::G)))]) (H:=H) (Q:=fun r H'=>r = J4 (fd [] (u::G):Nat)/\H'=H) look_Q111 rfl rfl (by
    dsimp only[i_Q111,c_Q111]
    rw[zba,zaqe,e2]
    simp(disch:=omega) [fv,rng,lsize,zer,eqVals,eqCls,clsEq,beq_eq_false_iff_ne.2 hb2,BN,zaa]
    omega)
   subst h2
   exact⟨_,h1,hP,K0⟩
 |cons w F =>
  have hkw:=zai w
  have e1:lsize (w::F)=w.size+lsize F:=rfl
  have ha2:((a+lsize F+w.size-1:Nat):Int) ≠ -1:=by omega
  cases G with
  |nil =>
   obtain⟨r,H',h1,rfl,h2⟩:=zar (args:=[J5 k 0 0,fv (rng a (lsize (w::F))),fv (rng b (lsize []))]) (H:=H) (Q:=fun r H'=>r = J4 (fd (w::F) []:Nat)/\H'=H) look_Q111 rfl rfl (by
    dsimp only[i_Q111,c_Q111]
    rw[zba,zatp,e1]
    simp(disch:=omega) [fv,rng,lsize,zer,eqVals,eqCls,clsEq,beq_eq_false_iff_ne.2 ha2,BN,zaa]
    omega)
   subst h2
   exact⟨_,h1,hP,K0⟩
  |cons u G =>
   have hku:=zai u
   have e2:lsize (u::G)=u.size+lsize G:=rfl
   have hb2:((b+lsize G+u.size-1:Nat):Int) ≠ -1:=by omega
   have z1:someF (a:Int) (((a+lsize F+w.size-1:Nat):Int)-1)=rng a (lsize (kidsR w++F)):=by rw[<- zbw,zah];congr 1;omega
   have z2:someF (b:Int) (((b+lsize G+u.size-1:Nat):Int)-1)=rng b (lsize (kidsR u++G)):=by rw[<- zbw,zah];congr 1;omega
   obtain⟨ka,kb,ma,mb,m1,m2,hA⟩:=hP.keep
   obtain⟨p1,p2,p3,p4,p5⟩:=hA H K0
   have hP0:=hP
   obtain⟨ka',kb',ma',mb',es,ck,g1,g2,g3,g4⟩:=hP.blk
   let qd:Quad:=((a:Int),((a+lsize F+w.size-1:Nat):Int),(b:Int),((b+lsize G+u.size-1:Nat):Int))
   have hqd:quad qd = .agg [J4 a, J4 (a+lsize F+w.size-1:Nat), J4 b, J4 (b+lsize G+u.size-1:Nat)]:=rfl
   have hkey:=zamy qd
   rw[hqd]at hkey
   rcases zqo qd es 0 g3 with hf|⟨j,v,hf,hd⟩
   ·rw[hqd]at hf
    obtain⟨H1,c1,P1,K1⟩:=zsw s t hs ht n ih H k km a b w u F G hP0 hF hG (by omega)
    obtain⟨H2,c2,P2,K2⟩:=ih H1 k km a b (kidsR w++F) (u::G) P1 hF.opened hG (by rw[zah];omega)
    obtain⟨H3,c3,P3,K3⟩:=ih H2 k km a b (w::F) (kidsR u++G) P2 hF hG.opened (by rw[zah];omega)
    have K13:=(K1.trans K2).trans K3
    obtain⟨q1,q2,q3,q4,q5⟩:=hA H3 K13
    obtain⟨kc,kd,mc,md,es3,ck3,f1,f2,f3,f4,f5,f6⟩:=P3.blk
    have o1:=fun H=>zue ((a:Int),((a+lsize F+w.size-1:Nat):Int)) (by dsimp only;omega) (by dsimp only;omega) H
    have o2:=fun H=>zue ((b:Int),((b+lsize G+u.size-1:Nat):Int)) (by dsimp only;omega) (by dsimp only;omega) H
    dsimp only at o1 o2
    rw[z1]at o1
    rw[z2]at o2
    rw[zba,zba]at c1
    rw[zba]at c2 c3
    have b1:=fd_le (kidsR w) (kidsR u)
    have b2:=fd_le F G
    have b3:=fd_le (kidsR w++F) (u::G)
    have b4:=fd_le (w::F) (kidsR u++G)
    have hc3:cost w u<=3:=by unfold cost;(repeat' split)<;>omega
    rw[zah]at b3 b4
    have hfd:fd (w::F) (u::G)=min (min (fd (kidsR w) (kidsR u)+fd F G+cost w u) (fd (kidsR w++F) (u::G)+1)) (fd (w::F) (kidsR u++G)+1):=by rw[fd]
    have hm:=ext3 (fd (kidsR w) (kidsR u)+fd F G+cost w u) (fd (kidsR w++F) (u::G)) (fd (w::F) (kidsR u++G))
    rw[<- hfd]at hm
    simp only[BR]at hm
    have hK:Known s t qd (fd (w::F) (u::G):Nat):=⟨a,b,w::F,u::G,hF,hG,by simp,by simp,by rw[zba,zba],rfl⟩
    simp only[fv]at c1 c2 c3 o1 o2
    obtain⟨r,H',h1,rfl,h2,h3⟩:=zar (args:=[J5 k 0 0,fv (rng a (lsize (w::F))),fv (rng b (lsize (u::G)))]) (H:=H) (Q:=fun r H'=>r = J4 (fd (w::F) (u::G):Nat)/\Pair H' k km s t/\Keep (fun x=>x=km) H H') look_Q111 rfl rfl (by
     dsimp only[i_Q111,c_Q111]
     rw[zba,zba]
     rcases zqo qd es3 0 f3 with hf3|⟨j3,v3,hf3,hd3⟩
     ·rw[hqd]at hf3
      simp(disch:=omega) [fv,zer,eqVals,eqCls,clsEq,beq_eq_false_iff_ne.2 ha2,beq_eq_false_iff_ne.2 hb2,BN,zaa,p3,hkey,Mem.get,Mem.put,g2,hf,hf3,lookRes,c1,c2,c3,o1,o2,hm,q3,f2]
      exact⟨P3.put (zamz f3 hK),K13.trans (Keep.set (.inl rfl))⟩
     ·rw[hqd]at hf3
      simp(disch:=omega) [fv,zer,eqVals,eqCls,clsEq,beq_eq_false_iff_ne.2 ha2,beq_eq_false_iff_ne.2 hb2,BN,zaa,p3,hkey,Mem.get,Mem.put,g2,hf,hf3,lookRes,c1,c2,c3,o1,o2,hm,q3,f2]
      exact⟨P3.put (zace es3 j3 f3 hK),K13.trans (Keep.set (.inl rfl))⟩)
    exact⟨_,h1,h2,h3⟩
   ·rw[hqd]at hf
    have hv:v=fd (w::F) (u::G):=Known.right hF hG (by simp) (by simp) (by rw[zba,zba];exact hd)
    obtain⟨r,H',h1,rfl,h2⟩:=zar (args:=[J5 k 0 0,fv (rng a (lsize (w::F))),fv (rng b (lsize (u::G)))]) (H:=H) (Q:=fun r H'=>r = J4 (fd (w::F) (u::G):Nat)/\H'=H) look_Q111 rfl rfl (by
     dsimp only[i_Q111,c_Q111]
     rw[zba,zba]
     simp(disch:=omega) [fv,zer,eqVals,eqCls,clsEq,beq_eq_false_iff_ne.2 ha2,beq_eq_false_iff_ne.2 hb2,BN,p3,hkey,Mem.get,g2,hf,lookRes,hv])
    subst h2
    exact⟨_,h1,hP0,K0⟩
theorem zmh (s t:Tree) (hs:Fine s) (ht:Fine t):∀n,ApartSays s t n
 |0=>fun _ _ _ _ _ _ _ _ _ _ h=>absurd h (C7 _)
 |n+1=>zana s t hs ht n (zmh s t hs ht n)
theorem zdq (t:Tree):lsize [t]=t.size:=by simp[lsize]
end Go.Ideal
namespace Go.Ideal
open Go
theorem zahy (a b:Tree):cost a b<=3:=by unfold cost;(repeat' split)<;>omega
theorem zcr (G:List Tree):fd [] G=lsize G:=by rw[fd]
theorem zek (F:List Tree):fd F []=lsize F:=by
 cases F with
 |nil=>rw[fd]
 |cons t F=>rw[fd]
theorem zir (t u:Tree) (F G:List Tree):fd (t::F) (u::G)=min (min (fd (kidsR t) (kidsR u)+fd F G+cost t u) (fd (kidsR t++F) (u::G)+1)) (fd (t::F) (kidsR u++G)+1):=by rw[fd]
theorem zazz (A C B D:List Tree):fd (A++B) (C++D)<=fd A C+fd B D:=by
 have key:∀(n:Nat) (A C B D:List Tree),lsize A+lsize C+(lsize B+lsize D)<n->fd (A++B) (C++D)<=fd A C+fd B D:=by
  intro n
  induction n with
  |zero=>intro A C B D h;omega
  |succ n ih =>
   intro A C B D h
   cases A with
   |nil =>
    cases C with
    |nil=>rw[zcr];simp
    |cons u C =>
     have h2:=zai u
     simp only[lsize]at h
     have a1:=ih [] (kidsR u++C) B D (by simp only[lsize,zah];omega)
     rw[zcr]at a1 ⊢
     simp only[lsize,zah,AK,As,Aq]at a1 ⊢
     cases B with
     |nil=>rw[zcr];rw[zcr]at a1 ⊢;simp only[lsize,zah]at a1 ⊢;omega
     |cons b B=>rw[zir];omega
   |cons t A =>
    have h1:=zai t
    cases C with
    |nil =>
     simp only[lsize]at h
     have a1:=ih (kidsR t++A) [] B D (by simp only[lsize,zah];omega)
     rw[zek]at a1 ⊢
     simp only[lsize,zah,AK,As,Aq]at a1 ⊢
     cases D with
     |nil=>rw[zek];rw[zek]at a1 ⊢;simp only[lsize,zah]at a1 ⊢;omega
     |cons d D=>rw[zir];omega
    |cons u C =>
     have h2:=zai u
     simp only[lsize]at h
     have a2:=ih A C B D (by omega)
     have a3:=ih (kidsR t++A) (u::C) B D (by simp only[lsize,zah];omega)
     have a4:=ih (t::A) (kidsR u++C) B D (by simp only[lsize,zah];omega)
     simp only[Aq,As]at a3 a4 ⊢
     rw[zir,zir]
     omega
 exact key _ A C B D (Al _)
end Go.Ideal
namespace Go.Ideal
open Go
set_option maxHeartbeats 4000000
set_option maxRecDepth 20000
attribute [-simp] getElem?_pos
section
variable {A B:List Nat} {F G:List Tree} {a b:Nat}
def pr (A B:List Nat):Nat->Nat->List Tree->List Tree->J1
 |_,_,[],_=>[]
 |_,_,_::_,[]=>[]
 |a,b,t::F,u::G =>
  if fd (t::F) (u::G)=fd (kidsR t) (kidsR u)+fd F G+cost t u then pr A B (a+lsize F) (b+lsize G) (kidsR t) (kidsR u)++pr A B a b F G++[(A.getD (a+lsize F+t.size-1) 0,B.getD (b+lsize G+u.size-1) 0)]
  else if fd (t::F) (u::G)=fd (kidsR t++F) (u::G)+1 then pr A B a b (kidsR t++F) (u::G)else pr A B a b (t::F) (kidsR u++G)
termination_by _ _ F G=>lsize F+lsize G
decreasing_by
 all_goals
  have h1:=zai t
  have h2:=zai u
  simp only[lsize,zah]
  omega
theorem zacf:pr A B a b [] G=[]:=by rw[pr]
theorem zug:pr A B a b F []=[]:=by
 cases F with
 |nil=>rw[pr]
 |cons t F=>rw[pr]
theorem zuh {t u:Tree}:pr A B a b (t::F) (u::G)=if fd (t::F) (u::G)=fd (kidsR t) (kidsR u)+fd F G+cost t u then pr A B (a+lsize F) (b+lsize G) (kidsR t) (kidsR u)++pr A B a b F G++[(A.getD (a+lsize F+t.size-1) 0,B.getD (b+lsize G+u.size-1) 0)]
 else if fd (t::F) (u::G)=fd (kidsR t++F) (u::G)+1 then pr A B a b (kidsR t++F) (u::G)else pr A B a b (t::F) (kidsR u++G):=by rw[pr]
theorem zxj (A B:List Nat) (a b:Nat) (F G:List Tree):(pr A B a b F G).length<=lsize F:=by
 have key:∀(n:Nat) (a b:Nat) (F G:List Tree),lsize F+lsize G<n->(pr A B a b F G).length<=lsize F:=by
  intro n
  induction n with
  |zero=>intro a b F G h;omega
  |succ n ih =>
   intro a b F G h
   cases F with
   |nil=>rw[zacf];simp
   |cons t F =>
    cases G with
    |nil=>rw[zug];simp
    |cons u G =>
     have h1:=zai t
     have h2:=zai u
     simp only[lsize]at h
     rw[zuh]
     split
     ·have a1:=ih (a+lsize F) (b+lsize G) (kidsR t) (kidsR u) (by omega)
      have a2:=ih a b F G (by omega)
      simp only[Af,AN,lsize];omega
     ·split
      ·have a3:=ih a b (kidsR t++F) (u::G) (by simp only[lsize,zah];omega)
       simp only[lsize,zah]at a3 ⊢;omega
      ·exact ih a b (t::F) (kidsR u++G) (by simp only[lsize,zah];omega)
 exact key _ a b F G (Al _)
theorem znh {t u:Tree} (h:fd (t::F) (u::G)=fd (kidsR t) (kidsR u)+fd F G+cost t u):cost t u<3:=by
 have h1:=zazz (kidsR t) (kidsR u) F G
 have h2:fd (kidsR t++F) (u::G)<=fd (kidsR t++F) (kidsR u++G)+1:=by
  cases hk:kidsR t++F with
  |nil=>rw[zcr,zcr];have:=zai u;simp only[lsize,zah];omega
  |cons x X=>rw[zir x u];omega
 have h3:=zir t u F G
 omega
def prcells (l:J1):List PVal:=l.flatMap fun p=>[.int .i64 p.1, .int .i64 p.2]
theorem zky (l m:J1):prcells (l++m)=prcells l++prcells m:=by simp[prcells]
end
section
variable {H:J2} {k km:Nat} {s t:Tree}
def PairsSays (s t:Tree) (n:Nat):Prop:=∀(H:J2) (k km a b:Nat) (F G:List Tree),Pair H k km s t->Rep s a F->Rep t b G->lsize F+lsize G<n ->
 ∃H' v o,CW tr.look F_Q86 [J5 k 0 0,fv (rng a (lsize F)),fv (rng b (lsize G))] H=some (v,H')/\Pair H' k km s t/\Keep (fun x=>x=km) H H' /\
  VS H' o 2 (pr (postT s 0) (postT t 0) a b F G).length v (pcells (prcells (pr (postT s 0) (postT t 0) a b F G)))/\(∀ j,o=some j->H.length<=j)
theorem Pair.lt (h:Pair H k km s t):km<H.length:=by
 obtain⟨ka,kb,ma,mb,es,ck,h1,h2,h3⟩:=h.blk
 exact(Aa.1 h2).1
theorem Pair.later {H':J2} (h:Pair H k km s t) (hk:Keep (fun x=>H.length<=x) H H'):Pair H' k km s t:=by
 obtain⟨ka,kb,ma,mb,es,ck,h1,h2,h3,h4,h5,h6,h7,h8⟩:=h.blk
 have g:∀ {i b},H[i]? = some b->H'[i]? = some b:=fun {i b} e=>by
  have hl:=(Aa.1 e).1
  rw[hk.2 i hl (by omega)];exact e
 have sd:∀ {k m N ids fs},SideAt H k m N ids fs->SideAt H' k m N ids fs:=by
  intro k m N ids fs hS
  obtain⟨nv,fvv,o1,o2,a1,a2,a3,a4,a5,a6⟩:=hS.blk
  refine⟨nv,fvv,o1,o2,g a1,a2.keep hk (fun x hx e=>?_),a3.keep hk (fun x hx e=>?_),a4,a5,a6⟩
  ·subst hx;have:=a2.lt;omega
  ·subst hx;have:=a3.lt;omega
 exact⟨ka,kb,ma,mb,es,ck,g h1,g h2,h3,sd h4,sd h5,h6,h7,h8⟩
theorem Pair.mix {H0 H':J2} (h0:Pair H0 k km s t) (h:Pair H k km s t) (h1:Keep (fun x=>x=km) H0 H) {S:Nat->Prop} (hk:Keep S H H') (hS:∀i,S i->H0.length<=i):Pair H' k km s t:=by
 have hl:=h0.lt
 have hle:=h1.1
 have h2:Keep (fun x=>x=km) H0 H':=h1.trans' hk (fun i hi e=>by have:=hS i e;omega)
 obtain⟨ka,kb,ma,mb,es,ck,a1,a2,a3,a4,a5,a6,a7,a8⟩:=h0.blk
 obtain⟨_,_,_,_,es2,ck2,_,b2,b3,_⟩:=h.blk
 refine⟨ka,kb,ma,mb,es2,ck2,?_,?_,b3,a4.keep h2 (fun x e=>.inl (by omega)),a5.keep h2 (fun x e=>.inl (by omega)),a6,a7,a8⟩
 ·rw[h2.2 k (Aa.1 a1).1 (by omega)];exact a1
 ·rw[hk.2 km (by omega) (fun e=>by have:=hS km e;omega)];exact b2
theorem SideAt.idl {m:Nat} {N:List Tree} {ids fs:List Nat} (h:SideAt H k m N ids fs):loadVal ⟨[],H⟩ none (J5 k 0 1)=some (.p (nval ids)):=by
 obtain⟨nv,fvv,o1,o2,h1,h2,h3⟩:=h.blk
 exact zad h1 rfl
theorem zanb (s t:Tree) (hs:Fine s) (ht:Fine t) (n:Nat) (ih:PairsSays s t n):PairsSays s t (n+1):=by
 intro H k km a b F G hP hF hG hn
 have hs1:=hs.1
 have ht1:=ht.1
 have lF:=hF.le
 have lG:=hG.le
 have K0:Keep (fun x=>x=km) H H:=Keep.refl
 cases F with
 |nil =>
  rw[zacf]
  obtain⟨r,H',h1,rfl,h2⟩:=zar (args:=[J5 k 0 0,fv (rng a (lsize [])),fv (rng b (lsize G))]) (H:=H) (Q:=fun r H'=>r = .p .nilslice/\H'=H) look_Q86 rfl rfl (by
   dsimp only[i_Q86,c_Q86]
   simp(disch:=omega) [fv,lsize,zer,eqVals,eqCls,clsEq,show rng a 0=(0, -1)from rfl])
  subst h2
  exact⟨_,_,none,h1,hP,K0,VS.nil,by simp⟩
 |cons w F =>
  have hkw:=zai w
  have e1:lsize (w::F)=w.size+lsize F:=rfl
  have ha2:((a+lsize F+w.size-1:Nat):Int) ≠ -1:=by omega
  cases G with
  |nil =>
   rw[zug]
   obtain⟨r,H',h1,rfl,h2⟩:=zar (args:=[J5 k 0 0,fv (rng a (lsize (w::F))),fv (rng b (lsize []))]) (H:=H) (Q:=fun r H'=>r = .p .nilslice/\H'=H) look_Q86 rfl rfl (by
    dsimp only[i_Q86,c_Q86]
    rw[zba]
    simp(disch:=omega) [fv,lsize,zer,eqVals,eqCls,clsEq,beq_eq_false_iff_ne.2 ha2,BN,show rng b 0=(0, -1)from rfl])
   subst h2
   exact⟨_,_,none,h1,hP,K0,VS.nil,by simp⟩
  |cons u G =>
   have hku:=zai u
   have e2:lsize (u::G)=u.size+lsize G:=rfl
   have hb2:((b+lsize G+u.size-1:Nat):Int) ≠ -1:=by omega
   have z1:someF (a:Int) (((a+lsize F+w.size-1:Nat):Int)-1)=rng a (lsize (kidsR w++F)):=by rw[<- zbw,zah];congr 1;omega
   have z2:someF (b:Int) (((b+lsize G+u.size-1:Nat):Int)-1)=rng b (lsize (kidsR u++G)):=by rw[<- zbw,zah];congr 1;omega
   have y1:someF ((a+lsize F:Nat):Int) (((a+lsize F+w.size-1:Nat):Int)-1)=rng (a+lsize F) (lsize (kidsR w)):=by rw[<- zbw];congr 1;omega
   have y2:someF ((b+lsize G:Nat):Int) (((b+lsize G+u.size-1:Nat):Int)-1)=rng (b+lsize G) (lsize (kidsR u)):=by rw[<- zbw];congr 1;omega
   have y3:someF (a:Int) (((a+lsize F:Nat):Int)-1)=rng a (lsize F):=by rw[<- zbw];congr 1
   have y4:someF (b:Int) (((b+lsize G:Nat):Int)-1)=rng b (lsize G):=by rw[<- zbw];congr 1
   obtain⟨H1,c1,P1,K1⟩:=zmh s t hs ht _ H k km a b (w::F) (u::G) hP hF hG (Al _)
   obtain⟨H2,c2,P2,K2⟩:=zsw s t hs ht _ (zmh s t hs ht _) H1 k km a b w u F G P1 hF hG (Ak _)
   have K12:=K1.trans K2
   have b1:=fd_le (kidsR w) (kidsR u)
   have b2:=fd_le F G
   have b3:=fd_le (kidsR w++F) (u::G)
   have b4:=fd_le (w::F) (kidsR u++G)
   have b5:=fd_le (w::F) (u::G)
   have hc3:cost w u<=3:=by unfold cost;(repeat' split)<;>omega
   rw[zah]at b3 b4
   rw[zba,zba]at c1 c2
   have o1:=fun H=>zue ((a:Int),((a+lsize F+w.size-1:Nat):Int)) (by dsimp only;omega) (by dsimp only;omega) H
   have o2:=fun H=>zue ((b:Int),((b+lsize G+u.size-1:Nat):Int)) (by dsimp only;omega) (by dsimp only;omega) H
   dsimp only at o1 o2
   rw[z1]at o1
   rw[z2]at o2
   simp only[fv]at c1 c2 o1 o2
   rw[zuh]
   by_cases hm:fd (w::F) (u::G)=fd (kidsR w) (kidsR u)+fd F G+cost w u
   ·rw[if_pos hm]
    have hcl:=znh hm
    generalize hp1:pr (postT s 0) (postT t 0) (a+lsize F) (b+lsize G) (kidsR w) (kidsR u)=p1
    generalize hp2:pr (postT s 0) (postT t 0) a b F G=p2
    have hl1:=zxj (postT s 0) (postT t 0) (a+lsize F) (b+lsize G) (kidsR w) (kidsR u)
    have hl2:=zxj (postT s 0) (postT t 0) a b F G
    rw[hp1]at hl1
    rw[hp2]at hl2
    obtain⟨H3,v3,q3,c3,P3,K3,V3,N3⟩:=ih H2 k km _ _ (kidsR w) (kidsR u) P2 hF.kids hG.kids (by omega)
    obtain⟨H4,v4,q4,c4,P4,K4,V4,N4⟩:=ih H3 k km _ _ F G P3 hF.rest hG.rest (by omega)
    rw[hp1]at V3
    rw[hp2]at V4
    have kml:=P2.lt
    have V3':=V3.keep K4 (fun j hj e=>by have:=N3 j hj;omega)
    obtain⟨v5,H5,q5,c5,V5,K5,N5⟩:=V3'.appendVS V4 (by omega)
    have hK3l:=K3.1
    have hK4l:=K4.1
    have hK12l:=K12.1
    have K5':Keep (fun x=>x=km) H H5:=by
     refine((K12.trans K3).trans K4).trans' K5 ?_
     intro i hi e
     have:=N3 i e;omega
    have P5:Pair H5 k km s t:=P2.mix P4 (K3.trans K4) K5 (fun i e=>N3 i e)
    obtain⟨ka,kb,ma,mb,m1,m2,hA⟩:=hP.keep
    obtain⟨p1',p2',p3',p4',p5'⟩:=hA H2 K12
    obtain⟨r1,r2,r3,r4,r5⟩:=hA H3 (K12.trans K3)
    obtain⟨t1,t2,t3,t4,t5⟩:=hA H5 K5'
    have kk1:=zuf H2 ka ma _ _ _ p4' a _ _ hF.first (by rw[firsts,Bz,zak];omega)
    have kk2:=zuf H2 kb mb _ _ _ p5' b _ _ hG.first (by rw[firsts,Bz,zak];omega)
    have ww1:=zjo H3 ka ma _ _ _ r4 a _ _ hF.first (by rw[firsts,Bz,zak];omega) (by omega)
    have ww2:=zjo H3 kb mb _ _ _ r5 b _ _ hG.first (by rw[firsts,Bz,zak];omega) (by omega)
    rw[y1]at kk1
    rw[y2]at kk2
    rw[y3]at ww1
    rw[y4]at ww2
    simp only[fv]at kk1 kk2 ww1 ww2 c3 c4
    obtain⟨x,q,x1,x2,x3,x4,x5,x6⟩:=t4.node (S:=fun x=>x=km) hF.top (fun x e=>.inl (by omega))
    obtain⟨x',q',xx1,xx2,xx3,xx4,xx5,xx6⟩:=t5.node (S:=fun x=>x=km) hG.top (fun x e=>.inl (by omega))
    obtain⟨x7,x8⟩:=x6 H5 Keep.refl
    obtain⟨xx7,xx8⟩:=xx6 H5 Keep.refl
    have cc:=zahl w.bare u.bare (by
     have:=hs.2 w (zng s w (Ao hF.top))
     have e:w.bare.attrs=w.attrs:=rfl
     rw[e];omega) H5
    rw[zxi]at cc
    obtain⟨iA,hiA⟩:∃i,(postT s 0)[a+lsize F+w.size-1]? = some i:=⟨_,Ac (by rw[zal];omega)⟩
    obtain⟨iB,hiB⟩:∃i,(postT t 0)[b+lsize G+u.size-1]? = some i:=⟨_,Ac (by rw[zal];omega)⟩
    have gA:(postT s 0).getD (a+lsize F+w.size-1) 0=iA:=by rw[Ai,hiA];rfl
    have gB:(postT t 0).getD (b+lsize G+u.size-1) 0=iB:=by rw[Ai,hiB];rfl
    rw[gA,gB]
    have id1:=t4.idl
    have id2:=t5.idl
    have ii1:=zeb hiA
    have ii2:=zeb hiB
    obtain⟨v6,H6,q6,c6,V6,K6,l6,N6,_⟩:=V5.append1 (ys:=[J4 iA, J4 iB]) rfl (by omega)
    have hup3:=V3.up
    have hps3:=V3.pass
    have hne3:v3≠.undef:=by rintro rfl;exact absurd hps3 (by decide)
    have hup4:=V4.up
    have hne4:v4≠.undef:=by rintro rfl;exact absurd V4.pass (by decide)
    have hup5:=V5.up
    have hne5:v5≠.undef:=by rintro rfl;exact absurd V5.pass (by decide)
    have hup6:=V6.up
    have hne6:v6≠.undef:=by rintro rfl;exact absurd V6.pass (by decide)
    have hps6:=V6.pass
    have hge5:∀j,q5=some j->H2.length<=j:=by
     intro j hj
     rcases N5 with e|⟨k',e,e2⟩
     ·exact N3 j (by rw[<- e];exact hj)
     ·rw[e]at hj;injection hj with hj;omega
    obtain⟨r,H',h1,rfl,h2⟩:=zar (args:=[J5 k 0 0,fv (rng a (lsize (w::F))),fv (rng b (lsize (u::G)))]) (H:=H) (Q:=fun r H'=>r=v6/\H'=H6) look_Q86 rfl rfl (by
     dsimp only[i_Q86,c_Q86]
     rw[zba,zba]
     simp(disch:=omega) [fv,zer,eqVals,eqCls,clsEq,beq_eq_false_iff_ne.2 ha2,beq_eq_false_iff_ne.2 hb2,BN,c1,c2,hm,p1',p2',r1,r2,t1,t2,kk1,kk2,ww1,ww2,c3,c4,c5,hup3,hup4,hup5,hup6,hps6,x1,x2,x3,x7,x8,xx1,xx2,xx3,xx7,xx8,zae,cc,id1,id2,ii1,ii2,c6])
    subst h2
    refine⟨_,_,q6,h1,P2.mix P5 ((K3.trans K4).trans' K5 (fun i hi e=>by have:=N3 i e;omega)) K6 (fun i e=>hge5 i e),K5'.trans' K6 (fun i hi e=>by have:=hge5 i e;omega),?_,?_⟩
    ·have e7:(p1++p2++[(iA,iB)]).length=p1.length+p2.length+1:=by simp;omega
     rw[e7,zky,zky,zdi,zdi]
     exact V6
    ·intro j hj
     rcases N6 with e|⟨k',e,e2⟩
     ·have:=hge5 j (by rw[<- e];exact hj);omega
     ·have:=K5'.1
      rw[e]at hj;injection hj with hj;omega
   ·rw[if_neg hm]
    have hm':((fd (w::F) (u::G):Nat):Int)≠((fd (kidsR w) (kidsR u)+fd F G+cost w u:Nat):Int):=by omega
    obtain⟨H3,c3,P3,K3⟩:=zmh s t hs ht _ H2 k km a b (kidsR w++F) (u::G) P2 hF.opened hG (Al _)
    rw[zba]at c3
    simp only[fv]at c3
    have K13:=K12.trans K3
    by_cases hd:fd (w::F) (u::G)=fd (kidsR w++F) (u::G)+1
    ·rw[if_pos hd]
     obtain⟨H4,v4,q4,c4,P4,K4,V4,N4⟩:=ih H3 k km a b (kidsR w++F) (u::G) P3 hF.opened hG (by rw[zah];omega)
     have hl:=K13.1
     rw[zba]at c4
     simp only[fv]at c4
     have hup:=V4.up
     have hps:=V4.pass
     have hne:v4≠.undef:=by rintro rfl;exact absurd hps (by decide)
     obtain⟨r,H',h1,rfl,h2⟩:=zar (args:=[J5 k 0 0,fv (rng a (lsize (w::F))),fv (rng b (lsize (u::G)))]) (H:=H) (Q:=fun r H'=>r=v4/\H'=H4) look_Q86 rfl rfl (by
      dsimp only[i_Q86,c_Q86]
      rw[zba,zba]
      simp(disch:=omega) [fv,zer,eqVals,eqCls,clsEq,beq_eq_false_iff_ne.2 ha2,beq_eq_false_iff_ne.2 hb2,BN,zaa,c1,c2,c3,c4,o1,hd,hup,hps])
     subst h2
     exact⟨_,_,q4,h1,P4,K13.trans K4,V4,fun j hj=>by have:=N4 j hj;omega⟩
    ·rw[if_neg hd]
     have hd':((fd (w::F) (u::G):Nat):Int)≠((fd (kidsR w++F) (u::G):Nat):Int)+1:=by omega
     obtain⟨H4,v4,q4,c4,P4,K4,V4,N4⟩:=ih H3 k km a b (w::F) (kidsR u++G) P3 hF hG.opened (by rw[zah];omega)
     have hl:=K13.1
     rw[zba]at c4
     simp only[fv]at c4
     have hup:=V4.up
     have hps:=V4.pass
     have hne:v4≠.undef:=by rintro rfl;exact absurd hps (by decide)
     obtain⟨r,H',h1,rfl,h2⟩:=zar (args:=[J5 k 0 0,fv (rng a (lsize (w::F))),fv (rng b (lsize (u::G)))]) (H:=H) (Q:=fun r H'=>r=v4/\H'=H4) look_Q86 rfl rfl (by
      dsimp only[i_Q86,c_Q86]
      rw[zba,zba]
      simp(disch:=omega) [fv,zer,eqVals,eqCls,clsEq,beq_eq_false_iff_ne.2 ha2,beq_eq_false_iff_ne.2 hb2,BN,zaa,c1,c2,c3,c4,o1,o2,hup,hps])
     subst h2
     exact⟨_,_,q4,h1,P4,K13.trans K4,V4,fun j hj=>by have:=N4 j hj;omega⟩
theorem zxk (s t:Tree) (hs:Fine s) (ht:Fine t):∀n,PairsSays s t n
 |0=>fun _ _ _ _ _ _ _ _ _ _ h=>absurd h (C7 _)
 |n+1=>zanb s t hs ht n (zxk s t hs ht n)
end
end Go.Ideal
namespace Go.Ideal
open Go
attribute [-simp] getElem?_pos
section
variable {a:Nat} {s t:Tree}
abbrev TN:=Tree×Nat
def kidsG:List Tree->Nat->List TN
 | [],_=>[]
 |t::l,i=>(t,i)::kidsG l (i+t.size)
def kidsT (x:TN):List TN:=(kidsG (klist x.1.kids) (x.2+1)).reverse
theorem zxl:∀(l:List Tree) (i:Nat),(kidsG l i).map (·.1)=l
 | [],i=>rfl
 |t::l,i=>by simp[kidsG,zxl l]
theorem zis (x:TN):(kidsT x).map (·.1)=kidsR x.1:=by simp[kidsT,kidsR,zxl]
def postI (x:TN):List TN:=(postS x.1).zip (postT x.1 x.2)
def postF (F:List TN):List TN:=F.flatMap postI
theorem zoj:∀(l:List Tree) (i:Nat),(postL l i).length=lsize l
 | [],i=>rfl
 |t::l,i=>by simp only[postL,lsize,Af,zal,zoj l]
theorem zsx:∀(l:List Tree) (i:Nat),postF (kidsG l i)=(postSL l).zip (postL l i)
 | [],i=>rfl
 |t::l,i=>by
  have:=zsx l (i+t.size)
  simp only[postF,kidsG,AD]at this ⊢
  rw[this,postSL,postL,List.zip_append (by rw[zak,zal])]
  rfl
theorem zui (x:TN):postI x=postF (kidsT x).reverse++[x]:=by
 rw[postI,zdz,zjn,kidsT,Cd,zsx,List.zip_append (by rw[zdj,zoj])]
 rfl
theorem zxm (x:TN):(postI x).length=x.1.size:=by
 rw[postI,List.length_zip,zak,zal,Nat.min_self]
theorem zit (F G:List TN):postF (F++G)=postF F++postF G:=by simp[postF]
theorem ziu (x:TN):postF [x]=postI x:=by simp[postF]
theorem ziv:∀F:List TN,(postF F).length=lsize (F.map (·.1))
 | []=>rfl
 |x::F=>by
  have:=ziv F
  simp only[postF,AD,Af,At,lsize,zxm]at this ⊢
  omega
def fsz (F:List TN):Nat:=lsize (F.map (·.1))
theorem zec (x:TN) (F:List TN):fsz (x::F)=x.1.size+fsz F:=rfl
theorem zahz (F:List TN):lsize (F.reverse.map (·.1))=fsz F:=by rw[List.map_reverse,zcw];rfl
theorem zhm (x:TN):x.1.size=fsz (kidsT x)+1:=by rw[fsz,zis];exact zai x.1
theorem zkz (F G:List TN):fsz (F++G)=fsz F+fsz G:=by simp[fsz,zah]
def RepT (s:Tree) (a:Nat) (F:List TN):Prop:=∃A B,postI (s,0)=A++(postF F.reverse++B)/\A.length=a
theorem RepT.root (t:Tree):RepT t 0 [(t,0)]:=⟨[],[],by simp[ziu],rfl⟩
theorem RepT.kids {u:TN} {F:List TN} (h:RepT t a (u::F)):RepT t (a+fsz F) (kidsT u):=by
 obtain⟨A,B,h1,h2⟩:=h
 refine⟨A++postF F.reverse,u::B,?_,by rw[Af,ziv,zahz,h2]⟩
 rw[h1,Bd,zit,ziu,zui]
 simp
theorem RepT.rest {u:TN} {F:List TN} (h:RepT t a (u::F)):RepT t a F:=by
 obtain⟨A,B,h1,h2⟩:=h
 refine⟨A,postI u++B,?_,h2⟩
 rw[h1,Bd,zit,ziu]
 simp
theorem RepT.opened {u:TN} {F:List TN} (h:RepT t a (u::F)):RepT t a (kidsT u++F):=by
 obtain⟨A,B,h1,h2⟩:=h
 refine⟨A,u::B,?_,h2⟩
 rw[h1,Cj,Bd,zit,zit,ziu,zui]
 simp
theorem RepT.top {u:TN} {F:List TN} (h:RepT t a (u::F)):(postI (t,0))[a+fsz F+u.1.size-1]? = some u:=by
 obtain⟨A,B,h1,h2⟩:=h
 have hk:=zhm u
 have e:postI (t,0)=(A++(postF F.reverse++postF (kidsT u).reverse))++(u::B):=by
  rw[h1,Bd,zit,ziu,zui]
  simp
 have hl:(A++(postF F.reverse++postF (kidsT u).reverse)).length=a+fsz F+u.1.size-1:=by
  simp only[Af,ziv,zahz,h2];omega
 rw[e,Ae (by omega),hl,Bk]
 rfl
theorem RepT.id {u:TN} {F:List TN} (h:RepT t a (u::F)):(postT t 0).getD (a+fsz F+u.1.size-1) 0=u.2:=by
 have h1:=h.top
 rw[postI,Dh]at h1
 rw[Ai,h1.2];rfl
def Has (s:Tree) (x:TN):Prop:=(s.vis[x.2]?).map (·.t)=some x.1
theorem RepT.has {u:TN} {F:List TN} (h:RepT t a (u::F)):Has t u:=by
 have h1:=h.top
 rw[postI,Dh]at h1
 obtain⟨u',v,p1,p2,p3,p4,p5⟩:=zgs h1.2
 have:u'=u.1:=by have:=h1.1;dsimp only at this;rw[p1]at this;injection this
 unfold Has
 rw[Tree.vis,p2,AI,p3,this]
def prT:List TN->List TN->J1
 | [],_=>[]
 |_::_,[]=>[]
 |t::F,u::G =>
  if fd ((t::F).map (·.1)) ((u::G).map (·.1))=fd ((kidsT t).map (·.1)) ((kidsT u).map (·.1))+fd (F.map (·.1)) (G.map (·.1))+cost t.1 u.1 then prT (kidsT t) (kidsT u)++prT F G++[(t.2,u.2)]
  else if fd ((t::F).map (·.1)) ((u::G).map (·.1))=fd ((kidsT t++F).map (·.1)) ((u::G).map (·.1))+1 then prT (kidsT t++F) (u::G)else prT (t::F) (kidsT u++G)
termination_by F G=>fsz F+fsz G
decreasing_by
 all_goals
  have h1:=zhm t
  have h2:=zhm u
  simp only[zec,zkz]
  omega
theorem zaia {G:List TN}:prT [] G=[]:=by rw[prT]
theorem zacg {F:List TN}:prT F []=[]:=by
 cases F with
 |nil=>rw[prT]
 |cons t F=>rw[prT]
theorem zach {t u:TN} {F G:List TN}:prT (t::F) (u::G)=if fd ((t::F).map (·.1)) ((u::G).map (·.1))=fd ((kidsT t).map (·.1)) ((kidsT u).map (·.1))+fd (F.map (·.1)) (G.map (·.1))+cost t.1 u.1 then prT (kidsT t) (kidsT u)++prT F G++[(t.2,u.2)]
 else if fd ((t::F).map (·.1)) ((u::G).map (·.1))=fd ((kidsT t++F).map (·.1)) ((u::G).map (·.1))+1 then prT (kidsT t++F) (u::G)else prT (t::F) (kidsT u++G):=by rw[prT]
theorem zbaa (s t:Tree) (a b:Nat) (F G:List TN) (hF:RepT s a F) (hG:RepT t b G):pr (postT s 0) (postT t 0) a b (F.map (·.1)) (G.map (·.1))=prT F G:=by
 have key:∀(n:Nat) (a b:Nat) (F G:List TN),fsz F+fsz G<n->RepT s a F->RepT t b G->pr (postT s 0) (postT t 0) a b (F.map (·.1)) (G.map (·.1))=prT F G:=by
  intro n
  induction n with
  |zero=>intro a b F G h;omega
  |succ n ih =>
   intro a b F G h hF hG
   cases F with
   |nil=>rw[zaia];exact zacf
   |cons x F =>
    cases G with
    |nil=>rw[zacg];exact zug
    |cons y G =>
     have h1:=zhm x
     have h2:=zhm y
     simp only[zec]at h
     have i1:=ih _ _ _ _ (by omega) hF.kids hG.kids
     have i2:=ih _ _ _ _ (by omega) hF.rest hG.rest
     have i3:=ih _ _ (kidsT x++F) (y::G) (by simp only[zec,zkz];omega) hF.opened hG
     have i4:=ih _ _ (x::F) (kidsT y++G) (by simp only[zec,zkz];omega) hF hG.opened
     have d1:=hF.id
     have d2:=hG.id
     rw[zach,<-i1,<-i2,<-i3,<-i4]
     simp only[At,AC,zis]
     rw[zuh]
     simp only[fsz]at d1 d2
     rw[d1,d2]
     rfl
 exact key _ a b F G (Al _) hF hG
def nd (s:Tree) (i:Nat):Tree:=match s.vis[i]? with|some v=>v.t|none=>s
theorem Has.nd {x:TN} (h:Has s x):nd s x.2=x.1:=by
 unfold Has at h
 unfold Ideal.nd
 cases e:s.vis[x.2]? with
 |none=>rw[e]at h;cases h
 |some v=>rw[e]at h;injection h
theorem Has.lt {x:TN} (h:Has s x):x.2<s.size:=by
 unfold Has at h
 cases e:s.vis[x.2]? with
 |none=>rw[e]at h;cases h
 |some v=>have:=(Aa.1 e).1;rw[zat]at this;exact this
def InF (s:Tree) (F:List TN) (i:Nat):Prop:=∃x∈F,x.2<=i/\i+(nd s i).size<=x.2+x.1.size
def ordF (F:List TN):Prop:=F.Pairwise fun x y=>y.2+y.1.size<=x.2
theorem ziw:∀(l:List Tree) (i:Nat),∀k∈kidsG l i,i<=k.2/\k.2+k.1.size<=i+lsize l
 | [],i,k,h=>by simp[kidsG]at h
 |t::l,i,k,h=>by
  simp only[kidsG,Aj]at h
  simp only[lsize]
  rcases h with rfl|h
  ·dsimp only;omega
  ·have:=ziw l (i+t.size) k h;omega
theorem zxn:∀(l:List Tree) (i:Nat),(kidsG l i).Pairwise fun x y=>x.2+x.1.size<=y.2
 | [],_=>List.Pairwise.nil
 |t::l,i=>List.Pairwise.cons (fun k hk=>(ziw l (i+t.size) k hk).1) (zxn l _)
theorem zcd (x:TN):∀k∈kidsT x,x.2<k.2/\k.2+k.1.size<=x.2+x.1.size:=by
 intro k hk
 have:=ziw _ _ k (List.mem_reverse.1 hk)
 have:=zag x.1
 omega
theorem zqp (x:TN):ordF (kidsT x):=by
 unfold ordF kidsT
 rw[List.pairwise_reverse]
 exact zxn _ _
theorem ordF.opened {x:TN} {F:List TN} (h:ordF (x::F)):ordF (kidsT x++F):=by
 unfold ordF at h ⊢
 rw[B8]at h
 rw[Cy]
 refine⟨zqp x,h.2,fun k hk y hy=>?_⟩
 have:=zcd x k hk
 have:=h.1 y hy
 omega
theorem InF.opened {x:TN} {F:List TN} {i:Nat} (h:InF s (kidsT x++F) i):InF s (x::F) i:=by
 obtain⟨y,hy,h1,h2⟩:=h
 rcases Ar.1 hy with hy|hy
 ·have:=zcd x y hy
  exact⟨x,by simp,by omega,by omega⟩
 ·exact⟨y,by simp[hy],h1,h2⟩
def Fit (s t:Tree) (p q:Nat×Nat):Prop :=
 (q.1<p.1/\q.2<p.2/\(p.1<q.1+(nd s q.1).size↔p.2<q.2+(nd t q.2).size))\/(p.1<q.1/\p.2<q.2/\(q.1<p.1+(nd s p.1).size↔q.2<p.2+(nd t p.2).size))
theorem Fit.symm {p q:Nat×Nat} (h:Fit s t p q):Fit s t q p:=Or.symm h
def csum (s t:Tree) (l:J1):Nat:=(l.map fun p=>cost (nd s p.1) (nd t p.2)).sum
theorem zaci (s t:Tree) (l m:J1):csum s t (l++m)=csum s t l+csum s t m:=by simp[csum]
theorem zbab (s t:Tree) (a b:Nat) (F G:List TN) (hF:RepT s a F) (hG:RepT t b G) (oF:ordF F) (oG:ordF G) :
 (∀ p∈prT F G,InF s F p.1/\InF t G p.2)/\(prT F G).Pairwise (Fit s t)/\(∀ p∈prT F G,p.1<s.size/\p.2<t.size/\cost (nd s p.1) (nd t p.2)<3) /\
  fd (F.map (·.1)) (G.map (·.1))+2*(prT F G).length=fsz F+fsz G+csum s t (prT F G):=by
 have key:∀(n:Nat) (a b:Nat) (F G:List TN),fsz F+fsz G<n->RepT s a F->RepT t b G->ordF F->ordF G ->
  (∀ p∈prT F G,InF s F p.1/\InF t G p.2)/\(prT F G).Pairwise (Fit s t)/\(∀ p∈prT F G,p.1<s.size/\p.2<t.size/\cost (nd s p.1) (nd t p.2)<3) /\
  fd (F.map (·.1)) (G.map (·.1))+2*(prT F G).length=fsz F+fsz G+csum s t (prT F G):=by
  intro n
  induction n with
  |zero=>intro a b F G h;omega
  |succ n ih =>
   intro a b F G h hF hG oF oG
   cases F with
   |nil =>
    rw[zaia,Cc,zcr]
    exact⟨by simp,List.Pairwise.nil,by simp,by simp[fsz,csum,lsize]⟩
   |cons x F =>
    cases G with
    |nil =>
     rw[zacg,Cc,zek]
     exact⟨by simp,List.Pairwise.nil,by simp,by simp[fsz,csum,lsize]⟩
    |cons y G =>
     have h1:=zhm x
     have h2:=zhm y
     have hx:=hF.has
     have hy:=hG.has
     have oF':=oF
     have oG':=oG
     unfold ordF at oF' oG'
     rw[B8]at oF' oG'
     rw[zach]
     simp only[zec]at h
     split
     ·rename_i hm
      have hcl:cost x.1 y.1<3:=by
       refine znh (t:=x.1) (u:=y.1) (F:=F.map (·.1)) (G:=G.map (·.1)) ?_
       rw[<- zis,<-zis];exact hm
      obtain⟨a1,a2,a3,a4⟩:=ih _ _ _ _ (by omega) hF.kids hG.kids (zqp x) (zqp y)
      obtain⟨b1,b2,b3,b4⟩:=ih _ _ _ _ (by omega) hF.rest hG.rest oF'.2 oG'.2
      refine⟨?_,?_,?_,?_⟩
      ·intro p hp
       rcases Ar.1 hp with hp|hp
       ·rcases Ar.1 hp with hp|hp
        ·obtain⟨⟨k,c1,c2,c3⟩,⟨k',d1,d2,d3⟩⟩:=a1 p hp
         have e1:=zcd x k c1
         have e2:=zcd y k' d1
         exact⟨⟨x,by simp,by omega,by omega⟩,⟨y,by simp,by omega,by omega⟩⟩
        ·obtain⟨⟨k,c1,c2⟩,⟨k',d1,d2⟩⟩:=b1 p hp
         exact⟨⟨k,by simp[c1],c2⟩,⟨k',by simp[d1],d2⟩⟩
       ·simp at hp;subst hp
        exact⟨⟨x,by simp,by simp,by rw[hx.nd];simp⟩,⟨y,by simp,by simp,by rw[hy.nd];simp⟩⟩
      ·rw[Cy,Cy]
       refine⟨⟨a2,b2,?_⟩,BV _ _,?_⟩
       ·intro p hp q hq
        obtain⟨⟨k,c1,c2,c3⟩,⟨k',d1,d2,d3⟩⟩:=a1 p hp
        obtain⟨⟨z,e1,e2,e3⟩,⟨z',f1,f2,f3⟩⟩:=b1 q hq
        have g1:=zcd x k c1
        have g2:=zcd y k' d1
        have g3:=oF'.1 z e1
        have g4:=oG'.1 z' f1
        have s1:=zab (nd s q.1)
        have s2:=zab (nd t q.2)
        left
        exact⟨by omega,by omega,by omega⟩
       ·intro p hp q hq
        simp at hq;subst hq
        rcases Ar.1 hp with hp|hp
        ·obtain⟨⟨k,c1,c2,c3⟩,⟨k',d1,d2,d3⟩⟩:=a1 p hp
         have g1:=zcd x k c1
         have g2:=zcd y k' d1
         have s1:=zab (nd s p.1)
         have s2:=zab (nd t p.2)
         left
         refine⟨by dsimp only;omega,by dsimp only;omega,?_⟩
         rw[hx.nd,hy.nd]
         constructor<;>intro _<;>dsimp only<;>omega
        ·obtain⟨⟨z,e1,e2,e3⟩,⟨z',f1,f2,f3⟩⟩:=b1 p hp
         have g3:=oF'.1 z e1
         have g4:=oG'.1 z' f1
         have s1:=zab (nd s p.1)
         have s2:=zab (nd t p.2)
         right
         refine⟨by dsimp only;omega,by dsimp only;omega,?_⟩
         dsimp only
         constructor<;>intro _<;>omega
      ·intro p hp
       rcases Ar.1 hp with hp|hp
       ·rcases Ar.1 hp with hp|hp
        ·exact a3 p hp
        ·exact b3 p hp
       ·simp at hp;subst hp
        refine⟨hx.lt,hy.lt,?_⟩
        rw[hx.nd,hy.nd];exact hcl
      ·have e:csum s t [(x.2,y.2)]=cost x.1 y.1:=by
        simp only[csum,At,Cc,List.sum_cons,List.sum_nil,Bi]
        rw[hx.nd,hy.nd]
       rw[zaci,zaci,e,hm]
       simp only[Af,AN,zec]
       omega
     ·split
      ·rename_i hd
       obtain⟨a1,a2,a3,a4⟩:=ih _ _ (kidsT x++F) (y::G) (by simp only[zec,zkz];omega) hF.opened hG oF.opened oG
       refine⟨fun p hp=>⟨(a1 p hp).1.opened,(a1 p hp).2⟩,a2,a3,?_⟩
       rw[hd]
       simp only[zec,zkz]at a4 ⊢
       omega
      ·rename_i hm hd
       have hf:=zir x.1 y.1 (F.map (·.1)) (G.map (·.1))
       obtain⟨a1,a2,a3,a4⟩:=ih _ _ (x::F) (kidsT y++G) (by simp only[zec,zkz];omega) hF hG.opened oF oG.opened
       refine⟨fun p hp=>⟨(a1 p hp).1,(a1 p hp).2.opened⟩,a2,a3,?_⟩
       simp only[At,AC,zis]at hm hd a4 ⊢
       simp only[zec,zkz]at a4 ⊢
       omega
 exact key _ a b F G (Al _) hF hG oF oG
end
end Go.Ideal
namespace Go.Ideal
open Go
set_option maxHeartbeats 1000000
theorem zaem (k:Option (List Tree)) (h:∀t∈klist k,∀H,CW tr.look F_Q48 [tagg t] H=some (J4 t.size,H)) (hs:lsize (klist k)<1000000000000) (Q:J0)
 (hQ:Q .normal [(3, .int .i64 (lsize (klist k)+1:Nat))] ⟨[],[]⟩) :
 wpLoop (CW tr.look) 19 m_Q48_0 l_Q48_0 (blkK 0 b_Q48_0 Q) [(3, .int .i64 1),(7, .v (.p (kval k))),(8, .int .i64 (klist k).length),(9, .int .i64 0)] ⟨[],[]⟩:=by
 refine zac (α:=Nat×Nat) (fun a=>[(3, .int .i64 a.2),(7, .v (.p (kval k))),(8, .int .i64 (klist k).length),(9, .int .i64 a.1)]) (fun a=>⟨[],[]⟩)
  (fun a=>a.1<=(klist k).length/\a.2+lsize ((klist k).drop a.1)=lsize (klist k)+1) (fun a=>(klist k).length-a.1) ?_ (0,1) ⟨by omega,by simp;omega⟩
 rintro⟨j,acc⟩ ⟨hj,ha⟩ L hL
 dsimp only at hj ha hL ⊢
 dsimp only[l_Q48_0]
 by_cases hjl:j<(klist k).length
 ·have hl:=zso hjl
  have hc:=h _ (A4 hjl)
  have:=zap (klist k)
  have:=zio hjl
  simp(disch:=omega) [zcu,zae,hc,zaa]
  exact hL (j+1,acc+(klist k)[j].size) ⟨by dsimp only;omega,by dsimp only;omega⟩ (by dsimp only;omega)
 ·obtain rfl:j=(klist k).length:=by omega
  simp[lsize]at ha
  subst ha
  simp -implicitDefEqProofs
  simpa using hQ
theorem zanc:∀(n:Nat) (t:Tree),t.size<n->n<=1000000000000->∀(H:J2),CW tr.look F_Q48 [tagg t] H=some (J4 t.size,H):=by
 intro n
 induction n with
 |zero=>intro t h;omega
 |succ n ih =>
  intro t h hb H
  have ht:=zag t
  refine zaj look_Q48 rfl (by simp) rfl ?_
  dsimp only[i_Q48,c_Q48]
  simp -implicitDefEqProofs
  refine zaem _ (fun u hu H=>ih u (by have:=zan hu;omega) (by omega) H) (by omega) _ ?_
  simp[ht]
mutual
def Tree.deep:Tree->Nat
 | .mk _ _ _ _ none=>1
 | .mk _ _ _ _ (some l)=>ldeep l+1
def ldeep:List Tree->Nat
 | []=>0
 |t::l=>max t.deep (ldeep l)
end
theorem zni (t:Tree):t.deep=ldeep (klist t.kids)+1:=by
 cases t with
 |mk a b c d e=>cases e<;>simp[Tree.deep,Tree.kids,klist,ldeep]
theorem zuj:∀(n:Nat) (t:Tree),t.size<n->t.deep<=t.size:=by
 intro n
 induction n with
 |zero=>intro t h;omega
 |succ n ih =>
  intro t h
  have ht:=zag t
  have:∀l:List Tree,lsize l<n->ldeep l<=lsize l:=by
   intro l
   induction l with
   |nil=>intro _;simp[ldeep]
   |cons u l ihl =>
    intro hl
    simp only[lsize]at hl
    have h1:=ih u (by omega)
    have h2:=ihl (by omega)
    have:=zab u
    simp only[ldeep,lsize]
    omega
  have:=this (klist t.kids) (by omega)
  rw[zni]
  omega
theorem zxo:∀ {l:List Tree} {j:Nat} (h:j<l.length),max (l[j].deep) (ldeep (l.drop (j+1)))=ldeep (l.drop j):=by
 intro l j h
 rw[Av h,ldeep]
theorem zaaj (k:Option (List Tree)) (h:∀t∈klist k,∀H,CW tr.look F_Q49 [tagg t] H=some (J4 t.deep,H)) (hs:lsize (klist k)<1000000000000) (Q:J0)
 (hQ:Q .normal [(3, .int .i64 (ldeep (klist k):Nat))] ⟨[],[]⟩) :
 wpLoop (CW tr.look) 20 m_Q49_0 l_Q49_0 (blkK 0 b_Q49_0 Q) [(3, .int .i64 0),(7, .v (.p (kval k))),(8, .int .i64 (klist k).length),(9, .int .i64 0)] ⟨[],[]⟩:=by
 refine zac (α:=Nat×Nat) (fun a=>[(3, .int .i64 a.2),(7, .v (.p (kval k))),(8, .int .i64 (klist k).length),(9, .int .i64 a.1)]) (fun a=>⟨[],[]⟩)
  (fun a=>a.1<=(klist k).length/\max a.2 (ldeep ((klist k).drop a.1))=ldeep (klist k)) (fun a=>(klist k).length-a.1) ?_ (0,0) ⟨by omega,by simp⟩
 rintro⟨j,acc⟩ ⟨hj,ha⟩ L hL
 dsimp only at hj ha hL ⊢
 dsimp only[l_Q49_0]
 by_cases hjl:j<(klist k).length
 ·have hl:=zxo hjl
  have hc:=h _ (A4 hjl)
  have:=zap (klist k)
  have:=zuj _ (klist k)[j] (Al _)
  have:=zio hjl
  have hm:evalExt (acc:Int) true [J4 ((klist k)[j].deep:Nat)]=some ((max acc (klist k)[j].deep:Nat):Int):=by
   simp only[evalExt,if_true]
   congr 1
   split<;>omega
  simp(disch:=omega) [zcu,zae,hc,zaa,hm]
  exact hL (j+1,max acc (klist k)[j].deep) ⟨by dsimp only;omega,by dsimp only;omega⟩ (by dsimp only;omega)
 ·obtain rfl:j=(klist k).length:=by omega
  simp[ldeep]at ha
  subst ha
  simp -implicitDefEqProofs
  simpa using hQ
theorem zaib:∀(n:Nat) (t:Tree),t.size<n->n<=1000000000000->∀(H:J2),CW tr.look F_Q49 [tagg t] H=some (J4 (t.deep:Nat),H):=by
 intro n
 induction n with
 |zero=>intro t h;omega
 |succ n ih =>
  intro t h hb H
  have ht:=zag t
  have hd:=zni t
  have hd2:=zuj _ t h
  refine zaj look_Q49 rfl (by simp) rfl ?_
  dsimp only[i_Q49,c_Q49]
  simp -implicitDefEqProofs
  refine zaaj _ (fun u hu H=>ih u (by have:=zan hu;omega) (by omega) H) (by omega) _ ?_
  simp(disch:=omega) [zaa,hd]
def badC (c:UInt8):Bool:=c.toNat==9||c.toNat==10||c.toNat==12||c.toNat==32||c.toNat==0||c.toNat==34||c.toNat==39||c.toNat==62||c.toNat==47||c.toNat==61||c.toNat==60||(decide (65<=c.toNat)&&decide (c.toNat<=90))
def nameB (s:Bytes):Bool:=decide (1<=s.length)&&decide (s.length<=32)&&s.all fun c=>!badC c
theorem zaen (s:Bytes) (hs:s.length<=32) (Q:J0)
 (h1:(s.all fun c=>!badC c)=true->Q .normal [] ⟨[],[]⟩) (h2:(s.all fun c=>!badC c)=false->∀E,lookE E 2 = .bool false->Q .ret E ⟨[],[]⟩) :
 wpLoop (CW tr.look) 40 m_Q105_0 l_Q105_0 (blkK 0 b_Q105_0 Q) [(0, .str s),(13, .int .i64 s.length),(14, .int .i64 0)] ⟨[],[]⟩:=by
 refine zac (α:=Nat) (fun j=>[(0, .str s),(13, .int .i64 s.length),(14, .int .i64 j)]) (fun _=>⟨[],[]⟩)
  (fun j=>j<=s.length/\(s.take j).all (fun c=>!badC c)=true) (fun j=>s.length-j) ?_ 0 ⟨by omega,by simp⟩
 rintro j ⟨hj,ht⟩ L hL
 dsimp only[l_Q105_0]
 by_cases hjl:j<s.length
 ·have hb:=zws hjl
  obtain⟨c,hc⟩:∃c,s[j]=c:=⟨_,rfl⟩
  rw[hc]at hb
  cases hbad:badC c with
  |false =>
   simp[badC]at hbad
   have g1:¬(c.toNat:Int)=9:=by omega
   have g2:¬(c.toNat:Int)=10:=by omega
   have g3:¬(c.toNat:Int)=12:=by omega
   have g4:¬(c.toNat:Int)=32:=by omega
   have g5:¬(c.toNat:Int)=0:=by omega
   have g6:¬(c.toNat:Int)=34:=by omega
   have g7:¬(c.toNat:Int)=39:=by omega
   have g8:¬(c.toNat:Int)=62:=by omega
   have g9:¬(c.toNat:Int)=47:=by omega
   have ga:¬(c.toNat:Int)=61:=by omega
   have gb:¬(c.toNat:Int)=60:=by omega
   have hnext:L [(0,SV.str s),(13,SV.int IntKind.i64 s.length),(14,SV.int IntKind.i64 (j+1))] ⟨[],[]⟩:=by
    refine hL (j+1) ⟨by omega,?_⟩ (by omega)
    have hcb:badC c=false:=by simp[badC];exact hbad
    rw[AQ,List.all_append,ht,Ac hjl,hc]
    simp[hcb]
   by_cases hu:(65:Int)<=c.toNat
   ·have hv:¬(c.toNat:Int)<=90:=by omega
    simp(disch:=omega) [hb,zaa]
    exact hnext
   ·simp(disch:=omega) [hb,zaa]
    exact hnext
  |true =>
   have hall:(s.all fun c=>!badC c)=false:=by
    rw[Cu]
    intro h
    rw[BD]at h
    have:=h s[j] (A4 hjl)
    rw[hc,hbad]at this
    cases this
   have h2:=h2 hall
   simp[badC]at hbad
   rcases(show(c.toNat:Int)=9\/(c.toNat:Int)=10\/(c.toNat:Int)=12\/(c.toNat:Int)=32\/(c.toNat:Int)=0\/(c.toNat:Int)=34\/(c.toNat:Int)=39\/(c.toNat:Int)=62\/(c.toNat:Int)=47\/(c.toNat:Int)=61\/(c.toNat:Int)=60\/(65<=(c.toNat:Int)/\(c.toNat:Int)<=90)by omega)with g|g|g|g|g|g|g|g|g|g|g|g
   case inr.inr.inr.inr.inr.inr.inr.inr.inr.inr.inr =>
    have g1:¬(c.toNat:Int)=9:=by omega
    have g2:¬(c.toNat:Int)=10:=by omega
    have g3:¬(c.toNat:Int)=12:=by omega
    have g4:¬(c.toNat:Int)=32:=by omega
    have g5:¬(c.toNat:Int)=0:=by omega
    have g6:¬(c.toNat:Int)=34:=by omega
    have g7:¬(c.toNat:Int)=39:=by omega
    have g8:¬(c.toNat:Int)=62:=by omega
    have g9:¬(c.toNat:Int)=47:=by omega
    have ga:¬(c.toNat:Int)=61:=by omega
    have gb:¬(c.toNat:Int)=60:=by omega
    simp(disch:=omega) [hb]
    exact h2 _ rfl
   all_goals
    simp(disch:=omega) [hb,g]
    exact h2 _ rfl
 ·obtain rfl:j=s.length:=by omega
  simp -implicitDefEqProofs
  rw[AT]at ht
  exact h1 ht
theorem zacj (s:Bytes) (H:J2):CW tr.look F_Q105 [.p (.str s)] H=some (.p (.bool (nameB s)),H):=by
 refine zaj look_Q105 rfl (by simp) rfl ?_
 dsimp only[i_Q105,c_Q105]
 by_cases h0:s=[]
 ·subst h0
  simp[nameB]
 ·have hl0:1<=s.length:=by cases s with|nil=>exact absurd rfl h0|cons a l=>simp
  by_cases h1:32<s.length
  ·have h1':(32:Int)<s.length:=by omega
   have:¬s.length<=32:=by omega
   simp[nameB,h0,h1',this]
  ·have h1':¬(32:Int)<s.length:=by omega
   have h3:s.length<=32:=by omega
   simp[h0,h1']
   refine zaen s h3 _ (fun h=>?_) (fun h E hE=>?_)
   ·simp[nameB,h,hl0,h3]
   ·simp[nameB,h,hE]
end Go.Ideal
namespace Go.Ideal
open Go
set_option maxHeartbeats 4000000
set_option maxRecDepth 20000
attribute [-simp] getElem?_pos
theorem zed (a b:Int) (H:J2):CW tr.look F_Q32 [J4 a, J4 b] H=some (J4 (icmp a b),H):=by
 have hn:∀(a:Int) (H:J2),CW tr.look F_Q68 [J4 a] H=some (.p (.bool false),H):=by
  intro a H
  refine zaj look_Q68 rfl (by simp) rfl ?_
  dsimp only[i_Q68,c_Q68]
  simp(disch:=omega) []
 refine zaj look_Q32 rfl (by simp) rfl ?_
 dsimp only[i_Q32,c_Q32]
 unfold icmp sgn
 by_cases h1:a<b
 ·simp(disch:=omega) [hn,h1]
 ·by_cases h2:b<a
  ·simp(disch:=omega) [hn,h1,h2]
  ·simp(disch:=omega) [hn,h1,h2]
def dice (p q r u:Nat):Int:=icmp ((if q=0 then 0 else p)*(if u=0 then 1 else u):Nat) ((if u=0 then 0 else r)*(if q=0 then 1 else q):Nat)
theorem zatq {a b:Nat} (ha:a<=1000000000) (hb:b<=1000000000):a*b<=1000000000000000000:=Bo (Nat.mul_le_mul ha hb) (by decide)
theorem zuk {a b:Nat} (ha:a<=1000000000) (hb:b<=1000000000):((a:Int)*(b:Int))=((a*b:Nat):Int)/\a*b<=1000000000000000000:=⟨by simp,zatq ha hb⟩
theorem zatr (p q r u:Nat) (hp:p<=1000000000) (hq:q<=1000000000) (hr:r<=1000000000) (hu:u<=1000000000) (H:J2) :
 CW tr.look F_Q62 [J4 p, J4 q, J4 r, J4 u] H=some (J4 (dice p q r u),H):=by
 refine zaj look_Q62 rfl (by simp) rfl ?_
 dsimp only[i_Q62,c_Q62]
 have h1:=zuk hp hu
 have h2:=zuk hr hq
 unfold dice
 by_cases hq0:q=0<;>by_cases hu0:u=0
 ·subst hq0 hu0
  simp(disch:=omega) [zaa,zed]
 ·subst hq0
  simp(disch:=omega) [zaa,zed,hu0]
 ·subst hu0
  simp(disch:=omega) [zaa,zed,hq0]
 ·simp only[hq0,hu0,if_false]
  generalize p*u=m1 at *
  generalize r*q=m2 at *
  have e1:=h1.1
  have e2:=h2.1
  have b1:=h1.2
  have b2:=h2.2
  simp(disch:=omega) [zaa,zed,e1,e2]
def half (p q:Nat):Bool:=decide (q<4*p)
theorem zats (p q:Nat) (hp:p<=1000000000) (_:q<=1000000000) (H:J2) :
 CW tr.look F_Q63 [J4 p, J4 q] H=some (.p (.bool (half p q)),H):=by
 refine zaj look_Q63 rfl (by simp) rfl ?_
 dsimp only[i_Q63,c_Q63]
 unfold half
 by_cases h:q<4*p
 ·have:(q:Int)<4*(p:Int):=by omega
  simp(disch:=omega) [zaa,h]
 ·have:¬(q:Int)<4*(p:Int):=by omega
  simp(disch:=omega) [zaa,h]
end Go.Ideal
namespace Go.Ideal
open Go
set_option maxHeartbeats 1000000
attribute [-simp] getElem?_pos
theorem zqq {Γ:Prog} {F:IFun} {k:FuncId} {args al:J3} {H:J2} {r:IVal} (hk:Γ k=some F) (hp:F.pure=true) (hf:freezeAll H args=some al) (hpl:plainArgs al=true) (hr:scalRes r=true) (h:CW Γ k al []=some (r,[])):CW Γ k args H=some (r,H):=by
 have h:=zhr.1 h
 generalize hq:(r,([]:J2))=q at h
 cases h with
 |base hn _=>rw[hk]at hn;cases hn
 |more hn _ _ _=>rw[hk]at hn;cases hn
 |mk C hC hb =>
  subst hq
  refine zhr.2 (.mk C hC ?_)
  unfold callBody at hb ⊢
  simp only[hk,hp,zbc hpl]at hb
  simp only[hk,hp,hf]
  cases hrun:runBody C loopW F al []with
  |none=>rw[hrun]at hb;cases hb
  |some p =>
   obtain⟨v,H'⟩:=p
   rw[hrun]at hb
   dsimp only at hb ⊢
   cases hz:freezeRes H' v with
   |none=>rw[hz]at hb;cases hb
   |some w =>
    rw[hz]at hb
    dsimp only at hb ⊢
    rw[hpl,Db]at hb
    injection hb with hb
    injection hb with hb _
    subst hb
    rw[hr,Db,Bool.or_true]
def attrsG:Bytes->List (Bytes×Bytes)->Bool
 |_,[]=>true
 |last,a::l=>bytesLess last a.1&&nameB a.1&&decide (a.2.length<=4096)&&attrsG a.1 l
def attrsB (l:List (Bytes×Bytes)):Bool:=decide (l.length<=12)&&attrsG [] l
theorem zaak (a:Option Attrs) (hs:(alist a).length<=12) (Q:J0)
 (h1:attrsG [] (alist a)=true->Q .normal [] ⟨[],[]⟩) (h2:attrsG [] (alist a)=false->∀E B,lookE E 2 = .bool false->Q .ret E ⟨B,[]⟩) :
 wpLoop (CW tr.look) 34 m_Q106_0 l_Q106_0 (blkK 0 b_Q106_0 Q) [(3, .str []),(9, .v (.p (aval a))),(10, .int .i64 (alist a).length),(11, .int .i64 0)] ⟨[],[]⟩:=by
 refine zac (α:=Nat×Bytes) (fun p=>[(3, .str p.2),(9, .v (.p (aval a))),(10, .int .i64 (alist a).length),(11, .int .i64 p.1)]) (fun _=>⟨[],[]⟩)
  (fun p=>p.1<=(alist a).length/\attrsG p.2 ((alist a).drop p.1)=attrsG [] (alist a)) (fun p=>(alist a).length-p.1) ?_ (0,[]) ⟨by simp,by simp⟩
 rintro⟨j,last⟩ ⟨hj,ht⟩ L hL
 dsimp only at hj ht hL ⊢
 dsimp only[l_Q106_0]
 by_cases hjl:j<(alist a).length
 ·rw[Av hjl,attrsG]at ht
  cases hb:bytesLess last (alist a)[j].1
  ·rw[hb]at ht
   simp(disch:=omega) [zcm,hb]
   exact h2 (by rw[<- ht];rfl) _ _ rfl
  ·have hn:=zacj (alist a)[j].1
   cases hc:nameB (alist a)[j].1
   ·rw[hc]at hn
    rw[hb,hc]at ht
    simp(disch:=omega) [zcm,hb,hn]
    exact h2 (by rw[<- ht];rfl) _ _ rfl
   ·rw[hc]at hn
    by_cases hv:(alist a)[j].2.length<=4096
    ·have hv':¬(4096:Int)<(alist a)[j].2.length:=by omega
     simp(disch:=omega) [zcm,hb,hn,zaa]
     exact hL (j+1,(alist a)[j].1) ⟨by dsimp only;omega,by dsimp only;rw[<- ht,hb,hc];simp[hv]⟩ (by dsimp only;omega)
    ·have hv':(4096:Int)<(alist a)[j].2.length:=by omega
     simp(disch:=omega) [zcm,hb,hn]
     exact h2 (by rw[<- ht];simp[hv]) _ _ rfl
 ·obtain rfl:j=(alist a).length:=by omega
  simp -implicitDefEqProofs
  refine h1 ?_
  rw[Cn]at ht
  exact ht.symm
theorem zaic (a:Option Attrs) (H:J2):CW tr.look F_Q106 [.p (aval a)] H=some (.p (.bool (attrsB (alist a))),H):=by
 refine zaj look_Q106 rfl (by simp) rfl ?_
 dsimp only[i_Q106,c_Q106]
 by_cases hl:(alist a).length<=12
 ·have hl':¬(12:Int)<(alist a).length:=by omega
  simp[hl']
  refine zaak a hl _ (fun h=>?_) (fun h E B hE=>?_)
  ·simp[attrsB,h,hl]
  ·simp[attrsB,h,hE]
 ·have hl':(12:Int)<(alist a).length:=by omega
  simp[hl',attrsB,hl]
theorem zxp (a b:Bytes):CW tr.look F_Q50 [.p (.slice 1 2 [.str a, .str b])] []=some (.p (.bool (decide (a=[])&&decide (b=[]))),[]):=by
 refine zaj look_Q50 rfl (by simp) rfl ?_
 dsimp only[i_Q50,c_Q50]
 simp -implicitDefEqProofs
 have e0:∀a b:Bytes,idxS 1 (.p (.slice 1 2 [.str a, .str b])) (J4 0)=some (.p (.ptr [.str a, .str b])):=fun _ _=>rfl
 have e1:∀a b:Bytes,idxS 1 (.p (.slice 1 2 [.str a, .str b])) (J4 1)=some (.p (.ptr [.str b])):=fun _ _=>rfl
 by_cases ha:a=[]
 ·refine zbd ?_
  dsimp only[l_Q50_0]
  simp(disch:=omega) [e0,ha,zaa]
  by_cases hb:b=[]
  ·refine zbd ?_
   simp(disch:=omega) [e1,hb,zaa]
   refine zbd ?_
   simp(disch:=omega)
   exact⟨ha,hb⟩
  ·refine zbd ?_
   simp(disch:=omega) [e1,hb]
 ·refine zbd ?_
  dsimp only[l_Q50_0]
  simp(disch:=omega) [e0,ha]
theorem zaid (a b:Bytes) (k:Nat) (H:J2) (hk:H[k]? = some (.cells [.p (.str a), .p (.str b)] 1 0 false)):CW tr.look F_Q50 [.slice k 0 0 2] H=some (.p (.bool (decide (a=[])&&decide (b=[]))),H):=by
 refine zqq (F:=i_Q50) (al:=[.p (.slice 1 2 [.str a, .str b])]) look_Q50 rfl ?_ rfl rfl (zxp a b)
 have hz:=zdo (H:=H) (k:=k) (e:=1) (n:=2) (v := .slice k 0 0 2) (xs:=[.str a, .str b]) ⟨0,_,false,rfl,hk,by simp,rfl⟩
 simp only[freezeAll,freezeOne,hz]
def leafB (k:Int) (n x:Bytes):Bool :=
 if k=3 then decide (n=[])&&(decide (x≠[])&&decide (x.length<=4096))
 else if k=4 then decide (n=[])&&decide (x.length<=4096)
 else if k=5 then decide (x=[])&&decide (n.length<=32)
 else false
mutual
def nodeB:Tree->Bool
 | .mk k n x a none=>if k=2 then nameB n&&decide (x=[])&&attrsB (alist a)else decide ((alist a).length=0)&&leafB k n x
 | .mk k n x a (some l)=>if k=2 then nameB n&&decide (x=[])&&attrsB (alist a)&&kidsB false l else decide ((alist a).length=0)&&decide (l.length=0)&&leafB k n x
def kidsB (root:Bool):List Tree->Bool
 | []=>true
 |t::l=>nodeB t&&(decide (t.kind≠5)||root)&&kidsB root l
end
theorem zjp (t:Tree):nodeB t=if t.kind=2 then nameB t.name&&decide (t.text=[])&&attrsB (alist t.attrs)&&kidsB false (klist t.kids)else decide ((alist t.attrs).length=0)&&decide ((klist t.kids).length=0)&&leafB t.kind t.name t.text:=by
 cases t with
 |mk k n x a c=>cases c<;>simp[nodeB,Tree.kind,Tree.name,Tree.text,Tree.attrs,Tree.kids,klist,kidsB]<;>rfl
def checkB (t:Tree):Bool:=decide (t.kind=1)&&decide (t.size<=300)&&decide (t.deep<=60)&&(decide (t.name=[])&&decide (t.text=[]))&&decide ((alist t.attrs).length=0)&&kidsB true (klist t.kids)
theorem zaeo (t:Tree) {c1 c2 c3:SV} (h:∀u∈klist t.kids,∀H,CW tr.look F_Q82 [tagg u] H=some (.p (.bool (nodeB u)),H)) (hl:(klist t.kids).length<1000000000000) (Q:J0)
 (h1:kidsB (decide (t.kind=1)) (klist t.kids)=true->Q .normal [] ⟨[],[]⟩) (h2:kidsB (decide (t.kind=1)) (klist t.kids)=false->∀E B,lookE E 2 = .bool false->Q .ret E ⟨B,[]⟩) :
 wpLoop (CW tr.look) 26 m_Q51_0 l_Q51_0 (blkK 0 b_Q51_0 Q) [(1, .box 1 0),(6, .v (.p (kval t.kids))),(7, .int .i64 (klist t.kids).length),(8, .int .i64 0)] ⟨[(1,some ⟨[.int .i64 t.kind,c1,c2,c3, .v (.p (kval t.kids))],5⟩)],[]⟩:=by
 refine zac (α:=Nat) (fun j=>[(1, .box 1 0),(6, .v (.p (kval t.kids))),(7, .int .i64 (klist t.kids).length),(8, .int .i64 j)]) (fun _=>⟨[(1,some ⟨[.int .i64 t.kind,c1,c2,c3, .v (.p (kval t.kids))],5⟩)],[]⟩)
  (fun j=>j<=(klist t.kids).length/\kidsB (decide (t.kind=1)) ((klist t.kids).drop j)=kidsB (decide (t.kind=1)) (klist t.kids)) (fun j=>(klist t.kids).length-j) ?_ 0 ⟨by omega,by simp⟩
 rintro j ⟨hj,ht⟩ L hL
 dsimp only[l_Q51_0]
 by_cases hjl:j<(klist t.kids).length
 ·have hc:=h _ (A4 hjl)
  rw[Av hjl,kidsB]at ht
  obtain⟨u,hu⟩:∃u,(klist t.kids)[j]=u:=⟨_,rfl⟩
  have hi:=zcu hjl
  rw[hu]at hc ht hi
  cases hb:nodeB u
  ·rw[hb]at hc ht
   simp(disch:=omega) [hi,zae,hc]
   exact h2 (by rw[<- ht];rfl) _ _ rfl
  ·rw[hb]at hc ht
   by_cases h5:u.kind=5
   ·have h5':(u.kind=5)=True:=eq_true h5
    by_cases hr:t.kind=1
    ·have hr':(t.kind=1)=True:=eq_true hr
     simp(disch:=omega) [hi,zae,hc,zaa]
     exact hL (j+1) ⟨by omega,by rw[<- ht];simp[hr]⟩ (by omega)
    ·simp(disch:=omega) [hi,zae,hc]
     exact h2 (by rw[<- ht];simp[h5,hr]) _ _ rfl
   ·simp(disch:=omega) [hi,zae,hc,zaa]
    exact hL (j+1) ⟨by omega,by rw[<- ht];simp[h5]⟩ (by omega)
 ·obtain rfl:j=(klist t.kids).length:=by omega
  simp -implicitDefEqProofs
  refine h1 ?_
  rw[Cn]at ht
  exact ht.symm
theorem zack (t:Tree) (h:∀u∈klist t.kids,∀H,CW tr.look F_Q82 [tagg u] H=some (.p (.bool (nodeB u)),H)) (hl:(klist t.kids).length<1000000000000) (H:J2):CW tr.look F_Q51 [tagg t] H=some (.p (.bool (kidsB (decide (t.kind=1)) (klist t.kids))),H):=by
 refine zaj look_Q51 rfl (by simp) rfl ?_
 dsimp only[i_Q51,c_Q51]
 simp -implicitDefEqProofs
 refine zaeo t h hl _ (fun h=>?_) (fun h E B hE=>?_)
 ·simp[h]
 ·simp[h,hE]
end Go.Ideal
namespace Go.Ideal
open Go
set_option maxHeartbeats 2000000
attribute [-simp] getElem?_pos
theorem zand (t:Tree) (h:∀H,CW tr.look F_Q51 [tagg t] H=some (.p (.bool (kidsB (decide (t.kind=1)) (klist t.kids))),H)) (H:J2):CW tr.look F_Q82 [tagg t] H=some (.p (.bool (nodeB t)),H):=by
 refine zaj look_Q82 rfl (by simp) rfl ?_
 dsimp only[i_Q82,c_Q82]
 rw[zjp]
 have hn:=zacj t.name
 have ha:=zaic t.attrs
 by_cases h2:t.kind=2
 ·have h2':(t.kind=2)=True:=eq_true h2
  have h1:¬t.kind=1:=by omega
  simp only[h1,decide_false]at h
  cases hb:nameB t.name
  ·rw[hb]at hn
   simp[h2',hn]
  ·rw[hb]at hn
   by_cases hx:t.text=[]
   ·have hx':(t.text=[])=True:=eq_true hx
    cases hab:attrsB (alist t.attrs)
    ·rw[hab]at ha
     simp[h2',hn,hx',ha]
    ·rw[hab]at ha
     simp[h2',hn,hx',ha,zae,h]
   ·simp[h2',hn,hx]
 ·by_cases h3:(alist t.attrs).length=0
  ·by_cases h4:(klist t.kids).length=0
   ·have g3:¬(0:Int)<(alist t.attrs).length:=by omega
    have g4:¬(0:Int)<(klist t.kids).length:=by omega
    unfold leafB
    by_cases k3:t.kind=3
    ·have k3':(t.kind=3)=True:=eq_true k3
     have k2':(t.kind=2)=False:=eq_false h2
     by_cases hn:t.name=[]
     ·have hn':(t.name=[])=True:=eq_true hn
      by_cases hx:t.text=[]
      ·have hx':(t.text=[])=True:=eq_true hx
       simp[k2',k3',hn',hx',h3,h4]
      ·by_cases hy:t.text.length<=4096
       ·have hy':(t.text.length:Int)<=4096:=by omega
        simp[k2',k3',hn',hx,hy,hy',h3,h4]
       ·have hy':¬(t.text.length:Int)<=4096:=by omega
        simp[k2',k3',hn',hx,hy,hy',h3,h4]
     ·simp[k2',k3',hn,h3,h4]
    ·by_cases k4:t.kind=4
     ·have k4':(t.kind=4)=True:=eq_true k4
      by_cases hn:t.name=[]
      ·have hn':(t.name=[])=True:=eq_true hn
       by_cases hy:t.text.length<=4096
       ·have hy':(t.text.length:Int)<=4096:=by omega
        simp[h2,k3,k4',hn',hy,hy',h3,h4]
       ·have hy':¬(t.text.length:Int)<=4096:=by omega
        simp[h2,k3,k4',hn',hy,hy',h3,h4]
      ·simp[h2,k3,k4',hn,h3,h4]
     ·by_cases k5:t.kind=5
      ·have k5':(t.kind=5)=True:=eq_true k5
       by_cases hx:t.text=[]
       ·have hx':(t.text=[])=True:=eq_true hx
        by_cases hy:t.name.length<=32
        ·have hy':(t.name.length:Int)<=32:=by omega
         simp[h2,k3,k4,k5',hx',hy,hy',h3,h4]
        ·have hy':¬(t.name.length:Int)<=32:=by omega
         simp[h2,k3,k4,k5',hx',hy,hy',h3,h4]
       ·simp[h2,k3,k4,k5',hx,h3,h4]
      ·simp[h2,k3,k4,k5,h3,h4]
   ·have g3:¬(0:Int)<(alist t.attrs).length:=by omega
    have g4:(0:Int)<(klist t.kids).length:=by omega
    simp[h2,h3,h4]
  ·have g3:(0:Int)<(alist t.attrs).length:=by omega
   simp[h2,h3]
theorem zane:∀(n:Nat) (t:Tree),t.size<n->n<=1000000000000->∀H,CW tr.look F_Q82 [tagg t] H=some (.p (.bool (nodeB t)),H):=by
 intro n
 induction n with
 |zero=>intro t h;omega
 |succ n ih =>
  intro t h hb
  have ht:=zag t
  have hl:=zap (klist t.kids)
  exact zand t (zack t (fun u hu=>ih u (by have:=zan hu;omega) (by omega)) (by omega))
theorem zanf (t:Tree) (hs:t.size<1000000) (H:J2):CW tr.look F_Q51 [tagg t] H=some (.p (.bool (kidsB (decide (t.kind=1)) (klist t.kids))),H):=by
 have ht:=zag t
 have hl:=zap (klist t.kids)
 exact zack t (fun u hu=>zane 1000000 u (by have:=zan hu;omega) (by omega)) (by omega) H
theorem zel (t:Tree) (hs:t.size<1000000) (H:J2):CW tr.look F_Q20 [tagg t] H=some (.p (.bool (checkB t)),H):=by
 refine zaj look_Q20 rfl (by simp) rfl ?_
 dsimp only[i_Q20,c_Q20]
 have h1:=zanc 1000000 t hs (by omega)
 have h2:=zaib 1000000 t hs (by omega)
 have h3:=zanf t hs
 unfold checkB
 by_cases k1:t.kind=1
 ·have k1':(t.kind=1)=True:=eq_true k1
  simp only[k1,decide_true]at h3
  by_cases s1:t.size<=300
  ·have s1':(t.size:Int)<=300:=by omega
   by_cases s2:t.deep<=60
   ·have s2':(t.deep:Int)<=60:=by omega
    have h4:=zaid t.name t.text 0 [.cells [.p (.str t.name), .p (.str t.text)] 1 0 false] rfl
    by_cases n1:t.name=[]
    ·by_cases n2:t.text=[]
     ·simp only[eq_true n1,eq_true n2,decide_true,Bool.and_true]at h4
      by_cases a0:(alist t.attrs).length=0
      ·have a0':((alist t.attrs).length:Int)=0:=by omega
       have a1:alist t.attrs=[]:=Aw.1 a0
       simp[k1',zae,h1,s1',h2,s2',h4,a0',h3]
       simp[s1,s2,n1,n2,a1]
      ·have a0':¬((alist t.attrs).length:Int)=0:=by omega
       have a1:(alist t.attrs=[])=False:=eq_false fun e=>a0 (by rw[e];rfl)
       simp[k1',zae,h1,s1',h2,s2',h4,a1]
     ·simp only[eq_true n1,eq_false n2,decide_true,decide_false,A3]at h4
      simp[k1',zae,h1,s1',h2,s2',h4]
      simp[s1,s2,n1,n2]
    ·simp only[eq_false n1,decide_false,Bool.false_and]at h4
     simp[k1',zae,h1,s1',h2,s2',h4]
     simp[s1,s2,n1]
   ·have s2':¬(t.deep:Int)<=60:=by omega
    simp[k1',zae,h1,s1',h2,s2']
    simp[s1,s2]
  ·have s1':¬(t.size:Int)<=300:=by omega
   simp[k1',zae,h1,s1']
   simp[s1]
 ·simp[k1]
end Go.Ideal
namespace Go.Ideal
open Go
set_option maxHeartbeats 2000000
set_option maxRecDepth 20000
attribute [-simp] getElem?_pos
theorem zang (c:UInt8) (H:J2):CW tr.look F_Q131 [.p (.int .u8 c.toNat)] H=some (.p (.bool (c.toNat==9||c.toNat==10||c.toNat==12||c.toNat==32)),H):=by
 refine zaj look_Q131 rfl (by simp) rfl ?_
 dsimp only[i_Q131,c_Q131]
 by_cases g1:c.toNat=9
 ·have g1':(c.toNat:Int)=9:=by omega
  simp[g1]
 ·have g1':¬(c.toNat:Int)=9:=by omega
  by_cases g2:c.toNat=10
  ·have g2':(c.toNat:Int)=10:=by omega
   simp[g2]
  ·have g2':¬(c.toNat:Int)=10:=by omega
   by_cases g3:c.toNat=12
   ·have g3':(c.toNat:Int)=12:=by omega
    simp[g3]
   ·have g3':¬(c.toNat:Int)=12:=by omega
    by_cases g4:c.toNat=32
    ·have g4':(c.toNat:Int)=32:=by omega
     simp[g4]
    ·have g4':¬(c.toNat:Int)=32:=by omega
     simp[g1,g2,g3,g4,g1',g2',g3',g4']
theorem zaep (s:Bytes) (hs:s.length<=32) (Q:J0)
 (h1:(s.all fun c=>!badC c)=true->Q .normal [] ⟨[],[]⟩) (h2:(s.all fun c=>!badC c)=false->∀E,lookE E 2 = .bool false->Q .ret E ⟨[],[]⟩) :
 wpLoop (CW tr.look) 60 m_Q122_0 l_Q122_0 (blkK 0 b_Q122_0 Q) [(0, .str s),(3, .int .i64 0)] ⟨[],[]⟩:=by
 refine zac (α:=Nat) (fun j=>[(0, .str s),(3, .int .i64 j)]) (fun _=>⟨[],[]⟩)
  (fun j=>j<=s.length/\(s.take j).all (fun c=>!badC c)=true) (fun j=>s.length-j) ?_ 0 ⟨by omega,by simp⟩
 rintro j ⟨hj,ht⟩ L hL
 dsimp only[l_Q122_0]
 by_cases hjl:j<s.length
 ·have hb:=zws hjl
  obtain⟨c,hc⟩:∃c,s[j]=c:=⟨_,rfl⟩
  rw[hc]at hb
  have hbl:=zang c
  cases hbad:badC c with
  |false =>
   have hcb:=hbad
   simp[badC]at hbad
   have e0:(c.toNat==9||c.toNat==10||c.toNat==12||c.toNat==32)=false:=by simp;omega
   rw[e0]at hbl
   have g5:¬(c.toNat:Int)=0:=by omega
   have g6:¬(c.toNat:Int)=34:=by omega
   have g7:¬(c.toNat:Int)=39:=by omega
   have g8:¬(c.toNat:Int)=62:=by omega
   have g9:¬(c.toNat:Int)=47:=by omega
   have ga:¬(c.toNat:Int)=61:=by omega
   have gb:¬(c.toNat:Int)=60:=by omega
   have hnext:L [(0,SV.str s),(3,SV.int IntKind.i64 (j+1))] ⟨[],[]⟩:=by
    refine hL (j+1) ⟨by omega,?_⟩ (by omega)
    rw[AQ,List.all_append,ht,Ac hjl,hc]
    simp[hcb]
   by_cases hu:(65:Int)<=c.toNat
   ·have hv:¬(c.toNat:Int)<=90:=by omega
    simp(disch:=omega) [hb,zaa,hbl]
    exact hnext
   ·simp(disch:=omega) [hb,zaa,hbl]
    exact hnext
  |true =>
   have hall:(s.all fun c=>!badC c)=false:=by
    rw[Cu]
    intro h
    rw[BD]at h
    have:=h s[j] (A4 hjl)
    rw[hc,hbad]at this
    cases this
   have h2:=h2 hall
   simp[badC]at hbad
   cases e0:(c.toNat==9||c.toNat==10||c.toNat==12||c.toNat==32)with
   |true =>
    rw[e0]at hbl
    simp(disch:=omega) [hb,hbl]
    exact h2 _ rfl
   |false =>
    rw[e0]at hbl
    simp at e0
    rcases(show(c.toNat:Int)=0\/(c.toNat:Int)=34\/(c.toNat:Int)=39\/(c.toNat:Int)=62\/(c.toNat:Int)=47\/(c.toNat:Int)=61\/(c.toNat:Int)=60\/(65<=(c.toNat:Int)/\(c.toNat:Int)<=90)by omega)with g|g|g|g|g|g|g|g
    case inr.inr.inr.inr.inr.inr.inr =>
     have g5:¬(c.toNat:Int)=0:=by omega
     have g6:¬(c.toNat:Int)=34:=by omega
     have g7:¬(c.toNat:Int)=39:=by omega
     have g8:¬(c.toNat:Int)=62:=by omega
     have g9:¬(c.toNat:Int)=47:=by omega
     have ga:¬(c.toNat:Int)=61:=by omega
     have gb:¬(c.toNat:Int)=60:=by omega
     simp(disch:=omega) [hb,hbl]
     exact h2 _ rfl
    all_goals
     have hbl':=hbl
     rw[g]at hbl'
     simp(disch:=omega) [hb,g,hbl']
     exact h2 _ rfl
 ·obtain rfl:j=s.length:=by omega
  simp -implicitDefEqProofs
  rw[AT]at ht
  exact h1 ht
end Go.Ideal
namespace Go.Ideal
open Go
set_option maxHeartbeats 4000000
set_option maxRecDepth 20000
attribute [-simp] getElem?_pos
theorem zacl (s:Bytes) (H:J2):CW tr.look F_Q122 [.p (.str s)] H=some (.p (.bool (nameB s)),H):=by
 refine zaj look_Q122 rfl (by simp) rfl ?_
 dsimp only[i_Q122,c_Q122]
 by_cases h0:(s.length:Int)<1
 ·have:¬1<=s.length:=by omega
  simp[nameB,h0,this]
 ·have hl0:1<=s.length:=by omega
  by_cases h1:32<s.length
  ·have h1':(32:Int)<s.length:=by omega
   have:¬s.length<=32:=by omega
   simp[nameB,h0,h1',this]
  ·have h1':¬(32:Int)<s.length:=by omega
   have h3:s.length<=32:=by omega
   simp[h0,h1']
   refine zaep s h3 _ (fun h=>?_) (fun h E hE=>?_)
   ·simp[nameB,h,hl0,h3]
   ·simp[nameB,h,hE]
def prevN (l:List (Bytes×Bytes)) (j:Nat):Bytes:=if j=0 then[]else((l[j-1]?).map fun a=>a.1).getD []
theorem zanh {s:Bytes} (h:nameB s=true):bytesLess [] s=true:=by
 cases s with
 |nil=>simp[nameB]at h
 |cons a l=>rfl
theorem zaal (a:Option Attrs) (hs:(alist a).length<=12) (Q:J0)
 (h1:attrsG [] (alist a)=true->Q .normal [] ⟨[],[]⟩) (h2:attrsG [] (alist a)=false->∀E B,lookE E 2 = .bool false->Q .ret E ⟨B,[]⟩) :
 wpLoop (CW tr.look) 47 m_Q123_0 l_Q123_0 (blkK 0 b_Q123_0 Q) [(0, .v (.p (aval a))),(3, .int .i64 0)] ⟨[],[]⟩:=by
 refine zac (α:=Nat) (fun j=>[(0, .v (.p (aval a))),(3, .int .i64 j)]) (fun _=>⟨[],[]⟩)
  (fun j=>j<=(alist a).length/\attrsG (prevN (alist a) j) ((alist a).drop j)=attrsG [] (alist a)) (fun j=>(alist a).length-j) ?_ 0 ⟨by omega,by simp[prevN]⟩
 rintro j ⟨hj,ht⟩ L hL
 dsimp only[l_Q123_0]
 by_cases hjl:j<(alist a).length
 ·rw[Av hjl,attrsG]at ht
  have hi:=zcm hjl
  have hn:=zacl (alist a)[j].1
  have hnx:attrsG (prevN (alist a) (j+1)) ((alist a).drop (j+1))=attrsG (alist a)[j].1 ((alist a).drop (j+1)):=by
   simp[prevN,Ac hjl]
  cases hc:nameB (alist a)[j].1
  ·rw[hc]at hn ht
   simp(disch:=omega) [hi,hn]
   exact h2 (by rw[<- ht];simp) _ _ rfl
  ·have hc2:=hc
   rw[hc]at hn ht
   by_cases hv:(alist a)[j].2.length<=4096
   ·have hv':¬(4096:Int)<(alist a)[j].2.length:=by omega
    by_cases hj0:j=0
    ·subst hj0
     have hi0:idxS 2 (.p (aval a)) (J4 0)=_:=hi
     simp(disch:=omega) [hi0,hn,zaa]
     refine hL 1 ⟨by omega,?_⟩ (by omega)
     rw[hnx,<-ht]
     simp[prevN,zanh hc2,hv]
    ·have hj1:(0:Int)<j:=by omega
     have hjp:j-1<(alist a).length:=by omega
     have hip:=zcm hjp
     have hcast:((j-1:Nat):Int)=(j:Int)-1:=by omega
     rw[hcast]at hip
     have hpv:prevN (alist a) j=(alist a)[j-1].1:=by simp[prevN,hj0,Ac hjp]
     rw[hpv]at ht
     cases hb:bytesLess (alist a)[j-1].1 (alist a)[j].1
     ·rw[hb]at ht
      simp(disch:=omega) [hi,hn,zaa,hip,hb]
      exact h2 (by rw[<- ht];rfl) _ _ rfl
     ·rw[hb]at ht
      simp(disch:=omega) [hi,hn,zaa,hip,hb]
      refine hL (j+1) ⟨by omega,?_⟩ (by omega)
      rw[hnx,<-ht]
      simp[hv]
   ·have hv':(4096:Int)<(alist a)[j].2.length:=by omega
    simp(disch:=omega) [hi,hn]
    exact h2 (by rw[<- ht];simp[hv]) _ _ rfl
 ·obtain rfl:j=(alist a).length:=by omega
  simp -implicitDefEqProofs
  refine h1 ?_
  rw[Cn]at ht
  exact ht.symm
theorem zaie (a:Option Attrs) (H:J2):CW tr.look F_Q123 [.p (aval a)] H=some (.p (.bool (attrsB (alist a))),H):=by
 refine zaj look_Q123 rfl (by simp) rfl ?_
 dsimp only[i_Q123,c_Q123]
 by_cases hl:(alist a).length<=12
 ·have hl':¬(12:Int)<(alist a).length:=by omega
  simp[hl']
  refine zaal a hl _ (fun h=>?_) (fun h E B hE=>?_)
  ·simp[attrsB,h,hl]
  ·simp[attrsB,h,hE]
 ·have hl':(12:Int)<(alist a).length:=by omega
  simp[hl',attrsB,hl]
end Go.Ideal
