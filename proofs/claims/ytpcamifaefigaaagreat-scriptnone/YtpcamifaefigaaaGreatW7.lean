/-
  IDEAL SEMANTICS, 47: SUBTREES BEHIND THEIR KIDS; A SLICE WHOSE NEW LAST ELEMENT IS WRITTEN BEHIND THE APPENDING.
-/
import Derived.Test.YtpcamifaefigaaaGreatW6
namespace Go.Ideal
open Go
set_option linter.unusedSectionVars false
variable [Tabs]
mutual
def postS:Tree→List Tree
 | .mk k n x a ks=>postSK ks++[.mk k n x a ks]
def postSK:Option (List Tree)→List Tree
 |none=>[]
 |some l=>postSL l
def postSL:List Tree→List Tree
 | []=>[]
 |t::l=>postS t++postSL l
end
theorem zdp (t:Tree):postS t=postSL (klist t.kids)++[t]:=by
 obtain⟨k,n,x,a,ks⟩:=t
 cases ks<;>simp[postS,postSK,postSL,klist,Tree.kids]
theorem zbz:∀a b:List Tree,postSL (a++b)=postSL a++postSL b
 | [],b=>rfl
 |t::a,b=>by simp only[List.cons_append,postSL,zbz a b,List.append_assoc]
theorem zabe (t:Tree):∀(id:Nat) (p:Int) (d pl:Nat),(postT t id).map (fun i=>((visT t id p d pl)[i-id]?).map (·.t))=(postS t).map some∧∀i∈postT t id,id≤i∧i<id+t.size:=by
 have key:∀(n:Nat) (t:Tree),t.size<n→∀(id:Nat) (p:Int) (d pl:Nat),(postT t id).map (fun i=>((visT t id p d pl)[i-id]?).map (·.t))=(postS t).map some∧∀i∈postT t id,id≤i∧i<id+t.size:=by
  intro n
  induction n with
  |zero=>intro t h;omega
  |succ n ih =>
   intro t h id p d pl
   have ht:=zag t
   have hl:∀(l:List Tree),lsize l<n→∀(id p d pl:Nat),(postL l id).map (fun i=>((visL l id p d pl)[i-id]?).map (·.t))=(postSL l).map some∧∀i∈postL l id,id≤i∧i<id+lsize l:=by
    intro l
    induction l with
    |nil=>intro _ id p d pl;simp[postL,postSL]
    |cons u l ih2 =>
     intro hl id p d pl
     simp only[lsize]at hl
     obtain⟨a1,a2⟩:=ih u (by omega) id p d pl
     obtain⟨b1,b2⟩:=ih2 (by omega) (id+u.size) p d (pl+1)
     constructor
     ·simp only[postL,postSL,visL,List.map_append,←a1,←b1]
      congr 1
      ·refine List.map_congr_left fun i hi=>?_
       have:=a2 i hi
       rw[List.getElem?_append_left (by rw[zae];omega)]
      ·refine List.map_congr_left fun i hi=>?_
       have:=b2 i hi
       rw[List.getElem?_append_right (by rw[zae];omega),zae]
       congr 2;omega
     ·intro i hi
      simp only[postL,List.mem_append]at hi
      simp only[lsize]
      rcases hi with hi|hi
      ·have:=a2 i hi;omega
      ·have:=b2 i hi;omega
   obtain⟨a1,a2⟩:=hl (klist t.kids) (by omega) (id+1) id (d+1) 0
   constructor
   ·simp only[zja,zdp,zbp,List.map_append,List.map_cons,List.map_nil,Nat.sub_self,List.getElem?_cons_zero,Option.map_some,←a1]
    congr 1
    refine List.map_congr_left fun i hi=>?_
    have:=a2 i hi
    rw[show i-id=(i-(id+1))+1 by omega,List.getElem?_cons_succ]
   ·intro i hi
    rw[zja,List.mem_append]at hi
    rcases hi with hi|hi
    ·have:=a2 i hi;omega
    ·simp at hi;omega
 exact key _ t (Nat.lt_succ_self _)
theorem zah (t:Tree):(postS t).length=t.size:=by
 have:=congrArg List.length (zabe t 0 0 0 0).1
 simp only[List.length_map,zay]at this
 exact this.symm
theorem zpn {t:Tree} {k i:Nat} (h:(postT t 0)[k]? = some i):∃u v,(postS t)[k]? = some u∧(visT t 0 (-1) 0 0)[i]? = some v∧v.t=u∧t.items[i]? = some (fullOf v)∧i<t.size:=by
 obtain⟨h1,h2⟩:=zabe t 0 (-1) 0 0
 have h3:=congrArg (fun l=>l[k]?) h1
 simp only[List.getElem?_map,h,Option.map_some,Nat.sub_zero]at h3
 have h4:=h2 i (List.mem_of_getElem? h)
 cases hv:(visT t 0 (-1) 0 0)[i]? with
 |none =>
  rw[List.getElem?_eq_none_iff,zae]at hv
  omega
 |some v =>
  rw[hv]at h3
  cases hu:(postS t)[k]? with
  |none=>rw[hu]at h3;cases h3
  |some u =>
   rw[hu]at h3
   simp at h3
   exact⟨u,v,rfl,rfl,h3,by rw[Tree.items,zdd,List.getElem?_map,hv];rfl,by omega⟩
theorem zadb (t:Tree):∀(j:Nat) (u:Tree),(postS t)[j]? = some u→∃A B,postS t=A++(postS u++B)∧A.length+u.size=j+1:=by
 have key:∀(n:Nat) (t:Tree),t.size<n→∀(j:Nat) (u:Tree),(postS t)[j]? = some u→∃A B,postS t=A++(postS u++B)∧A.length+u.size=j+1:=by
  intro n
  induction n with
  |zero=>intro t h;omega
  |succ n ih =>
   intro t h j u hu
   have ht:=zag t
   have hl:∀(l:List Tree),lsize l<n→∀(j:Nat) (u:Tree),(postSL l)[j]? = some u→∃A B,postSL l=A++(postS u++B)∧A.length+u.size=j+1:=by
    intro l
    induction l with
    |nil=>intro _ j u h;simp[postSL]at h
    |cons w l ih2 =>
     intro hl j u h
     simp only[lsize]at hl
     simp only[postSL]at h ⊢
     by_cases hj:j<w.size
     ·rw[List.getElem?_append_left (by rw[zah];exact hj)]at h
      obtain⟨A,B,e1,e2⟩:=ih w (by omega) j u h
      exact⟨A,B++postSL l,by rw[e1];simp,e2⟩
     ·rw[List.getElem?_append_right (by rw[zah];omega),zah]at h
      obtain⟨A,B,e1,e2⟩:=ih2 (by omega) _ u h
      exact⟨postS w++A,B,by rw[e1];simp,by rw[List.length_append,zah];omega⟩
   rw[zdp]at hu
   by_cases hj:j<(postSL (klist t.kids)).length
   ·rw[List.getElem?_append_left hj]at hu
    obtain⟨A,B,e1,e2⟩:=hl _ (by omega) j u hu
    exact⟨A,B++[t],by rw[zdp,e1];simp,e2⟩
   ·rw[List.getElem?_append_right (by omega)]at hu
    have hj2:j=(postSL (klist t.kids)).length:=by
     have:=(List.getElem?_eq_some_iff.1 hu).1
     simp only[List.length_singleton]at this;omega
    subst hj2
    rw[Nat.sub_self]at hu
    injection hu with hu
    subst hu
    refine⟨[],[],by simp,?_⟩
    have:=zah t
    rw[zdp,List.length_append,List.length_singleton]at this
    simp;omega
 exact key _ t (Nat.lt_succ_self _)
theorem VS.appendStore {H:List IBlk} {o:Option Nat} {esz n:Nat} {v:IVal} {xs zs ys:List IVal} (h:VS H o esz n v xs) (hz:zs.length=esz) (hy:ys.length=esz) (hb:n<1000000000) :
 ∃v' H' k ver b,evalAppend ⟨[],H++[.cells zs esz 0 false]⟩ esz v (.slice H.length 0 0 1)=some (v',⟨[],H'⟩)∧Ideal.up v'=SV.v v'∧idxS esz v' (.p (.int .i64 n))=some (.ptr (.heap k) ver (n*esz)) ∧
  (∀ H3:List IBlk,H3[k]? = H'[k]? → writeCells ⟨[],H3⟩ (.ptr (.heap k) ver (n*esz)) ys=some ⟨[],H3.set k b⟩)∧(∀ H3:List IBlk,H3[k]? = some b→VS H3 (some k) esz (n+1) v' (xs++ys))∧Keep (fun x=>o=some x) H H'∧k<H'.length∧(o=some k∨H.length≤k)∧v'.cellsOf=some [v']∧H.length<H'.length:=by
 obtain⟨v',H',o',a1,a2,a3,a4,a5,k,rfl⟩:=h.append1 hz hb
 obtain⟨ver,cs,op,rfl,hkk,hnn,hxs⟩:=a2
 have hkl:=(List.getElem?_eq_some_iff.1 hkk).1
 have hle:n*esz+esz=(n+1)*esz:=by rw[Nat.succ_mul]
 refine⟨_,H',k,ver, .cells (splice cs (n*esz) ys) esz ver op,a1,rfl,by rw[zau (by omega),Nat.zero_add],?_,?_,a3,hkl,?_,rfl,a4⟩
 ·intro H3 h3
  rw[zan (by rw[h3];exact hkk) (by omega)]
 ·intro H3 h3
  refine⟨ver,_,op,rfl,h3,?_,?_⟩
  ·simp only[splice,List.length_append,List.length_take,List.length_drop];omega
  ·have hx:=VS.xlen h
   have h5:=congrArg (List.take (n*esz)) hxs
   rw[List.take_take,Nat.min_eq_left (by omega),List.take_left' hx]at h5
   unfold splice
   rw[h5,←List.append_assoc,List.take_left' (by simp[hx,hy,hle])]
 ·rcases a5 with e|⟨k',e,hk'⟩
  ·exact .inl e.symm
  ·injection e with e;subst e;exact .inr hk'
end Go.Ideal

/-
  IDEAL SEMANTICS, 51: THE REFERENCE's ITEMS: a node, by its number: without its kids; with all in it.
-/
namespace Go.Ideal
open Go
set_option linter.unusedSectionVars false
variable [Tabs]
attribute [-simp] getElem?_pos
def nattr (a:Option Attrs):Option Attrs:=if alist a=[]then none else a
def Tree.nbare (t:Tree):Tree := .mk t.kind t.name t.text (nattr t.attrs) none
@[simp] theorem zave (t:Tree):t.nbare.kind=t.kind:=rfl
@[simp] theorem zavf (t:Tree):t.nbare.name=t.name:=rfl
@[simp] theorem zavg (t:Tree):t.nbare.text=t.text:=rfl
@[simp] theorem zarg (t:Tree):t.nbare.attrs=nattr t.attrs:=rfl
@[simp] theorem zavh (t:Tree):t.nbare.kids=none:=rfl
@[simp] theorem zaxr:kval none = .nilslice:=rfl
theorem zfd (a:Option Attrs):alist (nattr a)=alist a:=by
 unfold nattr
 split
 ·rename_i h;rw[h];rfl
 ·rfl
def rcell (v:Vis) (s h:Nat):List PVal:=[.int .i64 v.parent, .int .i64 s, .int .i64 v.depth, .int .i64 h, .int .i64 v.place,
 .int .i64 v.t.kind, .str v.t.name, .str v.t.text,aval (nattr v.t.attrs), .nilslice, .int .i64 v.t.kind, .str v.t.name, .str v.t.text,aval v.t.attrs,kval v.t.kids]
def rfull (v:Vis):List PVal:=rcell v v.t.size v.t.height
def rcells (l:List Vis):List PVal:=l.flatMap rfull
theorem zaj:∀a b:List Tree,lsize (a++b)=lsize a+lsize b
 | [],b=>by simp[lsize]
 |t::a,b=>by simp only[List.cons_append,lsize,zaj a b];omega
def Tree.vis (t:Tree):List Vis:=visT t 0 (-1) 0 0
theorem zaz (t:Tree):t.vis.length=t.size:=zae t _ _ _ _
def rval (t:Tree):PVal := .slice 15 t.size (rcells t.vis)
@[simp] theorem zakz {t:Tree}:sliceLen (.p (rval t))=some t.size:=rfl
@[simp] theorem zbas {t:Tree}:up (.p (rval t)) = .v (.p (rval t)):=rfl
theorem zkg:∀(a b:List Tree) (id p d pl:Nat),visL (a++b) id p d pl=visL a id p d pl++visL b (id+lsize a) p d (pl+a.length)
 | [],b,id,p,d,pl=>by simp[visL,lsize]
 |t::a,b,id,p,d,pl=>by
  simp only[List.cons_append,visL,lsize,List.length_cons,zkg a b,List.append_assoc]
  congr 3
  ·omega
  ·omega
theorem zdl:∀(l:List Tree) (id p d pl:Nat),(visL l id p d pl).length=lsize l
 | [],_,_,_,_=>rfl
 |t::l,id,p,d,pl=>by simp only[visL,lsize,List.length_append,zae,zdl l]
theorem zagf {l:List Tree} {j:Nat} (h:j<l.length) (id p d:Nat):visL (l.take (j+1)) id p d 0=visL (l.take j) id p d 0++visT l[j] (id+lsize (l.take j)) p d j:=by
 rw[List.take_add_one,List.getElem?_eq_getElem h,Option.toList_some,zkg,List.length_take,Nat.min_eq_left (by omega),Nat.zero_add]
 simp[visL]
theorem zic {l:List Tree} {j:Nat} (h:j<l.length):lsize (l.take (j+1))=lsize (l.take j)+l[j].size:=by
 have h1:=zagf h 0 0 0
 have h2:=congrArg List.length h1
 rw[List.length_append,zdl,zdl,zae]at h2
 exact h2
theorem zre (t:Tree):t.height≤t.size:=by
 have key:∀(n:Nat) (t:Tree),t.size<n→t.height≤t.size:=by
  intro n
  induction n with
  |zero=>intro t h;omega
  |succ n ih =>
   intro t h
   have h1:=zag t
   have h2:=zfc t
   have hl:∀l:List Tree,lsize l<n→lheight l≤lsize l:=by
    intro l
    induction l with
    |nil=>intro _;simp[lheight,lsize]
    |cons u l ih2 =>
     intro hl
     simp only[lsize]at hl
     have a1:=ih u (by omega)
     have a2:=ih2 (by omega)
     simp only[lheight,lsize];omega
   have:=hl (klist t.kids) (by omega)
   omega
 exact key _ t (Nat.lt_succ_self _)
theorem VS.src {bx:List (Nat×IBlk)} {H:List IBlk} {o:Option Nat} {esz n:Nat} {v:IVal} {ys:List IVal} (h:VS H o esz n v ys):srcCells ⟨bx,H⟩ esz v=some ys∧srcLen v=some n:=by
 cases o with
 |none=>obtain⟨rfl,rfl,rfl⟩:=h;exact⟨rfl,rfl⟩
 |some k =>
  obtain⟨ver,cs,op,rfl,hk,hn,hx⟩:=h
  have h2:((Nat.beq ver ver&&Nat.beq esz esz)&&Nat.ble (0+n*esz) cs.length)=true:=by
   rw[Nat.beq_refl,Nat.beq_refl,Nat.zero_add,Bool.true_and,Bool.true_and]
   exact Nat.ble_eq_true_of_le hn
  refine⟨?_,rfl⟩
  simp only[srcCells,Mem.get,hk,h2,List.drop_zero,hx]
theorem VS.kill {H:List IBlk} {o:Option Nat} {esz n s:Nat} {v:IVal} {ys:List IVal} (h:VS H o esz n v ys):killV s v=v:=by
 cases o with
 |none=>obtain⟨rfl,rfl,rfl⟩:=h;rfl
 |some k=>obtain⟨ver,cs,op,rfl,hk,hn,hx⟩:=h;rfl
theorem VS.appendP {H:List IBlk} {o1:Option Nat} {esz n1 n2:Nat} {v1 v2:IVal} {xs ys:List IVal} (h:VS H o1 esz n1 v1 xs) (s1:srcCells ⟨[],H⟩ esz v2=some ys) (s2:srcLen v2=some n2) (hy:ys.length=n2*esz) (hb:n1+n2<1000000000) :
 ∃v' H' o',evalAppend ⟨[],H⟩ esz v1 v2=some (v',⟨[],H'⟩)∧VS H' o' esz (n1+n2) v' (xs++ys)∧Keep (fun x=>o1=some x) H H'∧(o'=o1∨∃k,o'=some k∧H.length≤k):=by
 by_cases hz:n2=0
 ·subst hz
  have hys:ys=[]:=by cases ys with|nil=>rfl|cons a l=>simp at hy
  subst hys
  rw[Nat.add_zero,List.append_nil]
  cases o1 with
  |none =>
   obtain⟨rfl,rfl,rfl⟩:=h
   refine⟨_,H,none,?_,VS.nil,Keep.refl, .inl rfl⟩
   have h1:Nat.ble (0+0) maxAppend=true:=rfl
   have h3:Nat.beq 0 0=true:=rfl
   simp only[evalAppend,evalAppend0,s1,s2,sliceLen,h1]
  |some k =>
   have hv:=h
   obtain⟨ver,cs,op,rfl,hkk,hnn,hxs⟩:=h
   refine⟨_,H,some k,?_,hv,Keep.refl, .inl rfl⟩
   have h1:Nat.ble (n1+0) maxAppend=true:=Nat.ble_eq_true_of_le (by unfold maxAppend;omega)
   have h2:(Nat.beq ver ver&&Nat.beq esz esz&&Nat.ble (0+n1*esz) cs.length)=true:=by
    rw[Nat.beq_refl,Nat.beq_refl,Nat.zero_add,Bool.true_and,Bool.true_and]
    exact Nat.ble_eq_true_of_le hnn
   have h3:Nat.beq 0 0=true:=rfl
   simp only[evalAppend,evalAppend0,s1,s2,sliceLen,h1,Mem.get,hkk,h2]
 ·cases o1 with
  |none =>
   obtain⟨rfl,rfl,rfl⟩:=h
   refine⟨_,_,some H.length,append_nil s1 s2 (by omega) (by omega),?_,Keep.new, .inr ⟨_,rfl,Nat.le_refl _⟩⟩
   refine⟨0,ys,true,by rw[Nat.zero_add],zbh,by rw[Nat.zero_add];omega,?_⟩
   rw[Nat.zero_add,List.take_of_length_le (by omega)];rfl
  |some k =>
   obtain⟨ver,cs,op,rfl,hkk,hnn,hxs⟩:=h
   have hkl:=(List.getElem?_eq_some_iff.1 hkk).1
   have happ:=zbx (bx:=[]) (ny:=n2) hkk hnn s1 s2 (by omega) (by omega)
   have hnew:=zlm (H:=H) (ver:=ver) (op:=op) (ys:=ys) (ny:=n2) (k:=k) hkl hnn hy
   rw[hxs]at hnew
   exact⟨_,_,some k,happ,hnew,Keep.set (.inl rfl), .inl rfl⟩
theorem VS.appendVS {H:List IBlk} {o1 o2:Option Nat} {esz n1 n2:Nat} {v1 v2:IVal} {xs ys:List IVal} (h:VS H o1 esz n1 v1 xs) (g:VS H o2 esz n2 v2 ys) (hb:n1+n2<1000000000) :
 ∃v' H' o',evalAppend ⟨[],H⟩ esz v1 v2=some (v',⟨[],H'⟩)∧VS H' o' esz (n1+n2) v' (xs++ys)∧Keep (fun x=>o1=some x) H H'∧(o'=o1∨∃k,o'=some k∧H.length≤k):=by
 obtain⟨s1,s2⟩:=g.src (bx:=[])
 exact h.appendP s1 s2 g.xlen hb
theorem VS.field {bx:List (Nat×IBlk)} {H:List IBlk} {k esz n j:Nat} {v:IVal} {xs:List IVal} (h:VS H (some k) esz n v xs) (hj:j<n) :
 ∃ver,idxS esz v (.p (.int .i64 j))=some (.ptr (.heap k) ver (j*esz))∧(∀ f x,xs[j*esz+f]? = some x→loadVal ⟨bx,H⟩ none (.ptr (.heap k) ver (j*esz+f))=some x) ∧
  ∀f new,j*esz+f+new.length≤n*esz→∃b,writeCells ⟨bx,H⟩ (.ptr (.heap k) ver (j*esz+f)) new=some ⟨bx,H.set k b⟩∧VS (H.set k b) (some k) esz n v (splice xs (j*esz+f) new):=by
 obtain⟨ver,cs,op,rfl,hk,hn,hx⟩:=h
 have hH:HS H k esz n (.slice k ver 0 n) xs:=⟨ver,cs,op,rfl,hk,hn,hx⟩
 exact⟨ver,by rw[zau hj,Nat.zero_add],fun f x hf=>hH.field hf,fun f new hf=>hH.store hf⟩
theorem Keep.trans' {S S':Nat→Prop} {H H' H2:List IBlk} (h:Keep S H H') (g:Keep S' H' H2) (hs:∀i,i<H.length→S' i→S i):Keep S H H2 :=
 ⟨Nat.le_trans h.1 g.1,fun i hi hn=>by rw[g.2 i (Nat.lt_of_lt_of_le hi h.1) (fun e=>hn (hs i hi e)),h.2 i hi hn]⟩
structure Grow (o:Option Nat) (H:List IBlk) (o':Option Nat) (H':List IBlk):Prop where
 keep:Keep (fun x=>o=some x) H H'
 blk:o'=o∨∃k,o'=some k∧H.length≤k
theorem Grow.refl {o:Option Nat} {H:List IBlk}:Grow o H o H:=⟨Keep.refl, .inl rfl⟩
theorem Grow.trans {o o1 o2:Option Nat} {H H1 H2:List IBlk} (h:Grow o H o1 H1) (g:Grow o1 H1 o2 H2):Grow o H o2 H2:=by
 refine⟨h.keep.trans' g.keep fun i hi e=>?_,?_⟩
 ·rcases h.blk with rfl|⟨k,rfl,hk⟩
  ·exact e
  ·injection e with e;omega
 ·have:=h.keep.1
  rcases g.blk with rfl|⟨k,rfl,hk⟩
  ·exact h.blk
  ·exact .inr ⟨k,rfl,by omega⟩
theorem Grow.set {o:Option Nat} {H:List IBlk} {k:Nat} {H1:List IBlk} {b:IBlk} (h:Grow o H (some k) H1):Grow o H (some k) (H1.set k b):=h.trans ⟨Keep.set (.inl rfl), .inl rfl⟩
theorem zmp (l m:List PVal):pcells (l++m)=pcells l++pcells m:=by simp[pcells]
theorem zagg (l:List PVal):(pcells l).length=l.length:=by simp[pcells]
theorem zpo {y:IVal} {n:Nat} {kl:List SV→Prop} (h:y.cellsOf=some [y]) (h2:up y = .v y):cellsK (.v y) n kl=(1=n∧kl [.v y]):=by
 simp only[cellsK,h,zex,List.length_singleton,ups,h2]
end Go.Ideal

namespace Go.Ideal
open Go
set_option maxHeartbeats 4000000
set_option maxRecDepth 20000
attribute [-simp] getElem?_pos
theorem zua {l:List Nat} {j n:Nat} (h:l[j]? = some n):idxS 1 (.p (nval l)) (.p (.int .i64 j))=some (.p (.ptr (.int .i64 n::(nints l).drop (j+1)))):=by
 obtain⟨h1,h2⟩:=List.getElem?_eq_some_iff.1 h
 have h3:(nints l).drop j = .int .i64 n::(nints l).drop (j+1):=by
  rw[List.drop_eq_getElem_cons (by simpa[nints]using h1)]
  simp[nints,h2]
 rw[nval,zcb h1,Nat.mul_one,h3]
@[simp] theorem zala {l:List Nat}:sliceLen (.p (nval l))=some l.length:=rfl
@[simp] theorem zbat {l:List Nat}:up (.p (nval l)) = .v (.p (nval l)):=rfl
def firsts (t:Tree):List Nat:=(postS t).mapIdx fun k u=>k+1-u.size
theorem zalb (t:Tree) (hs:t.size<1000000) (kb:Nat) (H0:List IBlk) (hk0:H0[kb]? = some (.cells [.p .nilslice, .p (nval (postT t 0)), .p .nilslice] 3 0 false)) (Q:IExit→Env→KM→Prop)
 (h1:∀H' m,m≤H'.length→SideAt H' kb m (postS t) (postT t 0) (firsts t)→Keep (fun x=>kb≤x) H0 H'→Q .normal [(4, .v (.ptr (.heap kb) 0 0))] ⟨[],H'⟩) :
 wpLoop (CW tr.look) 57 m_Q188_0 l_Q188_0 (blkK 0 b_Q188_0 Q) [(3, .v (.p (ival t))),(4, .v (.ptr (.heap kb) 0 0)),(16, .v (.p (nval (postT t 0)))),(17, .int .i64 t.size),(18, .int .i64 0)] ⟨[],H0⟩:=by
 refine zac (α:=Nat×List IBlk) (fun a=>[(3, .v (.p (ival t))),(4, .v (.ptr (.heap kb) 0 0)),(16, .v (.p (nval (postT t 0)))),(17, .int .i64 t.size),(18, .int .i64 a.1)]) (fun a=>⟨[],a.2⟩)
  (fun a=>a.1≤t.size∧(∃ m,m≤a.2.length∧SideAt a.2 kb m ((postS t).take a.1) (postT t 0) ((firsts t).take a.1))∧Keep (fun x=>kb≤x) H0 a.2) (fun a=>t.size-a.1) ?_ (0,H0) ⟨by simp,⟨kb+1,(List.getElem?_eq_some_iff.1 hk0).1,⟨.p .nilslice, .p .nilslice,none,none,hk0,VS.nil,VS.nil,by simp,by simp,by simp⟩⟩,⟨Nat.le_refl _,fun _ _ _=>rfl⟩⟩
 rintro⟨j,H⟩ ⟨hj,⟨m,hm,hS⟩,hK⟩ L hL
 dsimp only at hj hS hK hL ⊢
 dsimp only[l_Q188_0]
 by_cases hc:j<t.size
 ·obtain⟨i,hi⟩:∃i,(postT t 0)[j]? = some i:=⟨_,List.getElem?_eq_getElem (by rw[zay];exact hc)⟩
  obtain⟨u,v,p1,p2,p3,p4,p5⟩:=zpn hi
  obtain⟨nv,fvv,o1,o2,g1,g2,g3,g4,g5,g6⟩:=hS.blk
  have hl1:((postS t).take j).length=j:=by simp[zah,hj]
  have hl2:((firsts t).take j).length=j:=by simp[firsts,zah,hj]
  rw[hl1]at g2
  rw[hl2]at g3
  have hkb:=(List.getElem?_eq_some_iff.1 g1).1
  obtain⟨v',H',k,ver,b,a1,a2,a3,a4,a5,a6,a7,a8,a9,a10⟩:=g2.appendStore (zs:=[.p (.int .i64 0), .p (.str []), .p (.str []), .p .nilslice, .p .nilslice]) (ys:=[.p (.int .i64 (fullOf v).node.kind), .p (.str (fullOf v).node.name), .p (.str (fullOf v).node.text), .p (aval (fullOf v).node.attrs), .p .nilslice]) rfl rfl (by omega)
  have hkk:kb<k:=by
   rcases a8 with e|e
   ·exact(g5 k e).1
   ·omega
  have g1':H'[kb]? = some (.cells [nv, .p (nval (postT t 0)),fvv] 3 0 false):=by rw[a6.2 kb hkb (fun e=>by have:=g5 kb e;omega)];exact g1
  have s1:=fun b'=>a4 (H'.set kb b') (by rw[List.getElem?_set_ne (by omega)])
  have s2:=a4 H' rfl
  have gk:∀b',(H'.set k b')[kb]? = some (.cells [nv, .p (nval (postT t 0)),fvv] 3 0 false):=fun b'=>by rw[List.getElem?_set_ne (by omega)];exact g1'
  have s3:writeCells ⟨[],H'⟩ (.ptr (.heap kb) 0 0) [v']=some ⟨[],H'.set kb (.cells [v', .p (nval (postT t 0)),fvv] 3 0 false)⟩:=by rw[zan g1' (by simp)];rfl
  have s4:writeCells ⟨[],H'.set k b⟩ (.ptr (.heap kb) 0 0) [v']=some ⟨[],(H'.set k b).set kb (.cells [v', .p (nval (postT t 0)),fvv] 3 0 false)⟩:=by rw[zan (gk b) (by simp)];rfl
  have ld:loadVal ⟨[],H⟩ none (.ptr (.heap kb) 0 0)=some nv:=zab g1 rfl
  have hcm:(H'.set kb (.cells [v', .p (nval (postT t 0)),fvv] 3 0 false)).set k b=(H'.set k b).set kb (.cells [v', .p (nval (postT t 0)),fvv] 3 0 false):=List.set_comm _ _ (by omega)
  generalize hH1:(H'.set k b).set kb (.cells [v', .p (nval (postT t 0)),fvv] 3 0 false)=H1 at s4 hcm
  have hsl:(fullOf v).size≤j+1:=by
   obtain⟨A,B,_,e⟩:=zadb t j u p1
   show v.t.size≤j+1
   rw[p3];omega
  have hln:H1.length=H'.length:=by rw[← hH1];simp
  have k1:Keep (fun x=>x=kb∨o1=some x) H H1:=by
   refine⟨by omega,fun i hi hn=>?_⟩
   have q1:i≠kb:=fun e=>hn (.inl e)
   have q2:o1≠some i:=fun e=>hn (.inr e)
   have q3:k≠i:=by
    rcases a8 with e|e
    ·exact fun e2=>q2 (e2 ▸ e)
    ·omega
   rw[← hH1,List.getElem?_set_ne (by omega),List.getElem?_set_ne q3]
   exact a6.2 i hi q2
  have n1:nv≠.undef:=by rintro rfl;exact absurd g2.pass (by decide)
  have w1:H1[kb]? = some (.cells [v', .p (nval (postT t 0)),fvv] 3 0 false):=by rw[← hH1];exact zap (by rw[List.length_set];omega)
  have g2':VS H1 (some k) 5 (j+1) v' (pcells (((postS t).take (j+1)).flatMap nodecell)):=by
   have:pcells (((postS t).take (j+1)).flatMap nodecell)=pcells (((postS t).take j).flatMap nodecell)++pcells (nodecell u):=by
    rw[List.take_add_one,p1]
    simp[pcells,List.flatMap_append]
   rw[this]
   subst p3
   exact a5 H1 (by rw[← hH1,List.getElem?_set_ne (by omega)];exact zap a7)
  have n2:v'≠.undef:=by rintro rfl;exact absurd g2'.pass (by decide)
  have g3':VS H1 o2 1 j fvv (pcells (nints ((firsts t).take j))):=g3.keep k1 (fun x hx e=>by
   rcases e with e|e
   ·have:=g6 x hx;omega
   ·exact(g5 x e).2.2 hx)
  have ld2:loadVal ⟨[],H1⟩ none (.ptr (.heap kb) 0 2)=some fvv:=zab w1 rfl
  obtain⟨vv2,H2,o2',b1,b2,b3,b4,b5,k2,b6⟩:=g3'.append1 (ys:=[.p (.int .i64 (j+1-(fullOf v).size:Nat))]) rfl (by omega)
  have w2:H2[kb]? = some (.cells [v', .p (nval (postT t 0)),fvv] 3 0 false):=by rw[b3.2 kb (by omega) (fun e=>by have:=g6 kb e;omega)];exact w1
  have s5:writeCells ⟨[],H2⟩ (.ptr (.heap kb) 0 2) [vv2]=some ⟨[],H2.set kb (.cells [v', .p (nval (postT t 0)),vv2] 3 0 false)⟩:=by rw[zan w2 (by simp)];rfl
  have n3:fvv≠.undef:=by rintro rfl;exact absurd g3.pass (by decide)
  have n4:vv2≠.undef:=by rintro rfl;exact absurd b2.pass (by decide)
  have hi1:((j:Int)+1-((fullOf v).size:Nat))=((j+1-(fullOf v).size:Nat):Int):=by omega
  simp(disch:=omega) [zua hi,ld,g2.up,g2.len,zbc p4,a1,a2,a3,s1,s2,s3,s4,hcm,zpo a9 a2,zaa,n1,n2,ld2,g3'.up,hi1,b1,b2.up,zpo b2.cells b2.up,s5]
  have hln2:((postS t).take (j+1)).length=j+1:=by rw[List.length_take,zah];omega
  have hln3:((firsts t).take (j+1)).length=j+1:=by rw[List.length_take,firsts,List.length_mapIdx,zah];omega
  have hk2:kb<k2∧k2<H2.length∧k2≠k:=by
   refine⟨?_,VS.lt (b6 ▸ b2),?_⟩
   ·rcases b5 with e|⟨k',e,e2⟩
    ·exact(g6 k2 (by rw[← e,b6])).1
    ·rw[b6]at e;injection e with e;omega
   ·rcases b5 with e|⟨k',e,e2⟩
    ·rintro rfl
     rw[b6]at e
     rcases a8 with e3|e3
     ·exact(g5 k2 e3).2.2 e.symm
     ·have:=VS.lt (e ▸ g3);omega
    ·rw[b6]at e;injection e with e;omega
  have hfe:pcells (nints ((firsts t).take (j+1)))=pcells (nints ((firsts t).take j))++[.p (.int .i64 (j+1-(fullOf v).size:Nat))]:=by
   have:(firsts t)[j]? = some (j+1-(fullOf v).size):=by
    rw[firsts,List.getElem?_mapIdx,p1,←p3];rfl
   rw[List.take_add_one,this]
   simp[pcells,nints]
  refine hL (j+1,H2.set kb (.cells [v', .p (nval (postT t 0)),vv2] 3 0 false)) ⟨by dsimp only;omega,⟨H2.length,by simp,⟨v',vv2,some k,o2',?_,?_,?_,by omega,?_,?_⟩⟩,?_⟩ (by dsimp only;omega)
  ·exact zap (by have:=b3.1;omega)
  ·dsimp only
   rw[hln2]
   exact(g2'.keep b3 (fun x hx e=>by
    injection hx with hx;subst hx
    rcases a8 with e3|e3
    ·exact(g5 _ e3).2.2 e
    ·have:=VS.lt (e ▸ g3);omega)).keep (Keep.set (S:=fun x=>x=kb) (.inl rfl)) (fun x hx e=>by injection hx with hx;omega)
  ·dsimp only
   rw[hln3,hfe]
   exact b2.keep (Keep.set (S:=fun x=>x=kb) (.inl rfl)) (fun x hx e=>by rw[b6]at hx;injection hx with hx;omega)
  ·intro x hx
   injection hx with hx
   refine⟨by omega,by omega,fun e=>?_⟩
   rw[b6]at e;injection e with e;omega
  ·intro x hx
   rw[b6]at hx;injection hx with hx;omega
  ·refine hK.trans (((k1.mono fun i _ e=>?_).trans (b3.mono fun i _ e=>?_)).trans (Keep.set (.inl (Nat.le_refl _))))
   ·rcases e with e|e
    ·exact Nat.le_of_eq e.symm
    ·exact Nat.le_of_lt (g5 i e).1
   ·exact Nat.le_of_lt (g6 i e).1
 ·obtain rfl:j=t.size:=by omega
  have e1:(postS t).take t.size=postS t:=List.take_of_length_le (by rw[zah];omega)
  have e2:(firsts t).take t.size=firsts t:=List.take_of_length_le (by simp[firsts,zah])
  rw[e1,e2]at hS
  simp(disch:=omega) []
  exact h1 H m hm hS hK
theorem zanx (t:Tree) (hf:Fine t) (H:List IBlk):∃H' m,CW tr.look F_Q188 [tagg t] H=some (.ptr (.heap H.length) 0 0,H')∧m≤H'.length∧SideAt H' H.length m (postS t) (postT t 0) (firsts t)∧Keep (fun _=>False) H H':=by
 have hg:(H++[IBlk.cells [.p .nilslice, .p (nval (postT t 0)), .p .nilslice] 3 0 false])[H.length]? = some (.cells [.p .nilslice, .p (nval (postT t 0)), .p .nilslice] 3 0 false):=zbh
 have hld:loadVal ⟨[],H++[IBlk.cells [.p .nilslice, .p (nval (postT t 0)), .p .nilslice] 3 0 false]⟩ none (.ptr (.heap H.length) 0 1)=some (.p (nval (postT t 0))):=zab hg rfl
 obtain⟨r,H',h1,rfl,m,h2,h3,h4⟩:=zaw (args:=[tagg t]) (H:=H) (Q:=fun r H'=>r = .ptr (.heap H.length) 0 0∧∃m,m≤H'.length∧SideAt H' H.length m (postS t) (postT t 0) (firsts t)∧Keep (fun _=>False) H H') look_Q188 rfl rfl (by
  dsimp only[i_Q188,c_Q188]
  simp(disch:=omega) [zad,zby t hf,zkf t hf,zay,hld]
  refine zalb t hf.1 H.length _ hg _ ?_
  intro H' m h2 h3 h4
  simp(disch:=omega) []
  exact⟨m,h2,h3,Nat.le_trans (by simp) h4.1,fun i hi _=>by rw[h4.2 i (by simp;omega) (by omega)];exact List.getElem?_append_left hi⟩)
 exact⟨H',m,h1,h2,h3,h4⟩
end Go.Ideal

namespace Go.Ideal
open Go
set_option maxHeartbeats 4000000
set_option maxRecDepth 20000
attribute [-simp] getElem?_pos
structure BothAt (H:List IBlk) (k:Nat) (s t:Tree) (es:List (IVal×IVal×Nat)) (ck:Nat):Prop where
 blk:∃ka kb km ma mb,H[k]? = some (.cells [.ptr (.heap ka) 0 0, .ptr (.heap kb) 0 0, .map km] 3 0 false)∧H[km]? = some (.map es ck)∧SideAt H ka ma (postS s) (postT s 0) (firsts s)∧SideAt H kb mb (postS t) (postT t 0) (firsts t)∧km<ka∧ma≤k∧km<kb∧mb≤k
theorem SideAt.nodes {H:List IBlk} {k m:Nat} {N:List Tree} {ids fs:List Nat} (h:SideAt H k m N ids fs):∃v,loadVal ⟨[],H⟩ none (.ptr (.heap k) 0 0)=some v∧up v = .v v∧sliceLen v=some N.length∧v≠.undef:=by
 obtain⟨nv,fvv,o1,o2,h1,h2,h3⟩:=h.blk
 exact⟨nv,zab h1 rfl,h2.up,h2.len,by rintro rfl;exact absurd h2.pass (by decide)⟩
theorem zabf (s t:Tree) (hs:Fine s) (ht:Fine t) (H:List IBlk):∃H' k,CW tr.look F_Q166 [tagg s,tagg t] H=some (.tup [.ptr (.heap k) 0 0,fv (someF 0 (s.size-1)),fv (someF 0 (t.size-1)), .p (.bool (decide (s.size≤8)&&decide (t.size≤8)))],H')∧BothAt H' k s t [] 0∧Keep (fun _=>False) H H':=by
 obtain⟨H1,ma,a1,a2,a3,a4⟩:=zanx s hs (H++[.map [] 0])
 obtain⟨H2,mb,b1,b2,b3,b4⟩:=zanx t ht H1
 have a5:=a3.keep b4 (fun x h=>h.elim)
 simp only[List.length_append,List.length_singleton]at a1 a3 a5
 have k1:Keep (fun _=>False) H H1:=Keep.new.trans a4
 have hm1:H1[H.length]? = some (.map [] 0):=by rw[a4.2 _ (by simp) (fun h=>h)];exact zbh
 have hm2:H2[H.length]? = some (.map [] 0):=by rw[b4.2 _ (List.getElem?_eq_some_iff.1 hm1).1 (fun h=>h)];exact hm1
 have hl1:=a4.1
 have hl2:=b4.1
 simp only[List.length_append,List.length_singleton]at hl1
 generalize hHF:H2++[IBlk.cells [.ptr (.heap (H.length+1)) 0 0, .ptr (.heap H1.length) 0 0, .map H.length] 3 0 false]=HF
 have kF:Keep (fun _=>False) H2 HF:=by rw[← hHF];exact Keep.new
 have gF:HF[H2.length]? = some (.cells [.ptr (.heap (H.length+1)) 0 0, .ptr (.heap H1.length) 0 0, .map H.length] 3 0 false):=by rw[← hHF];exact zbh
 have gm:HF[H.length]? = some (.map [] 0):=by rw[kF.2 _ (List.getElem?_eq_some_iff.1 hm2).1 (fun h=>h)];exact hm2
 have sF:=a5.keep kF (fun x h=>h.elim)
 have tF:=b3.keep kF (fun x h=>h.elim)
 have l0:loadVal ⟨[],HF⟩ none (.ptr (.heap H2.length) 0 0)=some (.ptr (.heap (H.length+1)) 0 0):=zab gF rfl
 have l1:loadVal ⟨[],HF⟩ none (.ptr (.heap H2.length) 0 1)=some (.ptr (.heap H1.length) 0 0):=zab gF rfl
 obtain⟨v1,c1,c2,c3,c4⟩:=sF.nodes
 obtain⟨v2,d1,d2,d3,d4⟩:=tF.nodes
 have hps:=zaf s
 have hpt:=zaf t
 have hs1:=hs.1
 have ht1:=ht.1
 rw[zah]at c3 d3
 have hB:BothAt HF H2.length s t [] 0:=⟨H.length+1,H1.length,H.length,ma,mb,gF,gm,sF,tF,by omega,by omega,by omega,b2⟩
 obtain⟨r,H',h1,rfl,m,h2,h3⟩:=zaw (args:=[tagg s,tagg t]) (H:=H) (Q:=fun r H'=>r = .tup [.ptr (.heap H2.length) 0 0,fv (someF 0 (s.size-1)),fv (someF 0 (t.size-1)), .p (.bool (decide (s.size≤8)&&decide (t.size≤8)))]∧BothAt H' H2.length s t [] 0∧Keep (fun _=>False) H H') look_Q166 rfl rfl (by
  dsimp only[i_Q166,c_Q166]
  simp(disch:=omega) [zad,a1,b1,hm1,hHF,gm,l0,l1,c1,c2,c3,d1,d2,d3,zaa,ztx,fv]
  have hK:Keep (fun _=>False) H HF:=(k1.trans b4).trans kF
  refine⟨fun h=>⟨?_,hB,hK⟩,fun h=>⟨?_,hB,hK⟩⟩
  ·have h8:s.size≤8:=by omega
   rw[decide_eq_true h8,Bool.true_and]
   exact decide_eq_decide.2 (by omega)
  ·intro h;omega)
 exact⟨H',_,h1,m,h2,h3⟩
end Go.Ideal

namespace Go.Ideal
open Go
set_option maxHeartbeats 4000000
set_option maxRecDepth 20000
attribute [-simp] getElem?_pos
abbrev Quad:=Int×Int×Int×Int
def quad (q:Quad):IVal := .agg [.p (.int .i64 q.1), .p (.int .i64 q.2.1), .p (.int .i64 q.2.2.1), .p (.int .i64 q.2.2.2)]
def K4:KTy:=⟨true,[.int, .int, .int, .int]⟩
theorem zagh (a b:Quad):eqVals ⟨true,[.int, .int, .int, .int]⟩ (quad a) (quad b)=some (decide (a=b)):=by
 obtain⟨a1,a2,a3,a4⟩:=a
 obtain⟨b1,b2,b3,b4⟩:=b
 by_cases h1:a1=b1<;>by_cases h2:a2=b2<;>by_cases h3:a3=b3<;>by_cases h4:a4=b4 <;>
  simp[quad,eqVals,eqCls,clsEq,h1,h2,h3,h4]
theorem zalc (a:Quad):isKey ⟨true,[.int, .int, .int, .int]⟩ (quad a)=true:=by rw[isKey,zagh]
def Memo (D:Quad→Int→Prop) (es:List (IVal×IVal×Nat)):Prop:=∀e∈es,∃q v n,e=(quad q,IVal.p (.int .i64 v),n)∧D q v
theorem zpp {D:Quad→Int→Prop} (q:Quad):∀(es:List (IVal×IVal×Nat)) (i:Nat),Memo D es→findEnt ⟨true,[.int, .int, .int, .int]⟩ (quad q) es i=some none∨∃j v,findEnt ⟨true,[.int, .int, .int, .int]⟩ (quad q) es i=some (some (j, .p (.int .i64 v)))∧D q v
 | [],i,_=>.inl rfl
 |e::es,i,h=>by
  obtain⟨q2,v,n,rfl,hd⟩:=h e (by simp)
  have ih:=zpp q es (i+1) fun e he=>h e (by simp[he])
  simp only[findEnt,zagh]
  by_cases hq:q=q2
  ·subst hq
   exact .inr ⟨i,v,by simp,hd⟩
  ·simp only[hq,decide_false]
   exact ih
theorem zald {D:Quad→Int→Prop} {es:List (IVal×IVal×Nat)} {q:Quad} {v:Int} {n:Nat} (h:Memo D es) (hd:D q v):Memo D (es++[(quad q, .p (.int .i64 v),n)]):=by
 intro e he
 rcases List.mem_append.1 he with he|he
 ·exact h e he
 ·simp at he;exact⟨q,v,n,he,hd⟩
theorem zabg {D:Quad→Int→Prop} {q:Quad} {v:Int}:∀(es:List (IVal×IVal×Nat)) (j:Nat),Memo D es→D q v→Memo D (es.modify j fun e=>(quad q, .p (.int .i64 v),e.2.2))
 | [],j,h,_=>by simpa using h
 |e::es,0,h,hd=>by
  intro e2 he
  simp at he
  rcases he with rfl|he
  ·exact⟨q,v,_,rfl,hd⟩
  ·exact h e2 (by simp[he])
 |e::es,j+1,h,hd=>by
  intro e2 he
  simp at he
  rcases he with rfl|he
  ·exact h e2 (by simp)
  ·exact zabg es j (fun e he=>h e (by simp[he])) hd e2 he
end Go.Ideal

namespace Go.Ideal
open Go
theorem zcv:∀l:List Tree,(postSL l).length=lsize l
 | []=>rfl
 |t::l=>by rw[postSL,List.length_append,zah,zcv l,lsize]
theorem zcn:∀a:List Tree,lsize a.reverse=lsize a
 | []=>rfl
 |t::a=>by simp only[List.reverse_cons,zaj,zcn a,lsize];omega
def kidsR (t:Tree):List Tree:=(klist t.kids).reverse
theorem zak (t:Tree):t.size=lsize (kidsR t)+1:=by rw[kidsR,zcn];exact zag t
def rng (a n:Nat):Int×Int:=if n=0 then(0, -1)else(a,a+n-1)
theorem zbo (a n:Nat):someF a (a+n-1)=rng a n:=by
 unfold someF rng
 by_cases h:n=0
 ·subst h;rw[if_pos (by omega),if_pos rfl]
 ·rw[if_neg (by omega),if_neg h]
def Rep (t:Tree) (a:Nat) (F:List Tree):Prop:=∃A B,postS t=A++(postSL F.reverse++B)∧A.length=a
theorem Rep.root (t:Tree):Rep t 0 [t]:=⟨[],[],by simp[postSL],rfl⟩
theorem Rep.kids {t u:Tree} {a:Nat} {F:List Tree} (h:Rep t a (u::F)):Rep t (a+lsize F) (kidsR u):=by
 obtain⟨A,B,h1,h2⟩:=h
 refine⟨A++postSL F.reverse,u::B,?_,by rw[List.length_append,zcv,zcn,h2]⟩
 rw[h1,kidsR,List.reverse_reverse,List.reverse_cons,zbz,postSL,postSL,zdp]
 simp
theorem Rep.rest {t u:Tree} {a:Nat} {F:List Tree} (h:Rep t a (u::F)):Rep t a F:=by
 obtain⟨A,B,h1,h2⟩:=h
 refine⟨A,postS u++B,?_,h2⟩
 rw[h1,List.reverse_cons,zbz,postSL,postSL]
 simp
theorem Rep.opened {t u:Tree} {a:Nat} {F:List Tree} (h:Rep t a (u::F)):Rep t a (kidsR u++F):=by
 obtain⟨A,B,h1,h2⟩:=h
 refine⟨A,u::B,?_,h2⟩
 rw[h1,kidsR,List.reverse_append,List.reverse_reverse,List.reverse_cons,zbz,zbz,postSL,postSL,zdp]
 simp
theorem Rep.top {t u:Tree} {a:Nat} {F:List Tree} (h:Rep t a (u::F)):(postS t)[a+lsize F+u.size-1]? = some u:=by
 obtain⟨A,B,h1,h2⟩:=h
 have hk:=zak u
 have:postS t=(A++(postSL F.reverse++postSL (klist u.kids)))++(u::B):=by
  rw[h1,List.reverse_cons,zbz,postSL,postSL,zdp]
  simp
 rw[kidsR,zcn]at hk
 have hl:(A++(postSL F.reverse++postSL (klist u.kids))).length=a+lsize F+u.size-1:=by
  simp only[List.length_append,zcv,zcn,h2];omega
 rw[this,List.getElem?_append_right (by omega),hl,Nat.sub_self]
 rfl
theorem Rep.first {t u:Tree} {a:Nat} {F:List Tree} (h:Rep t a (u::F)):(firsts t)[a+lsize F+u.size-1]? = some (a+lsize F):=by
 have hk:=zak u
 rw[firsts,List.getElem?_mapIdx,h.top,Option.map_some]
 congr 1;omega
theorem Rep.le {t:Tree} {a:Nat} {F:List Tree} (h:Rep t a F):a+lsize F≤t.size:=by
 obtain⟨A,B,h1,h2⟩:=h
 have:=congrArg List.length h1
 simp only[List.length_append,zah,zcv,zcn,h2]at this
 omega
theorem zjs:∀(F G:List Tree),postSL F.reverse=postSL G.reverse→F=G
 | [],[],_=>rfl
 | [],u::G,h=>by
   have:=congrArg List.length h
   have hk:=zak u
   simp only[zcv,zcn,lsize]at this;omega
 |u::F,[],h=>by
  have:=congrArg List.length h
  have hk:=zak u
  simp only[zcv,zcn,lsize]at this;omega
 |u::F,w::G,h=>by
  have e:∀(u:Tree) (F:List Tree),postSL (u::F).reverse=(postSL F.reverse++postSL (klist u.kids))++[u]:=fun u F=>by
   rw[List.reverse_cons,zbz,postSL,postSL,zdp];simp
  have h0:=h
  rw[e,e]at h
  obtain⟨h1,h2⟩:=List.append_inj' h rfl
  injection h2 with h2
  subst h2
  rw[zjs F G (List.append_cancel_right h1)]
theorem Rep.same {t:Tree} {a:Nat} {F G:List Tree} (h:Rep t a F) (g:Rep t a G) (e:lsize F=lsize G):F=G:=by
 obtain⟨A,B,h1,h2⟩:=h
 obtain⟨A',B',g1,g2⟩:=g
 rw[h1]at g1
 obtain⟨_,e2⟩:=List.append_inj g1 (by omega)
 obtain⟨e3,_⟩:=List.append_inj e2 (by simp only[zcv,zcn,e])
 exact zjs F G e3
end Go.Ideal

namespace Go.Ideal
open Go
def fd:List Tree→List Tree→Nat
 | [],G=>lsize G
 |t::F,[]=>lsize (t::F)
 |t::F,u::G=>min (min (fd (kidsR t) (kidsR u)+fd F G+cost t u) (fd (kidsR t++F) (u::G)+1)) (fd (t::F) (kidsR u++G)+1)
termination_by F G=>lsize F+lsize G
decreasing_by
 all_goals
  have h1:=zak t
  have h2:=zak u
  simp only[lsize,zaj]
  omega
theorem fd_le (F G:List Tree):fd F G≤lsize F+lsize G:=by
 have key:∀(n:Nat) (F G:List Tree),lsize F+lsize G<n→fd F G≤lsize F+lsize G:=by
  intro n
  induction n with
  |zero=>intro F G h;omega
  |succ n ih =>
   intro F G h
   cases F with
   |nil=>rw[fd];simp only[lsize];omega
   |cons t F =>
    cases G with
    |nil=>rw[fd];simp only[lsize];omega
    |cons u G =>
     have h1:=zak t
     have h2:=zak u
     simp only[lsize]at h
     have a2:=ih (kidsR t) (kidsR u) (by omega)
     have b2:=ih F G (by omega)
     have c2:=ih (kidsR t++F) (u::G) (by simp only[lsize,zaj];omega)
     have d2:=ih (t::F) (kidsR u++G) (by simp only[lsize,zaj];omega)
     rw[fd]
     simp only[lsize,zaj]at c2 d2 ⊢
     omega
 exact key _ F G (Nat.lt_succ_self _)
theorem zws (t u:Tree):cost t.bare u.bare=cost t u:=by
 obtain⟨k,n,x,a,ks⟩:=t
 obtain⟨k2,n2,x2,a2,ks2⟩:=u
 rfl
def Known (s t:Tree) (q:Quad) (v:Int):Prop:=∃a b F G,Rep s a F∧Rep t b G∧F≠[]∧G≠[]∧q=((rng a (lsize F)).1,(rng a (lsize F)).2,(rng b (lsize G)).1,(rng b (lsize G)).2)∧v=fd F G
theorem zlq {F:List Tree} (h:F≠[]):0<lsize F:=by
 cases F with
 |nil=>exact absurd rfl h
 |cons t F=>have:=zak t;simp only[lsize];omega
theorem Known.right {s t:Tree} {v:Int} {a b:Nat} {F G:List Tree} (hF:Rep s a F) (hG:Rep t b G) (h1:F≠[]) (h2:G≠[]) (h:Known s t ((rng a (lsize F)).1,(rng a (lsize F)).2,(rng b (lsize G)).1,(rng b (lsize G)).2) v):v=fd F G:=by
 obtain⟨a',b',F',G',g1,g2,g3,g4,g5,g6⟩:=h
 have p1:=zlq h1
 have p2:=zlq h2
 have p3:=zlq g3
 have p4:=zlq g4
 simp only[rng,if_neg (Nat.ne_of_gt p1),if_neg (Nat.ne_of_gt p2),if_neg (Nat.ne_of_gt p3),if_neg (Nat.ne_of_gt p4),Prod.mk.injEq]at g5
 obtain⟨e1,e2,e3,e4⟩:=g5
 obtain rfl:a=a':=by omega
 obtain rfl:b=b':=by omega
 rw[g6,hF.same g1 (by omega),hG.same g2 (by omega)]
end Go.Ideal

namespace Go.Ideal
open Go
set_option maxHeartbeats 4000000
set_option maxRecDepth 20000
attribute [-simp] getElem?_pos
structure Pair (H:List IBlk) (k km:Nat) (s t:Tree):Prop where
 blk:∃ka kb ma mb es ck,H[k]? = some (.cells [.ptr (.heap ka) 0 0, .ptr (.heap kb) 0 0, .map km] 3 0 false)∧H[km]? = some (.map es ck)∧Memo (Known s t) es∧SideAt H ka ma (postS s) (postT s 0) (firsts s)∧SideAt H kb mb (postS t) (postT t 0) (firsts t)∧km<ka∧km<kb∧km<k
theorem zat {a:Nat} {u:Tree} {F:List Tree}:rng a (lsize (u::F))=((a:Int),((a+lsize F+u.size-1:Nat):Int)):=by
 have h1:=zak u
 have h2:lsize (u::F)=u.size+lsize F:=rfl
 rw[h2,rng,if_neg (by omega)]
 congr 1;omega
def ApartSays (s t:Tree) (n:Nat):Prop:=∀(H:List IBlk) (k km a b:Nat) (F G:List Tree),Pair H k km s t→Rep s a F→Rep t b G→lsize F+lsize G<n →
 ∃H',CW tr.look F_Q191 [.ptr (.heap k) 0 0,fv (rng a (lsize F)),fv (rng b (lsize G))] H=some (.p (.int .i64 (fd F G)),H')∧Pair H' k km s t∧Keep (fun x=>x=km) H H'
theorem flat5:∀(N:List Tree) (j:Nat) (u:Tree),N[j]? = some u→((N.flatMap nodecell).drop (j*5)).take 5=nodecell u
 | [],j,u,h=>by rw[List.getElem?_nil]at h;cases h
 |x::N,0,u,h=>by
  rw[List.getElem?_cons_zero]at h
  injection h with h
  subst h
  simp[nodecell]
 |x::N,j+1,u,h=>by
  rw[List.getElem?_cons_succ]at h
  rw[← flat5 N j u h,List.flatMap_cons,Nat.succ_mul]
  simp only[nodecell,List.cons_append,List.nil_append,List.drop_succ_cons]
theorem SideAt.node {S:Nat→Prop} {H:List IBlk} {k m:Nat} {N:List Tree} {ids fs:List Nat} (h:SideAt H k m N ids fs) {j:Nat} {u:Tree} (hj:N[j]? = some u) (hS:∀x,S x→x<k∨m≤x):∃v q,up v = .v v∧up q = .v q∧idxS 5 v (.p (.int .i64 j))=some q∧v≠.undef∧q≠.undef∧∀H',Keep S H H'→loadVal ⟨[],H'⟩ none (.ptr (.heap k) 0 0)=some v∧loadVal ⟨[],H'⟩ (some 5) q=some (tagg u.bare):=by
 obtain⟨nv,fvv,o1,o2,h1,h2,h3,h4,h5,h6⟩:=h.blk
 have hjl:=(List.getElem?_eq_some_iff.1 hj).1
 cases o1 with
 |none=>have:=h2.2.1;omega
 |some k2 =>
  obtain⟨ver,e1,_⟩:=HS.load (bx:=[]) h2 hjl
  refine⟨nv,_,h2.up,rfl,e1,by rintro rfl;exact absurd h2.pass (by decide),by simp,fun H' hk=>⟨?_,?_⟩⟩
  ·exact zab (by rw[hk.2 k (List.getElem?_eq_some_iff.1 h1).1 (fun e=>by have:=hS k e;omega)];exact h1) rfl
  ·have h7:VS H' (some k2) 5 N.length nv (pcells (N.flatMap nodecell)):=h2.keep hk (fun x hx e=>by have:=h5 x hx;have:=hS x e;omega)
   obtain⟨ver2,e2,e3⟩:=HS.load (bx:=[]) h7 hjl
   rw[e1]at e2
   injection e2 with e2
   rw[e2,e3]
   have:=flat5 N j u hj
   have h8:((pcells (N.flatMap nodecell)).drop (j*5)).take 5=pcells (nodecell u):=by
    rw[← this,pcells,pcells,List.map_take,List.map_drop]
   rw[h8]
   rfl
theorem Pair.keep {H:List IBlk} {k km:Nat} {s t:Tree} (h:Pair H k km s t):∃ka kb ma mb,km<ka∧km<kb∧∀H',Keep (fun x=>x=km) H H'→loadVal ⟨[],H'⟩ none (.ptr (.heap k) 0 0)=some (.ptr (.heap ka) 0 0)∧loadVal ⟨[],H'⟩ none (.ptr (.heap k) 0 1)=some (.ptr (.heap kb) 0 0)∧loadVal ⟨[],H'⟩ none (.ptr (.heap k) 0 2)=some (.map km)∧SideAt H' ka ma (postS s) (postT s 0) (firsts s)∧SideAt H' kb mb (postS t) (postT t 0) (firsts t):=by
 obtain⟨ka,kb,ma,mb,es,ck,h1,h2,h3,h4,h5,h6,h7,h8⟩:=h.blk
 refine⟨ka,kb,ma,mb,h6,h7,fun H' hk=>?_⟩
 have g:H'[k]? = some (.cells [.ptr (.heap ka) 0 0, .ptr (.heap kb) 0 0, .map km] 3 0 false):=by rw[hk.2 k (List.getElem?_eq_some_iff.1 h1).1 (by omega)];exact h1
 exact⟨zab g rfl,zab g rfl,zab g rfl,h4.keep hk (fun x e=>.inl (by omega)),h5.keep hk (fun x e=>.inl (by omega))⟩
theorem zsc {u:Tree}:∀l:List Tree,u∈postSL l→∃c∈l,u∈postS c
 | [],h=>by simp[postSL]at h
 |t::l,h=>by
  rw[postSL,List.mem_append]at h
  rcases h with h|h
  ·exact⟨t,by simp,h⟩
  ·obtain⟨c,h1,h2⟩:=zsc l h
   exact⟨c,by simp[h1],h2⟩
theorem zsd (t u:Tree):u∈postS t→u∈t.nodes:=by
 have key:∀(n:Nat) (t:Tree),t.size<n→u∈postS t→u∈t.nodes:=by
  intro n
  induction n with
  |zero=>intro t h;omega
  |succ n ih =>
   intro t h hu
   rw[zdp,List.mem_append]at hu
   rcases hu with hu|hu
   ·obtain⟨c,h1,h2⟩:=zsc _ hu
    have:=zam h1
    have:=zag t
    exact zwm h1 (ih c (by omega) h2)
   ·simp at hu;subst hu;exact ziy _
 exact key _ t (Nat.lt_succ_self _)
theorem zse (s t:Tree) (hs:Fine s) (ht:Fine t) (n:Nat) (ih:ApartSays s t n) (H:List IBlk) (k km a b:Nat) (w u:Tree) (F G:List Tree) (hP:Pair H k km s t) (hF:Rep s a (w::F)) (hG:Rep t b (u::G)) (hn:lsize (w::F)+lsize (u::G)≤n) :
 ∃H',CW tr.look F_Q192 [.ptr (.heap k) 0 0,fv (rng a (lsize (w::F))),fv (rng b (lsize (u::G)))] H=some (.p (.int .i64 (fd (kidsR w) (kidsR u)+fd F G+cost w u:Nat)),H')∧Pair H' k km s t∧Keep (fun x=>x=km) H H':=by
 have hs1:=hs.1
 have ht1:=ht.1
 have lF:=hF.le
 have lG:=hG.le
 have hkw:=zak w
 have hku:=zak u
 have e1:lsize (w::F)=w.size+lsize F:=rfl
 have e2:lsize (u::G)=u.size+lsize G:=rfl
 have fl1:=fd_le (kidsR w) (kidsR u)
 have fl2:=fd_le F G
 have hc3:cost w u≤3:=by unfold cost;(repeat' split)<;>omega
 obtain⟨H1,c1,P1,K1⟩:=ih H k km _ _ (kidsR w) (kidsR u) hP hF.kids hG.kids (by omega)
 obtain⟨H2,c2,P2,K2⟩:=ih H1 k km _ _ F G P1 hF.rest hG.rest (by omega)
 obtain⟨ka,kb,ma,mb,m1,m2,hA⟩:=hP.keep
 have K0:Keep (fun x=>x=km) H H:=Keep.refl
 have K12:=K1.trans K2
 obtain⟨p1,p2,p3,p4,p5⟩:=hA H K0
 obtain⟨q1,q2,q3,q4,q5⟩:=hA H1 K1
 obtain⟨r1,r2,r3,r4,r5⟩:=hA H2 K12
 obtain⟨v,q,x1,x2,x3,x4,x5,x6⟩:=p4.node (S:=fun x=>x=km) hF.top (fun x e=>.inl (by omega))
 obtain⟨v',q',y1,y2,y3,y4,y5,y6⟩:=p5.node (S:=fun x=>x=km) hG.top (fun x e=>.inl (by omega))
 have kk1:=ztz H ka ma _ _ _ p4 a _ _ hF.first (by rw[firsts,List.length_mapIdx,zah];omega)
 have kk2:=ztz H kb mb _ _ _ p5 b _ _ hG.first (by rw[firsts,List.length_mapIdx,zah];omega)
 have ww1:=zjb H1 ka ma _ _ _ q4 a _ _ hF.first (by rw[firsts,List.length_mapIdx,zah];omega) (by omega)
 have ww2:=zjb H1 kb mb _ _ _ q5 b _ _ hG.first (by rw[firsts,List.length_mapIdx,zah];omega) (by omega)
 have z1:someF ((a+lsize F:Nat):Int) (((a+lsize F+w.size-1:Nat):Int)-1)=rng (a+lsize F) (lsize (kidsR w)):=by rw[← zbo];congr 1;omega
 have z2:someF ((b+lsize G:Nat):Int) (((b+lsize G+u.size-1:Nat):Int)-1)=rng (b+lsize G) (lsize (kidsR u)):=by rw[← zbo];congr 1;omega
 have z3:someF (a:Int) (((a+lsize F:Nat):Int)-1)=rng a (lsize F):=by rw[← zbo];congr 1
 have z4:someF (b:Int) (((b+lsize G:Nat):Int)-1)=rng b (lsize G):=by rw[← zbo];congr 1
 rw[z1]at kk1
 rw[z2]at kk2
 rw[z3]at ww1
 rw[z4]at ww2
 have cc:=zaft w.bare u.bare (by
  have:=hs.2 w (zsd s w (List.mem_of_getElem? hF.top))
  have e:w.bare.attrs=w.attrs:=rfl
  rw[e];omega) H2
 rw[zws]at cc
 obtain⟨x7,x8⟩:=x6 H K0
 obtain⟨x9,x10⟩:=x6 H1 K1
 obtain⟨x11,x12⟩:=x6 H2 K12
 obtain⟨y7,y8⟩:=y6 H K0
 obtain⟨y9,y10⟩:=y6 H1 K1
 obtain⟨y11,y12⟩:=y6 H2 K12
 simp only[fv]at kk1 kk2 ww1 ww2 c1 c2
 obtain⟨r,H',h1,rfl,h2⟩:=zaw (args:=[.ptr (.heap k) 0 0,fv (rng a (lsize (w::F))),fv (rng b (lsize (u::G)))]) (H:=H) (Q:=fun r H'=>r = .p (.int .i64 (fd (kidsR w) (kidsR u)+fd F G+cost w u:Nat))∧H'=H2) look_Q192 rfl rfl (by
  dsimp only[i_Q192,c_Q192]
  rw[zat,zat]
  simp(disch:=omega) [fv,p1,p2,q1,q2,r1,r2,x1,x2,x3,x4,x7,x8,x9,x10,x11,x12,y1,y2,y3,y4,y7,y8,y9,y10,y11,y12,kk1,kk2,ww1,ww2,c1,c2,zad,cc,zaa]
  )
 subst h2
 exact⟨H',h1,P2,K12⟩
end Go.Ideal

namespace Go.Ideal
open Go
set_option maxHeartbeats 4000000
set_option maxRecDepth 20000
attribute [-simp] getElem?_pos
theorem zany (G:List Tree):fd [] G=lsize G:=by rw[fd]
theorem zarh (F:List Tree):fd F []=lsize F:=by
 cases F with
 |nil=>rw[fd]
 |cons t F=>rw[fd]
theorem ext3 (x y z:Nat):evalExt (x:Int) false [.p (.int .i64 ((y:Int)+1)), .p (.int .i64 ((z:Int)+1))]=some ((min (min x (y+1)) (z+1):Nat):Int):=by
 simp only[evalExt,Bool.false_eq_true,if_false]
 congr 1
 by_cases h1:(y:Int)+1<x
 ·rw[if_pos h1]
  by_cases h2:(z:Int)+1<(y:Int)+1
  ·rw[if_pos h2];omega
  ·rw[if_neg h2];omega
 ·rw[if_neg h1]
  by_cases h2:(z:Int)+1<x
  ·rw[if_pos h2];omega
  ·rw[if_neg h2];omega
theorem Pair.put {H:List IBlk} {k km:Nat} {s t:Tree} {es:List (IVal×IVal×Nat)} {ck:Nat} (h:Pair H k km s t) (hm:Memo (Known s t) es):Pair (H.set km (.map es ck)) k km s t:=by
 obtain⟨ka,kb,ma,mb,es0,ck0,h1,h2,h3,h4,h5,h6,h7,h8⟩:=h.blk
 have hk:Keep (fun x=>x=km) H (H.set km (.map es ck)):=Keep.set (.inl rfl)
 refine⟨ka,kb,ma,mb,es,ck,?_,zap (List.getElem?_eq_some_iff.1 h2).1,hm,h4.keep hk (fun x e=>.inl (by omega)),h5.keep hk (fun x e=>.inl (by omega)),h6,h7,h8⟩
 rw[List.getElem?_set_ne (by omega)];exact h1
theorem zale (s t:Tree) (hs:Fine s) (ht:Fine t) (n:Nat) (ih:ApartSays s t n):ApartSays s t (n+1):=by
 intro H k km a b F G hP hF hG hn
 have hs1:=hs.1
 have ht1:=ht.1
 have lF:=hF.le
 have lG:=hG.le
 have K0:Keep (fun x=>x=km) H H:=Keep.refl
 have hnil:fv (rng 0 0)=fv (0, -1):=rfl
 cases F with
 |nil =>
  cases G with
  |nil =>
   obtain⟨r,H',h1,rfl,rfl⟩:=zaw (args:=[.ptr (.heap k) 0 0,fv (rng a (lsize [])),fv (rng b (lsize []))]) (H:=H) (Q:=fun r H'=>r = .p (.int .i64 (fd [] []:Nat))∧H'=H) look_Q191 rfl rfl (by
    dsimp only[i_Q191,c_Q191]
    simp(disch:=omega) [fv,rng,lsize,zeb,eqVals,eqCls,clsEq,zany])
   exact⟨_,h1,hP,K0⟩
  |cons u G =>
   have hku:=zak u
   have e2:lsize (u::G)=u.size+lsize G:=rfl
   have hne:¬((b:Int)=0∧((b+lsize G+u.size-1:Nat):Int) = -1):=by omega
   have hb2:((b+lsize G+u.size-1:Nat):Int) ≠ -1:=by omega
   obtain⟨r,H',h1,rfl,h2⟩:=zaw (args:=[.ptr (.heap k) 0 0,fv (rng a (lsize [])),fv (rng b (lsize (u::G)))]) (H:=H) (Q:=fun r H'=>r = .p (.int .i64 (fd [] (u::G):Nat))∧H'=H) look_Q191 rfl rfl (by
    dsimp only[i_Q191,c_Q191]
    rw[zat,zany,e2]
    simp(disch:=omega) [fv,rng,lsize,zeb,eqVals,eqCls,clsEq,beq_eq_false_iff_ne.2 hb2,Bool.and_false,zaa]
    omega)
   subst h2
   exact⟨_,h1,hP,K0⟩
 |cons w F =>
  have hkw:=zak w
  have e1:lsize (w::F)=w.size+lsize F:=rfl
  have ha2:((a+lsize F+w.size-1:Nat):Int) ≠ -1:=by omega
  cases G with
  |nil =>
   obtain⟨r,H',h1,rfl,h2⟩:=zaw (args:=[.ptr (.heap k) 0 0,fv (rng a (lsize (w::F))),fv (rng b (lsize []))]) (H:=H) (Q:=fun r H'=>r = .p (.int .i64 (fd (w::F) []:Nat))∧H'=H) look_Q191 rfl rfl (by
    dsimp only[i_Q191,c_Q191]
    rw[zat,zarh,e1]
    simp(disch:=omega) [fv,rng,lsize,zeb,eqVals,eqCls,clsEq,beq_eq_false_iff_ne.2 ha2,Bool.and_false,zaa]
    omega)
   subst h2
   exact⟨_,h1,hP,K0⟩
  |cons u G =>
   have hku:=zak u
   have e2:lsize (u::G)=u.size+lsize G:=rfl
   have hb2:((b+lsize G+u.size-1:Nat):Int) ≠ -1:=by omega
   have z1:someF (a:Int) (((a+lsize F+w.size-1:Nat):Int)-1)=rng a (lsize (kidsR w++F)):=by rw[← zbo,zaj];congr 1;omega
   have z2:someF (b:Int) (((b+lsize G+u.size-1:Nat):Int)-1)=rng b (lsize (kidsR u++G)):=by rw[← zbo,zaj];congr 1;omega
   obtain⟨ka,kb,ma,mb,m1,m2,hA⟩:=hP.keep
   obtain⟨p1,p2,p3,p4,p5⟩:=hA H K0
   have hP0:=hP
   obtain⟨ka',kb',ma',mb',es,ck,g1,g2,g3,g4⟩:=hP.blk
   let qd:Quad:=((a:Int),((a+lsize F+w.size-1:Nat):Int),(b:Int),((b+lsize G+u.size-1:Nat):Int))
   have hqd:quad qd = .agg [.p (.int .i64 a), .p (.int .i64 (a+lsize F+w.size-1:Nat)), .p (.int .i64 b), .p (.int .i64 (b+lsize G+u.size-1:Nat))]:=rfl
   have hkey:=zalc qd
   rw[hqd]at hkey
   rcases zpp qd es 0 g3 with hf|⟨j,v,hf,hd⟩
   ·rw[hqd]at hf
    obtain⟨H1,c1,P1,K1⟩:=zse s t hs ht n ih H k km a b w u F G hP0 hF hG (by omega)
    obtain⟨H2,c2,P2,K2⟩:=ih H1 k km a b (kidsR w++F) (u::G) P1 hF.opened hG (by rw[zaj];omega)
    obtain⟨H3,c3,P3,K3⟩:=ih H2 k km a b (w::F) (kidsR u++G) P2 hF hG.opened (by rw[zaj];omega)
    have K13:=(K1.trans K2).trans K3
    obtain⟨q1,q2,q3,q4,q5⟩:=hA H3 K13
    obtain⟨kc,kd,mc,md,es3,ck3,f1,f2,f3,f4,f5,f6⟩:=P3.blk
    have o1:=fun H=>zty ((a:Int),((a+lsize F+w.size-1:Nat):Int)) (by dsimp only;omega) (by dsimp only;omega) H
    have o2:=fun H=>zty ((b:Int),((b+lsize G+u.size-1:Nat):Int)) (by dsimp only;omega) (by dsimp only;omega) H
    dsimp only at o1 o2
    rw[z1]at o1
    rw[z2]at o2
    rw[zat,zat]at c1
    rw[zat]at c2 c3
    have b1:=fd_le (kidsR w) (kidsR u)
    have b2:=fd_le F G
    have b3:=fd_le (kidsR w++F) (u::G)
    have b4:=fd_le (w::F) (kidsR u++G)
    have hc3:cost w u≤3:=by unfold cost;(repeat' split)<;>omega
    rw[zaj]at b3 b4
    have hfd:fd (w::F) (u::G)=min (min (fd (kidsR w) (kidsR u)+fd F G+cost w u) (fd (kidsR w++F) (u::G)+1)) (fd (w::F) (kidsR u++G)+1):=by rw[fd]
    have hm:=ext3 (fd (kidsR w) (kidsR u)+fd F G+cost w u) (fd (kidsR w++F) (u::G)) (fd (w::F) (kidsR u++G))
    rw[← hfd]at hm
    simp only[Int.natCast_add]at hm
    have hK:Known s t qd (fd (w::F) (u::G):Nat):=⟨a,b,w::F,u::G,hF,hG,by simp,by simp,by rw[zat,zat],rfl⟩
    simp only[fv]at c1 c2 c3 o1 o2
    obtain⟨r,H',h1,rfl,h2,h3⟩:=zaw (args:=[.ptr (.heap k) 0 0,fv (rng a (lsize (w::F))),fv (rng b (lsize (u::G)))]) (H:=H) (Q:=fun r H'=>r = .p (.int .i64 (fd (w::F) (u::G):Nat))∧Pair H' k km s t∧Keep (fun x=>x=km) H H') look_Q191 rfl rfl (by
     dsimp only[i_Q191,c_Q191]
     rw[zat,zat]
     rcases zpp qd es3 0 f3 with hf3|⟨j3,v3,hf3,hd3⟩
     ·rw[hqd]at hf3
      simp(disch:=omega) [fv,zeb,eqVals,eqCls,clsEq,beq_eq_false_iff_ne.2 ha2,beq_eq_false_iff_ne.2 hb2,Bool.and_false,zaa,p3,hkey,Mem.get,Mem.put,g2,hf,hf3,lookRes,c1,c2,c3,o1,o2,hm,q3,f2]
      exact⟨P3.put (zald f3 hK),K13.trans (Keep.set (.inl rfl))⟩
     ·rw[hqd]at hf3
      simp(disch:=omega) [fv,zeb,eqVals,eqCls,clsEq,beq_eq_false_iff_ne.2 ha2,beq_eq_false_iff_ne.2 hb2,Bool.and_false,zaa,p3,hkey,Mem.get,Mem.put,g2,hf,hf3,lookRes,c1,c2,c3,o1,o2,hm,q3,f2]
      exact⟨P3.put (zabg es3 j3 f3 hK),K13.trans (Keep.set (.inl rfl))⟩)
    exact⟨_,h1,h2,h3⟩
   ·rw[hqd]at hf
    have hv:v=fd (w::F) (u::G):=Known.right hF hG (by simp) (by simp) (by rw[zat,zat];exact hd)
    obtain⟨r,H',h1,rfl,h2⟩:=zaw (args:=[.ptr (.heap k) 0 0,fv (rng a (lsize (w::F))),fv (rng b (lsize (u::G)))]) (H:=H) (Q:=fun r H'=>r = .p (.int .i64 (fd (w::F) (u::G):Nat))∧H'=H) look_Q191 rfl rfl (by
     dsimp only[i_Q191,c_Q191]
     rw[zat,zat]
     simp(disch:=omega) [fv,zeb,eqVals,eqCls,clsEq,beq_eq_false_iff_ne.2 ha2,beq_eq_false_iff_ne.2 hb2,Bool.and_false,p3,hkey,Mem.get,g2,hf,lookRes,hv])
    subst h2
    exact⟨_,h1,hP0,K0⟩
theorem zlr (s t:Tree) (hs:Fine s) (ht:Fine t):∀n,ApartSays s t n
 |0=>fun _ _ _ _ _ _ _ _ _ _ h=>absurd h (Nat.not_lt_zero _)
 |n+1=>zale s t hs ht n (zlr s t hs ht n)
end Go.Ideal

namespace Go.Ideal
open Go
set_option maxHeartbeats 4000000
set_option maxRecDepth 20000
attribute [-simp] getElem?_pos
theorem zpq (t:Tree):lsize [t]=t.size:=by simp[lsize]
end Go.Ideal

namespace Go.Ideal
open Go
theorem zcs (G:List Tree):fd [] G=lsize G:=by rw[fd]
theorem zfn (F:List Tree):fd F []=lsize F:=by
 cases F with
 |nil=>rw[fd]
 |cons t F=>rw[fd]
theorem zkh (t u:Tree) (F G:List Tree):fd (t::F) (u::G)=min (min (fd (kidsR t) (kidsR u)+fd F G+cost t u) (fd (kidsR t++F) (u::G)+1)) (fd (t::F) (kidsR u++G)+1):=by rw[fd]
theorem zaxs (A C B D:List Tree):fd (A++B) (C++D)≤fd A C+fd B D:=by
 have key:∀(n:Nat) (A C B D:List Tree),lsize A+lsize C+(lsize B+lsize D)<n→fd (A++B) (C++D)≤fd A C+fd B D:=by
  intro n
  induction n with
  |zero=>intro A C B D h;omega
  |succ n ih =>
   intro A C B D h
   cases A with
   |nil =>
    cases C with
    |nil=>rw[zcs];simp
    |cons u C =>
     have h2:=zak u
     simp only[lsize]at h
     have a1:=ih [] (kidsR u++C) B D (by simp only[lsize,zaj];omega)
     rw[zcs]at a1 ⊢
     simp only[lsize,zaj,List.nil_append,List.append_assoc,List.cons_append]at a1 ⊢
     cases B with
     |nil=>rw[zcs];rw[zcs]at a1 ⊢;simp only[lsize,zaj]at a1 ⊢;omega
     |cons b B=>rw[zkh];omega
   |cons t A =>
    have h1:=zak t
    cases C with
    |nil =>
     simp only[lsize]at h
     have a1:=ih (kidsR t++A) [] B D (by simp only[lsize,zaj];omega)
     rw[zfn]at a1 ⊢
     simp only[lsize,zaj,List.nil_append,List.append_assoc,List.cons_append]at a1 ⊢
     cases D with
     |nil=>rw[zfn];rw[zfn]at a1 ⊢;simp only[lsize,zaj]at a1 ⊢;omega
     |cons d D=>rw[zkh];omega
    |cons u C =>
     have h2:=zak u
     simp only[lsize]at h
     have a2:=ih A C B D (by omega)
     have a3:=ih (kidsR t++A) (u::C) B D (by simp only[lsize,zaj];omega)
     have a4:=ih (t::A) (kidsR u++C) B D (by simp only[lsize,zaj];omega)
     simp only[List.cons_append,List.append_assoc]at a3 a4 ⊢
     rw[zkh,zkh]
     omega
 exact key _ A C B D (Nat.lt_succ_self _)
end Go.Ideal

namespace Go.Ideal
open Go
set_option maxHeartbeats 4000000
set_option maxRecDepth 20000
attribute [-simp] getElem?_pos
def pr (A B:List Nat):Nat→Nat→List Tree→List Tree→List (Nat×Nat)
 |_,_,[],_=>[]
 |_,_,_::_,[]=>[]
 |a,b,t::F,u::G =>
  if fd (t::F) (u::G)=fd (kidsR t) (kidsR u)+fd F G+cost t u then pr A B (a+lsize F) (b+lsize G) (kidsR t) (kidsR u)++pr A B a b F G++[(A.getD (a+lsize F+t.size-1) 0,B.getD (b+lsize G+u.size-1) 0)]
  else if fd (t::F) (u::G)=fd (kidsR t++F) (u::G)+1 then pr A B a b (kidsR t++F) (u::G)else pr A B a b (t::F) (kidsR u++G)
termination_by _ _ F G=>lsize F+lsize G
decreasing_by
 all_goals
  have h1:=zak t
  have h2:=zak u
  simp only[lsize,zaj]
  omega
theorem zagi {A B:List Nat} {a b:Nat} {G:List Tree}:pr A B a b [] G=[]:=by rw[pr]
theorem zzj {A B:List Nat} {a b:Nat} {F:List Tree}:pr A B a b F []=[]:=by
 cases F with
 |nil=>rw[pr]
 |cons t F=>rw[pr]
theorem zzk {A B:List Nat} {a b:Nat} {t u:Tree} {F G:List Tree}:pr A B a b (t::F) (u::G)=if fd (t::F) (u::G)=fd (kidsR t) (kidsR u)+fd F G+cost t u then pr A B (a+lsize F) (b+lsize G) (kidsR t) (kidsR u)++pr A B a b F G++[(A.getD (a+lsize F+t.size-1) 0,B.getD (b+lsize G+u.size-1) 0)]
 else if fd (t::F) (u::G)=fd (kidsR t++F) (u::G)+1 then pr A B a b (kidsR t++F) (u::G)else pr A B a b (t::F) (kidsR u++G):=by rw[pr]
theorem zagj (A B:List Nat) (a b:Nat) (F G:List Tree):(pr A B a b F G).length≤lsize F:=by
 have key:∀(n:Nat) (a b:Nat) (F G:List Tree),lsize F+lsize G<n→(pr A B a b F G).length≤lsize F:=by
  intro n
  induction n with
  |zero=>intro a b F G h;omega
  |succ n ih =>
   intro a b F G h
   cases F with
   |nil=>rw[zagi];simp
   |cons t F =>
    cases G with
    |nil=>rw[zzj];simp
    |cons u G =>
     have h1:=zak t
     have h2:=zak u
     simp only[lsize]at h
     rw[zzk]
     split
     ·have a1:=ih (a+lsize F) (b+lsize G) (kidsR t) (kidsR u) (by omega)
      have a2:=ih a b F G (by omega)
      simp only[List.length_append,List.length_singleton,lsize];omega
     ·split
      ·have a3:=ih a b (kidsR t++F) (u::G) (by simp only[lsize,zaj];omega)
       simp only[lsize,zaj]at a3 ⊢;omega
      ·exact ih a b (t::F) (kidsR u++G) (by simp only[lsize,zaj];omega)
 exact key _ a b F G (Nat.lt_succ_self _)
theorem zsf {t u:Tree} {F G:List Tree} (h:fd (t::F) (u::G)=fd (kidsR t) (kidsR u)+fd F G+cost t u):cost t u<3:=by
 have h1:=zaxs (kidsR t) (kidsR u) F G
 have h2:fd (kidsR t++F) (u::G)≤fd (kidsR t++F) (kidsR u++G)+1:=by
  cases hk:kidsR t++F with
  |nil=>rw[zcs,zcs];have:=zak u;simp only[lsize,zaj];omega
  |cons x X=>rw[zkh x u];omega
 have h3:=zkh t u F G
 omega
def prcells (l:List (Nat×Nat)):List PVal:=l.flatMap fun p=>[.int .i64 p.1, .int .i64 p.2]
theorem zpr (l m:List (Nat×Nat)):prcells (l++m)=prcells l++prcells m:=by simp[prcells]
end Go.Ideal

namespace Go.Ideal
open Go
set_option maxHeartbeats 4000000
set_option maxRecDepth 20000
attribute [-simp] getElem?_pos
def PairsSays (s t:Tree) (n:Nat):Prop:=∀(H:List IBlk) (k km a b:Nat) (F G:List Tree),Pair H k km s t→Rep s a F→Rep t b G→lsize F+lsize G<n →
 ∃H' v o,CW tr.look F_Q167 [.ptr (.heap k) 0 0,fv (rng a (lsize F)),fv (rng b (lsize G))] H=some (v,H')∧Pair H' k km s t∧Keep (fun x=>x=km) H H' ∧
  VS H' o 2 (pr (postT s 0) (postT t 0) a b F G).length v (pcells (prcells (pr (postT s 0) (postT t 0) a b F G)))∧(∀ j,o=some j→H.length≤j)
theorem Pair.lt {H:List IBlk} {k km:Nat} {s t:Tree} (h:Pair H k km s t):km<H.length:=by
 obtain⟨ka,kb,ma,mb,es,ck,h1,h2,h3⟩:=h.blk
 exact(List.getElem?_eq_some_iff.1 h2).1
theorem Pair.mix {H0 H H':List IBlk} {k km:Nat} {s t:Tree} (h0:Pair H0 k km s t) (h:Pair H k km s t) (h1:Keep (fun x=>x=km) H0 H) {S:Nat→Prop} (hk:Keep S H H') (hS:∀i,S i→H0.length≤i):Pair H' k km s t:=by
 have hl:=h0.lt
 have hle:=h1.1
 have h2:Keep (fun x=>x=km) H0 H':=h1.trans' hk (fun i hi e=>by have:=hS i e;omega)
 obtain⟨ka,kb,ma,mb,es,ck,a1,a2,a3,a4,a5,a6,a7,a8⟩:=h0.blk
 obtain⟨_,_,_,_,es2,ck2,_,b2,b3,_⟩:=h.blk
 refine⟨ka,kb,ma,mb,es2,ck2,?_,?_,b3,a4.keep h2 (fun x e=>.inl (by omega)),a5.keep h2 (fun x e=>.inl (by omega)),a6,a7,a8⟩
 ·rw[h2.2 k (List.getElem?_eq_some_iff.1 a1).1 (by omega)];exact a1
 ·rw[hk.2 km (by omega) (fun e=>by have:=hS km e;omega)];exact b2
theorem SideAt.idl {H:List IBlk} {k m:Nat} {N:List Tree} {ids fs:List Nat} (h:SideAt H k m N ids fs):loadVal ⟨[],H⟩ none (.ptr (.heap k) 0 1)=some (.p (nval ids)):=by
 obtain⟨nv,fvv,o1,o2,h1,h2,h3⟩:=h.blk
 exact zab h1 rfl
theorem zalf (s t:Tree) (hs:Fine s) (ht:Fine t) (n:Nat) (ih:PairsSays s t n):PairsSays s t (n+1):=by
 intro H k km a b F G hP hF hG hn
 have hs1:=hs.1
 have ht1:=ht.1
 have lF:=hF.le
 have lG:=hG.le
 have K0:Keep (fun x=>x=km) H H:=Keep.refl
 cases F with
 |nil =>
  rw[zagi]
  obtain⟨r,H',h1,rfl,h2⟩:=zaw (args:=[.ptr (.heap k) 0 0,fv (rng a (lsize [])),fv (rng b (lsize G))]) (H:=H) (Q:=fun r H'=>r = .p .nilslice∧H'=H) look_Q167 rfl rfl (by
   dsimp only[i_Q167,c_Q167]
   simp(disch:=omega) [fv,lsize,zeb,eqVals,eqCls,clsEq,show rng a 0=(0, -1)from rfl])
  subst h2
  exact⟨_,_,none,h1,hP,K0,VS.nil,by simp⟩
 |cons w F =>
  have hkw:=zak w
  have e1:lsize (w::F)=w.size+lsize F:=rfl
  have ha2:((a+lsize F+w.size-1:Nat):Int) ≠ -1:=by omega
  cases G with
  |nil =>
   rw[zzj]
   obtain⟨r,H',h1,rfl,h2⟩:=zaw (args:=[.ptr (.heap k) 0 0,fv (rng a (lsize (w::F))),fv (rng b (lsize []))]) (H:=H) (Q:=fun r H'=>r = .p .nilslice∧H'=H) look_Q167 rfl rfl (by
    dsimp only[i_Q167,c_Q167]
    rw[zat]
    simp(disch:=omega) [fv,lsize,zeb,eqVals,eqCls,clsEq,beq_eq_false_iff_ne.2 ha2,Bool.and_false,show rng b 0=(0, -1)from rfl])
   subst h2
   exact⟨_,_,none,h1,hP,K0,VS.nil,by simp⟩
  |cons u G =>
   have hku:=zak u
   have e2:lsize (u::G)=u.size+lsize G:=rfl
   have hb2:((b+lsize G+u.size-1:Nat):Int) ≠ -1:=by omega
   have z1:someF (a:Int) (((a+lsize F+w.size-1:Nat):Int)-1)=rng a (lsize (kidsR w++F)):=by rw[← zbo,zaj];congr 1;omega
   have z2:someF (b:Int) (((b+lsize G+u.size-1:Nat):Int)-1)=rng b (lsize (kidsR u++G)):=by rw[← zbo,zaj];congr 1;omega
   have y1:someF ((a+lsize F:Nat):Int) (((a+lsize F+w.size-1:Nat):Int)-1)=rng (a+lsize F) (lsize (kidsR w)):=by rw[← zbo];congr 1;omega
   have y2:someF ((b+lsize G:Nat):Int) (((b+lsize G+u.size-1:Nat):Int)-1)=rng (b+lsize G) (lsize (kidsR u)):=by rw[← zbo];congr 1;omega
   have y3:someF (a:Int) (((a+lsize F:Nat):Int)-1)=rng a (lsize F):=by rw[← zbo];congr 1
   have y4:someF (b:Int) (((b+lsize G:Nat):Int)-1)=rng b (lsize G):=by rw[← zbo];congr 1
   obtain⟨H1,c1,P1,K1⟩:=zlr s t hs ht _ H k km a b (w::F) (u::G) hP hF hG (Nat.lt_succ_self _)
   obtain⟨H2,c2,P2,K2⟩:=zse s t hs ht _ (zlr s t hs ht _) H1 k km a b w u F G P1 hF hG (Nat.le_refl _)
   have K12:=K1.trans K2
   have b1:=fd_le (kidsR w) (kidsR u)
   have b2:=fd_le F G
   have b3:=fd_le (kidsR w++F) (u::G)
   have b4:=fd_le (w::F) (kidsR u++G)
   have b5:=fd_le (w::F) (u::G)
   have hc3:cost w u≤3:=by unfold cost;(repeat' split)<;>omega
   rw[zaj]at b3 b4
   rw[zat,zat]at c1 c2
   have o1:=fun H=>zty ((a:Int),((a+lsize F+w.size-1:Nat):Int)) (by dsimp only;omega) (by dsimp only;omega) H
   have o2:=fun H=>zty ((b:Int),((b+lsize G+u.size-1:Nat):Int)) (by dsimp only;omega) (by dsimp only;omega) H
   dsimp only at o1 o2
   rw[z1]at o1
   rw[z2]at o2
   simp only[fv]at c1 c2 o1 o2
   rw[zzk]
   by_cases hm:fd (w::F) (u::G)=fd (kidsR w) (kidsR u)+fd F G+cost w u
   ·rw[if_pos hm]
    have hcl:=zsf hm
    generalize hp1:pr (postT s 0) (postT t 0) (a+lsize F) (b+lsize G) (kidsR w) (kidsR u)=p1
    generalize hp2:pr (postT s 0) (postT t 0) a b F G=p2
    have hl1:=zagj (postT s 0) (postT t 0) (a+lsize F) (b+lsize G) (kidsR w) (kidsR u)
    have hl2:=zagj (postT s 0) (postT t 0) a b F G
    rw[hp1]at hl1
    rw[hp2]at hl2
    obtain⟨H3,v3,q3,c3,P3,K3,V3,N3⟩:=ih H2 k km _ _ (kidsR w) (kidsR u) P2 hF.kids hG.kids (by omega)
    obtain⟨H4,v4,q4,c4,P4,K4,V4,N4⟩:=ih H3 k km _ _ F G P3 hF.rest hG.rest (by omega)
    rw[hp1]at V3
    rw[hp2]at V4
    have kml:=P2.lt
    have V3':=V3.keep K4 (fun j hj e=>by have:=N3 j hj;omega)
    obtain⟨v5,H5,q5,c5,V5,K5,N5⟩:=V3'.appendVS V4 (by omega)
    have hK3l:=K3.1
    have hK4l:=K4.1
    have hK12l:=K12.1
    have K5':Keep (fun x=>x=km) H H5:=by
     refine((K12.trans K3).trans K4).trans' K5 ?_
     intro i hi e
     have:=N3 i e;omega
    have P5:Pair H5 k km s t:=P2.mix P4 (K3.trans K4) K5 (fun i e=>N3 i e)
    obtain⟨ka,kb,ma,mb,m1,m2,hA⟩:=hP.keep
    obtain⟨p1',p2',p3',p4',p5'⟩:=hA H2 K12
    obtain⟨r1,r2,r3,r4,r5⟩:=hA H3 (K12.trans K3)
    obtain⟨t1,t2,t3,t4,t5⟩:=hA H5 K5'
    have kk1:=ztz H2 ka ma _ _ _ p4' a _ _ hF.first (by rw[firsts,List.length_mapIdx,zah];omega)
    have kk2:=ztz H2 kb mb _ _ _ p5' b _ _ hG.first (by rw[firsts,List.length_mapIdx,zah];omega)
    have ww1:=zjb H3 ka ma _ _ _ r4 a _ _ hF.first (by rw[firsts,List.length_mapIdx,zah];omega) (by omega)
    have ww2:=zjb H3 kb mb _ _ _ r5 b _ _ hG.first (by rw[firsts,List.length_mapIdx,zah];omega) (by omega)
    rw[y1]at kk1
    rw[y2]at kk2
    rw[y3]at ww1
    rw[y4]at ww2
    simp only[fv]at kk1 kk2 ww1 ww2 c3 c4
    obtain⟨x,q,x1,x2,x3,x4,x5,x6⟩:=t4.node (S:=fun x=>x=km) hF.top (fun x e=>.inl (by omega))
    obtain⟨x',q',xx1,xx2,xx3,xx4,xx5,xx6⟩:=t5.node (S:=fun x=>x=km) hG.top (fun x e=>.inl (by omega))
    obtain⟨x7,x8⟩:=x6 H5 Keep.refl
    obtain⟨xx7,xx8⟩:=xx6 H5 Keep.refl
    have cc:=zaft w.bare u.bare (by
     have:=hs.2 w (zsd s w (List.mem_of_getElem? hF.top))
     have e:w.bare.attrs=w.attrs:=rfl
     rw[e];omega) H5
    rw[zws]at cc
    obtain⟨iA,hiA⟩:∃i,(postT s 0)[a+lsize F+w.size-1]? = some i:=⟨_,List.getElem?_eq_getElem (by rw[zay];omega)⟩
    obtain⟨iB,hiB⟩:∃i,(postT t 0)[b+lsize G+u.size-1]? = some i:=⟨_,List.getElem?_eq_getElem (by rw[zay];omega)⟩
    have gA:(postT s 0).getD (a+lsize F+w.size-1) 0=iA:=by rw[List.getD_eq_getElem?_getD,hiA];rfl
    have gB:(postT t 0).getD (b+lsize G+u.size-1) 0=iB:=by rw[List.getD_eq_getElem?_getD,hiB];rfl
    rw[gA,gB]
    have id1:=t4.idl
    have id2:=t5.idl
    have ii1:=zua hiA
    have ii2:=zua hiB
    obtain⟨v6,H6,q6,c6,V6,K6,l6,N6,_⟩:=V5.append1 (ys:=[.p (.int .i64 iA), .p (.int .i64 iB)]) rfl (by omega)
    have hup3:=V3.up
    have hps3:=V3.pass
    have hne3:v3≠.undef:=by rintro rfl;exact absurd hps3 (by decide)
    have hup4:=V4.up
    have hne4:v4≠.undef:=by rintro rfl;exact absurd V4.pass (by decide)
    have hup5:=V5.up
    have hne5:v5≠.undef:=by rintro rfl;exact absurd V5.pass (by decide)
    have hup6:=V6.up
    have hne6:v6≠.undef:=by rintro rfl;exact absurd V6.pass (by decide)
    have hps6:=V6.pass
    have hge5:∀j,q5=some j→H2.length≤j:=by
     intro j hj
     rcases N5 with e|⟨k',e,e2⟩
     ·exact N3 j (by rw[← e];exact hj)
     ·rw[e]at hj;injection hj with hj;omega
    obtain⟨r,H',h1,rfl,h2⟩:=zaw (args:=[.ptr (.heap k) 0 0,fv (rng a (lsize (w::F))),fv (rng b (lsize (u::G)))]) (H:=H) (Q:=fun r H'=>r=v6∧H'=H6) look_Q167 rfl rfl (by
     dsimp only[i_Q167,c_Q167]
     rw[zat,zat]
     simp(disch:=omega) [fv,zeb,eqVals,eqCls,clsEq,beq_eq_false_iff_ne.2 ha2,beq_eq_false_iff_ne.2 hb2,Bool.and_false,c1,c2,hm,p1',p2',r1,r2,t1,t2,kk1,kk2,ww1,ww2,c3,c4,c5,hup3,hup4,hup5,hup6,hps6,x1,x2,x3,x7,x8,xx1,xx2,xx3,xx7,xx8,zad,cc,id1,id2,ii1,ii2,c6])
    subst h2
    refine⟨_,_,q6,h1,P2.mix P5 ((K3.trans K4).trans' K5 (fun i hi e=>by have:=N3 i e;omega)) K6 (fun i e=>hge5 i e),K5'.trans' K6 (fun i hi e=>by have:=hge5 i e;omega),?_,?_⟩
    ·have e7:(p1++p2++[(iA,iB)]).length=p1.length+p2.length+1:=by simp;omega
     rw[e7,zpr,zpr,zmp,zmp]
     exact V6
    ·intro j hj
     rcases N6 with e|⟨k',e,e2⟩
     ·have:=hge5 j (by rw[← e];exact hj);omega
     ·have:=K5'.1
      rw[e]at hj;injection hj with hj;omega
   ·rw[if_neg hm]
    have hm':((fd (w::F) (u::G):Nat):Int)≠((fd (kidsR w) (kidsR u)+fd F G+cost w u:Nat):Int):=by omega
    obtain⟨H3,c3,P3,K3⟩:=zlr s t hs ht _ H2 k km a b (kidsR w++F) (u::G) P2 hF.opened hG (Nat.lt_succ_self _)
    rw[zat]at c3
    simp only[fv]at c3
    have K13:=K12.trans K3
    by_cases hd:fd (w::F) (u::G)=fd (kidsR w++F) (u::G)+1
    ·rw[if_pos hd]
     obtain⟨H4,v4,q4,c4,P4,K4,V4,N4⟩:=ih H3 k km a b (kidsR w++F) (u::G) P3 hF.opened hG (by rw[zaj];omega)
     have hl:=K13.1
     rw[zat]at c4
     simp only[fv]at c4
     have hup:=V4.up
     have hps:=V4.pass
     have hne:v4≠.undef:=by rintro rfl;exact absurd hps (by decide)
     obtain⟨r,H',h1,rfl,h2⟩:=zaw (args:=[.ptr (.heap k) 0 0,fv (rng a (lsize (w::F))),fv (rng b (lsize (u::G)))]) (H:=H) (Q:=fun r H'=>r=v4∧H'=H4) look_Q167 rfl rfl (by
      dsimp only[i_Q167,c_Q167]
      rw[zat,zat]
      simp(disch:=omega) [fv,zeb,eqVals,eqCls,clsEq,beq_eq_false_iff_ne.2 ha2,beq_eq_false_iff_ne.2 hb2,Bool.and_false,zaa,c1,c2,c3,c4,o1,hd,hup,hps])
     subst h2
     exact⟨_,_,q4,h1,P4,K13.trans K4,V4,fun j hj=>by have:=N4 j hj;omega⟩
    ·rw[if_neg hd]
     have hd':((fd (w::F) (u::G):Nat):Int)≠((fd (kidsR w++F) (u::G):Nat):Int)+1:=by omega
     obtain⟨H4,v4,q4,c4,P4,K4,V4,N4⟩:=ih H3 k km a b (w::F) (kidsR u++G) P3 hF hG.opened (by rw[zaj];omega)
     have hl:=K13.1
     rw[zat]at c4
     simp only[fv]at c4
     have hup:=V4.up
     have hps:=V4.pass
     have hne:v4≠.undef:=by rintro rfl;exact absurd hps (by decide)
     obtain⟨r,H',h1,rfl,h2⟩:=zaw (args:=[.ptr (.heap k) 0 0,fv (rng a (lsize (w::F))),fv (rng b (lsize (u::G)))]) (H:=H) (Q:=fun r H'=>r=v4∧H'=H4) look_Q167 rfl rfl (by
      dsimp only[i_Q167,c_Q167]
      rw[zat,zat]
      simp(disch:=omega) [fv,zeb,eqVals,eqCls,clsEq,beq_eq_false_iff_ne.2 ha2,beq_eq_false_iff_ne.2 hb2,Bool.and_false,zaa,c1,c2,c3,c4,o1,o2,hup,hps])
     subst h2
     exact⟨_,_,q4,h1,P4,K13.trans K4,V4,fun j hj=>by have:=N4 j hj;omega⟩
theorem zwt (s t:Tree) (hs:Fine s) (ht:Fine t):∀n,PairsSays s t n
 |0=>fun _ _ _ _ _ _ _ _ _ _ h=>absurd h (Nat.not_lt_zero _)
 |n+1=>zalf s t hs ht n (zwt s t hs ht n)
end Go.Ideal

namespace Go.Ideal
open Go
attribute [-simp] getElem?_pos
abbrev TN:=Tree×Nat
def kidsG:List Tree→Nat→List TN
 | [],_=>[]
 |t::l,i=>(t,i)::kidsG l (i+t.size)
def kidsT (x:TN):List TN:=(kidsG (klist x.1.kids) (x.2+1)).reverse
theorem zwu:∀(l:List Tree) (i:Nat),(kidsG l i).map (·.1)=l
 | [],i=>rfl
 |t::l,i=>by simp[kidsG,zwu l]
theorem zid (x:TN):(kidsT x).map (·.1)=kidsR x.1:=by simp[kidsT,kidsR,zwu]
def postI (x:TN):List TN:=(postS x.1).zip (postT x.1 x.2)
def postF (F:List TN):List TN:=F.flatMap postI
theorem zni:∀(l:List Tree) (i:Nat),(postL l i).length=lsize l
 | [],i=>rfl
 |t::l,i=>by simp only[postL,lsize,List.length_append,zay,zni l]
theorem zsg:∀(l:List Tree) (i:Nat),postF (kidsG l i)=(postSL l).zip (postL l i)
 | [],i=>rfl
 |t::l,i=>by
  have:=zsg l (i+t.size)
  simp only[postF,kidsG,List.flatMap_cons]at this ⊢
  rw[this,postSL,postL,List.zip_append (by rw[zah,zay])]
  rfl
theorem zub (x:TN):postI x=postF (kidsT x).reverse++[x]:=by
 rw[postI,zdp,zja,kidsT,List.reverse_reverse,zsg,List.zip_append (by rw[zcv,zni])]
 rfl
theorem zwv (x:TN):(postI x).length=x.1.size:=by
 rw[postI,List.length_zip,zah,zay,Nat.min_self]
theorem zie (F G:List TN):postF (F++G)=postF F++postF G:=by simp[postF]
theorem zif (x:TN):postF [x]=postI x:=by simp[postF]
theorem zig:∀F:List TN,(postF F).length=lsize (F.map (·.1))
 | []=>rfl
 |x::F=>by
  have:=zig F
  simp only[postF,List.flatMap_cons,List.length_append,List.map_cons,lsize,zwv]at this ⊢
  omega
def fsz (F:List TN):Nat:=lsize (F.map (·.1))
theorem zdq (x:TN) (F:List TN):fsz (x::F)=x.1.size+fsz F:=rfl
theorem zagk (F:List TN):lsize (F.reverse.map (·.1))=fsz F:=by rw[List.map_reverse,zcn];rfl
theorem zgv (x:TN):x.1.size=fsz (kidsT x)+1:=by rw[fsz,zid];exact zak x.1
theorem zki (F G:List TN):fsz (F++G)=fsz F+fsz G:=by simp[fsz,zaj]
def RepT (s:Tree) (a:Nat) (F:List TN):Prop:=∃A B,postI (s,0)=A++(postF F.reverse++B)∧A.length=a
theorem RepT.root (t:Tree):RepT t 0 [(t,0)]:=⟨[],[],by simp[zif],rfl⟩
theorem RepT.kids {t:Tree} {u:TN} {a:Nat} {F:List TN} (h:RepT t a (u::F)):RepT t (a+fsz F) (kidsT u):=by
 obtain⟨A,B,h1,h2⟩:=h
 refine⟨A++postF F.reverse,u::B,?_,by rw[List.length_append,zig,zagk,h2]⟩
 rw[h1,List.reverse_cons,zie,zif,zub]
 simp
theorem RepT.rest {t:Tree} {u:TN} {a:Nat} {F:List TN} (h:RepT t a (u::F)):RepT t a F:=by
 obtain⟨A,B,h1,h2⟩:=h
 refine⟨A,postI u++B,?_,h2⟩
 rw[h1,List.reverse_cons,zie,zif]
 simp
theorem RepT.opened {t:Tree} {u:TN} {a:Nat} {F:List TN} (h:RepT t a (u::F)):RepT t a (kidsT u++F):=by
 obtain⟨A,B,h1,h2⟩:=h
 refine⟨A,u::B,?_,h2⟩
 rw[h1,List.reverse_append,List.reverse_cons,zie,zie,zif,zub]
 simp
theorem RepT.top {t:Tree} {u:TN} {a:Nat} {F:List TN} (h:RepT t a (u::F)):(postI (t,0))[a+fsz F+u.1.size-1]? = some u:=by
 obtain⟨A,B,h1,h2⟩:=h
 have hk:=zgv u
 have e:postI (t,0)=(A++(postF F.reverse++postF (kidsT u).reverse))++(u::B):=by
  rw[h1,List.reverse_cons,zie,zif,zub]
  simp
 have hl:(A++(postF F.reverse++postF (kidsT u).reverse)).length=a+fsz F+u.1.size-1:=by
  simp only[List.length_append,zig,zagk,h2];omega
 rw[e,List.getElem?_append_right (by omega),hl,Nat.sub_self]
 rfl
theorem RepT.id {t:Tree} {u:TN} {a:Nat} {F:List TN} (h:RepT t a (u::F)):(postT t 0).getD (a+fsz F+u.1.size-1) 0=u.2:=by
 have h1:=h.top
 rw[postI,List.getElem?_zip_eq_some]at h1
 rw[List.getD_eq_getElem?_getD,h1.2];rfl
def Has (s:Tree) (x:TN):Prop:=(s.vis[x.2]?).map (·.t)=some x.1
theorem RepT.has {t:Tree} {u:TN} {a:Nat} {F:List TN} (h:RepT t a (u::F)):Has t u:=by
 have h1:=h.top
 rw[postI,List.getElem?_zip_eq_some]at h1
 obtain⟨u',v,p1,p2,p3,p4,p5⟩:=zpn h1.2
 have:u'=u.1:=by have:=h1.1;dsimp only at this;rw[p1]at this;injection this
 unfold Has
 rw[Tree.vis,p2,Option.map_some,p3,this]
def prT:List TN→List TN→List (Nat×Nat)
 | [],_=>[]
 |_::_,[]=>[]
 |t::F,u::G =>
  if fd ((t::F).map (·.1)) ((u::G).map (·.1))=fd ((kidsT t).map (·.1)) ((kidsT u).map (·.1))+fd (F.map (·.1)) (G.map (·.1))+cost t.1 u.1 then prT (kidsT t) (kidsT u)++prT F G++[(t.2,u.2)]
  else if fd ((t::F).map (·.1)) ((u::G).map (·.1))=fd ((kidsT t++F).map (·.1)) ((u::G).map (·.1))+1 then prT (kidsT t++F) (u::G)else prT (t::F) (kidsT u++G)
termination_by F G=>fsz F+fsz G
decreasing_by
 all_goals
  have h1:=zgv t
  have h2:=zgv u
  simp only[zdq,zki]
  omega
theorem zagl {G:List TN}:prT [] G=[]:=by rw[prT]
theorem zabh {F:List TN}:prT F []=[]:=by
 cases F with
 |nil=>rw[prT]
 |cons t F=>rw[prT]
theorem zabi {t u:TN} {F G:List TN}:prT (t::F) (u::G)=if fd ((t::F).map (·.1)) ((u::G).map (·.1))=fd ((kidsT t).map (·.1)) ((kidsT u).map (·.1))+fd (F.map (·.1)) (G.map (·.1))+cost t.1 u.1 then prT (kidsT t) (kidsT u)++prT F G++[(t.2,u.2)]
 else if fd ((t::F).map (·.1)) ((u::G).map (·.1))=fd ((kidsT t++F).map (·.1)) ((u::G).map (·.1))+1 then prT (kidsT t++F) (u::G)else prT (t::F) (kidsT u++G):=by rw[prT]
theorem zaxt (s t:Tree) (a b:Nat) (F G:List TN) (hF:RepT s a F) (hG:RepT t b G):pr (postT s 0) (postT t 0) a b (F.map (·.1)) (G.map (·.1))=prT F G:=by
 have key:∀(n:Nat) (a b:Nat) (F G:List TN),fsz F+fsz G<n→RepT s a F→RepT t b G→pr (postT s 0) (postT t 0) a b (F.map (·.1)) (G.map (·.1))=prT F G:=by
  intro n
  induction n with
  |zero=>intro a b F G h;omega
  |succ n ih =>
   intro a b F G h hF hG
   cases F with
   |nil=>rw[zagl];exact zagi
   |cons x F =>
    cases G with
    |nil=>rw[zabh];exact zzj
    |cons y G =>
     have h1:=zgv x
     have h2:=zgv y
     simp only[zdq]at h
     have i1:=ih _ _ _ _ (by omega) hF.kids hG.kids
     have i2:=ih _ _ _ _ (by omega) hF.rest hG.rest
     have i3:=ih _ _ (kidsT x++F) (y::G) (by simp only[zdq,zki];omega) hF.opened hG
     have i4:=ih _ _ (x::F) (kidsT y++G) (by simp only[zdq,zki];omega) hF hG.opened
     have d1:=hF.id
     have d2:=hG.id
     rw[zabi,←i1,←i2,←i3,←i4]
     simp only[List.map_cons,List.map_append,zid]
     rw[zzk]
     simp only[fsz]at d1 d2
     rw[d1,d2]
     rfl
 exact key _ a b F G (Nat.lt_succ_self _) hF hG
def nd (s:Tree) (i:Nat):Tree:=match s.vis[i]? with|some v=>v.t|none=>s
theorem Has.nd {s:Tree} {x:TN} (h:Has s x):nd s x.2=x.1:=by
 unfold Has at h
 unfold Ideal.nd
 cases e:s.vis[x.2]? with
 |none=>rw[e]at h;cases h
 |some v=>rw[e]at h;injection h
theorem Has.lt {s:Tree} {x:TN} (h:Has s x):x.2<s.size:=by
 unfold Has at h
 cases e:s.vis[x.2]? with
 |none=>rw[e]at h;cases h
 |some v=>have:=(List.getElem?_eq_some_iff.1 e).1;rw[zaz]at this;exact this
def InF (s:Tree) (F:List TN) (i:Nat):Prop:=∃x∈F,x.2≤i∧i+(nd s i).size≤x.2+x.1.size
def ordF (F:List TN):Prop:=F.Pairwise fun x y=>y.2+y.1.size≤x.2
theorem zih:∀(l:List Tree) (i:Nat),∀k∈kidsG l i,i≤k.2∧k.2+k.1.size≤i+lsize l
 | [],i,k,h=>by simp[kidsG]at h
 |t::l,i,k,h=>by
  simp only[kidsG,List.mem_cons]at h
  simp only[lsize]
  rcases h with rfl|h
  ·dsimp only;omega
  ·have:=zih l (i+t.size) k h;omega
theorem zww:∀(l:List Tree) (i:Nat),(kidsG l i).Pairwise fun x y=>x.2+x.1.size≤y.2
 | [],_=>List.Pairwise.nil
 |t::l,i=>List.Pairwise.cons (fun k hk=>(zih l (i+t.size) k hk).1) (zww l _)
theorem zbu (x:TN):∀k∈kidsT x,x.2<k.2∧k.2+k.1.size≤x.2+x.1.size:=by
 intro k hk
 have:=zih _ _ k (List.mem_reverse.1 hk)
 have:=zag x.1
 omega
theorem zps (x:TN):ordF (kidsT x):=by
 unfold ordF kidsT
 rw[List.pairwise_reverse]
 exact zww _ _
theorem ordF.opened {x:TN} {F:List TN} (h:ordF (x::F)):ordF (kidsT x++F):=by
 unfold ordF at h ⊢
 rw[List.pairwise_cons]at h
 rw[List.pairwise_append]
 refine⟨zps x,h.2,fun k hk y hy=>?_⟩
 have:=zbu x k hk
 have:=h.1 y hy
 omega
theorem InF.opened {s:Tree} {x:TN} {F:List TN} {i:Nat} (h:InF s (kidsT x++F) i):InF s (x::F) i:=by
 obtain⟨y,hy,h1,h2⟩:=h
 rcases List.mem_append.1 hy with hy|hy
 ·have:=zbu x y hy
  exact⟨x,by simp,by omega,by omega⟩
 ·exact⟨y,by simp[hy],h1,h2⟩
def Fit (s t:Tree) (p q:Nat×Nat):Prop :=
 (q.1<p.1∧q.2<p.2∧(p.1<q.1+(nd s q.1).size↔p.2<q.2+(nd t q.2).size))∨(p.1<q.1∧p.2<q.2∧(q.1<p.1+(nd s p.1).size↔q.2<p.2+(nd t p.2).size))
theorem Fit.symm {s t:Tree} {p q:Nat×Nat} (h:Fit s t p q):Fit s t q p:=Or.symm h
def csum (s t:Tree) (l:List (Nat×Nat)):Nat:=(l.map fun p=>cost (nd s p.1) (nd t p.2)).sum
theorem zabj (s t:Tree) (l m:List (Nat×Nat)):csum s t (l++m)=csum s t l+csum s t m:=by simp[csum]
theorem zaxu (s t:Tree) (a b:Nat) (F G:List TN) (hF:RepT s a F) (hG:RepT t b G) (oF:ordF F) (oG:ordF G) :
 (∀ p∈prT F G,InF s F p.1∧InF t G p.2)∧(prT F G).Pairwise (Fit s t)∧(∀ p∈prT F G,p.1<s.size∧p.2<t.size∧cost (nd s p.1) (nd t p.2)<3) ∧
  fd (F.map (·.1)) (G.map (·.1))+2*(prT F G).length=fsz F+fsz G+csum s t (prT F G):=by
 have key:∀(n:Nat) (a b:Nat) (F G:List TN),fsz F+fsz G<n→RepT s a F→RepT t b G→ordF F→ordF G →
  (∀ p∈prT F G,InF s F p.1∧InF t G p.2)∧(prT F G).Pairwise (Fit s t)∧(∀ p∈prT F G,p.1<s.size∧p.2<t.size∧cost (nd s p.1) (nd t p.2)<3) ∧
  fd (F.map (·.1)) (G.map (·.1))+2*(prT F G).length=fsz F+fsz G+csum s t (prT F G):=by
  intro n
  induction n with
  |zero=>intro a b F G h;omega
  |succ n ih =>
   intro a b F G h hF hG oF oG
   cases F with
   |nil =>
    rw[zagl,List.map_nil,zcs]
    exact⟨by simp,List.Pairwise.nil,by simp,by simp[fsz,csum,lsize]⟩
   |cons x F =>
    cases G with
    |nil =>
     rw[zabh,List.map_nil,zfn]
     exact⟨by simp,List.Pairwise.nil,by simp,by simp[fsz,csum,lsize]⟩
    |cons y G =>
     have h1:=zgv x
     have h2:=zgv y
     have hx:=hF.has
     have hy:=hG.has
     have oF':=oF
     have oG':=oG
     unfold ordF at oF' oG'
     rw[List.pairwise_cons]at oF' oG'
     rw[zabi]
     simp only[zdq]at h
     split
     ·rename_i hm
      have hcl:cost x.1 y.1<3:=by
       refine zsf (t:=x.1) (u:=y.1) (F:=F.map (·.1)) (G:=G.map (·.1)) ?_
       rw[← zid,←zid];exact hm
      obtain⟨a1,a2,a3,a4⟩:=ih _ _ _ _ (by omega) hF.kids hG.kids (zps x) (zps y)
      obtain⟨b1,b2,b3,b4⟩:=ih _ _ _ _ (by omega) hF.rest hG.rest oF'.2 oG'.2
      refine⟨?_,?_,?_,?_⟩
      ·intro p hp
       rcases List.mem_append.1 hp with hp|hp
       ·rcases List.mem_append.1 hp with hp|hp
        ·obtain⟨⟨k,c1,c2,c3⟩,⟨k',d1,d2,d3⟩⟩:=a1 p hp
         have e1:=zbu x k c1
         have e2:=zbu y k' d1
         exact⟨⟨x,by simp,by omega,by omega⟩,⟨y,by simp,by omega,by omega⟩⟩
        ·obtain⟨⟨k,c1,c2⟩,⟨k',d1,d2⟩⟩:=b1 p hp
         exact⟨⟨k,by simp[c1],c2⟩,⟨k',by simp[d1],d2⟩⟩
       ·simp at hp;subst hp
        exact⟨⟨x,by simp,by simp,by rw[hx.nd];simp⟩,⟨y,by simp,by simp,by rw[hy.nd];simp⟩⟩
      ·rw[List.pairwise_append,List.pairwise_append]
       refine⟨⟨a2,b2,?_⟩,List.pairwise_singleton _ _,?_⟩
       ·intro p hp q hq
        obtain⟨⟨k,c1,c2,c3⟩,⟨k',d1,d2,d3⟩⟩:=a1 p hp
        obtain⟨⟨z,e1,e2,e3⟩,⟨z',f1,f2,f3⟩⟩:=b1 q hq
        have g1:=zbu x k c1
        have g2:=zbu y k' d1
        have g3:=oF'.1 z e1
        have g4:=oG'.1 z' f1
        have s1:=zaf (nd s q.1)
        have s2:=zaf (nd t q.2)
        left
        exact⟨by omega,by omega,by omega⟩
       ·intro p hp q hq
        simp at hq;subst hq
        rcases List.mem_append.1 hp with hp|hp
        ·obtain⟨⟨k,c1,c2,c3⟩,⟨k',d1,d2,d3⟩⟩:=a1 p hp
         have g1:=zbu x k c1
         have g2:=zbu y k' d1
         have s1:=zaf (nd s p.1)
         have s2:=zaf (nd t p.2)
         left
         refine⟨by dsimp only;omega,by dsimp only;omega,?_⟩
         rw[hx.nd,hy.nd]
         constructor<;>intro _<;>dsimp only<;>omega
        ·obtain⟨⟨z,e1,e2,e3⟩,⟨z',f1,f2,f3⟩⟩:=b1 p hp
         have g3:=oF'.1 z e1
         have g4:=oG'.1 z' f1
         have s1:=zaf (nd s p.1)
         have s2:=zaf (nd t p.2)
         right
         refine⟨by dsimp only;omega,by dsimp only;omega,?_⟩
         dsimp only
         constructor<;>intro _<;>omega
      ·intro p hp
       rcases List.mem_append.1 hp with hp|hp
       ·rcases List.mem_append.1 hp with hp|hp
        ·exact a3 p hp
        ·exact b3 p hp
       ·simp at hp;subst hp
        refine⟨hx.lt,hy.lt,?_⟩
        rw[hx.nd,hy.nd];exact hcl
      ·have e:csum s t [(x.2,y.2)]=cost x.1 y.1:=by
        simp only[csum,List.map_cons,List.map_nil,List.sum_cons,List.sum_nil,Nat.add_zero]
        rw[hx.nd,hy.nd]
       rw[zabj,zabj,e,hm]
       simp only[List.length_append,List.length_singleton,zdq]
       omega
     ·split
      ·rename_i hd
       obtain⟨a1,a2,a3,a4⟩:=ih _ _ (kidsT x++F) (y::G) (by simp only[zdq,zki];omega) hF.opened hG oF.opened oG
       refine⟨fun p hp=>⟨(a1 p hp).1.opened,(a1 p hp).2⟩,a2,a3,?_⟩
       rw[hd]
       simp only[zdq,zki]at a4 ⊢
       omega
      ·rename_i hm hd
       have hf:=zkh x.1 y.1 (F.map (·.1)) (G.map (·.1))
       obtain⟨a1,a2,a3,a4⟩:=ih _ _ (x::F) (kidsT y++G) (by simp only[zdq,zki];omega) hF hG.opened oF oG.opened
       refine⟨fun p hp=>⟨(a1 p hp).1,(a1 p hp).2.opened⟩,a2,a3,?_⟩
       simp only[List.map_cons,List.map_append,zid]at hm hd a4 ⊢
       simp only[zdq,zki]at a4 ⊢
       omega
 exact key _ a b F G (Nat.lt_succ_self _) hF hG oF oG
end Go.Ideal

namespace Go.Ideal
open Go
set_option maxHeartbeats 1000000
theorem zadc (k:Option (List Tree)) (h:∀t∈klist k,∀H,CW tr.look F_Q46 [tagg t] H=some (.p (.int .i64 t.size),H)) (hs:lsize (klist k)<1000000000000) (Q:IExit→Env→KM→Prop)
 (hQ:Q .normal [(3, .int .i64 (lsize (klist k)+1:Nat))] ⟨[],[]⟩) :
 wpLoop (CW tr.look) 19 m_Q46_0 l_Q46_0 (blkK 0 b_Q46_0 Q) [(3, .int .i64 1),(7, .v (.p (kval k))),(8, .int .i64 (klist k).length),(9, .int .i64 0)] ⟨[],[]⟩:=by
 refine zac (α:=Nat×Nat) (fun a=>[(3, .int .i64 a.2),(7, .v (.p (kval k))),(8, .int .i64 (klist k).length),(9, .int .i64 a.1)]) (fun a=>⟨[],[]⟩)
  (fun a=>a.1≤(klist k).length∧a.2+lsize ((klist k).drop a.1)=lsize (klist k)+1) (fun a=>(klist k).length-a.1) ?_ (0,1) ⟨by omega,by simp;omega⟩
 rintro⟨j,acc⟩ ⟨hj,ha⟩ L hL
 dsimp only at hj ha hL ⊢
 dsimp only[l_Q46_0]
 by_cases hjl:j<(klist k).length
 ·have hl:=zrz hjl
  have hc:=h _ (List.getElem_mem hjl)
  have:=zal (klist k)
  have:=zlh hjl
  simp(disch:=omega) [zck,zad,hc,zaa]
  exact hL (j+1,acc+(klist k)[j].size) ⟨by dsimp only;omega,by dsimp only;omega⟩ (by dsimp only;omega)
 ·obtain rfl:j=(klist k).length:=by omega
  simp[lsize]at ha
  subst ha
  simp
  simpa using hQ
theorem zalg:∀(n:Nat) (t:Tree),t.size<n→n≤1000000000000→∀(H:List IBlk),CW tr.look F_Q46 [tagg t] H=some (.p (.int .i64 t.size),H):=by
 intro n
 induction n with
 |zero=>intro t h;omega
 |succ n ih =>
  intro t h hb H
  have ht:=zag t
  refine zai look_Q46 rfl (by simp) rfl ?_
  dsimp only[i_Q46,c_Q46]
  simp
  refine zadc _ (fun u hu H=>ih u (by have:=zam hu;omega) (by omega) H) (by omega) _ ?_
  simp[ht]
mutual
def Tree.deep:Tree→Nat
 | .mk _ _ _ _ none=>1
 | .mk _ _ _ _ (some l)=>ldeep l+1
def ldeep:List Tree→Nat
 | []=>0
 |t::l=>max t.deep (ldeep l)
end
theorem zpt (t:Tree):t.deep=ldeep (klist t.kids)+1:=by
 cases t with
 |mk a b c d e=>cases e<;>simp[Tree.deep,Tree.kids,klist,ldeep]
theorem zuc:∀(n:Nat) (t:Tree),t.size<n→t.deep≤t.size:=by
 intro n
 induction n with
 |zero=>intro t h;omega
 |succ n ih =>
  intro t h
  have ht:=zag t
  have:∀l:List Tree,lsize l<n→ldeep l≤lsize l:=by
   intro l
   induction l with
   |nil=>intro _;simp[ldeep]
   |cons u l ihl =>
    intro hl
    simp only[lsize]at hl
    have h1:=ih u (by omega)
    have h2:=ihl (by omega)
    have:=zaf u
    simp only[ldeep,lsize]
    omega
  have:=this (klist t.kids) (by omega)
  rw[zpt]
  omega
theorem zwx:∀ {l:List Tree} {j:Nat} (h:j<l.length),max (l[j].deep) (ldeep (l.drop (j+1)))=ldeep (l.drop j):=by
 intro l j h
 rw[List.drop_eq_getElem_cons h,ldeep]
theorem zzl (k:Option (List Tree)) (h:∀t∈klist k,∀H,CW tr.look F_Q83 [tagg t] H=some (.p (.int .i64 t.deep),H)) (hs:lsize (klist k)<1000000000000) (Q:IExit→Env→KM→Prop)
 (hQ:Q .normal [(3, .int .i64 (ldeep (klist k):Nat))] ⟨[],[]⟩) :
 wpLoop (CW tr.look) 20 m_Q83_0 l_Q83_0 (blkK 0 b_Q83_0 Q) [(3, .int .i64 0),(7, .v (.p (kval k))),(8, .int .i64 (klist k).length),(9, .int .i64 0)] ⟨[],[]⟩:=by
 refine zac (α:=Nat×Nat) (fun a=>[(3, .int .i64 a.2),(7, .v (.p (kval k))),(8, .int .i64 (klist k).length),(9, .int .i64 a.1)]) (fun a=>⟨[],[]⟩)
  (fun a=>a.1≤(klist k).length∧max a.2 (ldeep ((klist k).drop a.1))=ldeep (klist k)) (fun a=>(klist k).length-a.1) ?_ (0,0) ⟨by omega,by simp⟩
 rintro⟨j,acc⟩ ⟨hj,ha⟩ L hL
 dsimp only at hj ha hL ⊢
 dsimp only[l_Q83_0]
 by_cases hjl:j<(klist k).length
 ·have hl:=zwx hjl
  have hc:=h _ (List.getElem_mem hjl)
  have:=zal (klist k)
  have:=zuc _ (klist k)[j] (Nat.lt_succ_self _)
  have:=zlh hjl
  have hm:evalExt (acc:Int) true [.p (.int .i64 ((klist k)[j].deep:Nat))]=some ((max acc (klist k)[j].deep:Nat):Int):=by
   simp only[evalExt,if_true]
   congr 1
   split<;>omega
  simp(disch:=omega) [zck,zad,hc,zaa,hm]
  exact hL (j+1,max acc (klist k)[j].deep) ⟨by dsimp only;omega,by dsimp only;omega⟩ (by dsimp only;omega)
 ·obtain rfl:j=(klist k).length:=by omega
  simp[ldeep]at ha
  subst ha
  simp
  simpa using hQ
theorem zagm:∀(n:Nat) (t:Tree),t.size<n→n≤1000000000000→∀(H:List IBlk),CW tr.look F_Q83 [tagg t] H=some (.p (.int .i64 (t.deep:Nat)),H):=by
 intro n
 induction n with
 |zero=>intro t h;omega
 |succ n ih =>
  intro t h hb H
  have ht:=zag t
  have hd:=zpt t
  have hd2:=zuc _ t h
  refine zai look_Q83 rfl (by simp) rfl ?_
  dsimp only[i_Q83,c_Q83]
  simp
  refine zzl _ (fun u hu H=>ih u (by have:=zam hu;omega) (by omega) H) (by omega) _ ?_
  simp(disch:=omega) [zaa,hd]
def badC (c:UInt8):Bool:=c.toNat==9||c.toNat==10||c.toNat==12||c.toNat==32||c.toNat==0||c.toNat==34||c.toNat==39||c.toNat==62||c.toNat==47||c.toNat==61||c.toNat==60||(decide (65≤c.toNat)&&decide (c.toNat≤90))
def nameB (s:Bytes):Bool:=decide (1≤s.length)&&decide (s.length≤32)&&s.all fun c=>!badC c
theorem zadd (s:Bytes) (hs:s.length≤32) (Q:IExit→Env→KM→Prop)
 (h1:(s.all fun c=>!badC c)=true→Q .normal [] ⟨[],[]⟩) (h2:(s.all fun c=>!badC c)=false→∀E,lookE E 2 = .bool false→Q .ret E ⟨[],[]⟩) :
 wpLoop (CW tr.look) 40 m_Q120_0 l_Q120_0 (blkK 0 b_Q120_0 Q) [(0, .str s),(13, .int .i64 s.length),(14, .int .i64 0)] ⟨[],[]⟩:=by
 refine zac (α:=Nat) (fun j=>[(0, .str s),(13, .int .i64 s.length),(14, .int .i64 j)]) (fun _=>⟨[],[]⟩)
  (fun j=>j≤s.length∧(s.take j).all (fun c=>!badC c)=true) (fun j=>s.length-j) ?_ 0 ⟨by omega,by simp⟩
 rintro j ⟨hj,ht⟩ L hL
 dsimp only[l_Q120_0]
 by_cases hjl:j<s.length
 ·have hb:=zwe hjl
  obtain⟨c,hc⟩:∃c,s[j]=c:=⟨_,rfl⟩
  rw[hc]at hb
  cases hbad:badC c with
  |false =>
   simp[badC]at hbad
   have g1:¬(c.toNat:Int)=9:=by omega
   have g2:¬(c.toNat:Int)=10:=by omega
   have g3:¬(c.toNat:Int)=12:=by omega
   have g4:¬(c.toNat:Int)=32:=by omega
   have g5:¬(c.toNat:Int)=0:=by omega
   have g6:¬(c.toNat:Int)=34:=by omega
   have g7:¬(c.toNat:Int)=39:=by omega
   have g8:¬(c.toNat:Int)=62:=by omega
   have g9:¬(c.toNat:Int)=47:=by omega
   have ga:¬(c.toNat:Int)=61:=by omega
   have gb:¬(c.toNat:Int)=60:=by omega
   have hnext:L [(0,SV.str s),(13,SV.int IntKind.i64 s.length),(14,SV.int IntKind.i64 (j+1))] ⟨[],[]⟩:=by
    refine hL (j+1) ⟨by omega,?_⟩ (by omega)
    have hcb:badC c=false:=by simp[badC];exact hbad
    rw[List.take_add_one,List.all_append,ht,List.getElem?_eq_getElem hjl,hc]
    simp[hcb]
   by_cases hu:(65:Int)≤c.toNat
   ·have hv:¬(c.toNat:Int)≤90:=by omega
    simp(disch:=omega) [hb,zaa]
    exact hnext
   ·simp(disch:=omega) [hb,zaa]
    exact hnext
  |true =>
   have hall:(s.all fun c=>!badC c)=false:=by
    rw[Bool.eq_false_iff]
    intro h
    rw[List.all_eq_true]at h
    have:=h s[j] (List.getElem_mem hjl)
    rw[hc,hbad]at this
    cases this
   have h2:=h2 hall
   simp[badC]at hbad
   rcases(show(c.toNat:Int)=9∨(c.toNat:Int)=10∨(c.toNat:Int)=12∨(c.toNat:Int)=32∨(c.toNat:Int)=0∨(c.toNat:Int)=34∨(c.toNat:Int)=39∨(c.toNat:Int)=62∨(c.toNat:Int)=47∨(c.toNat:Int)=61∨(c.toNat:Int)=60∨(65≤(c.toNat:Int)∧(c.toNat:Int)≤90)by omega)with g|g|g|g|g|g|g|g|g|g|g|g
   case inr.inr.inr.inr.inr.inr.inr.inr.inr.inr.inr =>
    have g1:¬(c.toNat:Int)=9:=by omega
    have g2:¬(c.toNat:Int)=10:=by omega
    have g3:¬(c.toNat:Int)=12:=by omega
    have g4:¬(c.toNat:Int)=32:=by omega
    have g5:¬(c.toNat:Int)=0:=by omega
    have g6:¬(c.toNat:Int)=34:=by omega
    have g7:¬(c.toNat:Int)=39:=by omega
    have g8:¬(c.toNat:Int)=62:=by omega
    have g9:¬(c.toNat:Int)=47:=by omega
    have ga:¬(c.toNat:Int)=61:=by omega
    have gb:¬(c.toNat:Int)=60:=by omega
    simp(disch:=omega) [hb]
    exact h2 _ rfl
   all_goals
    simp(disch:=omega) [hb,g]
    exact h2 _ rfl
 ·obtain rfl:j=s.length:=by omega
  simp
  rw[List.take_length]at ht
  exact h1 ht
theorem zabk (s:Bytes) (H:List IBlk):CW tr.look F_Q120 [.p (.str s)] H=some (.p (.bool (nameB s)),H):=by
 refine zai look_Q120 rfl (by simp) rfl ?_
 dsimp only[i_Q120,c_Q120]
 by_cases h0:s=[]
 ·subst h0
  simp[nameB]
 ·have hl0:1≤s.length:=by cases s with|nil=>exact absurd rfl h0|cons a l=>simp
  by_cases h1:32<s.length
  ·have h1':(32:Int)<s.length:=by omega
   have:¬s.length≤32:=by omega
   simp[nameB,h0,h1',this]
  ·have h1':¬(32:Int)<s.length:=by omega
   have h3:s.length≤32:=by omega
   simp[h0,h1']
   refine zadd s h3 _ (fun h=>?_) (fun h E hE=>?_)
   ·simp[nameB,h,hl0,h3]
   ·simp[nameB,h,hE]
end Go.Ideal

namespace Go.Ideal
open Go
set_option maxHeartbeats 4000000
set_option maxRecDepth 20000
attribute [-simp] getElem?_pos
theorem zdr (a b:Int) (H:List IBlk):CW tr.look F_Q95 [.p (.int .i64 a), .p (.int .i64 b)] H=some (.p (.int .i64 (icmp a b)),H):=by
 have hn:∀(a:Int) (H:List IBlk),CW tr.look F_Q139 [.p (.int .i64 a)] H=some (.p (.bool false),H):=by
  intro a H
  refine zai look_Q139 rfl (by simp) rfl ?_
  dsimp only[i_Q139,c_Q139]
  simp(disch:=omega) []
 refine zai look_Q95 rfl (by simp) rfl ?_
 dsimp only[i_Q95,c_Q95]
 unfold icmp sgn
 by_cases h1:a<b
 ·simp(disch:=omega) [hn,h1]
 ·by_cases h2:b<a
  ·simp(disch:=omega) [hn,h1,h2]
  ·simp(disch:=omega) [hn,h1,h2]
def dice (p q r u:Nat):Int:=icmp ((if q=0 then 0 else p)*(if u=0 then 1 else u):Nat) ((if u=0 then 0 else r)*(if q=0 then 1 else q):Nat)
theorem zari {a b:Nat} (ha:a≤1000000000) (hb:b≤1000000000):a*b≤1000000000000000000:=Nat.le_trans (Nat.mul_le_mul ha hb) (by decide)
theorem zagn {a b:Nat} (ha:a≤1000000000) (hb:b≤1000000000):((a:Int)*(b:Int))=((a*b:Nat):Int)∧a*b≤1000000000000000000:=⟨by simp,zari ha hb⟩
theorem zarj (p q r u:Nat) (hp:p≤1000000000) (hq:q≤1000000000) (hr:r≤1000000000) (hu:u≤1000000000) (H:List IBlk) :
 CW tr.look F_Q133 [.p (.int .i64 p), .p (.int .i64 q), .p (.int .i64 r), .p (.int .i64 u)] H=some (.p (.int .i64 (dice p q r u)),H):=by
 refine zai look_Q133 rfl (by simp) rfl ?_
 dsimp only[i_Q133,c_Q133]
 have h1:=zagn hp hu
 have h2:=zagn hr hq
 unfold dice
 by_cases hq0:q=0<;>by_cases hu0:u=0
 ·subst hq0 hu0
  simp(disch:=omega) [zaa,zdr]
 ·subst hq0
  simp(disch:=omega) [zaa,zdr,hu0]
 ·subst hu0
  simp(disch:=omega) [zaa,zdr,hq0]
 ·simp only[hq0,hu0,if_false]
  generalize p*u=m1 at *
  generalize r*q=m2 at *
  have e1:=h1.1
  have e2:=h2.1
  have b1:=h1.2
  have b2:=h2.2
  simp(disch:=omega) [zaa,zdr,e1,e2]
def half (p q:Nat):Bool:=decide (q<4*p)
theorem zark (p q:Nat) (hp:p≤1000000000) (_:q≤1000000000) (H:List IBlk) :
 CW tr.look F_Q134 [.p (.int .i64 p), .p (.int .i64 q)] H=some (.p (.bool (half p q)),H):=by
 refine zai look_Q134 rfl (by simp) rfl ?_
 dsimp only[i_Q134,c_Q134]
 unfold half
 by_cases h:q<4*p
 ·have:(q:Int)<4*(p:Int):=by omega
  simp(disch:=omega) [zaa,h]
 ·have:¬(q:Int)<4*(p:Int):=by omega
  simp(disch:=omega) [zaa,h]
end Go.Ideal

namespace Go.Ideal
open Go
set_option maxHeartbeats 1000000
attribute [-simp] getElem?_pos
theorem zzm {Γ:Prog} {F:IFun} {k:FuncId} {args al:List IVal} {H:List IBlk} {r:IVal} (hk:Γ k=some F) (hp:F.pure=true) (hf:freezeAll H args=some al) (hpl:plainArgs al=true) (hr:scalRes r=true) (h:CW Γ k al []=some (r,[])):CW Γ k args H=some (r,H):=by
 have h:=zgy.1 h
 generalize hq:(r,([]:List IBlk))=q at h
 cases h with
 |base hn _=>rw[hk]at hn;cases hn
 |more hn _ _ _=>rw[hk]at hn;cases hn
 |mk C hC hb =>
  subst hq
  refine zgy.2 (.mk C hC ?_)
  unfold callBody at hb ⊢
  simp only[hk,hp,zbi hpl]at hb
  simp only[hk,hp,hf]
  cases hrun:runBody C loopW F al []with
  |none=>rw[hrun]at hb;cases hb
  |some p =>
   obtain⟨v,H'⟩:=p
   rw[hrun]at hb
   dsimp only at hb ⊢
   cases hz:freezeRes H' v with
   |none=>rw[hz]at hb;cases hb
   |some w =>
    rw[hz]at hb
    dsimp only at hb ⊢
    rw[hpl,Bool.true_or]at hb
    injection hb with hb
    injection hb with hb _
    subst hb
    rw[hr,Bool.true_or,Bool.or_true]
def attrsG:Bytes→List (Bytes×Bytes)→Bool
 |_,[]=>true
 |last,a::l=>bytesLess last a.1&&nameB a.1&&decide (a.2.length≤4096)&&attrsG a.1 l
def attrsB (l:List (Bytes×Bytes)):Bool:=decide (l.length≤12)&&attrsG [] l
theorem zzn (a:Option Attrs) (hs:(alist a).length≤12) (Q:IExit→Env→KM→Prop)
 (h1:attrsG [] (alist a)=true→Q .normal [] ⟨[],[]⟩) (h2:attrsG [] (alist a)=false→∀E B,lookE E 2 = .bool false→Q .ret E ⟨B,[]⟩) :
 wpLoop (CW tr.look) 34 m_Q163_0 l_Q163_0 (blkK 0 b_Q163_0 Q) [(3, .str []),(9, .v (.p (aval a))),(10, .int .i64 (alist a).length),(11, .int .i64 0)] ⟨[],[]⟩:=by
 refine zac (α:=Nat×Bytes) (fun p=>[(3, .str p.2),(9, .v (.p (aval a))),(10, .int .i64 (alist a).length),(11, .int .i64 p.1)]) (fun _=>⟨[],[]⟩)
  (fun p=>p.1≤(alist a).length∧attrsG p.2 ((alist a).drop p.1)=attrsG [] (alist a)) (fun p=>(alist a).length-p.1) ?_ (0,[]) ⟨by simp,by simp⟩
 rintro⟨j,last⟩ ⟨hj,ht⟩ L hL
 dsimp only at hj ht hL ⊢
 dsimp only[l_Q163_0]
 by_cases hjl:j<(alist a).length
 ·rw[List.drop_eq_getElem_cons hjl,attrsG]at ht
  cases hb:bytesLess last (alist a)[j].1
  ·rw[hb]at ht
   simp(disch:=omega) [zbk,hb]
   exact h2 (by rw[← ht];rfl) _ _ rfl
  ·have hn:=zabk (alist a)[j].1
   cases hc:nameB (alist a)[j].1
   ·rw[hc]at hn
    rw[hb,hc]at ht
    simp(disch:=omega) [zbk,hb,hn]
    exact h2 (by rw[← ht];rfl) _ _ rfl
   ·rw[hc]at hn
    by_cases hv:(alist a)[j].2.length≤4096
    ·have hv':¬(4096:Int)<(alist a)[j].2.length:=by omega
     simp(disch:=omega) [zbk,hb,hn,zaa]
     exact hL (j+1,(alist a)[j].1) ⟨by dsimp only;omega,by dsimp only;rw[← ht,hb,hc];simp[hv]⟩ (by dsimp only;omega)
    ·have hv':(4096:Int)<(alist a)[j].2.length:=by omega
     simp(disch:=omega) [zbk,hb,hn]
     exact h2 (by rw[← ht];simp[hv]) _ _ rfl
 ·obtain rfl:j=(alist a).length:=by omega
  simp
  refine h1 ?_
  rw[List.drop_length]at ht
  exact ht.symm
theorem zago (a:Option Attrs) (H:List IBlk):CW tr.look F_Q163 [.p (aval a)] H=some (.p (.bool (attrsB (alist a))),H):=by
 refine zai look_Q163 rfl (by simp) rfl ?_
 dsimp only[i_Q163,c_Q163]
 by_cases hl:(alist a).length≤12
 ·have hl':¬(12:Int)<(alist a).length:=by omega
  simp[hl']
  refine zzn a hl _ (fun h=>?_) (fun h E B hE=>?_)
  ·simp[attrsB,h,hl]
  ·simp[attrsB,h,hE]
 ·have hl':(12:Int)<(alist a).length:=by omega
  simp[hl',attrsB,hl]
theorem zwy (a b:Bytes):CW tr.look F_Q84 [.p (.slice 1 2 [.str a, .str b])] []=some (.p (.bool (decide (a=[])&&decide (b=[]))),[]):=by
 refine zai look_Q84 rfl (by simp) rfl ?_
 dsimp only[i_Q84,c_Q84]
 simp
 have e0:∀a b:Bytes,idxS 1 (.p (.slice 1 2 [.str a, .str b])) (.p (.int .i64 0))=some (.p (.ptr [.str a, .str b])):=fun _ _=>rfl
 have e1:∀a b:Bytes,idxS 1 (.p (.slice 1 2 [.str a, .str b])) (.p (.int .i64 1))=some (.p (.ptr [.str b])):=fun _ _=>rfl
 by_cases ha:a=[]
 ·refine zcg ?_
  dsimp only[l_Q84_0]
  simp(disch:=omega) [e0,ha,zaa]
  by_cases hb:b=[]
  ·refine zcg ?_
   simp(disch:=omega) [e1,hb,zaa]
   refine zcg ?_
   simp(disch:=omega)
   exact⟨ha,hb⟩
  ·refine zcg ?_
   simp(disch:=omega) [e1,hb]
 ·refine zcg ?_
  dsimp only[l_Q84_0]
  simp(disch:=omega) [e0,ha]
theorem zagp (a b:Bytes) (k:Nat) (H:List IBlk) (hk:H[k]? = some (.cells [.p (.str a), .p (.str b)] 1 0 false)):CW tr.look F_Q84 [.slice k 0 0 2] H=some (.p (.bool (decide (a=[])&&decide (b=[]))),H):=by
 refine zzm (F:=i_Q84) (al:=[.p (.slice 1 2 [.str a, .str b])]) look_Q84 rfl ?_ rfl rfl (zwy a b)
 have hz:=zdx (H:=H) (k:=k) (e:=1) (n:=2) (v := .slice k 0 0 2) (xs:=[.str a, .str b]) ⟨0,_,false,rfl,hk,by simp,rfl⟩
 simp only[freezeAll,freezeOne,hz]
def leafB (k:Int) (n x:Bytes):Bool :=
 if k=3 then decide (n=[])&&(decide (x≠[])&&decide (x.length≤4096))
 else if k=4 then decide (n=[])&&decide (x.length≤4096)
 else if k=5 then decide (x=[])&&decide (n.length≤32)
 else false
mutual
def nodeB:Tree→Bool
 | .mk k n x a none=>if k=2 then nameB n&&decide (x=[])&&attrsB (alist a)else decide ((alist a).length=0)&&leafB k n x
 | .mk k n x a (some l)=>if k=2 then nameB n&&decide (x=[])&&attrsB (alist a)&&kidsB false l else decide ((alist a).length=0)&&decide (l.length=0)&&leafB k n x
def kidsB (root:Bool):List Tree→Bool
 | []=>true
 |t::l=>nodeB t&&(decide (t.kind≠5)||root)&&kidsB root l
end
theorem zjc (t:Tree):nodeB t=if t.kind=2 then nameB t.name&&decide (t.text=[])&&attrsB (alist t.attrs)&&kidsB false (klist t.kids)else decide ((alist t.attrs).length=0)&&decide ((klist t.kids).length=0)&&leafB t.kind t.name t.text:=by
 cases t with
 |mk k n x a c=>cases c<;>simp[nodeB,Tree.kind,Tree.name,Tree.text,Tree.attrs,Tree.kids,klist,kidsB]<;>rfl
def checkB (t:Tree):Bool:=decide (t.kind=1)&&decide (t.size≤300)&&decide (t.deep≤60)&&(decide (t.name=[])&&decide (t.text=[]))&&decide ((alist t.attrs).length=0)&&kidsB true (klist t.kids)
theorem zade (t:Tree) {c1 c2 c3:SV} (h:∀u∈klist t.kids,∀H,CW tr.look F_Q125 [tagg u] H=some (.p (.bool (nodeB u)),H)) (hl:(klist t.kids).length<1000000000000) (Q:IExit→Env→KM→Prop)
 (h1:kidsB (decide (t.kind=1)) (klist t.kids)=true→Q .normal [] ⟨[],[]⟩) (h2:kidsB (decide (t.kind=1)) (klist t.kids)=false→∀E B,lookE E 2 = .bool false→Q .ret E ⟨B,[]⟩) :
 wpLoop (CW tr.look) 26 m_Q85_0 l_Q85_0 (blkK 0 b_Q85_0 Q) [(1, .box 1 0),(6, .v (.p (kval t.kids))),(7, .int .i64 (klist t.kids).length),(8, .int .i64 0)] ⟨[(1,some ⟨[.int .i64 t.kind,c1,c2,c3, .v (.p (kval t.kids))],5⟩)],[]⟩:=by
 refine zac (α:=Nat) (fun j=>[(1, .box 1 0),(6, .v (.p (kval t.kids))),(7, .int .i64 (klist t.kids).length),(8, .int .i64 j)]) (fun _=>⟨[(1,some ⟨[.int .i64 t.kind,c1,c2,c3, .v (.p (kval t.kids))],5⟩)],[]⟩)
  (fun j=>j≤(klist t.kids).length∧kidsB (decide (t.kind=1)) ((klist t.kids).drop j)=kidsB (decide (t.kind=1)) (klist t.kids)) (fun j=>(klist t.kids).length-j) ?_ 0 ⟨by omega,by simp⟩
 rintro j ⟨hj,ht⟩ L hL
 dsimp only[l_Q85_0]
 by_cases hjl:j<(klist t.kids).length
 ·have hc:=h _ (List.getElem_mem hjl)
  rw[List.drop_eq_getElem_cons hjl,kidsB]at ht
  obtain⟨u,hu⟩:∃u,(klist t.kids)[j]=u:=⟨_,rfl⟩
  have hi:=zck hjl
  rw[hu]at hc ht hi
  cases hb:nodeB u
  ·rw[hb]at hc ht
   simp(disch:=omega) [hi,zad,hc]
   exact h2 (by rw[← ht];rfl) _ _ rfl
  ·rw[hb]at hc ht
   by_cases h5:u.kind=5
   ·have h5':(u.kind=5)=True:=eq_true h5
    by_cases hr:t.kind=1
    ·have hr':(t.kind=1)=True:=eq_true hr
     simp(disch:=omega) [hi,zad,hc,zaa]
     exact hL (j+1) ⟨by omega,by rw[← ht];simp[hr]⟩ (by omega)
    ·simp(disch:=omega) [hi,zad,hc]
     exact h2 (by rw[← ht];simp[h5,hr]) _ _ rfl
   ·simp(disch:=omega) [hi,zad,hc,zaa]
    exact hL (j+1) ⟨by omega,by rw[← ht];simp[h5]⟩ (by omega)
 ·obtain rfl:j=(klist t.kids).length:=by omega
  simp
  refine h1 ?_
  rw[List.drop_length]at ht
  exact ht.symm
theorem zabl (t:Tree) (h:∀u∈klist t.kids,∀H,CW tr.look F_Q125 [tagg u] H=some (.p (.bool (nodeB u)),H)) (hl:(klist t.kids).length<1000000000000) (H:List IBlk):CW tr.look F_Q85 [tagg t] H=some (.p (.bool (kidsB (decide (t.kind=1)) (klist t.kids))),H):=by
 refine zai look_Q85 rfl (by simp) rfl ?_
 dsimp only[i_Q85,c_Q85]
 simp
 refine zade t h hl _ (fun h=>?_) (fun h E B hE=>?_)
 ·simp[h]
 ·simp[h,hE]
end Go.Ideal

namespace Go.Ideal
open Go
set_option maxHeartbeats 2000000
attribute [-simp] getElem?_pos
theorem zalh (t:Tree) (h:∀H,CW tr.look F_Q85 [tagg t] H=some (.p (.bool (kidsB (decide (t.kind=1)) (klist t.kids))),H)) (H:List IBlk):CW tr.look F_Q125 [tagg t] H=some (.p (.bool (nodeB t)),H):=by
 refine zai look_Q125 rfl (by simp) rfl ?_
 dsimp only[i_Q125,c_Q125]
 rw[zjc]
 have hn:=zabk t.name
 have ha:=zago t.attrs
 by_cases h2:t.kind=2
 ·have h2':(t.kind=2)=True:=eq_true h2
  have h1:¬t.kind=1:=by omega
  simp only[h1,decide_false]at h
  cases hb:nameB t.name
  ·rw[hb]at hn
   simp[h2',hn]
  ·rw[hb]at hn
   by_cases hx:t.text=[]
   ·have hx':(t.text=[])=True:=eq_true hx
    cases hab:attrsB (alist t.attrs)
    ·rw[hab]at ha
     simp[h2',hn,hx',ha]
    ·rw[hab]at ha
     simp[h2',hn,hx',ha,zad,h]
   ·simp[h2',hn,hx]
 ·by_cases h3:(alist t.attrs).length=0
  ·by_cases h4:(klist t.kids).length=0
   ·have g3:¬(0:Int)<(alist t.attrs).length:=by omega
    have g4:¬(0:Int)<(klist t.kids).length:=by omega
    unfold leafB
    by_cases k3:t.kind=3
    ·have k3':(t.kind=3)=True:=eq_true k3
     have k2':(t.kind=2)=False:=eq_false h2
     by_cases hn:t.name=[]
     ·have hn':(t.name=[])=True:=eq_true hn
      by_cases hx:t.text=[]
      ·have hx':(t.text=[])=True:=eq_true hx
       simp[k2',k3',hn',hx',h3,h4]
      ·by_cases hy:t.text.length≤4096
       ·have hy':(t.text.length:Int)≤4096:=by omega
        simp[k2',k3',hn',hx,hy,hy',h3,h4]
       ·have hy':¬(t.text.length:Int)≤4096:=by omega
        simp[k2',k3',hn',hx,hy,hy',h3,h4]
     ·simp[k2',k3',hn,h3,h4]
    ·by_cases k4:t.kind=4
     ·have k4':(t.kind=4)=True:=eq_true k4
      by_cases hn:t.name=[]
      ·have hn':(t.name=[])=True:=eq_true hn
       by_cases hy:t.text.length≤4096
       ·have hy':(t.text.length:Int)≤4096:=by omega
        simp[h2,k3,k4',hn',hy,hy',h3,h4]
       ·have hy':¬(t.text.length:Int)≤4096:=by omega
        simp[h2,k3,k4',hn',hy,hy',h3,h4]
      ·simp[h2,k3,k4',hn,h3,h4]
     ·by_cases k5:t.kind=5
      ·have k5':(t.kind=5)=True:=eq_true k5
       by_cases hx:t.text=[]
       ·have hx':(t.text=[])=True:=eq_true hx
        by_cases hy:t.name.length≤32
        ·have hy':(t.name.length:Int)≤32:=by omega
         simp[h2,k3,k4,k5',hx',hy,hy',h3,h4]
        ·have hy':¬(t.name.length:Int)≤32:=by omega
         simp[h2,k3,k4,k5',hx',hy,hy',h3,h4]
       ·simp[h2,k3,k4,k5',hx,h3,h4]
      ·simp[h2,k3,k4,k5,h3,h4]
   ·have g3:¬(0:Int)<(alist t.attrs).length:=by omega
    have g4:(0:Int)<(klist t.kids).length:=by omega
    simp[h2,h3,h4]
  ·have g3:(0:Int)<(alist t.attrs).length:=by omega
   simp[h2,h3]
theorem zali:∀(n:Nat) (t:Tree),t.size<n→n≤1000000000000→∀H,CW tr.look F_Q125 [tagg t] H=some (.p (.bool (nodeB t)),H):=by
 intro n
 induction n with
 |zero=>intro t h;omega
 |succ n ih =>
  intro t h hb
  have ht:=zag t
  have hl:=zal (klist t.kids)
  exact zalh t (zabl t (fun u hu=>ih u (by have:=zam hu;omega) (by omega)) (by omega))
theorem zalj (t:Tree) (hs:t.size<1000000) (H:List IBlk):CW tr.look F_Q85 [tagg t] H=some (.p (.bool (kidsB (decide (t.kind=1)) (klist t.kids))),H):=by
 have ht:=zag t
 have hl:=zal (klist t.kids)
 exact zabl t (fun u hu=>zali 1000000 u (by have:=zam hu;omega) (by omega)) (by omega) H
theorem zde (t:Tree) (hs:t.size<1000000) (H:List IBlk):CW tr.look F_Q44 [tagg t] H=some (.p (.bool (checkB t)),H):=by
 refine zai look_Q44 rfl (by simp) rfl ?_
 dsimp only[i_Q44,c_Q44]
 have h1:=zalg 1000000 t hs (by omega)
 have h2:=zagm 1000000 t hs (by omega)
 have h3:=zalj t hs
 unfold checkB
 by_cases k1:t.kind=1
 ·have k1':(t.kind=1)=True:=eq_true k1
  simp only[k1,decide_true]at h3
  by_cases s1:t.size≤300
  ·have s1':(t.size:Int)≤300:=by omega
   by_cases s2:t.deep≤60
   ·have s2':(t.deep:Int)≤60:=by omega
    have h4:=zagp t.name t.text 0 [.cells [.p (.str t.name), .p (.str t.text)] 1 0 false] rfl
    by_cases n1:t.name=[]
    ·by_cases n2:t.text=[]
     ·simp only[eq_true n1,eq_true n2,decide_true,Bool.and_true]at h4
      by_cases a0:(alist t.attrs).length=0
      ·have a0':((alist t.attrs).length:Int)=0:=by omega
       have a1:alist t.attrs=[]:=List.length_eq_zero_iff.1 a0
       simp[k1',zad,h1,s1',h2,s2',h4,a0',h3]
       simp[s1,s2,n1,n2,a1]
      ·have a0':¬((alist t.attrs).length:Int)=0:=by omega
       have a1:(alist t.attrs=[])=False:=eq_false fun e=>a0 (by rw[e];rfl)
       simp[k1',zad,h1,s1',h2,s2',h4,a1]
     ·simp only[eq_true n1,eq_false n2,decide_true,decide_false,Bool.true_and]at h4
      simp[k1',zad,h1,s1',h2,s2',h4]
      simp[s1,s2,n1,n2]
    ·simp only[eq_false n1,decide_false,Bool.false_and]at h4
     simp[k1',zad,h1,s1',h2,s2',h4]
     simp[s1,s2,n1]
   ·have s2':¬(t.deep:Int)≤60:=by omega
    simp[k1',zad,h1,s1',h2,s2']
    simp[s1,s2]
  ·have s1':¬(t.size:Int)≤300:=by omega
   simp[k1',zad,h1,s1']
   simp[s1]
 ·simp[k1]
end Go.Ideal

namespace Go.Ideal
open Go
set_option maxHeartbeats 2000000
set_option maxRecDepth 20000
attribute [-simp] getElem?_pos
theorem zalk (c:UInt8) (H:List IBlk):CW tr.look F_Q179 [.p (.int .u8 c.toNat)] H=some (.p (.bool (c.toNat==9||c.toNat==10||c.toNat==12||c.toNat==32)),H):=by
 refine zai look_Q179 rfl (by simp) rfl ?_
 dsimp only[i_Q179,c_Q179]
 by_cases g1:c.toNat=9
 ·have g1':(c.toNat:Int)=9:=by omega
  simp[g1]
 ·have g1':¬(c.toNat:Int)=9:=by omega
  by_cases g2:c.toNat=10
  ·have g2':(c.toNat:Int)=10:=by omega
   simp[g2]
  ·have g2':¬(c.toNat:Int)=10:=by omega
   by_cases g3:c.toNat=12
   ·have g3':(c.toNat:Int)=12:=by omega
    simp[g3]
   ·have g3':¬(c.toNat:Int)=12:=by omega
    by_cases g4:c.toNat=32
    ·have g4':(c.toNat:Int)=32:=by omega
     simp[g4]
    ·have g4':¬(c.toNat:Int)=32:=by omega
     simp[g1,g2,g3,g4,g1',g2',g3',g4']
theorem zadf (s:Bytes) (hs:s.length≤32) (Q:IExit→Env→KM→Prop)
 (h1:(s.all fun c=>!badC c)=true→Q .normal [] ⟨[],[]⟩) (h2:(s.all fun c=>!badC c)=false→∀E,lookE E 2 = .bool false→Q .ret E ⟨[],[]⟩) :
 wpLoop (CW tr.look) 60 m_Q145_0 l_Q145_0 (blkK 0 b_Q145_0 Q) [(0, .str s),(3, .int .i64 0)] ⟨[],[]⟩:=by
 refine zac (α:=Nat) (fun j=>[(0, .str s),(3, .int .i64 j)]) (fun _=>⟨[],[]⟩)
  (fun j=>j≤s.length∧(s.take j).all (fun c=>!badC c)=true) (fun j=>s.length-j) ?_ 0 ⟨by omega,by simp⟩
 rintro j ⟨hj,ht⟩ L hL
 dsimp only[l_Q145_0]
 by_cases hjl:j<s.length
 ·have hb:=zwe hjl
  obtain⟨c,hc⟩:∃c,s[j]=c:=⟨_,rfl⟩
  rw[hc]at hb
  have hbl:=zalk c
  cases hbad:badC c with
  |false =>
   have hcb:=hbad
   simp[badC]at hbad
   have e0:(c.toNat==9||c.toNat==10||c.toNat==12||c.toNat==32)=false:=by simp;omega
   rw[e0]at hbl
   have g5:¬(c.toNat:Int)=0:=by omega
   have g6:¬(c.toNat:Int)=34:=by omega
   have g7:¬(c.toNat:Int)=39:=by omega
   have g8:¬(c.toNat:Int)=62:=by omega
   have g9:¬(c.toNat:Int)=47:=by omega
   have ga:¬(c.toNat:Int)=61:=by omega
   have gb:¬(c.toNat:Int)=60:=by omega
   have hnext:L [(0,SV.str s),(3,SV.int IntKind.i64 (j+1))] ⟨[],[]⟩:=by
    refine hL (j+1) ⟨by omega,?_⟩ (by omega)
    rw[List.take_add_one,List.all_append,ht,List.getElem?_eq_getElem hjl,hc]
    simp[hcb]
   by_cases hu:(65:Int)≤c.toNat
   ·have hv:¬(c.toNat:Int)≤90:=by omega
    simp(disch:=omega) [hb,zaa,hbl]
    exact hnext
   ·simp(disch:=omega) [hb,zaa,hbl]
    exact hnext
  |true =>
   have hall:(s.all fun c=>!badC c)=false:=by
    rw[Bool.eq_false_iff]
    intro h
    rw[List.all_eq_true]at h
    have:=h s[j] (List.getElem_mem hjl)
    rw[hc,hbad]at this
    cases this
   have h2:=h2 hall
   simp[badC]at hbad
   cases e0:(c.toNat==9||c.toNat==10||c.toNat==12||c.toNat==32)with
   |true =>
    rw[e0]at hbl
    simp(disch:=omega) [hb,hbl]
    exact h2 _ rfl
   |false =>
    rw[e0]at hbl
    simp at e0
    rcases(show(c.toNat:Int)=0∨(c.toNat:Int)=34∨(c.toNat:Int)=39∨(c.toNat:Int)=62∨(c.toNat:Int)=47∨(c.toNat:Int)=61∨(c.toNat:Int)=60∨(65≤(c.toNat:Int)∧(c.toNat:Int)≤90)by omega)with g|g|g|g|g|g|g|g
    case inr.inr.inr.inr.inr.inr.inr =>
     have g5:¬(c.toNat:Int)=0:=by omega
     have g6:¬(c.toNat:Int)=34:=by omega
     have g7:¬(c.toNat:Int)=39:=by omega
     have g8:¬(c.toNat:Int)=62:=by omega
     have g9:¬(c.toNat:Int)=47:=by omega
     have ga:¬(c.toNat:Int)=61:=by omega
     have gb:¬(c.toNat:Int)=60:=by omega
     simp(disch:=omega) [hb,hbl]
     exact h2 _ rfl
    all_goals
     have hbl':=hbl
     rw[g]at hbl'
     simp(disch:=omega) [hb,g,hbl']
     exact h2 _ rfl
 ·obtain rfl:j=s.length:=by omega
  simp
  rw[List.take_length]at ht
  exact h1 ht
end Go.Ideal
