/- MatchTexts returns true for every input and leaves its arguments as they are; no condition. -/
import Derived.Test.YtjlnpggbekondaaW6
import Derived.Test.YtjlnpggbekondaaW2
import Derived.Test.YtjlnpggbekondaaW3
import Derived.Test.YtjlnpggbekondaaW4
import Derived.Test.YtjlnpggbekondaaChecked
import Derived.Shelf.SlSortCmp.NoneTotal
import Derived.Test.YtjlnpggbekondaaRows
import Derived.WalkKit
import Derived.ProofKit
import Derived.OpenShut
namespace Go.Ideal
open Go
set_option maxHeartbeats 4000000
set_option maxRecDepth 20000
attribute [-simp] getElem?_pos
section
variable {L:J1} {a b:Tree}
theorem zaai (a b:Tree):PI a b (sortP (alikeN a b 2)):=by
 have h:=zmp a b 2
 have hp:=zas (alikeN a b 2)
 refine⟨(hp.map _).nodup_iff.2 h.nx,(hp.map _).nodup_iff.2 h.nz,fun p hm=>?_⟩
 obtain⟨h1,h2,h3⟩:=h.ok p (hp.mem_iff.1 hm)
 have:=(zid.1 h3).1
 exact⟨h1,h2,this.1,this.2.1⟩
theorem zwi {n:Nat} (hn:(L.map (·.1)).Nodup) (hd:∀p∈L,p.1=p.2/\p.1<n) (ha:∀i,i<n->i∈L.map (·.1)):sortP L=pairsN 0 0 n:=by
 symm
 refine zhk hn ?_ (zky 0 0 n)
 have hnL:L.Nodup:=by
  have h2:=Cg.1 hn
  exact h2.imp fun h e=>h (by rw[e])
 have hnP:(pairsN 0 0 n).Nodup:=by
  have h1:((pairsN 0 0 n).map (·.1)).Nodup:=by rw[zft];exact B3
  have h2:=Cg.1 h1
  exact h2.imp fun h e=>h (by rw[e])
 refine(List.perm_ext_iff_of_nodup hnP hnL).2 fun p=>?_
 rw[zbq]
 constructor
 ·rintro⟨x,hx,rfl⟩
  obtain⟨q,hq,e⟩:=Au.1 (ha x hx)
  have:=hd q hq
  have e2:q=(0+x,0+x):=Prod.ext (by simp;exact e) (by simp;omega)
  rw[<- e2];exact hq
 ·intro hp
  have:=hd p hp
  exact⟨p.1,this.2,Prod.ext (by simp) (by simp;omega)⟩
theorem zwj (h:MF a b L):(sortP L)[0]? = some (0,0):=by
 have hm:=(zas L).mem_iff.2 h.root
 cases hs:sortP L with
 |nil=>rw[hs]at hm;cases hm
 |cons p R =>
  rw[AL]
  have hsd:=zfe L
  rw[hs]at hm hsd
  have hp:p∈L:=(zas L).mem_iff.1 (by rw[hs];simp)
  have h0:p.1=0:=by
   rcases Aj.1 hm with e|hm
   ·rw[<- e]
   ·have:=(Cb.1 hsd).1 _ hm
    simp at this;omega
  rw[zadx h.pi.nx hp h.root h0]
theorem zaga (h:MF a b L):∀k p,(sortP L)[k]? = some p->VP a b ((sortP L).take k) p:=by
 intro k p hp
 have hpm:=zas L
 have hnx:((sortP L).map (·.1)).Nodup:=(hpm.map _).nodup_iff.2 h.pi.nx
 have hnz:((sortP L).map (·.2)).Nodup:=(hpm.map _).nodup_iff.2 h.pi.nz
 have hsd:=zfe L
 obtain⟨h1,h2,h3⟩:=h.pi.ok p (hpm.mem_iff.1 (Az hp))
 have hin:∀f:Nat×Nat->Nat,f p∈((sortP L).drop k).map f:=fun f=>Au.2 ⟨p,Bi.2 ⟨0,by rw[AR];simpa using hp⟩,rfl⟩
 have hsp:p∈(sortP L).drop k:=Bi.2 ⟨0,by rw[AR];simpa using hp⟩
 rw[<- BN k (sortP L)]at hnx hnz hsd
 rw[AF,Be]at hnx hnz
 refine⟨?_,h1,h2,fun hm=>hnz.2.2 _ hm _ (hin (·.2)) rfl,h3⟩
 unfold lst
 cases hl:((sortP L).take k).getLast? with
 |none=>simp only;omega
 |some q =>
  have hq:q∈(sortP L).take k:=List.mem_of_getLast? hl
  have e1:=(Cm.1 hsd).2.2 q hq p hsp
  have e2:q.1≠p.1:=fun e=>hnx.2.2 q.1 (Au.2 ⟨q,hq,rfl⟩) p.1 (hin (·.1)) e
  simp only;omega
theorem zace (h:PI a b L):(sortP L).length<=a.size:=by
 rw[(zas L).length_eq]
 have:=zfu a.size _ h.nx (fun x hx=>by obtain⟨p,hp,rfl⟩:=Au.1 hx;exact(h.ok p hp).1)
 simpa using this
theorem zagb (fa:Fine a) (fb:Fine b) (ca:checkB a=true) (cb:checkB b=true) {L:J1} (h:MF a b L) {pv:PVal} (hpv:PV pv (sortP L)) (H:J2):CW tr.look F_Q10 [tagg a,tagg b, .p pv] H=some (.p (.bool true),H) :=
 zafz a b fa fb ca cb hpv (zwj h) (by have:=zace h.pi;have:=fa.1;omega) (sortP L).length (Ai _) (fun k p _ hp=>zaga h k p hp) true (.inl ⟨rfl,rfl⟩) H
def tA (x:UInt8):Tree := .mk 1 [] [] none (some [.mk 3 [] [x] none none])
theorem zii (x:UInt8):Fine (tA x)/\StrT (tA x)/\checkB (tA x)=true/\(tA x).size=2:=by
 have hn:(tA x).nodes=[tA x, .mk 3 [] [x] none none]:=rfl
 refine⟨⟨by show(2:Nat)<_;decide,fun u hu=>?_⟩,zrk fun u hu=>?_,rfl,rfl⟩
 ·rw[hn]at hu
  simp at hu
  rcases hu with rfl|rfl<;>simp[tA,Tree.attrs,alist]
 ·rw[hn]at hu
  simp at hu
  rcases hu with rfl|rfl
  ·exact⟨by simp[tA,Tree.name],by simp[tA,Tree.text],by simp[tA,Tree.attrs,alist],by simp[tA,Tree.attrs,alist]⟩
  ·exact⟨by simp[Tree.name],by simp[Tree.text],by simp[Tree.attrs,alist],by simp[Tree.attrs,alist]⟩
theorem zyo (h:MF (tA 97) (tA 98) L):sortP L=[(0,0),(1,1)]:=by
 have hs:∀x,(tA x).size=2:=fun x=>rfl
 have hk:∀x,kidsOf (tA x) 0=[1]:=fun x=>rfl
 have hd:∀p∈L,p.1=p.2/\p.1<2:=fun p hp=>by
  obtain⟨h1,h2,h3⟩:=h.pi.ok p hp
  have h4:=zfv (zii 97).2.2.1 h1
  have h5:=zfv (zii 98).2.2.1 h2
  rw[h3.1]at h4
  rw[hs]at h1 h2
  have:p.1=0↔p.2=0:=by rw[<- h4,<-h5]
  omega
 have h1:1∈L.map (·.1):=by
  refine AZ fun hn=>?_
  have hz:1∉L.map (·.2):=fun hm=>by
   obtain⟨p,hp,e⟩:=Au.1 hm
   have:=hd p hp
   exact hn (Au.2 ⟨p,hp,by omega⟩)
  have:=h.shut (0,0) h.root (by rw[hs];decide) 1 (by rw[hk];simp) 1 (by rw[hk];simp)
  exact this ⟨zpj.2 ⟨hn,hz⟩,rfl,rfl⟩
 have:=zwi (n:=2) h.pi.nx hd (fun i hi=>by
  rcases(show i=0\/i=1 by omega)with rfl|rfl
  ·exact Au.2 ⟨_,h.root,rfl⟩
  ·exact h1)
 rw[this];rfl
theorem zakh (H:J2):CW tr.look F_Q11 [] H=some (.p (.bool true),H):=by
 obtain⟨fa,sa,ca,za⟩:=zii 97
 obtain⟨fb,sb,cb,zb⟩:=zii 98
 obtain⟨r,hm,pv,L,rfl,hpv,hF⟩:=zakf (tA 97) (tA 98) fa fb sa sb ca cb (by omega) (by omega) (zaai _ _)
 have hsl:=zyo hF
 have hch:=zagb fa fb ca cb hF hpv []
 rw[hsl]at hpv
 have hup:=hpv.up
 have hln:=hpv.len
 have i0:idxS 2 (.p pv) (J4 0)=_:=hpv.idx (i:=0) rfl
 have i1:idxS 2 (.p pv) (J4 1)=_:=hpv.idx (i:=1) rfl
 have hf:freezeAll [IBlk.cells [J4 3, .p (.str []), .p (.str [97]), .p .nilslice, .p .nilslice] 5 0 false,IBlk.cells [J4 3, .p (.str []), .p (.str [98]), .p .nilslice, .p .nilslice] 5 0 false] [IVal.agg [J4 1, .p (.str []), .p (.str []), .p .nilslice, .slice 0 0 0 1],IVal.agg [J4 1, .p (.str []), .p (.str []), .p .nilslice, .slice 1 0 0 1]]=some [tagg (tA 97),tagg (tA 98)]:=rfl
 have hm':=hm _ _ hf
 have hc':CW tr.look F_Q10 [IVal.agg [J4 1, .p (.str []), .p (.str []), .p .nilslice, .slice 0 0 0 1],IVal.agg [J4 1, .p (.str []), .p (.str []), .p .nilslice, .slice 1 0 0 1], .p pv] [IBlk.cells [J4 3, .p (.str []), .p (.str [97]), .p .nilslice, .p .nilslice] 5 0 false,IBlk.cells [J4 3, .p (.str []), .p (.str [98]), .p .nilslice, .p .nilslice] 5 0 false]=some (.p (.bool true),_) :=
  zyc (al:=[tagg (tA 97),tagg (tA 98), .p pv]) look_Q10 rfl rfl (by simp) rfl hch
 have main:CW tr.look F_Q11 [] []=some (.p (.bool true),[]):=by
  refine zal look_Q11 rfl rfl rfl ?_
  dsimp only[i_Q11,c_Q11]
  simp(disch:=omega) [hup,hln,hm',hc',i0,i1,eqVals,eqCls,clsEq,negIf]
 exact zsy look_Q11 rfl rfl main
end
section
variable {L:J1} {b:Tree} {i j n q:Nat}
def txT (x:Bytes):Tree := .mk 3 [] x none none
def elT (i:Nat) (x:Bytes):Tree := .mk 2 [UInt8.ofNat (97+i)] [] none (some [txT x])
def rowL (k:Nat) (f:Nat->Bytes):List Tree:=(List.range k).map fun i=>elT i (f i)
def rowT (k:Nat) (f:Nat->Bytes):Tree := .mk 1 [] [] none (some (rowL k f))
theorem zrq:∀(a b:List Tree),lnodes (a++b)=lnodes a++lnodes b
 | [],b=>rfl
 |t::a,b=>by simp only[At,lnodes,zrq a b,Ax]
theorem zaki (k:Nat) (f:Nat->Bytes):rowL (k+1) f=rowL k f++[elT k (f k)]:=by
 simp[rowL,BY]
theorem zle (f:Nat->Bytes):∀k,(lnodes (rowL k f)).length=2*k/\∀i,i<k->(lnodes (rowL k f))[2*i]? = some (elT i (f i))/\(lnodes (rowL k f))[2*i+1]? = some (txT (f i))
 |0=>⟨rfl,fun i h=>by omega⟩
 |k+1=>by
  obtain⟨h1,h2⟩:=zle f k
  have e:lnodes (rowL (k+1) f)=lnodes (rowL k f)++[elT k (f k),txT (f k)]:=by
   rw[zaki,zrq];rfl
  rw[e]
  refine⟨by simp[h1];omega,fun i hi=>?_⟩
  by_cases hk:i<k
  ·obtain⟨g1,g2⟩:=h2 i hk
   rw[Ab (by omega),Ab (by omega)]
   exact⟨g1,g2⟩
  ·obtain rfl:i=k:=by omega
   rw[Ad (by omega),Ad (by omega),h1,show 2*i-2*i=0 by omega,show 2*i+1-2*i=1 by omega]
   exact⟨rfl,rfl⟩
theorem zaz (k:Nat) (f:Nat->Bytes):(rowT k f).size=2*k+1:=by
 rw[<- zbp,zca]
 simp only[AC]
 show(lnodes (rowL k f)).length+1=_
 rw[(zle f k).1]
theorem zbj (k:Nat) (f:Nat->Bytes) {i:Nat} (hi:i<k):subT (rowT k f) (2*i+1)=elT i (f i)/\subT (rowT k f) (2*i+2)=txT (f i):=by
 obtain⟨h1,h2⟩:=(zle f k).2 i hi
 have e:∀n,(rowT k f).nodes[n+1]? = (lnodes (rowL k f))[n]? := fun n=>by rw[zca];rfl
 have g1:=zcy (t:=rowT k f) (i:=2*i+1) (by rw[zaz];omega)
 have g2:=zcy (t:=rowT k f) (i:=2*i+2) (by rw[zaz];omega)
 rw[e,h1]at g1
 rw[show 2*i+2=(2*i+1)+1 by omega,e,h2]at g2
 injection g1 with g1
 injection g2 with g2
 exact⟨g1.symm,g2.symm⟩
theorem zpo {k:Nat} (h:n<2*k+1):n=0\/∃i,i<k/\(n=2*i+1\/n=2*i+2):=by
 by_cases h0:n=0
 ·exact .inl h0
 ·exact .inr ⟨(n-1) / 2,by omega,by omega⟩
theorem zaaj (hi:i<9) (hj:j<9) (h:[UInt8.ofNat (97+i)]=[UInt8.ofNat (97+j)]):i=j:=by
 have h:UInt8.ofNat (97+i)=UInt8.ofNat (97+j):=by simpa using h
 have h:=congrArg UInt8.toNat h
 simp only[UInt8.toNat_ofNat']at h
 omega
structure Rows (k:Nat) (f g:Nat->Bytes):Prop where
 k9:k<=9
 inj:∀i j,i<k->j<k->f i=g j->i=j
section
variable {k:Nat} {f g:Nat->Bytes}
theorem zlt (hk:k<=9) {x y:Nat} (hx:x<2*k+1) (hy:y<2*k+1) (h:kinT (subT (rowT k f) x) (subT (rowT k g) y)):x=y\/∃i j,i<k/\j<k/\x=2*i+2/\y=2*j+2:=by
 obtain⟨h1,h2⟩:=h
 rcases zpo hx with rfl|⟨i,hi,rfl|rfl⟩<;>rcases zpo hy with rfl|⟨j,hj,rfl|rfl⟩
 ·exact .inl rfl
 ·rw[zbi,(zbj k g hj).1]at h1;exact absurd h1 (by simp[Tree.kind,rowT,elT,txT])
 ·rw[zbi,(zbj k g hj).2]at h1;exact absurd h1 (by simp[Tree.kind,rowT,elT,txT])
 ·rw[zbi,(zbj k f hi).1]at h1;exact absurd h1 (by simp[Tree.kind,rowT,elT,txT])
 ·rw[(zbj k f hi).1,(zbj k g hj).1]at h2
  exact .inl (by rw[zaaj (by omega) (by omega) h2])
 ·rw[(zbj k f hi).1,(zbj k g hj).2]at h1;exact absurd h1 (by simp[Tree.kind,rowT,elT,txT])
 ·rw[zbi,(zbj k f hi).2]at h1;exact absurd h1 (by simp[Tree.kind,rowT,elT,txT])
 ·rw[(zbj k f hi).2,(zbj k g hj).1]at h1;exact absurd h1 (by simp[Tree.kind,rowT,elT,txT])
 ·exact .inr ⟨i,j,hi,hj,rfl,rfl⟩
theorem zaak (hi:i<k):kinT (subT (rowT k f) (2*i+1)) (subT (rowT k g) (2*i+1))/\kinT (subT (rowT k f) (2*i+2)) (subT (rowT k g) (2*i+2)):=by
 rw[(zbj k f hi).1,(zbj k g hi).1,(zbj k f hi).2,(zbj k g hi).2]
 exact⟨⟨rfl,rfl⟩,⟨rfl,rfl⟩⟩
theorem zpp:kidsOf (rowT k f) 0=(List.range k).map fun j=>2*j+1:=by
 rw[zpn (by rw[zaz];omega)]
 unfold kidN
 rw[zbi]
 have hl:(klist (rowT k f).kids)=rowL k f:=rfl
 have hlen:(rowL k f).length=k:=by simp[rowL]
 rw[hl,hlen]
 refine B4 fun j hj=>?_
 have hj:j<k:=by simpa using hj
 have key:∀j,j<=k->lsize ((rowL k f).take j)=2*j:=by
  intro j
  induction j with
  |zero=>intro _;rfl
  |succ j ih =>
   intro hj
   rw[zcf (by rw[hlen];omega),ih (by omega)]
   have:(rowL k f)[j]'(by rw[hlen];omega)=elT j (f j):=by simp[rowL]
   rw[this]
   show 2*j+2=_
   omega
 rw[key j (by omega)]
 omega
theorem zpq (hi:i<k):kidsOf (rowT k f) (2*i+1)=[2*i+2]:=by
 rw[zpn (by rw[zaz];omega)]
 unfold kidN
 rw[(zbj k f hi).1]
 rfl
theorem zagc (hi:i<k):kidsOf (rowT k f) (2*i+2)=[]:=by
 rw[zpn (by rw[zaz];omega)]
 unfold kidN
 rw[(zbj k f hi).2]
 rfl
structure DInv (k:Nat) (L:J1):Prop where
 dg:∀p∈L,p.1=p.2
 tx:∀i,i<k->2*i+1∈L.map (·.1)->2*i+2∈L.map (·.1)
theorem DInv.perm {M:J1} (h:DInv k L) (hp:M.Perm L):DInv k M :=
 ⟨fun p hm=>h.dg p (hp.mem_iff.1 hm),fun i hi hm=>(hp.map (·.1)).mem_iff.2 (h.tx i hi ((hp.map (·.1)).mem_iff.1 hm))⟩
theorem zacf (R:Rows k f g):DInv k (alikeN (rowT k f) (rowT k g) 2):=by
 have hA:=zmp (rowT k f) (rowT k g) 2
 have hdg:∀p∈alikeN (rowT k f) (rowT k g) 2,p.1=p.2:=fun p hp=>by
  obtain⟨h1,h2,h3⟩:=hA.ok p hp
  rw[zaz]at h1 h2
  have hs:=zid.1 h3
  rcases zlt R.k9 h1 h2 ⟨hs.1.1,hs.1.2.1⟩with h|⟨i,j,hi,hj,e1,e2⟩
  ·exact h
  ·rw[e1,e2,(zbj k f hi).2,(zbj k g hj).2]at hs
   have:=R.inj i j hi hj hs.1.2.2.1
   omega
 refine⟨hdg,fun i hi hm=>?_⟩
 obtain⟨p,hp,e⟩:=Au.1 hm
 have hs:(subT (rowT k f) p.1).size=2:=by rw[show p.1=2*i+1 from e,(zbj k f hi).1];rfl
 have:=hA.all p hp 1 (by omega)
 exact Au.2 ⟨_,this,by show p.1+1=_;omega⟩
theorem zpr {a b:Tree} {L:J1} {i:Nat}:∀ {n m:Nat},bfold a b L i n=some m->comN b L m i ((subT a i).size-1)≠0
 |0,m,h=>by simp[bfold]at h
 |n+1,m,h=>by
  rw[zls]at h
  unfold bstep at h
  split at h
  ·exact zpr h
  ·rename_i hc
   split at h
   ·injection h with h;subst h;exact fun e=>hc (.inl e)
   ·rename_i j hj
    split at h
    ·injection h with h;subst h;exact fun e=>hc (.inl e)
    ·injection h with h;subst h;exact zpr hj
theorem zagd (h:hitB b L q n=true):n∈L.map (·.1):=by
 unfold hitB at h
 split at h
 ·rename_i j hj
  refine AZ fun hn=>?_
  rw[zih.2 hn]at hj;cases hj
 ·cases h
theorem zapz (h:comN b L q i n≠0):∃m,i+1<=m/\m<i+1+n/\m∈L.map (·.1):=by
 unfold comN at h
 obtain⟨m,hm⟩:=List.exists_mem_of_length_pos (Nat.pos_of_ne_zero h)
 obtain⟨h1,h2⟩:=BL.1 hm
 have:=CE.1 h1
 exact⟨m,this.1,this.2,zagd h2⟩
theorem zakj {k:Nat} (hk:k<=3) (hi:i<k) (hj:j<k) (hij:i≠j) (h1:2*i+1∉L.map (·.1)) (h2:2*i+2∉L.map (·.1)) (h3:2*j+1∉L.map (·.1)) (h4:2*j+2∉L.map (·.1)):comN b L q 0 (2*k)<=k:=by
 have f:∀n,n∉L.map (·.1)->hitB b L q n=false:=fun n hn=>by
  cases h:hitB b L q n with
  |false=>rfl
  |true=>exact absurd (zagd h) hn
 have g1:=f _ h1
 have g2:=f _ h2
 have g3:=f _ h3
 have g4:=f _ h4
 have one:∀n,(List.filter (hitB b L q) [n]).length<=1:=fun n=>BD _ _
 rcases(show k=1\/k=2\/k=3 by omega)with rfl|rfl|rfl
 ·omega
 ·rcases(show i=0/\j=1\/i=1/\j=0 by omega)with⟨rfl,rfl⟩|⟨rfl,rfl⟩<;>simp[comN,List.range',List.filter,g1,g2,g3,g4]at *
 ·rcases(show i=0/\j=1\/i=1/\j=0\/i=0/\j=2\/i=2/\j=0\/i=1/\j=2\/i=2/\j=1 by omega)with⟨rfl,rfl⟩|⟨rfl,rfl⟩|⟨rfl,rfl⟩|⟨rfl,rfl⟩|⟨rfl,rfl⟩|⟨rfl,rfl⟩ <;>
  ·simp only[Nat.mul_zero,Aq,B9,Nat.reduceMul,Nat.reduceAdd]at g1 g2 g3 g4
   simp only[comN,List.range',List.filter,g1,g2,g3,g4,Nat.reduceMul,Nat.reduceAdd]
   repeat' split
   all_goals simp
theorem zps (n:Nat) (P:J1) (hP:∀p∈P,∀X,frE (L++X) (n+p.1) (n+p.2)=true->n+p.1=n+p.2):∃X,P.foldl (sstep n n) L=L++X/\∀q∈X,q.1=q.2/\∃p∈P,q.1=n+p.1:=by
 have key:∀(P Z:J1),(∀ p∈P,∀X,frE (L++X) (n+p.1) (n+p.2)=true->n+p.1=n+p.2)->∃X,P.foldl (sstep n n) (L++Z)=L++X/\∀q∈X,q∈Z\/(q.1=q.2/\∃p∈P,q.1=n+p.1):=by
  intro P
  induction P with
  |nil=>intro Z _;exact⟨Z,rfl,fun q hq=>.inl hq⟩
  |cons p P ih =>
   intro Z hP
   rw[Cc]
   have hP':=fun q hq=>hP q (Al _ hq)
   unfold sstep
   split
   ·rename_i hf
    have e:=hP p (by simp) Z hf
    rw[Ax]
    obtain⟨X,h1,h2⟩:=ih (Z++[(n+p.1,n+p.2)]) hP'
    refine⟨X,h1,fun q hq=>?_⟩
    rcases h2 q hq with h|⟨h,r,hr,e2⟩
    ·rcases Ao.1 h with h|h
     ·exact .inl h
     ·simp at h;subst h;exact .inr ⟨e,p,by simp,rfl⟩
    ·exact .inr ⟨h,r,Al _ hr,e2⟩
   ·obtain⟨X,h1,h2⟩:=ih Z hP'
    refine⟨X,h1,fun q hq=>?_⟩
    rcases h2 q hq with h|⟨h,r,hr,e2⟩
    ·exact .inl h
    ·exact .inr ⟨h,r,Al _ hr,e2⟩
 obtain⟨X,h1,h2⟩:=key P [] hP
 rw[AJ]at h1
 exact⟨X,h1,fun q hq=>(h2 q hq).elim (fun h=>by simp at h) id⟩
theorem zrr {a:Tree} (hb:bestN a b L n=some j):comN b L j n ((subT a n).size-1)≠0/\half (comN b L j n ((subT a n).size-1)) (sumN a b n j)=true:=by
 unfold bestN at hb
 split at hb
 ·cases hb
 ·rename_i m hm
  split at hb
  ·rename_i hh;injection hb with hb;subst hb;exact⟨zpr hm,hh⟩
  ·cases hb
theorem zaqa (R:Rows k f g) {L:J1} (hD:DInv k L) (n:Nat) (hn:n<2*k+1) (h0:n≠0):DInv k (upN (rowT k f) (rowT k g) L n):=by
 unfold upN
 split
 ·exact hD
 ·split
  ·exact hD
  ·rename_i j hb
   obtain⟨hj,hf,hkin⟩:=zpl hb
   rw[zaz]at hj
   obtain⟨hcom,_⟩:=zrr hb
   rcases zpo hn with rfl|⟨i,hi,rfl|rfl⟩
   ·exact absurd rfl h0
   ·obtain rfl:j=2*i+1:=by
     rcases zlt R.k9 (by omega) hj hkin with h|⟨_,_,_,_,h,_⟩
     ·exact h.symm
     ·omega
    have htx:2*i+2∈L.map (·.1):=by
     have hs:(subT (rowT k f) (2*i+1)).size-1=1:=by rw[(zbj k f hi).1];rfl
     rw[hs]at hcom
     obtain⟨m,m1,m2,m3⟩:=zapz hcom
     obtain rfl:m=2*i+2:=by omega
     exact m3
    have hs1:(subT (rowT k f) (2*i+1)).size=2:=by rw[(zbj k f hi).1];rfl
    have hs2:(subT (rowT k g) (2*i+1)).size=2:=by rw[(zbj k g hi).1];rfl
    have hmp:∀p∈mapN (subT (rowT k f) (2*i+1)) (subT (rowT k g) (2*i+1)),p.1<2/\p.1=p.2:=fun p hp=>by
     unfold mapN at hp
     rw[if_pos ⟨by omega,by omega⟩]at hp
     obtain⟨y1,y2,y3⟩:=zjo hp
     rw[zrl _ y1,zrl _ y2]at y3
     have hkk:=ztg y3
     rw[hs1]at y1
     rw[hs2]at y2
     rw[<- sub_sub (by rw[zaz];omega) (by omega),<-sub_sub (by rw[zaz];omega) (by omega)]at hkk
     refine⟨y1,?_⟩
     rcases zlt R.k9 (by omega) (by omega) hkk with h|⟨x,y,hx,hy,e1,e2⟩<;>omega
    obtain⟨X,h1,h2⟩:=zps (L:=L++[(2*i+1,2*i+1)]) (2*i+1) _ fun p hp X _=>by have:=hmp p hp;omega
    unfold smallN
    rw[h1]
    refine⟨fun p hp=>?_,fun x hx hm=>?_⟩
    ·simp only[Ao,Bq]at hp
     rcases hp with(hp|hp)|hp
     ·exact hD.dg p hp
     ·subst hp;rfl
     ·exact(h2 p hp).1
    ·simp only[AF,Ao]at hm ⊢
     rcases hm with(hm|hm)|hm
     ·exact .inl (.inl (hD.tx x hx hm))
     ·simp at hm
      exact .inl (.inl (by rw[show x=i by omega];exact htx))
     ·obtain⟨q,hq,e⟩:=Au.1 hm
      obtain⟨_,p,hp,e2⟩:=h2 q hq
      have:=hmp p hp
      exact .inl (.inl (by rw[show x=i by omega];exact htx))
   ·rw[(zbj k f hi).2]at hcom
    exact absurd rfl hcom
theorem zage (R:Rows k f g) {L:J1} (hD:DInv k L):∀p∈upN (rowT k f) (rowT k g) L 0,p.1=p.2:=by
 have hn:0<2*k+1:=by omega
 unfold upN
 split
 ·exact hD.dg
 ·split
  ·exact hD.dg
  ·rename_i j hb
   obtain⟨hj,hf,hkin⟩:=zpl hb
   rw[zaz]at hj
   obtain⟨_,hhalf⟩:=zrr hb
   obtain rfl:j=0:=by
    rcases zlt R.k9 (by omega) hj hkin with h|⟨_,_,_,_,h,_⟩
    ·exact h.symm
    ·omega
   have hs:sumN (rowT k f) (rowT k g) 0 0=4*k:=by unfold sumN;rw[zbi,zbi,zaz,zaz];omega
   rw[hs,zbi,zaz]at hhalf
   have hmp:∀p∈mapN (subT (rowT k f) 0) (subT (rowT k g) 0),∀X,frE (L++[(0,0)]++X) (0+p.1) (0+p.2)=true->0+p.1=0+p.2:=fun p hp X hfr=>by
    unfold mapN at hp
    split at hp
    ·rename_i h8
     rw[zbi,zaz]at h8
     have hk3:k<=3:=by omega
     obtain⟨y1,y2,y3⟩:=zjo hp
     rw[zrl _ y1,zrl _ y2]at y3
     have hkk:=ztg y3
     rw[zbi]at y1 y2
     rw[zaz]at y1 y2
     rw[zbi,zbi]at hkk
     rw[Aq,Aq]at hfr ⊢
     have hfree:∀x:Nat,x∉(L++[(0,0)]++X).map (fun p:Nat×Nat=>p.1)->x∉L.map (·.1):=fun x hx hm=>hx (by simp only[AF];exact AT _ (AT _ hm))
     obtain⟨fr1,fr2⟩:=zpj.1 hfr
     rcases zlt R.k9 y1 y2 hkk with h|⟨x,y,hx,hy,e1,e2⟩
     ·exact h
     ·by_cases hxy:x=y
      ·omega
      ·have n1:2*x+2∉L.map (·.1):=hfree _ (by rw[<- e1];exact fr1)
       have n2:2*y+2∉L.map (·.1):=fun hm=>by
        obtain⟨q,hq,e⟩:=Au.1 hm
        have hd:=hD.dg q hq
        refine fr2 ?_
        simp only[AF]
        refine AT _ (AT _ (Au.2 ⟨q,hq,?_⟩))
        show q.2=p.2
        have e:q.1=2*y+2:=e
        omega
       have n3:2*x+1∉L.map (·.1):=fun hm=>n1 (hD.tx x hx hm)
       have n4:2*y+1∉L.map (·.1):=fun hm=>n2 (hD.tx y hy hm)
       have hc:=zakj (b:=rowT k g) (q:=0) hk3 hx hy hxy n3 n1 n4 n2
       unfold half at hhalf
       rw[show 2*k+1-1=2*k by omega]at hhalf
       have:=of_decide_eq_true hhalf
       omega
    ·simp at hp
   obtain⟨X,h1,h2⟩:=zps (L:=L++[(0,0)]) 0 _ hmp
   unfold smallN
   rw[h1]
   intro p hp
   simp only[Ao,Bq]at hp
   rcases hp with(hp|hp)|hp
   ·exact hD.dg p hp
   ·subst hp;rfl
   ·exact(h2 p hp).1
theorem zagf:∀(n:Nat) (t:Tree),t.size<n->∀id x,x∈postT t id->id<=x
 |0,t,h,_,_,_=>by omega
 |n+1, .mk a b c d ks,h,id,x,hx=>by
  have key:∀(l:List Tree),(∀ u∈l,u.size<n)->∀id x,x∈postL l id->id<=x:=by
   intro l
   induction l with
   |nil=>intro _ id x hx;simp[postL]at hx
   |cons u l ih =>
    intro hu id x hx
    rw[postL]at hx
    rcases Ao.1 hx with hx|hx
    ·exact zagf n u (hu u (by simp)) id x hx
    ·have:=ih (fun w hw=>hu w (Al _ hw)) _ x hx
     omega
  rw[postT]at hx
  rcases Ao.1 hx with hx|hx
  ·cases ks with
   |none=>simp[postK]at hx
   |some l =>
    rw[postK]at hx
    have hs:∀u∈l,u.size<n:=fun u hu=>by
     have:=zat hu
     have h2:=zag (.mk a b c d (some l))
     have h3:klist (Tree.mk a b c d (some l)).kids=l:=rfl
     rw[h3]at h2
     omega
    have:=key l hs _ x hx
    omega
  ·simp at hx;omega
theorem zagg (t:Tree):∃N,postT t 0=N++[0]/\0∉N:=by
 obtain⟨a,b,c,d,ks⟩:=t
 refine⟨postK ks 1,by rw[postT],fun h=>?_⟩
 cases ks with
 |none=>simp[postK]at h
 |some l =>
  rw[postK]at h
  have key:∀(l:List Tree) id,0∈postL l id->id<=0:=by
   intro l
   induction l with
   |nil=>intro id h;simp[postL]at h
   |cons u l ih =>
    intro id h
    rw[postL]at h
    rcases Ao.1 h with h|h
    ·exact zagf _ u (An _) id 0 h
    ·have:=ih _ h;omega
  have:=key l 1 h
  omega
theorem zacg (R:Rows k f g):∀p∈startN (rowT k f) (rowT k g),p.1=p.2:=by
 obtain⟨N,e,h0⟩:=zagg (rowT k f)
 have hN:∀n∈N,n<2*k+1:=fun n hn=>by
  have:=zaah (t:=rowT k f) (i:=n) (by rw[e];exact AT _ hn)
  rwa [zaz]at this
 have key:∀(N:List Nat) (L:J1),(∀ n∈N,n<2*k+1/\n≠0)->DInv k L->DInv k (N.foldl (upN (rowT k f) (rowT k g)) L):=by
  intro N
  induction N with
  |nil=>intro L _ h;exact h
  |cons n N ih =>
   intro L hN h
   rw[Cc]
   obtain⟨a,b⟩:=hN n (by simp)
   exact ih _ (fun m hm=>hN m (Al _ hm)) (zaqa R h n a b)
 have hD:=key N _ (fun n hn=>⟨hN n hn,fun e=>h0 (e ▸ hn)⟩) ((zacf R).perm (zas _))
 have hr:=zage R hD
 unfold startN
 rw[e,CF,Cc,List.foldl_nil]
 unfold topN
 split
 ·intro p hp
  rcases Ao.1 hp with hp|hp
  ·exact hr p hp
  ·simp at hp;subst hp;rfl
 ·exact hr
theorem zaqb (R:Rows k f g) {L L':J1} (hI:PI (rowT k f) (rowT k g) L) (h:DS (rowT k f) (rowT k g) L L') (hd:∀p∈L,p.1=p.2):∀p∈L',p.1=p.2:=by
 obtain⟨i,j,n,x,m,y,h1,h2,h3,h4,h5,rfl,_⟩:=h
 obtain rfl:i=j:=hd _ h1
 have hi:=(hI.ok _ h1).1
 rw[zaz]at hi
 have hx:=Az h2
 have hy:=Az h3
 have e:x=y:=by
  rcases zpo hi with e|⟨z,hz,e|e⟩
  ·simp only at e
   subst e
   rw[zpp]at hx hy
   obtain⟨u,hu,rfl⟩:=Au.1 hx
   obtain⟨w,hw,rfl⟩:=Au.1 hy
   simp at hu hw
   rcases zlt R.k9 (by omega) (by omega) h5 with h|⟨_,_,_,_,h,_⟩<;>omega
  ·simp only at e
   subst e
   rw[zpq hz]at hx hy
   simp at hx hy;omega
  ·simp only at e
   subst e
   rw[zagc hz]at hx;simp at hx
 subst e
 intro p hp
 rcases Ao.1 hp with hp|hp
 ·exact hd p hp
 ·simp at hp;subst hp;rfl
theorem zakk (R:Rows k f g) {S L:J1} (hI:PI (rowT k f) (rowT k g) S) (hd:∀p∈S,p.1=p.2) (h:DSs (rowT k f) (rowT k g) S L):PI (rowT k f) (rowT k g) L/\∀p∈L,p.1=p.2:=by
 induction h with
 |refl=>exact⟨hI,hd⟩
 |snoc _ g ih =>
  refine⟨?_,zaqb R ih.1 g ih.2⟩
  obtain⟨i,j,n,x,m,y,h1,h2,h3,h4,h5,rfl,_⟩:=g
  exact ih.1.add (zdc.1 (Az h2)).1 (zdc.1 (Az h3)).1 h4 h5
theorem zakl {a:Tree} {S X:J1} (h:PI a b (S++X)):PI a b S:=by
 refine⟨?_,?_,fun p hp=>h.ok p (AT _ hp)⟩
 ·have:=h.nx;rw[AF]at this;exact(Be.1 this).1
 ·have:=h.nz;rw[AF]at this;exact(Be.1 this).1
theorem zach (R:Rows k f g) {L:J1} (h:MFX (rowT k f) (rowT k g) L):sortP L=pairsN 0 0 (2*k+1):=by
 obtain⟨X,hX⟩:=h.ds.zwh
 have hS:PI (rowT k f) (rowT k g) (startN (rowT k f) (rowT k g)):=by have:=h.pi;rw[hX]at this;exact zakl this
 have hd:=(zakk R hS (zacg R) h.ds).2
 have shut:=fun(i c d:Nat) (hi:(i,i)∈L) (hc:c∈kidsOf (rowT k f) i) (hd':d∈kidsOf (rowT k g) i)=>h.shut (i,i) hi (h.pi.ok _ hi).1 c hc d hd'
 have fill:∀x,¬(frE L x x=true)->(x,x)∈L:=fun x hx=>by
  refine AZ fun hn=>hx (zpj.2 ⟨fun hm=>?_,fun hm=>?_⟩)
  ·obtain⟨p,hp,e⟩:=Au.1 hm
   have:=hd p hp
   refine hn ?_
   obtain⟨p1,p2⟩:=p
   simp only at e this
   subst e this;exact hp
  ·obtain⟨p,hp,e⟩:=Au.1 hm
   have:=hd p hp
   refine hn ?_
   obtain⟨p1,p2⟩:=p
   simp only at e this
   subst e this;exact hp
 have hel:∀i,i<k->(2*i+1,2*i+1)∈L:=fun i hi=>fill _ fun hf =>
  shut 0 (2*i+1) (2*i+1) h.root (by rw[zpp];exact Au.2 ⟨i,by simpa using hi,rfl⟩) (by rw[zpp];exact Au.2 ⟨i,by simpa using hi,rfl⟩) ⟨hf,(zaak hi).1⟩
 have htx:∀i,i<k->(2*i+2,2*i+2)∈L:=fun i hi=>fill _ fun hf =>
  shut (2*i+1) (2*i+2) (2*i+2) (hel i hi) (by rw[zpq hi];simp) (by rw[zpq hi];simp) ⟨hf,(zaak hi).2⟩
 refine zwi h.pi.nx (fun p hp=>⟨hd p hp,by have:=(h.pi.ok p hp).1;rwa [zaz]at this⟩) fun n hn=>?_
 rcases zpo hn with rfl|⟨i,hi,rfl|rfl⟩
 ·exact Au.2 ⟨_,h.root,rfl⟩
 ·exact Au.2 ⟨_,hel i hi,rfl⟩
 ·exact Au.2 ⟨_,htx i hi,rfl⟩
end
end
section
variable {H:J2} {k:Nat} {o:Option Nat} {v:IVal}
def nmB (i:Nat):Bytes:=[UInt8.ofNat (97+i)]
def elC (i p:Nat):J3:=[J4 2, .p (.str (nmB i)), .p (.str []), .p .nilslice, .slice p 0 0 1]
def elCs (k:Nat) (P:Nat->Nat):J3:=(List.range k).flatMap fun i=>elC i (P i)
def txC (x:Bytes):J3:=[J4 3, .p (.str []), .p (.str x), .p .nilslice, .p .nilslice]
theorem zfw (k:Nat) (P:Nat->Nat):elCs (k+1) P=elCs k P++elC k (P k):=by simp[elCs,BY]
theorem zaal (k:Nat) (P:Nat->Nat):(elCs k P).length=k*5:=by
 induction k with
 |zero=>rfl
 |succ k ih=>rw[zfw,Ag,ih];show _+5=_;omega
theorem zaci {P Q:Nat->Nat} (h:∀i,i<k->P i=Q i):elCs k P=elCs k Q:=by
 induction k with
 |zero=>rfl
 |succ k ih=>rw[zfw,zfw,ih fun i hi=>h i (by omega),h k (by omega)]
theorem zagh {P:Nat->Nat}:∀ {i:Nat},i<k->((elCs k P).drop (i*5)).take 5=elC i (P i)/\(elCs k P)[i*5+4]? = some (.slice (P i) 0 0 1):=by
 induction k with
 |zero=>intro i h;omega
 |succ k ih =>
  intro i h
  rw[zfw]
  by_cases e:i<k
  ·obtain⟨h1,h2⟩:=ih e
   have hl:=zaal k P
   rw[List.drop_append_of_le_length (by omega),Bm (by rw[Bc];omega),Ab (by omega)]
   exact⟨h1,h2⟩
  ·obtain rfl:i=k:=by omega
   have hl:=zaal i P
   rw[BS,Br (by omega),hl,Bb,Ad (by omega),hl,show i*5+4-i*5=4 by omega]
   exact⟨rfl,rfl⟩
structure RowAt (H:J2) (o:Option Nat) (v:IVal) (k:Nat) (P:Nat->Nat) (f:Nat->Bytes):Prop where
 vs:VS H o 5 k v (elCs k P)
 tx:∀i,i<k->∃op,H[P i]? = some (.cells (txC (f i)) 5 0 op)
 ne:∀i,i<k->o≠some (P i)
 inj:∀i j,i<k->j<k->P i=P j->i=j
theorem RowAt.nil {P:Nat->Nat} {f:Nat->Bytes}:RowAt H none (.p .nilslice) 0 P f:=⟨⟨rfl,rfl,rfl⟩,fun i h=>by omega,fun i h=>by omega,fun i j h=>by omega⟩
theorem RowAt.keep {H':J2} {P:Nat->Nat} {f:Nat->Bytes} (h:RowAt H o v k P f) (hk:∀x,x<H.length->H'[x]? = H[x]?) (hl:H.length<=H'.length):RowAt H' o v k P f:=by
 refine⟨h.vs.keep (S:=fun _=>False) ⟨hl,fun x hx _=>hk x hx⟩ (fun _ _ h=>h),fun i hi=>?_,h.ne,h.inj⟩
 obtain⟨op,e⟩:=h.tx i hi
 exact⟨op,by rw[hk _ (Aa.1 e).1];exact e⟩
theorem zagi (k:Nat) (f:Nat->Bytes):kcells (rowL k f)=(List.range k).flatMap fun i=>(elT i (f i)).cells:=by
 rw[zom,rowL,List.flatMap_map]
theorem RowAt.frz {P:Nat->Nat} {f:Nat->Bytes} (h:RowAt H o v k P f) (hk:0<k):freezeOne H (.agg [J4 1, .p (.str []), .p (.str []), .p .nilslice,v])=some (tagg (rowT k f)):=by
 obtain⟨kk,rfl⟩:∃kk,o=some kk:=by
  cases o with
  |none=>obtain⟨_,h2,_⟩:=h.vs;omega
  |some kk=>exact⟨kk,rfl⟩
 have hs:HS H kk 5 k v (elCs k P):=h.vs
 have key:∀j,j<=k->All2 (frzP (fun _=>True) H 2) (elCs j P) ((List.range j).flatMap fun i=>(elT i (f i)).cells):=by
  intro j
  induction j with
  |zero=>intro _;rfl
  |succ j ih =>
   intro hj
   rw[zfw,BY,BQ]
   refine(ih (by omega)).append ?_
   obtain⟨op,e⟩:=h.tx j (by omega)
   have hh:HS H (P j) 5 1 (.slice (P j) 0 0 1) (txC (f j)):=⟨0,_,op,rfl,e,by show 1*5<=5;omega,rfl⟩
   have hf:frzP (fun _=>True) H 2 (.slice (P j) 0 0 1) (.slice 5 1 (txT (f j)).cells):=hh.frz trivial (All2.plain (txT (f j)).cells)
   simp only[AI,List.flatMap_nil,AJ]
   have e4:(elT j (f j)).cells=[.int .i64 2, .str (nmB j), .str [], .nilslice]++[.slice 5 1 (txT (f j)).cells]:=rfl
   have e5:elC j (P j)=pcells [.int .i64 2, .str (nmB j), .str [], .nilslice]++[.slice (P j) 0 0 1]:=rfl
   rw[e4,e5]
   exact(All2.plain _).append ⟨_,_,rfl,hf,rfl⟩
 have hv:frzP (fun _=>True) H 3 v (.slice 5 k (kcells (rowL k f))):=hs.frz trivial (by rw[zagi];exact key k (Ai _))
 have e1:tagg (rowT k f) = .agg (pcells ([.int .i64 1, .str [], .str [], .nilslice]++[.slice 5 k (kcells (rowL k f))])):=by
  have hl:(rowL k f).length=k:=by simp[rowL]
  show IVal.agg (pcells [.int .i64 1, .str [], .str [], .nilslice,kval (some (rowL k f))])=_
  rw[kval,hl];rfl
 rw[e1]
 exact zafo (n:=3) (by omega) ((All2.plain (P:=fun _=>True) (n:=2) [.int .i64 1, .str [], .str [], .nilslice]).append ⟨_,_,rfl,hv,rfl⟩)
def updP (P:Nat->Nat) (k p:Nat):Nat->Nat:=fun i=>if i=k then p else P i
theorem zex (P:Nat->Nat) (k p:Nat):updP P k p k=p:=if_pos rfl
theorem zgk (P:Nat->Nat) (p:Nat) {k i:Nat} (h:i≠k):updP P k p i=P i:=if_neg h
theorem RowAt.snoc {P:Nat->Nat} {f:Nat->Bytes} (h:RowAt H o v k P f) (hk:k<100) (p:Nat) (hp:∃op,H[p]? = some (.cells (txC (f k)) 5 0 op)) (hne:o≠some p) (hinj:∀i,i<k->P i≠p) :
 ∃v' H' o' P',evalAppend ⟨[],H++[.cells (elC k p) 5 0 false]⟩ 5 v (.slice H.length 0 0 1)=some (v',⟨[],H'⟩)/\RowAt H' o' v' (k+1) P' f/\(∀ i,i<k->P' i=P i)/\P' k=p/\H.length<H'.length/\(o'=o\/∃q,o'=some q/\H.length<=q)/\(∀ x,x<H.length->o≠some x->H'[x]? = H[x]?)/\up v' = .v v':=by
 obtain⟨v',H',o',a1,a2,a3,a4,a5,a6⟩:=h.vs.append1 (ys:=elC k p) rfl (by omega)
 obtain⟨op0,hp⟩:=hp
 have hpl:=(Aa.1 hp).1
 have hlt:∀i,i<k->P i<H.length:=fun i hi=>by
  obtain⟨op,e2⟩:=h.tx i hi
  exact(Aa.1 e2).1
 refine⟨v',H',o',updP P k p,a1,⟨?_,fun i hi=>?_,fun i hi=>?_,fun i j hi hj e=>?_⟩,fun i hi=>zgk P p (by omega),zex P k p,a4,a5,fun x hx hne=>a3.2 x hx (fun e=>hne e),a2.up⟩
 ·rw[zfw,zex,zaci (Q:=P) fun i hi=>zgk P p (by omega)]
  exact a2
 ·by_cases e:i=k
  ·subst e
   rw[zex]
   exact⟨op0,by rw[a3.2 _ hpl (fun e=>hne e)];exact hp⟩
  ·rw[zgk P p e]
   obtain⟨op,e2⟩:=h.tx i (by omega)
   exact⟨op,by rw[a3.2 _ (Aa.1 e2).1 (fun e=>h.ne i (by omega) e)];exact e2⟩
 ·rcases a5 with rfl|⟨q,rfl,hq⟩
  ·by_cases e:i=k
   ·subst e;rw[zex];exact hne
   ·rw[zgk P p e];exact h.ne i (by omega)
  ·intro e
   injection e with e
   by_cases ei:i=k
   ·subst ei;rw[zex]at e;omega
   ·rw[zgk P p ei]at e;have:=hlt i (by omega);omega
 ·by_cases e1:i=k<;>by_cases e2:j=k
  ·omega
  ·subst e1;rw[zex,zgk P p e2]at e
   exact absurd e.symm (hinj j (by omega))
  ·subst e2;rw[zex,zgk P p e1]at e
   exact absurd e (hinj i (by omega))
  ·rw[zgk P p e1,zgk P p e2]at e
   exact h.inj i j (by omega) (by omega) e
theorem RowAt.text {P:Nat->Nat} {f:Nat->Bytes} (h:RowAt H o v k P f) {i:Nat} (hi:i<k) (x:Bytes):∃B kk ver,idxS 5 v (J4 i)=some (J5 kk ver (i*5))/\loadVal ⟨[],H⟩ none (J5 kk ver (i*5+4))=some (.slice (P i) 0 0 1)/\idxS 5 (.slice (P i) 0 0 1) (J4 0)=some (J5 (P i) 0 0) /\
 writeCells ⟨[],H⟩ (J5 (P i) 0 2) [.p (.str x)]=some ⟨[],H.set (P i) B⟩/\RowAt (H.set (P i) B) o v k P (fun j=>if j=i then x else f j):=by
 obtain⟨op,e⟩:=h.tx i hi
 have hpl:=(Aa.1 e).1
 obtain⟨kk,rfl⟩:∃kk,o=some kk:=by
  cases o with
  |none=>obtain⟨_,h2,_⟩:=h.vs;omega
  |some kk=>exact⟨kk,rfl⟩
 have hs:HS H kk 5 k v (elCs k P):=h.vs
 have hs0:=hs
 obtain⟨ver,cs,opk,rfl,hk,hn,hx⟩:=hs
 have hkl:=(Aa.1 hk).1
 have hcell:cs[i*5+4]? = some (.slice (P i) 0 0 1):=by
  have:=(zagh (P:=P) hi).2
  rw[<- hx,BP (by omega)]at this
  exact this
 refine⟨.cells (txC x) 5 0 op,kk,ver,?_,zac hk hcell,?_,?_,?_,fun j hj=>?_,h.ne,h.inj⟩
 ·have:=zaq (e:=5) (k:=kk) (v:=ver) (o:=0) (n:=k) (j:=i) hi
  rw[Aq]at this
  exact this
 ·exact zaq (e:=5) (k:=P i) (v:=0) (o:=0) (n:=1) (j:=0) (by omega)
 ·rw[zam e (by show 2+1<=5;omega)];rfl
 ·exact hs0.keep (by rw[Ac (fun e=>h.ne i hi (by rw[e]))])
 ·by_cases ej:j=i
  ·subst ej
   exact⟨op,by rw[if_pos rfl];exact zan hpl⟩
  ·rw[if_neg ej]
   obtain⟨op',e'⟩:=h.tx j hj
   exact⟨op',by rw[Ac (fun e=>ej (h.inj j i hj hi e.symm))];exact e'⟩
theorem letter (i:Nat) (hi:i<9):sliceStrF (.p (.str [97,98,99,100,101,102,103,104,105])) (some (J4 i)) (some (J4 ((i:Int)+1)))=some (.p (.str (nmB i))):=by
 rw[zix (by omega) (by omega) (by simp;omega)]
 rcases(show i=0\/i=1\/i=2\/i=3\/i=4\/i=5\/i=6\/i=7\/i=8 by omega)with rfl|rfl|rfl|rfl|rfl|rfl|rfl|rfl|rfl<;>rfl
def bgB (i:Nat):Bytes:=[UInt8.ofNat (65+i)]
theorem bigLetter (i:Nat) (hi:i<9):sliceStrF (.p (.str [65,66,67,68,69,70,71,72,73])) (some (J4 i)) (some (J4 ((i:Int)+1)))=some (.p (.str (bgB i))):=by
 rw[zix (by omega) (by omega) (by simp;omega)]
 rcases(show i=0\/i=1\/i=2\/i=3\/i=4\/i=5\/i=6\/i=7\/i=8 by omega)with rfl|rfl|rfl|rfl|rfl|rfl|rfl|rfl|rfl<;>rfl
end
theorem zpt (H:J2):CW tr.look F_Q35 [.p .nilslice] H=some (.p .nilslice,H):=by
 refine zal look_Q35 rfl (by simp) rfl ?_
 dsimp only[i_Q35,c_Q35]
 simp(disch:=omega) []
 refine⟨_,rfl,?_⟩
 simp(disch:=omega) []
theorem zaqc (x:Bytes) (H:J2):CW tr.look F_Q12 [.agg (txC x)] H=some (.agg (txC x),H):=by
 have ha:=zpt H
 obtain⟨r,H',e1,rfl,rfl⟩:=zay (args:=[.agg (txC x)]) (H:=H) (Q:=fun r H'=>r = .agg (txC x)/\H'=H) look_Q12 rfl rfl (by
  dsimp only[i_Q12,c_Q12]
  simp(disch:=omega) [txC,ha]
  refine⟨rfl,?_⟩
  refine zav ?_
  dsimp only[l_Q12_0]
  simp(disch:=omega) [])
 exact e1
theorem zaqd (i p:Nat) (x:Bytes) (H:J2) (hp:∃op,H[p]? = some (.cells (txC x) 5 0 op)):∃H',CW tr.look F_Q12 [.agg (elC i p)] H=some (.agg (elC i (H.length+1)),H')/\H'.length=H.length+2/\(∀ y,y<H.length->H'[y]? = H[y]?)/\H'[H.length+1]? = some (.cells (txC x) 5 0 true):=by
 obtain⟨op,hp⟩:=hp
 have ha:=zpt H
 have ht:=zaqc x H
 have hpl:=(Aa.1 hp).1
 have ld:loadVal ⟨[],H⟩ (some 5) (J5 p 0 0)=some (.agg (txC x)):=zce hp (by show 0+5<=5;omega)
 have ix:idxS 5 (.slice p 0 0 1) (J4 0)=some (J5 p 0 0):=zaq (e:=5) (k:=p) (v:=0) (o:=0) (n:=1) (j:=0) (by omega)
 have happ:evalAppend ⟨[],H++[.cells (txC x) 5 0 false]⟩ 5 (.p .nilslice) (.slice H.length 0 0 1)=some (.slice (H.length+1) 0 0 1,⟨[],H++[.cells (txC x) 5 0 false]++[.cells (txC x) 5 0 true]⟩):=by
  have:=append_nil (ys:=txC x) (esz:=5) (zcl (bx:=[]) (H:=H++[.cells (txC x) 5 0 false]) (n:=1) (esz:=5) (op:=false) (ver:=0) zbd rfl) (ny:=1) rfl (by omega) (by omega)
  simpa using this
 obtain⟨H2,hH2⟩:∃H2,H++[IBlk.cells (txC x) 5 0 false]++[.cells (txC x) 5 0 true]=H2:=⟨_,rfl⟩
 rw[hH2]at happ
 obtain⟨H1,hH1⟩:∃H1,H++[IBlk.cells (txC x) 5 0 false]=H1:=⟨_,rfl⟩
 rw[hH1]at happ hH2
 unfold txC at hH1 ld ht
 obtain⟨r,H',e1,rfl,rfl⟩:=zay (args:=[.agg (elC i p)]) (H:=H) (Q:=fun r H'=>r = .agg (elC i (H.length+1))/\H'=H2) look_Q12 rfl rfl (by
  dsimp only[i_Q12,c_Q12]
  simp(disch:=omega) [elC,ha]
  refine⟨rfl,?_⟩
  refine zav ?_
  dsimp only[l_Q12_0]
  simp(disch:=omega) [ix,ld,ht,hH1,happ,zaa]
  refine zav ?_
  simp(disch:=omega) [])
 have hl1:H1.length=H.length+1:=by rw[<- hH1];simp
 refine⟨_,e1,by rw[<- hH2];simp[hl1],fun y hy=>?_,?_⟩
 ·rw[<- hH2,Ab (by omega),<-hH1,Ab hy]
 ·rw[<- hH2,<-hl1];exact zbd
theorem RowAt.el {H:J2} {o:Option Nat} {v:IVal} {k:Nat} {P:Nat->Nat} {f:Nat->Bytes} (h:RowAt H o v k P f) {i:Nat} (hi:i<k):∃kk ver,idxS 5 v (J4 i)=some (J5 kk ver (i*5))/\loadVal ⟨[],H⟩ (some 5) (J5 kk ver (i*5))=some (.agg (elC i (P i))):=by
 obtain⟨kk,rfl⟩:∃kk,o=some kk:=by
  cases o with
  |none=>obtain⟨_,h2,_⟩:=h.vs;omega
  |some kk=>exact⟨kk,rfl⟩
 have hs:HS H kk 5 k v (elCs k P):=h.vs
 obtain⟨ver,cs,opk,rfl,hk,hn,hx⟩:=hs
 refine⟨kk,ver,?_,?_⟩
 ·have:=zaq (e:=5) (k:=kk) (v:=ver) (o:=0) (n:=k) (j:=i) hi
  rw[Aq]at this
  exact this
 ·rw[zce hk (by omega)]
  have:=(zagh (P:=P) hi).1
  rw[<- hx,List.drop_take,BT,Bs (by omega)]at this
  rw[this]
def TreeQ (H:J2) (k:Nat) (f:Nat->Bytes) (r:IVal) (H':J2):Prop:=∃o v P,r = .agg [J4 1, .p (.str []), .p (.str []), .p .nilslice,v]/\RowAt H' o v k P f/\H.length<=H'.length/\(∀ y,y<H.length->H'[y]? = H[y]?)/\up v = .v v/\∀i,i<k->H.length<=P i
theorem zakm {H:J2} {o:Option Nat} {v:IVal} {k:Nat} {P:Nat->Nat} {f:Nat->Bytes} (h:RowAt H o v k P f) (hk:k<=9):∃r H',CW tr.look F_Q12 [.agg [J4 1, .p (.str []), .p (.str []), .p .nilslice,v]] H=some (r,H')/\TreeQ H k f r H':=by
 have ha:=zpt H
 have hup:=h.vs.up
 have hln:=h.vs.len
 have hps:=h.vs.pass
 have hne:v≠.undef:=by rintro rfl;exact absurd hps (by decide)
 refine zay look_Q12 rfl rfl ?_
 dsimp only[i_Q12,c_Q12]
 simp(disch:=omega) [ha,hup]
 refine⟨rfl,?_⟩
 refine zae (α:=Nat×Option Nat×IVal×(Nat->Nat)×J2) (fun s=>[(1, .box 1 0),(2, .box 2 0),(3, .box 3 0),(4, .int .i64 s.1)]) (fun s=>⟨[(3,some ⟨[.int .i64 1, .str [], .str [], .v (.p .nilslice), .v s.2.2.1],5⟩),(2,some ⟨[.int .i64 0, .str [], .str [], .v (.p .nilslice), .v (.p .nilslice)],5⟩),(1,some ⟨[.int .i64 1, .str [], .str [], .v (.p .nilslice), .v v],5⟩)],s.2.2.2.2⟩)
  (fun s=>s.1<=k/\RowAt s.2.2.2.2 s.2.1 s.2.2.1 s.1 s.2.2.2.1 f/\H.length<=s.2.2.2.2.length/\(∀ y,y<H.length->s.2.2.2.2[y]? = H[y]?)/\(∀ i,i<s.1->H.length<=s.2.2.2.1 i)/\∀q,s.2.1=some q->H.length<=q) (fun s=>k-s.1) ?_ (0,none, .p .nilslice,id,H) ⟨AY _,RowAt.nil,Ai _,fun _ _=>rfl,fun i h=>by omega,fun q h=>by cases h⟩
 rintro⟨j,o',v',P',K⟩ ⟨hj,hR,hl,hx,hP,ho⟩ R hgo
 dsimp only at hj hR hl hx hP ho hgo ⊢
 dsimp only[l_Q12_0]
 have hup':=hR.vs.up
 have hne':v'≠.undef:=by rintro rfl;exact absurd hR.vs.pass (by decide)
 by_cases hjk:j<k
 ·have hlt:(j:Int)<(k:Int):=by omega
  have hK:=h.keep hx hl
  obtain⟨kk,ver,ix,ld⟩:=hK.el hjk
  obtain⟨K1,t1,t2,t3,t4⟩:=zaqd j (P j) (f j) K (hK.tx j hjk)
  have hR1:=hR.keep t3 (by omega)
  have hlo:∀q,o'=some q->q<K.length:=fun q hq=>by
   subst hq;exact hR.vs.lt
  obtain⟨v2,K2,o2,P2,a1,a2,a3,a4,a5,a6,a7,a8⟩:=hR1.snoc (by omega) (K.length+1) ⟨_,t4⟩ (fun e=>by have:=hlo _ e;omega) (fun i hi e=>by
   obtain⟨op,e2⟩:=hR.tx i hi
   have:=(Aa.1 e2).1
   omega)
  have a1':=a1
  have ld':=ld
  have t1':=t1
  unfold elC at a1' ld' t1'
  have hco:=a2.vs.cells
  simp(disch:=omega) [hln,ix,ld',t1',hne',hup',hup,a1',a8,zkt hco a8,zaa]
  refine hgo (j+1,o2,v2,P2,K2) ⟨by dsimp only;omega,a2,by dsimp only;omega,fun y hy=>?_,fun i hi=>?_,fun q hq=>?_⟩ (by dsimp only;omega)
  ·dsimp only
   rw[a7 y (by omega) (fun e=>by have:=ho y e;omega),t3 y (by omega),hx y hy]
  ·dsimp only at hi ⊢
   by_cases e:i=j
   ·subst e;omega
   ·rw[a3 i (by omega)];exact hP i (by omega)
  ·dsimp only at hq
   rcases a6 with e|⟨z,e,hz⟩
   ·exact ho q (e ▸ hq)
   ·rw[hq]at e;injection e with e;omega
 ·obtain rfl:j=k:=by omega
  simp(disch:=omega) [hln,hup',hne',hup]
  exact⟨o',v',P',rfl,hR,hl,hx,hup',hP⟩
section
variable {H:J2} {X:J3} {k m n:Nat} {o:Option Nat} {v:IVal}
theorem zpu (t:Tree) (ht:t.attrs=none) {args:J3} {H:J2} (hf:freezeAll H args=some [tagg t]):CW tr.look F_Q60 args H=some (.agg [J4 t.kind, .p (.str t.name), .p (.str t.text), .p .nilslice, .p .nilslice],H):=by
 refine zahq look_Q60 rfl hf rfl ?_
 dsimp only[i_Q60,c_Q60]
 simp(disch:=omega) [ht]
 refine⟨_,rfl,?_⟩
 simp(disch:=omega) [zds]
 exact⟨rfl, .inr rfl⟩
def FLs (X:J3) (n:Nat):Prop:=X.length=n*15/\∀j,j<n->∃h:Nat,h<=100/\X[j*15+3]? = some (J4 h)
theorem FLs.app (h:FLs X n) {c:J3} (hc:c.length=15) (h3:c[3]? = some (J4 0)):FLs (X++c) (n+1):=by
 obtain⟨h1,h2⟩:=h
 refine⟨by rw[Ag,h1,hc];omega,fun j hj=>?_⟩
 by_cases e:j<n
 ·obtain⟨x,a,b⟩:=h2 j e
  exact⟨x,a,by rw[Ab (by omega)];exact b⟩
 ·obtain rfl:j=n:=by omega
  exact⟨0,by omega,by rw[Ad (by omega),h1,show j*15+3-j*15=3 by omega,h3];rfl⟩
theorem FLs.size (h:FLs X n) (hm:m<n) (v:IVal):FLs (splice X (m*15+1) [v]) n:=by
 obtain⟨h1,h2⟩:=h
 rw[zie (by omega)]
 refine⟨by rw[Ay];exact h1,fun j hj=>?_⟩
 obtain⟨x,a,b⟩:=h2 j hj
 exact⟨x,a,by rw[Ac (by omega)];exact b⟩
theorem FLs.high (h:FLs X n) (hm:m<n) (g:Nat) (hg:g<=100):FLs (splice X (m*15+3) [J4 g]) n:=by
 obtain⟨h1,h2⟩:=h
 rw[zie (by omega)]
 refine⟨by rw[Ay];exact h1,fun j hj=>?_⟩
 by_cases e:j=m
 ·subst e
  exact⟨g,hg,by rw[AO (by omega)]⟩
 ·obtain⟨x,a,b⟩:=h2 j hj
  exact⟨x,a,by rw[Ac (by omega)];exact b⟩
def HtAt (X:J3) (m G:Nat):Prop:=∃g:Nat,g<=G/\X[m*15+3]? = some (J4 g)
structure FlatH (H:J2) (o:Option Nat) (n m G:Nat) (lv:IVal) (H':J2) (k':Nat):Prop where
 ok:∃X,VS H' (some k') 15 n lv X/\FLs X n/\HtAt X m G
 kp:Keep (fun y=>o=some y) H H'
 nw:o=some k'\/H.length<=k'
theorem ztm {lv:IVal} (hV:VS H o 15 m lv X) (hX:FLs X m) (hm:m<=100) (c:J3) (hc:c.length=15) (h3:c[3]? = some (J4 0)) :
 ∃lv' H' k',evalAppend ⟨[],H++[.cells c 15 0 false]⟩ 15 lv (.slice H.length 0 0 1)=some (lv',⟨[],H'⟩)/\(∃ X,VS H' (some k') 15 (m+1) lv' X/\FLs X (m+1))/\Keep (fun y=>o=some y) H H'/\(o=some k'\/H.length<=k')/\up lv' = .v lv'/\lv'≠.undef/\lv'.passOK=true:=by
 obtain⟨lv',H',o',a1,a2,a3,a4,a5,k',rfl⟩:=hV.append1 (ys:=c) hc (by omega)
 refine⟨lv',H',k',a1,⟨_,a2,hX.app hc h3⟩,a3,?_,a2.up,by rintro rfl;exact absurd a2.pass (by decide),a2.pass⟩
 rcases a5 with e|⟨q,e,hq⟩
 ·exact .inl e.symm
 ·injection e with e;subst e;exact .inr hq
theorem zlu {lv:IVal} (hV:VS H (some k) 15 n lv X) (hX:FLs X n) (hm:m<n) (s:IVal) (hs:s.cellsOf=some [s]) (g:Nat) (hg:g<=100) :
 ∃ver B1 B2,idxS 15 lv (J4 m)=some (J5 k ver (m*15))/\writeCells ⟨[],H⟩ (J5 k ver (m*15+1)) [s]=some ⟨[],H.set k B1⟩/\writeCells ⟨[],H.set k B1⟩ (J5 k ver (m*15+3)) [J4 g]=some ⟨[],H.set k B2⟩/\(∃ Y,VS (H.set k B2) (some k) 15 n lv Y/\FLs Y n/\HtAt Y m g):=by
 have hs0:HS H k 15 n lv X:=hV
 obtain⟨ver,cs,op,rfl,_⟩:=hs0
 have hl:=hX.1
 obtain⟨B1,w1,s1⟩:=HS.store (bx:=[]) hV (off:=m*15+1) (new:=[s]) (by simp;omega)
 obtain⟨B2,w2,s2⟩:=s1.store (bx:=[]) (off:=m*15+3) (new:=[J4 g]) (by simp;omega)
 rw[CR]at w2 s2
 refine⟨ver,B1,B2,?_,w1,w2,_,s2,(hX.size hm s).high hm g hg,g,Ai _,?_⟩
 ·have:=zaq (e:=15) (k:=k) (v:=ver) (o:=0) (n:=n) (j:=m) hm
  rw[Aq]at this
  exact this
 ·have h1:=(hX.size hm s).1
  rw[zie (by omega),AO (by omega)]
theorem zaam {S:Nat->Prop} {H0:J2} {B:IBlk} (h:Keep S H0 H) (hk:S k\/H0.length<=k):Keep S H0 (H.set k B):=by
 refine⟨by rw[Ay];exact h.1,fun i hi hs=>?_⟩
 have:i≠k:=by
  rintro rfl
  rcases hk with hk|hk
  ·exact hs hk
  ·omega
 rw[Ac (Ne.symm this)]
 exact h.2 i hi hs
def FlatQ (H:J2) (o:Option Nat) (n m G:Nat) (r:IVal) (H':J2):Prop:=up r = .v r/\∃k',FlatH H o n m G r H' k'
theorem zaqe (x:Bytes) {H:J2} {o:Option Nat} {m:Nat} {lv:IVal} {X:J3} (hV:VS H o 15 m lv X) (hX:FLs X m) (hm:m<=90) (p:Int) (d pl:Nat):∃r H',CW tr.look F_Q36 [lv, .agg (txC x), J4 p, J4 d, J4 pl] H=some (r,H')/\FlatQ H o (m+1) m 1 r H':=by
 have hup:=hV.up
 have hk6:killV 6 lv=lv:=hV.kill
 have hln:=hV.len
 have hne:lv≠.undef:=by rintro rfl;exact absurd hV.pass (by decide)
 have hb:=zpu (txT x) rfl (args:=[.agg (txC x)]) (H:=H) (by
  simp only[freezeAll]
  rw[show IVal.agg (txC x)=tagg (txT x)from rfl,zqb])
 unfold txC at hb
 obtain⟨lv',H1,k1,a1,⟨X1,f1,f2⟩,f3,f4,hup',hne',hps'⟩:=ztm hV hX (by omega) [J4 p, J4 0, J4 d, J4 0, J4 pl, J4 3, .p (.str []), .p (.str x), .p .nilslice, .p .nilslice, J4 3, .p (.str []), .p (.str x), .p .nilslice, .p .nilslice] rfl rfl
 have hln':=f1.len
 obtain⟨ver,B1,B2,g1,g2,g3,g4⟩:=zlu f1 f2 (m:=m) (by omega) (J4 1) rfl 1 (by omega)
 have g3:writeCells ⟨[],H1.set k1 B1⟩ (J5 k1 ver (m*15+3)) [J4 1]=some ⟨[],H1.set k1 B2⟩:=g3
 refine zay look_Q36 rfl rfl ?_
 dsimp only[i_Q36,c_Q36]
 have hb':CW tr.look F_Q60 [.agg [J4 3, .p (.str []), .p (.str x), .p .nilslice, .p .nilslice]] H=some (.agg [J4 3, .p (.str []), .p (.str x), .p .nilslice, .p .nilslice],H):=hb
 simp(disch:=omega) [txC,hk6,hup,hne,hln,hb',a1,hup',hne',hps']
 refine zav ?_
 dsimp only[l_Q36_0]
 simp(disch:=omega) [hup',hne',hps',hln',g1,g2,g3,zaa,show((m:Int)+1-(m:Int))=1 by omega]
 obtain⟨Y,y1,y2,y3⟩:=g4
 exact⟨hup',k1,⟨⟨Y,y1,y2,y3⟩,zaam f3 f4,f4⟩⟩
theorem zaqf (i p0:Nat) (x:Bytes) {H:J2} (hp:∃op,H[p0]? = some (.cells (txC x) 5 0 op)) {o:Option Nat} (hop:o≠some p0) {m:Nat} {lv:IVal} {X:J3} (hV:VS H o 15 m lv X) (hX:FLs X m) (hm:m<=80) (p:Int) (d pl:Nat) (hd:d<=100) (hfz:freezeAll H [.agg (elC i p0)]=some [tagg (elT i x)]):∃r H',CW tr.look F_Q36 [lv, .agg (elC i p0), J4 p, J4 d, J4 pl] H=some (r,H')/\FlatQ H o (m+2) m 2 r H':=by
 obtain⟨op,hp⟩:=hp
 have hup:=hV.up
 have hk6:killV 6 lv=lv:=hV.kill
 have hln:=hV.len
 have hne:lv≠.undef:=by rintro rfl;exact absurd hV.pass (by decide)
 have hb:=zpu (elT i x) rfl hfz
 obtain⟨lv',H1,k1,a1,⟨X1,f1,f2⟩,f3,f4,hup',hne',hps'⟩:=ztm hV hX (by omega) [J4 p, J4 0, J4 d, J4 0, J4 pl, J4 2, .p (.str (nmB i)), .p (.str []), .p .nilslice, .p .nilslice, J4 2, .p (.str (nmB i)), .p (.str []), .p .nilslice, .slice p0 0 0 1] rfl rfl
 have hln':=f1.len
 have hpl:=(Aa.1 hp).1
 have hp1:H1[p0]? = some (.cells (txC x) 5 0 op):=by rw[f3.2 _ hpl (fun e=>hop e)];exact hp
 have ld:loadVal ⟨[],H1⟩ (some 5) (J5 p0 0 0)=some (.agg (txC x)):=zce hp1 (by show 0+5<=5;omega)
 have ix:idxS 5 (.slice p0 0 0 1) (J4 0)=some (J5 p0 0 0):=zaq (e:=5) (k:=p0) (v:=0) (o:=0) (n:=1) (j:=0) (by omega)
 obtain⟨lv2,H2,t1,hup2,k2,⟨⟨X2,t2,t3,hh,hh1,hh2⟩,t4,t5⟩⟩:=zaqe x f1 f2 (by omega) m (d+1) 0
 have hne2:lv2≠.undef:=by rintro rfl;exact absurd t2.pass (by decide)
 have hps2:=t2.pass
 have hln2:=t2.len
 obtain⟨ver2,f5,f6,_⟩:=t2.field (bx:=[]) (j:=m+1) (by omega)
 have f7:=f6 3 _ (by rw[hh2])
 obtain⟨ver,B1,B2,g1,g2,g3,g4⟩:=zlu t2 t3 (m:=m) (by omega) (J4 2) rfl (hh+1) (by omega)
 rw[show((hh+1:Nat):Int)=(hh:Int)+1 by omega]at g3
 refine zay look_Q36 rfl rfl ?_
 dsimp only[i_Q36,c_Q36]
 have hb':CW tr.look F_Q60 [.agg (elC i p0)] H=some (.agg [J4 2, .p (.str (nmB i)), .p (.str []), .p .nilslice, .p .nilslice],H):=hb
 have t1':=t1
 have ld':=ld
 unfold elC at hb'
 unfold txC at ld' t1'
 rw[show((d+1:Nat):Int)=(d:Int)+1 by omega,show((0:Nat):Int)=0 by rfl]at t1'
 rw[show((m+1:Nat):Int)=(m:Int)+1 by omega]at f5
 simp(disch:=omega) [elC,hk6,hup,hne,hln,hb',a1,hup',hne',hps']
 refine zav ?_
 dsimp only[l_Q36_0]
 simp(disch:=omega) [hup',hne',hps',hln',ix,ld',t1',hup2,hne2,hps2,f5,f7,zmn,zaa]
 refine zav ?_
 have hmx:max (0:Int) (hh:Int)=(hh:Int):=by omega
 simp(disch:=omega) [hup2,hne2,hps2,hln2,hmx,g1,g2,g3,zaa,show((m:Int)+1+1-(m:Int))=2 by omega]
 obtain⟨Y,y1,y2,g,y3,y4⟩:=g4
 have hkeep:Keep (fun y=>o=some y) H H2:=by
  refine⟨by have:=f3.1;have:=t4.1;omega,fun y hy hs=>?_⟩
  rw[t4.2 y (by have:=f3.1;omega) (fun e=>by
   rcases f4 with e2|e2
   ·exact hs (e2.trans e)
   ·injection e with e;omega),f3.2 y hy hs]
 have hnew:o=some k2\/H.length<=k2:=by
  have:=f3.1
  rcases t5 with e|e
  ·injection e with e;subst e;exact f4
  ·exact .inr (by omega)
 exact⟨hup2,k2,⟨⟨Y,y1,y2,g,by omega,y4⟩,zaam hkeep hnew,hnew⟩⟩
theorem RowAt.zavx {P:Nat->Nat} {f:Nat->Bytes} (h:RowAt H o v k P f) {i:Nat} (hi:i<k):freezeAll H [.agg (elC i (P i))]=some [tagg (elT i (f i))]:=by
 obtain⟨op,e⟩:=h.tx i hi
 have hh:HS H (P i) 5 1 (.slice (P i) 0 0 1) (txC (f i)):=⟨0,_,op,rfl,e,by show 1*5<=5;omega,rfl⟩
 have hf:frzP (fun _=>True) H 2 (.slice (P i) 0 0 1) (.slice 5 1 (txT (f i)).cells):=hh.frz trivial (All2.plain (txT (f i)).cells)
 have e4:tagg (elT i (f i)) = .agg (pcells ([.int .i64 2, .str (nmB i), .str [], .nilslice]++[.slice 5 1 (txT (f i)).cells])):=rfl
 have e5:elC i (P i)=pcells [.int .i64 2, .str (nmB i), .str [], .nilslice]++[.slice (P i) 0 0 1]:=rfl
 have h2:All2 (frzP (fun _=>True) H 2) [IVal.slice (P i) 0 0 1] [PVal.slice 5 1 (txT (f i)).cells]:=⟨_,_,rfl,hf,rfl⟩
 simp only[freezeAll]
 rw[e4,e5,zafo (P:=fun _=>True) (n:=2) (by omega) ((All2.plain (n:=1) _).append h2)]
theorem zakn {P:Nat->Nat} {f:Nat->Bytes} (h:RowAt H o v k P f) (h0:0<k) (hk:k<=9):∃r H',CW tr.look F_Q36 [.p .nilslice, .agg [J4 1, .p (.str []), .p (.str []), .p .nilslice,v], J4 (-1), J4 0, J4 0] H=some (r,H')/\(up r = .v r/\sliceLen r=some (2*k+1)/\r.passOK=true/\H.length<=H'.length/\∀y,y<H.length->H'[y]? = H[y]?):=by
 have hup:=h.vs.up
 have hln:=h.vs.len
 have hne:v≠.undef:=by rintro rfl;exact absurd h.vs.pass (by decide)
 have hfz:freezeAll H [.agg [J4 1, .p (.str []), .p (.str []), .p .nilslice,v]]=some [tagg (rowT k f)]:=by simp only[freezeAll,h.frz h0]
 have hb:=zpu (rowT k f) rfl hfz
 have hb':CW tr.look F_Q60 [.agg [J4 1, .p (.str []), .p (.str []), .p .nilslice,v]] H=some (.agg [J4 1, .p (.str []), .p (.str []), .p .nilslice, .p .nilslice],H):=hb
 have hV0:VS H none 15 0 (.p .nilslice) []:=⟨rfl,rfl,rfl⟩
 obtain⟨lv',H1,k1,a1,⟨X1,f1,f2⟩,f3,f4,hup',hne',hps'⟩:=ztm hV0 ⟨rfl,fun j hj=>by omega⟩ (by omega) [J4 (-1), J4 0, J4 0, J4 0, J4 0, J4 1, .p (.str []), .p (.str []), .p .nilslice, .p .nilslice, J4 1, .p (.str []), .p (.str []), .p .nilslice,v] rfl rfl
 have hk1:H.length<=k1:=f4.elim (fun e=>by cases e) id
 refine zay look_Q36 rfl rfl ?_
 dsimp only[i_Q36,c_Q36]
 simp(disch:=omega) [hup,hne,hln,hb',a1,hup',hne',hps']
 refine zae (α:=Nat×Nat×IVal×Nat×J2) (fun s=>[(0, .v s.2.2.1),(3, .int .i64 0),(6, .box 6 0),(11, .int .i64 0),(12, .int .i64 s.2.1),(13, .int .i64 s.1)]) (fun s=>⟨[(6,some ⟨[.int .i64 1, .str [], .str [], .v (.p .nilslice), .v v],5⟩)],s.2.2.2.2⟩)
  (fun s=>s.1<=k/\s.2.1<=10/\(∃ X,VS s.2.2.2.2 (some s.2.2.2.1) 15 (2*s.1+1) s.2.2.1 X/\FLs X (2*s.1+1))/\H.length<=s.2.2.2.1/\H.length<=s.2.2.2.2.length/\∀y,y<H.length->s.2.2.2.2[y]? = H[y]?) (fun s=>k-s.1) ?_ (0,0,lv',k1,H1) ⟨AY _,AY _,⟨X1,f1,f2⟩,hk1,f3.1,fun y hy=>f3.2 y hy (fun e=>by cases e)⟩
 rintro⟨j,g,lv,kk,K⟩ ⟨hj,hg,⟨X,hV,hX⟩,hkk,hl,hx⟩ R hgo
 dsimp only at hj hg hV hX hkk hl hx hgo ⊢
 dsimp only[l_Q36_0]
 have hlu:=hV.up
 have hll:=hV.len
 have hln2:lv≠.undef:=by rintro rfl;exact absurd hV.pass (by decide)
 have hlp:=hV.pass
 by_cases hjk:j<k
 ·have hlt:(j:Int)<(k:Int):=by omega
  have hK:=h.keep hx hl
  obtain⟨kk2,ver,ix,ld⟩:=hK.el hjk
  obtain⟨op,hp⟩:=hK.tx j hjk
  have hpl:=(Aa.1 (h.tx j hjk).choose_spec).1
  obtain⟨lv2,K2,t1,hup2,k2,⟨⟨X2,t2,t3,hh,hh1,hh2⟩,t4,t5⟩⟩:=zaqf j (P j) (f j) (hK.tx j hjk) (fun e=>by injection e with e;omega) hV hX (by omega) 0 1 j (by omega) (hK.zavx hjk)
  have hne2:lv2≠.undef:=by rintro rfl;exact absurd t2.pass (by decide)
  have hps2:=t2.pass
  obtain⟨ver2,f5,f6,_⟩:=t2.field (bx:=[]) (j:=2*j+1) (by omega)
  have f7:=f6 3 _ (by rw[hh2])
  have t1':CW tr.look F_Q36 [lv, .agg (elC j (P j)), J4 0, J4 1, J4 j] K=some (lv2,K2):=t1
  have ld':=ld
  unfold elC at ld' t1'
  rw[show((2*j+1:Nat):Int)=2*(j:Int)+1 by omega]at f5
  have hmx:((max g hh:Nat):Int)=max (g:Int) (hh:Int):=by omega
  have hn:=hgo (j+1,max g hh,lv2,k2,K2) ⟨by dsimp only;omega,by dsimp only;omega,⟨X2,by dsimp only;rw[show 2*(j+1)+1=2*j+1+2 by omega];exact t2,by dsimp only;rw[show 2*(j+1)+1=2*j+1+2 by omega];exact t3⟩,by dsimp only;exact t5.elim (fun e=>by injection e with e;omega) (fun e=>by omega),by dsimp only;have:=t4.1;omega,fun y hy=>by dsimp only;rw[t4.2 y (by omega) (fun e=>by injection e with e;omega),hx y hy]⟩ (by dsimp only;omega)
  dsimp only at hn
  rw[hmx]at hn
  simp(disch:=omega) [hln,hlu,hll,hln2,hlp,hup,ix,ld',t1',hup2,hne2,hps2,f5,f7,zmn,zaa]
  exact hn
 ·obtain rfl:j=k:=by omega
  obtain⟨ver,B1,B2,g1,g2,g3,g4⟩:=zlu hV hX (m:=0) (by omega) (J4 (2*(j:Int)+1)) rfl (g+1) (by omega)
  rw[show((g+1:Nat):Int)=(g:Int)+1 by omega]at g3
  have g1':idxS 15 lv (J4 0)=some (J5 kk ver 0):=by have:=g1;simpa using this
  have g2':writeCells ⟨[],K⟩ (J5 kk ver 1) [J4 (2*(j:Int)+1)]=some ⟨[],K.set kk B1⟩:=by have:=g2;simpa using this
  have g3':writeCells ⟨[],K.set kk B1⟩ (J5 kk ver 3) [J4 ((g:Int)+1)]=some ⟨[],K.set kk B2⟩:=by have:=g3;simpa using this
  obtain⟨Y,y1,y2,_⟩:=g4
  simp(disch:=omega) [hln,hlu,hll,hln2,hlp,hup,g1',g2',g3',zaa]
  exact⟨hl,fun y hy=>by rw[Ac (by omega)];exact hx y hy⟩
theorem zagj {P:Nat->Nat} {f:Nat->Bytes} (h:RowAt H o v k P f) (h0:0<k) (hk:k<=9):∃r H',CW tr.look F_Q13 [.agg [J4 1, .p (.str []), .p (.str []), .p .nilslice,v]] H=some (r,H')/\(up r = .v r/\sliceLen r=some (2*k+1)/\r≠.undef/\H.length<=H'.length):=by
 obtain⟨r,H',e1,e2,e3,e4,e5,e6⟩:=zakn h h0 hk
 have hup:=h.vs.up
 have hne:v≠.undef:=by rintro rfl;exact absurd h.vs.pass (by decide)
 have hre:r≠.undef:=by rintro rfl;exact absurd e4 (by decide)
 refine zay look_Q13 rfl rfl ?_
 dsimp only[i_Q13,c_Q13]
 simp(disch:=omega) [hup,hne,e1,e2,e4,hre]
 exact⟨e3,e5⟩
end
section
variable {L:List Bool} {v:PVal}
def BV (v:PVal) (L:List Bool):Prop:=v = .nilslice/\L=[]\/v = .slice 1 L.length (L.map .bool)
theorem BV.len (h:BV v L):sliceLen (.p v)=some L.length:=by
 rcases h with⟨rfl,rfl⟩|rfl<;>rfl
theorem BV.up (h:BV v L):up (.p v) = .v (.p v):=by
 rcases h with⟨rfl,rfl⟩|rfl<;>rfl
theorem BV.idx (h:BV v L) {j:Nat} {b:Bool} (hj:L[j]? = some b):∃r,idxS 1 (.p v) (J4 j)=some (.p (.ptr (.bool b::r))):=by
 obtain⟨hl,he⟩:=Aa.1 hj
 rcases h with⟨rfl,rfl⟩|rfl
 ·simp at hl
 ·refine⟨(L.map PVal.bool).drop (j+1),?_⟩
  rw[zcd hl,B9,AG (by simpa using hl),BO,he]
def othB (L:List Bool) (i:Nat):Bytes:=if L[i]? = some true then bgB i else nmB i
def othJ (L:List Bool) (j i:Nat):Bytes:=if i<j then othB L i else nmB i
theorem RowAt.congr {H:J2} {o:Option Nat} {v:IVal} {k:Nat} {P:Nat->Nat} {f g:Nat->Bytes} (h:RowAt H o v k P f) (e:∀i,i<k->f i=g i):RowAt H o v k P g :=
 ⟨h.vs,fun i hi=>by rw[<- e i hi];exact h.tx i hi,h.ne,h.inj⟩
theorem zako (k:Nat) (hk:k<=9) (L:List Bool):Rows k nmB (othB L):=by
 refine⟨hk,fun i j hi hj e=>?_⟩
 unfold othB at e
 split at e
 ·have e:UInt8.ofNat (97+i)=UInt8.ofNat (65+j):=by simpa[nmB,bgB]using e
  have e:=congrArg UInt8.toNat e
  simp only[UInt8.toNat_ofNat']at e
  omega
 ·exact zaaj (by omega) (by omega) e
theorem zyp (k:Nat) (hk:k<=9) (bv:PVal) (hbv:up (.p bv) = .v (.p bv)) (Q:J0)
 (hQ:∀o v P H,RowAt H o v k P nmB->Q .normal [(1, .v (.p bv)),(5, .int .i64 k),(6, .box 6 0)] ⟨[(6,some ⟨[.int .i64 1, .str [], .str [], .v (.p .nilslice), .v v],5⟩)],H⟩) :
 wpLoop (CW tr.look) 100 m_Q6_0 l_Q6_0 (blkK 0 b_Q6_0 Q) [(1, .v (.p bv)),(5, .int .i64 k),(6, .box 6 0),(7, .int .i64 0)] ⟨[(6,some ⟨[.int .i64 1, .str [], .str [], .v (.p .nilslice), .v (.p .nilslice)],5⟩)],[]⟩:=by
 refine zae (α:=Nat×Option Nat×IVal×(Nat->Nat)×J2) (fun s=>[(1, .v (.p bv)),(5, .int .i64 k),(6, .box 6 0),(7, .int .i64 s.1)]) (fun s=>⟨[(6,some ⟨[.int .i64 1, .str [], .str [], .v (.p .nilslice), .v s.2.2.1],5⟩)],s.2.2.2.2⟩)
  (fun s=>s.1<=k/\RowAt s.2.2.2.2 s.2.1 s.2.2.1 s.1 s.2.2.2.1 nmB) (fun s=>k-s.1) ?_ (0,none, .p .nilslice,id,[]) ⟨AY _,RowAt.nil⟩
 rintro⟨j,o,v,P,H⟩ ⟨hj,hR⟩ R hgo
 dsimp only at hj hR hgo ⊢
 dsimp only[l_Q6_0]
 have hup:=hR.vs.up
 have hne:v≠.undef:=by rintro rfl;exact absurd hR.vs.pass (by decide)
 by_cases hjk:j<k
 ·have hlt:(j:Int)<(k:Int):=by omega
  have hlet:=letter j (by omega)
  obtain⟨H1,hH1⟩:∃H1,H++[IBlk.cells (txC (nmB j)) 5 0 false]=H1:=⟨_,rfl⟩
  have hl1:H1.length=H.length+1:=by rw[<- hH1];simp
  have hR1:RowAt H1 o v j P nmB:=hR.keep (fun x hx=>by rw[<- hH1,Ab hx]) (by omega)
  have hlo:∀q,o=some q->q<H.length:=fun q hq=>by subst hq;exact hR.vs.lt
  obtain⟨v2,H2,o2,P2,a1,a2,_,_,_,_,_,a8⟩:=hR1.snoc (by omega) H.length ⟨false,by rw[<- hH1];exact zbd⟩ (fun e=>by have:=hlo _ e;omega) (fun i hi e=>by
   obtain⟨op,e2⟩:=hR.tx i hi
   have:=(Aa.1 e2).1
   omega)
  have a1':=a1
  unfold elC at a1'
  rw[hl1]at a1'
  have hH1':=hH1
  unfold txC at hH1'
  have hco:=a2.vs.cells
  simp(disch:=omega) [hlet,hH1',hne,hup,a1',hl1,a8,zkt hco a8,zaa]
  exact hgo (j+1,o2,v2,P2,H2) ⟨by dsimp only;omega,a2⟩ (by dsimp only;omega)
 ·obtain rfl:j=k:=by omega
  simp(disch:=omega) [hup]
  exact hQ o v P H hR
theorem zyq (k:Nat) (hk:k<=9) (bv:PVal) (L:List Bool) (hb:BV bv L) (va:IVal) (hua:up va = .v va) (oa:Option Nat) (Pa:Nat->Nat) (H0:J2) (ha0:RowAt H0 oa va k Pa nmB) (ob:Option Nat) (vb:IVal) (Pb:Nat->Nat) (hb0:RowAt H0 ob vb k Pb nmB) (hd:∀i j,i<k->j<k->Pa i≠Pb j) (hda:∀i,i<k->oa≠some (Pb i)) (Q:J0)
 (hQ:∀H,RowAt H oa va k Pa nmB->RowAt H ob vb k Pb (othB L)->Q .normal [(5, .int .i64 k),(6, .box 6 0),(8, .box 8 0)] ⟨[(8,some ⟨[.int .i64 1, .str [], .str [], .v (.p .nilslice), .v vb],5⟩),(6,some ⟨[.int .i64 1, .str [], .str [], .v (.p .nilslice), .v va],5⟩)],H⟩) :
 wpLoop (CW tr.look) 100 m_Q6_1 l_Q6_1 (blkK 2 b_Q6_2 Q) [(1, .v (.p bv)),(5, .int .i64 k),(6, .box 6 0),(8, .box 8 0),(9, .int .i64 0)] ⟨[(8,some ⟨[.int .i64 1, .str [], .str [], .v (.p .nilslice), .v vb],5⟩),(6,some ⟨[.int .i64 1, .str [], .str [], .v (.p .nilslice), .v va],5⟩)],H0⟩:=by
 have hbu:=hb.up
 have hbl:=hb.len
 have hub:=hb0.vs.up
 have hneb:vb≠.undef:=by rintro rfl;exact absurd hb0.vs.pass (by decide)
 have hnea:va≠.undef:=by rintro rfl;exact absurd ha0.vs.pass (by decide)
 refine zae (α:=Nat×J2) (fun s=>[(1, .v (.p bv)),(5, .int .i64 k),(6, .box 6 0),(8, .box 8 0),(9, .int .i64 s.1)]) (fun s=>⟨[(8,some ⟨[.int .i64 1, .str [], .str [], .v (.p .nilslice), .v vb],5⟩),(6,some ⟨[.int .i64 1, .str [], .str [], .v (.p .nilslice), .v va],5⟩)],s.2⟩)
  (fun s=>s.1<=k/\s.1<=L.length/\RowAt s.2 oa va k Pa nmB/\RowAt s.2 ob vb k Pb (othJ L s.1)) (fun s=>k-s.1) ?_ (0,H0) ⟨AY _,AY _,ha0,hb0.congr fun i _=>by unfold othJ;rw[if_neg (by omega)]⟩
 rintro⟨j,H⟩ ⟨hj,hjL,hA,hB⟩ R hgo
 dsimp only at hj hjL hA hB hgo ⊢
 dsimp only[l_Q6_1]
 by_cases hjk:j<k
 ·have hlt:(j:Int)<(k:Int):=by omega
  by_cases hjl:j<L.length
  ·have hlt2:(j:Int)<(L.length:Int):=by omega
   obtain⟨b,hbj⟩:∃b,L[j]? = some b:=⟨_,Ae hjl⟩
   obtain⟨r,ix⟩:=hb.idx hbj
   cases b with
   |false =>
    have hn:=hgo (j+1,H) ⟨by dsimp only;omega,by dsimp only;omega,hA,hB.congr fun i hi=>by
     unfold othJ
     by_cases e:i=j
     ·subst e;rw[if_neg (by omega),if_pos (by omega),othB,hbj];rfl
     ·by_cases h:i<j
      ·rw[if_pos h,if_pos (by omega)]
      ·rw[if_neg h,if_neg (by omega)]⟩ (by dsimp only;omega)
    simp(disch:=omega) [hbl,hbu,ix,zaa,hub,hua]
    exact hn
   |true =>
    have hlet:=bigLetter j (by omega)
    obtain⟨B,kk,ver,t1,t2,t3,t4,t5⟩:=hB.text hjk (bgB j)
    obtain⟨H2,hH2⟩:∃H2,H.set (Pb j) B=H2:=⟨_,rfl⟩
    have hA2:RowAt H2 oa va k Pa nmB:=by
     have hkeep:∀x,x≠Pb j->H2[x]? = H[x]? := fun x hx=>by rw[<- hH2,Ac (Ne.symm hx)]
     refine⟨?_,fun i hi=>?_,hA.ne,hA.inj⟩
     ·refine hA.vs.keep (S:=fun x=>x=Pb j) ⟨by rw[<- hH2,Ay];exact Ai _,fun x _ hs=>hkeep x hs⟩ fun q hq e=>hda j hjk (by rw[hq,e])
     ·obtain⟨op,e⟩:=hA.tx i hi
      exact⟨op,by rw[hkeep _ (hd i j hi hjk)];exact e⟩
    rw[hH2]at t4 t5
    have hn:=hgo (j+1,H2) ⟨by dsimp only;omega,by dsimp only;omega,hA2,t5.congr fun i hi=>by
     unfold othJ
     by_cases e:i=j
     ·subst e;rw[if_pos rfl,if_pos (by omega),othB,hbj];rfl
     ·rw[if_neg e]
      by_cases h:i<j
      ·rw[if_pos h,if_pos (by omega)]
      ·rw[if_neg h,if_neg (by omega)]⟩ (by dsimp only;omega)
    simp(disch:=omega) [hbl,hbu,ix,zaa,hub,hua,hneb,hnea,hlet,t1,t2,t3,t4]
    exact hn
  ·have hlt2:¬(j:Int)<(L.length:Int):=by omega
   simp(disch:=omega) [hbl,hbu,zaa,hub,hua]
   refine hQ H hA (hB.congr fun i hi=>?_)
   unfold othJ othB
   by_cases h:i<j
   ·rw[if_pos h]
   ·rw[if_neg h,AU (by omega)];rfl
 ·obtain rfl:j=k:=by omega
  simp(disch:=omega) [hub,hua]
  exact hQ H hA (hB.congr fun i hi=>by unfold othJ;rw[if_pos hi])
theorem zakp {n i:Nat} (h:i<n):(pairsN 0 0 n)[i]? = some (i,i):=by
 have key:∀n,(pairsN 0 0 n).length=n:=zcm 0 0
 induction n with
 |zero=>omega
 |succ n ih =>
  rw[pairsN]
  by_cases e:i<n
  ·rw[Ab (by rw[key];exact e)];exact ih e
  ·obtain rfl:i=n:=by omega
   rw[Ad (by rw[key];omega),key,Bb,Aq];rfl
theorem zyr (k n:Nat) (pv:PVal) (hpv:PV pv (pairsN 0 0 n)) (hn:n<=1000) (H:J2) (z:KB) (Q:J0)
 (hQ:Q .normal [(5, .int .i64 k),(6, .box 6 0),(10, .v (.p pv))] ⟨[(6,some z)],H⟩) :
 wpLoop (CW tr.look) 100 m_Q6_2 l_Q6_2 (blkK 4 b_Q6_4 Q) [(5, .int .i64 k),(6, .box 6 0),(10, .v (.p pv)),(11, .int .i64 0)] ⟨[(6,some z)],H⟩:=by
 have hup:=hpv.up
 have hln:=hpv.len
 rw[zcm]at hln
 refine zae (α:=Nat) (fun s=>[(5, .int .i64 k),(6, .box 6 0),(10, .v (.p pv)),(11, .int .i64 s)]) (fun _=>⟨[(6,some z)],H⟩)
  (fun s=>s<=n) (fun s=>n-s) ?_ 0 (AY _)
 rintro j hj R hgo
 dsimp only[l_Q6_2]
 by_cases hjn:j<n
 ·have hlt:(j:Int)<(n:Int):=by omega
  have ix:=hpv.idx (zakp hjn)
  have hg:=hgo (j+1) (by omega) (by omega)
  simp(disch:=omega) [hln,hup,ix,eqVals,eqCls,clsEq,negIf,zaa]
  exact hg
 ·obtain rfl:j=n:=by omega
  simp(disch:=omega) [hln,hup]
  exact hQ
theorem ztn {r:Bool}:∀ {l:List Tree},(∀ t∈l,nodeB t=true/\t.kind≠5)->kidsB r l=true
 | [],_=>rfl
 |t::l,h=>by
  obtain⟨h1,h2⟩:=h t (by simp)
  rw[kidsB,h1,decide_eq_true h2,ztn fun u hu=>h u (Al _ hu)]
  rfl
theorem zaqg (i:Nat) (hi:i<9):nameB (nmB i)=true:=by
 rcases(show i=0\/i=1\/i=2\/i=3\/i=4\/i=5\/i=6\/i=7\/i=8 by omega)with rfl|rfl|rfl|rfl|rfl|rfl|rfl|rfl|rfl<;>decide
theorem el_ok (i:Nat) (hi:i<9) (x:Bytes) (hx:x.length=1):nodeB (elT i x)=true:=by
 have hn:=zaqg i hi
 have hx0:x≠[]:=by rintro rfl;simp at hx
 have ht:nodeB (txT x)=true:=by
  rw[zmx]
  simp[txT,Tree.kind,Tree.attrs,Tree.kids,Tree.name,Tree.text,alist,klist,leafB,hx0,hx]
 have hk:kidsB false [txT x]=true:=ztn fun t h=>by
  simp at h;subst h;exact⟨ht,by simp[txT,Tree.kind]⟩
 rw[zmx]
 have e1:(elT i x).kind=2:=rfl
 have e2:(elT i x).name=nmB i:=rfl
 have e3:(elT i x).text=[]:=rfl
 have e4:alist (elT i x).attrs=[]:=rfl
 have e5:klist (elT i x).kids=[txT x]:=rfl
 rw[if_pos e1,e2,e3,e4,e5,hn,hk]
 rfl
theorem zagk {k:Nat} {f:Nat->Bytes} {u:Tree} (h:u∈(rowT k f).nodes):u=rowT k f\/∃i,i<k/\(u=elT i (f i)\/u=txT (f i)):=by
 rw[zca]at h
 rcases Aj.1 h with h|h
 ·exact .inl h
 ·obtain⟨n,hn⟩:=Bi.1 h
  have hl:=(Aa.1 hn).1
  have hn':(lnodes (rowL k f))[n]? = some u:=hn
  have hl':n<(lnodes (rowL k f)).length:=hl
  obtain⟨h1,h2⟩:=zle f k
  rw[h1]at hl'
  rcases(show n=2*(n / 2)\/n=2*(n / 2)+1 by omega)with e|e
  ·rw[e,(h2 (n / 2) (by omega)).1]at hn'
   injection hn' with hn'
   exact .inr ⟨n / 2,by omega, .inl hn'.symm⟩
  ·rw[e,(h2 (n / 2) (by omega)).2]at hn'
   injection hn' with hn'
   exact .inr ⟨n / 2,by omega, .inr hn'.symm⟩
theorem zwk (k:Nat) (hk:k<=9) (f:Nat->Bytes) (hf:∀i,(f i).length=1):Fine (rowT k f)/\StrT (rowT k f)/\checkB (rowT k f)=true/\(rowT k f).size<=19:=by
 have hs:=zaz k f
 refine⟨⟨by omega,fun u hu=>?_⟩,zrk fun u hu=>?_,?_,by omega⟩
 ·rcases zagk hu with rfl|⟨i,_,rfl|rfl⟩<;>simp[rowT,elT,txT,Tree.attrs,alist]
 ·rcases zagk hu with rfl|⟨i,_,rfl|rfl⟩
  ·exact⟨by simp[rowT,Tree.name],by simp[rowT,Tree.text],by simp[rowT,Tree.attrs,alist],by simp[rowT,Tree.attrs,alist]⟩
  ·exact⟨by simp[elT,Tree.name],by simp[elT,Tree.text],by simp[elT,Tree.attrs,alist],by simp[elT,Tree.attrs,alist]⟩
  ·exact⟨by simp[txT,Tree.name],by simp[txT,Tree.text,hf i],by simp[txT,Tree.attrs,alist],by simp[txT,Tree.attrs,alist]⟩
 ·have hd:=zya _ (rowT k f) (An _)
  have hkk:kidsB true (klist (rowT k f).kids)=true:=ztn fun t h=>by
   obtain⟨i,hi,rfl⟩:=Au.1 (show t∈rowL k f from h)
   have hi:i<k:=by simpa using hi
   exact⟨el_ok i (by omega) _ (hf i),by simp[elT,Tree.kind]⟩
  unfold checkB
  rw[hkk,decide_eq_true (show(rowT k f).kind=1 from rfl),decide_eq_true (show(rowT k f).size<=300 by omega),decide_eq_true (show(rowT k f).deep<=60 by omega),decide_eq_true (show(rowT k f).name=[]from rfl),decide_eq_true (show(rowT k f).text=[]from rfl),decide_eq_true (show(alist (rowT k f).attrs).length=0 from rfl)]
  rfl
theorem zagl (n:Int) (hn : -9223372036854775808<=n/\n<9223372036854775808) (bv:PVal) (L:List Bool) (hb:BV bv L) (H:J2):CW tr.look F_Q6 [J4 n, .p bv] H=some (.p (.bool true),H):=by
 have hpl:=zajj n 9 (by omega) (by omega) hn
 obtain⟨m,hm⟩:∃m:Nat,n % ((9:Nat):Int)=m:=⟨(n % 9).toNat,by omega⟩
 rw[hm]at hpl
 have hm9:m<9:=by omega
 have hpl':∀H,CW tr.look F_Q15 [J4 n, J4 9] H=some (J4 m,H):=hpl
 have hbu:=hb.up
 have main:CW tr.look F_Q6 [J4 n, .p bv] []=some (.p (.bool true),[]):=by
  refine zal look_Q6 rfl (by simp) rfl ?_
  dsimp only[i_Q6,c_Q6]
  simp(disch:=omega) [hpl',hbu,zaa]
  rw[show(1:Int)+(m:Int)=((m+1:Nat):Int)by omega]
  generalize hk:m+1=k
  refine zyp k (by omega) bv hbu _ fun oa va Pa Ha hA=>?_
  obtain⟨r,H1,c1,ob,vb,Pb,rfl,hB,c2,c3,c4,c5⟩:=zakm hA (by omega)
  have hua:=hA.vs.up
  have hnea:va≠.undef:=by rintro rfl;exact absurd hA.vs.pass (by decide)
  have hneb:vb≠.undef:=by rintro rfl;exact absurd hB.vs.pass (by decide)
  have hA1:=hA.keep c3 c2
  simp(disch:=omega) [hua,hnea,c1,c4]
  refine zyq k (by omega) bv L hb va hua oa Pa H1 hA1 ob vb Pb hB (fun i j hi hj e=>?_) (fun i hi e=>?_) _ fun H2 hA2 hB2=>?_
  ·obtain⟨op,e2⟩:=hA.tx i hi
   have:=(Aa.1 e2).1
   have:=c5 j hj
   omega
  ·subst e
   have:=hA.vs.lt
   have:=c5 i hi
   omega
  have R:=zako k (by omega) L
  have hsa:=zaz k nmB
  have hsb:=zaz k (othB L)
  have hfz:freezeAll H2 [.agg [J4 1, .p (.str []), .p (.str []), .p .nilslice,va], .agg [J4 1, .p (.str []), .p (.str []), .p .nilslice,vb]]=some [tagg (rowT k nmB),tagg (rowT k (othB L))]:=by
   simp only[freezeAll,hA2.frz (by omega),hB2.frz (by omega)]
  obtain⟨fa,na,ca,za⟩:=zwk k (by omega) nmB (fun i=>rfl)
  obtain⟨fb,nb,cb,zb⟩:=zwk k (by omega) (othB L) (fun i=>by unfold othB;split<;>rfl)
  obtain⟨r,hm,pv,M,rfl,hpv,hF⟩:=zwg _ _ fa fb na nb ca cb (by omega) (by omega) (zaai _ _)
  rw[zach R hF]at hpv
  have hm':=hm _ _ hfz
  have hpu:=hpv.up
  have hln:=hpv.len
  rw[zcm]at hln
  have hub:=hB2.vs.up
  simp(disch:=omega) [hua,hub,hnea,hneb,hm',hpu]
  refine zyr k (2*k+1) pv hpv (by omega) H2 _ _ ?_
  obtain⟨r2,H3,hfl,u1,u2,u3,u4⟩:=zagj hA2 (by omega) (by omega)
  have haw:=zakh H3
  simp(disch:=omega) [hua,hnea,hpu,hln,hfl,hsa,haw,u1,u2,u3,zaa]
 exact zsy look_Q6 rfl (by simp) main
end
end Go.Ideal
namespace Go.Ideal
open Go Go.ChangeShapes Go.WideShapes Go.RowKit
section
variable {H:Type} {enc:TypeId×Value->H} {P:Program} {W W':World}
end
end Go.Ideal
namespace Go.Ideal
open Go Go.Proofs Go.ChangeShapes Go.WideShapes Go.RowKit
theorem laidOut:laidOutB Try.prog=true:=by kernel_rfl
theorem own:ownKnob Try.prog.godebug=none:=by kernel_rfl
theorem boolT:Try.prog.underlying 4=some .bool:=Try.underlying4
theorem intT:Try.prog.underlying 3=some (.int .i64):=Try.underlying3
theorem boolC:Try.prog.cellsOf 4=1:=by kernel_rfl
theorem boolsT:Try.prog.underlying 40=some (.slice 4):=by kernel_rfl
theorem readableBs:Try.prog.readableRec 40=true/\40<Try.prog.types.size:=⟨by kernel_rfl,of_decide_eq_true (by kernel_rfl)⟩
theorem readableI:Try.prog.readableRec 3=true/\3<Try.prog.types.size:=⟨by kernel_rfl,of_decide_eq_true (by kernel_rfl)⟩
set_option maxRecDepth 100000
def bsl (o:Option (List Bool)):PVal:=slval 1 (fun b:Bool=>[.bool b]) o
theorem zavy (o:Option (List Bool)):∃L,BV (bsl o) L:=by
 cases o with
 |none=>exact⟨[], .inl ⟨rfl,rfl⟩⟩
 |some l =>
  refine⟨l, .inr ?_⟩
  have:∀l:List Bool,(l.flatMap fun b:Bool=>[PVal.bool b])=l.map .bool:=by
   intro l
   induction l with
   |nil=>rfl
   |cons x l ih=>rw[AI,ih];rfl
  simp only[bsl,slval,this]
section
variable {H:Type} {enc:TypeId×Value->H} {W:World}
theorem zwl {v:Value} {base:Nat} {d:DataW H} {ps:List MemPlace} (hv:Value.okWide Try.prog W .any base 40 v) (h:DataW.Trod enc Try.prog W 0 (fun _=>true) true 40 v d ps):∃o:Option (List Bool),Stands W (.p (bsl o)) v:=by
 obtain⟨o,ho⟩:=zvb (e:=fun b:Bool=>[.bool b]) boolsT (fun _=>boolC.symm) (by rw[boolC];omega) (fun n=>zais boolT) hv h
 rw[boolC]at ho
 exact⟨o,ho⟩
end
theorem zacj (n:Int) (hn:(Lit.int .i64 n).wf=true) (o:Option (List Bool)) (H:J2):CW tr.look F_Q6 [J4 n, .p (bsl o)] H=some (.p (.bool true),H):=by
 obtain⟨L,hL⟩:=zavy o
 exact zagl n (wf_i64 hn) _ L hL H
end Go.Ideal
namespace Go.Proofs
open Go.Shelf
def Try.zwm:Go.Shelf.Ren:=⟨fun|6=>31|15=>58|14=>57|28=>76|29=>77|20=>68|21=>69|22=>70|23=>71|24=>72|25=>73|26=>74|27=>75|46=>92|47=>93|48=>94|49=>95|50=>96|57=>101|n=>n,fun|22=>29|24=>33|25=>68|3=>3|39=>107|0=>0|53=>127|55=>95|4=>4|46=>121|45=>120|50=>64|5=>5|9=>9|66=>144|70=>47|76=>155|77=>156|n=>n,fun|n=>n⟩
theorem Try.sortPair:SlLaysF0.n6 Try.prog Try.zwm where
 mixed:=by kernel_rfl
 f6:=⟨Try.f31.name,by kernel_rfl,Try.func31.trans (congrArg some (by kernel_rfl))⟩
 f14:=⟨Try.f57.name,by kernel_rfl,Try.func57.trans (congrArg some (by kernel_rfl))⟩
 f15:=Try.func58.trans (congrArg some (by kernel_rfl))
 f20:=⟨Try.f68.name,by kernel_rfl,Try.func68.trans (congrArg some (by kernel_rfl))⟩
 f21:=⟨Try.f69.name,by kernel_rfl,Try.func69.trans (congrArg some (by kernel_rfl))⟩
 f22:=⟨Try.f70.name,by kernel_rfl,Try.func70.trans (congrArg some (by kernel_rfl))⟩
 f23:=⟨Try.f71.name,by kernel_rfl,Try.func71.trans (congrArg some (by kernel_rfl))⟩
 f24:=⟨Try.f72.name,by kernel_rfl,Try.func72.trans (congrArg some (by kernel_rfl))⟩
 f25:=⟨Try.f73.name,by kernel_rfl,Try.func73.trans (congrArg some (by kernel_rfl))⟩
 f26:=⟨Try.f74.name,by kernel_rfl,Try.func74.trans (congrArg some (by kernel_rfl))⟩
 f27:=⟨Try.f75.name,by kernel_rfl,Try.func75.trans (congrArg some (by kernel_rfl))⟩
 f28:=Try.func76.trans (congrArg some (by kernel_rfl))
 f29:=Try.func77.trans (congrArg some (by kernel_rfl))
 f46:=⟨Try.f92.name,by kernel_rfl,Try.func92.trans (congrArg some (by kernel_rfl))⟩
 f47:=Try.func93.trans (congrArg some (by kernel_rfl))
 f48:=Try.func94.trans (congrArg some (by kernel_rfl))
 f49:=⟨Try.f95.name,by kernel_rfl,Try.func95.trans (congrArg some (by kernel_rfl))⟩
 f50:=⟨Try.f96.name,by kernel_rfl,Try.func96.trans (congrArg some (by kernel_rfl))⟩
 f57:=⟨Try.f101.name,by kernel_rfl,Try.func101.trans (congrArg some (by kernel_rfl))⟩
 t0:=Try.underlying0
 a0:=Try.isAgg0
 z0:=Try.sizeOf0
 v0:=Try.zeroValue0
 t3:=Try.underlying3
 a3:=Try.isAgg3
 z3:=Try.sizeOf3
 v3:=Try.zeroValue3
 t4:=Try.underlying4
 a4:=Try.isAgg4
 z4:=Try.sizeOf4
 v4:=Try.zeroValue4
 t5:=Try.underlying5
 a5:=Try.isAgg5
 z5:=Try.sizeOf5
 v5:=Try.zeroValue5
 t9:=Try.underlying9
 a9:=Try.isAgg9
 z9:=Try.sizeOf9
 v9:=Try.zeroValue9
 t22:=Try.underlying29
 a22:=Try.isAgg29
 z22:=Try.sizeOf29
 v22:=Try.zeroValue29
 t25:=Try.underlying68
 a25:=Try.isAgg68
 z25:=Try.sizeOf68
 v25:=Try.zeroValue68
 t39:=Try.underlying107
 a39:=Try.isAgg107
 z39:=Try.sizeOf107
 v39:=Try.zeroValue107
 t45:=Try.underlying120
 a45:=Try.isAgg120
 z45:=Try.sizeOf120
 v45:=Try.zeroValue120
 t46:=Try.underlying121
 a46:=Try.isAgg121
 z46:=Try.sizeOf121
 v46:=Try.zeroValue121
 t50:=Try.underlying64
 a50:=Try.isAgg64
 z50:=Try.sizeOf64
 v50:=Try.zeroValue64
 t53:=Try.underlying127
 a53:=Try.isAgg127
 z53:=Try.sizeOf127
 v53:=Try.zeroValue127
 t55:=Try.underlying95
 a55:=Try.isAgg95
 z55:=Try.sizeOf95
 v55:=Try.zeroValue95
 t66:=Try.underlying144
 a66:=Try.isAgg144
 z66:=Try.sizeOf144
 v66:=Try.zeroValue144
 t70:=Try.underlying47
 a70:=Try.isAgg47
 z70:=Try.sizeOf47
 v70:=Try.zeroValue47
 t76:=Try.underlying155
 a76:=Try.isAgg155
 z76:=Try.sizeOf155
 v76:=Try.zeroValue155
 t77:=Try.underlying156
 a77:=Try.isAgg156
 z77:=Try.sizeOf156
 v77:=Try.zeroValue156
end Go.Proofs
namespace Go.Ideal
open Go
set_option maxHeartbeats 1000000
theorem Step.growW {c d:Ctx} {w w1:World} (h:Step c w d w1) (os:Array Obj):Step c w d (Sort.grow w1 os):=by
 refine⟨h.ext,⟨fun b o v hz=>?_,fun k cs e v op b q K h1 h2=>?_,fun k es ck b q K h1 h2=>?_,h.rel.inj,h.rel.zdis,h.rel.dom⟩,?_,fun b hb ho=>?_,h.own,h.zz,h.also.trans ⟨rfl,rfl,fun a ha=>Sort.frozen?_grow _ _ _ ha,by simp,rfl,Ai _⟩⟩
 ·have:=h.rel.z b o v hz
  rw[Sort.cell?_grow _ _ _ (zbf this)];exact this
 ·obtain⟨C,T,h3,h4⟩:=h.rel.blk k cs e v op b q K h1 h2
  exact⟨C,T,by rw[Sort.heap_grow_old _ _ (Bw.1 h3).1];exact h3,h4⟩
 ·obtain⟨ents,h3,h4⟩:=h.rel.mp k es ck b q K h1 h2
  exact⟨ents,by rw[Sort.heap_grow_old _ _ (Bw.1 h3).1];exact h3,h4⟩
 ·have:=h.size;simp;omega
 ·rw[Sort.heap_grow_old _ _ (A1 hb h.size)];exact h.same b hb ho
theorem Step.drewW {c d:Ctx} {w w1:World} (h:Step c w d w1) (n:Nat):Step c w d (w1.drewN n) :=
 ⟨h.ext,⟨h.rel.z,h.rel.blk,h.rel.mp,h.rel.inj,h.rel.zdis,h.rel.dom⟩,h.size,h.same,h.own,h.zz,h.also.trans ⟨rfl,rfl,fun _ _=>rfl,Ai _,rfl,Nat.le_add_right _ _⟩⟩
theorem Step.zaqh {c d:Ctx} {w w':World} (h:Step c w d w') (hc:∀b,¬c.Own b):∃q os',w'=Sort.grow (w.drewN q) os':=by
 refine⟨w'.drawn-w.drawn,w'.heap.extract w.heap.size w'.heap.size,?_⟩
 have hd:=h.also.dr
 have ht:=h.also.tp
 have ho:=h.also.os
 have hu:=h.also.out
 have hh:w'.heap=w.heap++w'.heap.extract w.heap.size w'.heap.size:=by
  apply Array.ext_getElem?
  intro i
  rw[Array.getElem?_append]
  split
  ·rename_i hi
   exact h.same i hi (hc i)
  ·rename_i hi
   rw[Array.getElem?_extract]
   have hs:=h.size
   by_cases h2:i<w'.heap.size
   ·rw[if_pos (by omega)];congr 1;omega
   ·rw[if_neg (by omega),Array.getElem?_eq_none (by omega)]
 cases w with
 |mk hp tp dr os out =>
  cases w' with
  |mk hp' tp' dr' os' out' =>
   simp only[Sort.grow,World.drewN]at hd ht ho hu hh ⊢
   simp only[World.mk.injEq]
   exact⟨hh,ht,by omega,ho,hu⟩
section
variable {α:Type} [Inhabited α]
def encV (K:SortKit α) (x:α):List Value:=(K.enc x).map sv
omit [Inhabited α] in
theorem zakq (K:SortKit α) (x:α):(encV K x).length=K.k:=by simp[encV,K.len]
theorem zaan (K:SortKit α):∀(l:List α) (j:Nat),j<l.length*K.k->(l.flatMap K.enc)[j]? = (K.enc (l[j / K.k]!))[j % K.k]?
 | [],j,h=>by simp at h
 |x::l,j,h=>by
  have hl:=K.len x
  have hk:0<K.k:=by
   rcases BU K.k with h0|h0
   ·rw[h0]at h;simp at h
   ·exact h0
  rw[AI]
  by_cases hj:j<K.k
  ·rw[Ab (by omega),Nat.div_eq_of_lt hj,Nat.mod_eq_of_lt hj]
   rfl
  ·have h1:(j-K.k)<l.length*K.k:=by
    simp only[AC,A0,Ct]at h;omega
   have h2:j / K.k=(j-K.k) / K.k+1:=by
    rw[Nat.div_eq_sub_div hk (by omega)]
   rw[Ad (by omega),hl,zaan K l _ h1,h2,<-Nat.mod_eq_sub_mod (by omega)]
   simp
theorem zwn (K:SortKit α) (d:Array α) (j:Nat) (hj:j<d.size*K.k):∃v,(K.row d)[j]? = some v/\scalP v=true/\(Sort.flatK (encV K) K.k d)[j]! = sv v:=by
 have h1:(K.row d)[j]? = _:=zaan K d.toList j (by simpa using hj)
 have hk:0<K.k:=by
  rcases BU K.k with h0|h0
  ·rw[h0]at hj;simp at hj
  ·exact h0
 have hm:j % K.k<(K.enc (d.toList[j / K.k]!)).length:=by rw[K.len];exact Nat.mod_lt _ hk
 rw[Ae hm]at h1
 refine⟨_,h1,K.scal _ _ (BA hm),?_⟩
 rw[Sort.get_flatK _ _ _ _ hj]
 have e:d[j / K.k]! = d.toList[j / K.k]! := by
  have hlt:j / K.k<d.size:=by rw[Nat.div_lt_iff_lt_mul hk];exact hj
  rw[getElem!_pos d _ hlt,getElem!_pos d.toList _ (by simpa using hlt)];simp
 rw[e]
 unfold encV
 rw[getElem!_pos _ _ (by simpa using hm),BO]
def emptyC:Ctx:={ M:=⟨[],[]⟩,m:=fun _=>none,z:=fun _ _=>none }
theorem zack (w:World):WRel emptyC w :=
 ⟨fun _ _ _ h=>(by cases h),fun k cs e v op b q K _ h2=>(by cases h2),fun k es ck b q K _ h2=>(by cases h2),fun k l b q K q' K' _ _ h3 _=>(by cases h3),fun k b q K _ h2=>(by cases h2),fun k x h2=>(by cases h2)⟩
theorem zlv {c:Ctx}:∀ {l:List PVal},(∀ v∈l,scalP v=true)->VsRel c (pcells l) (l.map sv)
 | [],_=>by simp[pcells,VsRel]
 |v::l,h=>by
  have hv:=h v (by simp)
  simp only[pcells,As,VsRel]
  exact⟨_,_,rfl,rfl,by simp only[VRel];exact(zadw hv).2 rfl,zlv fun x hx=>h x (by simp[hx])⟩
omit [Inhabited α] in
theorem zakr {P:Program} {C:Oracle} (hC:OracleOK P C) (K:SortKit α) (g:FuncId) (hcmp:∀x y,C g [.agg (pcells (K.enc x)), .agg (pcells (K.enc y))] []=some (J4 (K.cf x y),[])) (w:World) (x y:α) :
 Calls P g (#[.agg (encV K x).toArray, .agg (encV K y).toArray] ++ #[]) w fun e w'=>e = .returned (.int .i64 (K.cf x y))/\∃q os',w'=Sort.grow (w.drewN q) os':=by
 have h:=(hC g _ _ _ _ (hcmp x y)).2 emptyC w [.agg (encV K x).toArray, .agg (encV K y).toArray] rfl (zack w)
  ⟨_,_,rfl,rfl,⟨_,rfl,zlv (K.scal x)⟩,_,_,rfl,rfl,⟨_,rfl,zlv (K.scal y)⟩,rfl⟩
 refine Calls.mono h ?_
 rintro e w' ⟨rv,d,rfl,_,hs,_,_,hv⟩
 simp only[VRel,PRel]at hv
 rw[hv]
 exact⟨rfl,hs.zaqh fun b ⟨k,q,K,hk⟩=>(by cases hk)⟩
theorem zaqi {P:Program} {ρ:Go.Shelf.Ren} (L:Go.Proofs.SlLaysF0.n6 P ρ) (K:SortKit α) (aE:∀w,(isAgg (ρ.t 24)).run P w = .ok true w) (zE:∀w,(Go.sizeOf (ρ.t 24)).run P w = .ok K.k w)
 {C:Oracle} (hC:OracleOK P C) (g:FuncId) (hcmp:∀x y,C g [.agg (pcells (K.enc x)), .agg (pcells (K.enc y))] []=some (J4 (K.cf x y),[])) :
 OracleOK P (noOracle.set (ρ.f 6) (sortSpec K g)):=by
 intro f args H v H' h
 unfold Oracle.set noOracle at h
 split at h
 case h_2=>cases h
 rename_i hf
 have:=Ah hf
 subst this
 obtain⟨body,hbody⟩:∃c,(Go.Proofs.SlBodyF.n6 ρ).body=some c:=⟨_,rfl⟩
 refine⟨L.f6.enters hbody,fun c w l hM hW hl=>?_⟩
 have hrel:SortRel K g args H (v,H'):=by
  unfold sortSpec at h
  split at h
  ·rename_i hx
   injection h with h
   rw[<- h];exact hx.choose_spec
  ·cases h
 have eg:=(hC g _ _ _ _ (hcmp default default)).1
 generalize hr:(v,H')=r at hrel
 cases hrel with
 |nil =>
  injection hr with e1 e2
  subst e1 e2
  simp only[TsRel,VRel,PRel]at hl
  obtain⟨_,_,rfl,_,rfl,_,_,rfl,_,rfl,rfl⟩:=hl
  refine Calls.mono (Go.Proofs.AnyF.slices_SortFunc_none { L with } none 0 _ w) ?_
  rintro e w' ⟨rfl,rfl⟩
  exact⟨_,c,rfl,hM,Step.refl hW,Un.refl c,rfl,by simp only[VRel];exact⟨[],rfl,by simp only[TsRel]⟩⟩
 |empty =>
  injection hr with e1 e2
  subst e1 e2
  simp only[TsRel,VRel,PRel]at hl
  obtain⟨_,_,rfl,_,⟨a,cap,rfl,_⟩,_,_,rfl,_,rfl,rfl⟩:=hl
  refine Calls.mono (Go.Proofs.AnyF.slices_SortFunc_none { L with } (some a) cap _ w) ?_
  rintro e w' ⟨rfl,rfl⟩
  exact⟨_,c,rfl,hM,Step.refl hW,Un.refl c,rfl,by simp only[VRel];exact⟨[],rfl,by simp only[TsRel]⟩⟩
 | @row _ i ver off es cs op d hb hn hm hlen hcs =>
   injection hr with e1 e2
   subst e1 e2
   have hg:c.M.get (.heap i)=some (.cells cs es ver op):=by rw[hM];exact hb
   simp only[TsRel,VRel,PRel]at hl
   obtain⟨_,_,rfl,_,⟨a,cap,rfl,cs1,e1,v1,o1,hg1,_,hat⟩,_,_,rfl,_,rfl,rfl⟩:=hl
   rw[hg]at hg1
   cases hg1
   obtain⟨b,q,KK,hmk,hcap,rfl,hsp,hoff,hKK⟩:=hat rfl
   have hof2:a.off=q+off:=by
    rcases hoff with h0|h0
    ·omega
    ·exact h0
   clear hoff
   obtain⟨ab,ao,asp⟩:=a
   dsimp only at hmk hsp hof2
   subst hsp
   subst hof2
   obtain⟨CC,T,hheap,hq,hlc,hop,hcell⟩:=hW.blk _ cs es ver op ab q KK hg hmk
   have hbl:ab<w.heap.size:=(Bw.1 hheap).1
   have hcsj:∀j,j<d.size*K.k->∃x,(K.row d)[j]? = some x/\scalP x=true/\(Sort.flatK (encV K) K.k d)[j]! = sv x/\cs[off+j]? = some (.p x):=by
    intro j hj
    obtain⟨x,h1,h2,h3⟩:=zwn K d j hj
    refine⟨x,h1,h2,h3,?_⟩
    have h4:((cs.drop off).take (d.size*K.k))[j]? = (pcells (K.row d))[j]? := by rw[hcs]
    rw[Bf,if_pos hj,AR,pcells,Ap,h1]at h4
    exact h4
   have hH:Sort.HoldsK (encV K) K.k w ab (q+off) d:=by
    intro j hj
    rw[Sort.size_flatK]at hj
    obtain⟨x,_,h2,h3,h4⟩:=hcsj j hj
    obtain⟨r,g1,_,g3⟩:=hcell _ _ h4
    simp only[VRel]at g3
    rw[(zadw h2).1 g3]at g1
    refine⟨?_,?_⟩
    ·simp only[World.cell?,hheap,id,h3]
     rw[<- g1]
     simp[BE]
    ·simp[World.frozen?,hheap]
   have hsort:=Go.Proofs.AnyQ.slices_SortFunc_eq L K.k aE zE (encV K) (zakq K) (fun x v hv=>by
    unfold encV at hv
    rw[Au]at hv
    obtain⟨y,_,rfl⟩:=hv
    exact zavo) K.cf K.swo g #[] ab (q+off) cap d w eg (fun m os dk _ x y=>zakr hC K g hcmp _ x y) hH hbl hm
   refine Calls.mono hsort ?_
   rintro e w' ⟨rfl,n,os,rfl⟩
   have hsize:(K.sort d).size=d.size:=(K.perm d).1.1
   have hrlen:(K.row (K.sort d)).length=d.size*K.k:=by rw[K.zaox,hsize]
   have hstep:=Step.write (w':=Sort.putRowK (encV K) K.k w ab (q+off) (K.sort d)) hW ⟨rfl,rfl,rfl,Ai _⟩ hg hmk (cs':=splice cs off (pcells (K.row (K.sort d)))) (v':=ver) (o':=op) (q':=q) (K':=KK) (.inr ⟨rfl,rfl,rfl⟩)
    (C':=Sort.putCells id (q+off) (Sort.flatK (encV K) K.k (K.sort d)) CC) (T:=T)
    (by simp[Sort.putRowK,Sort.putRow,Sort.mapBlock,Array.getElem?_modify,hheap,Sort.onCells])
    (by simp[Sort.putRowK])
    (fun i hi=>by simp only[Sort.putRowK,Sort.putRow,Sort.mapBlock,Array.getElem?_modify];rw[if_neg (Ne.symm hi)])
    (by simp[Sort.putCells];exact hq) (by simp[splice,pcells];omega) (fun h=>by have:=hop h;simp[splice,pcells];omega)
    (fun dx hx j x hj=>by
     have hj':(splice cs off (pcells (K.row (K.sort d))))[j]? = some x:=hj
     have hpl:(pcells (K.row (K.sort d))).length=d.size*K.k:=by simp[pcells,hrlen]
     unfold splice at hj'
     by_cases h1:j<off
     ·rw[Ab (by simp;omega),Bf,if_pos h1]at hj'
      obtain⟨r,g1,g2,g3⟩:=hcell j x hj'
      refine⟨r,?_,g2,g3.ext hx⟩
      simp only[Sort.putCells,CG,g1,AH]
      rw[if_neg (by omega)]
     ·rw[Ad (by simp;omega),AQ,Bs (by omega)]at hj'
      by_cases h2:j-off<d.size*K.k
      ·rw[Ab (by omega)]at hj'
       obtain⟨y,g1,g2,g3⟩:=zwn K (K.sort d) (j-off) (by rw[hsize];exact h2)
       rw[pcells,Ap,g1]at hj'
       cases hj'
       have hjc:j<cs.length:=by omega
       have hqj:q+j<CC.size:=by omega
       refine⟨sv y,?_,rfl,by simp only[VRel];exact(zadw g2).2 rfl⟩
       simp only[Sort.putCells,CG,Bo hqj,AH]
       rw[if_pos (by rw[Sort.size_flatK,hsize];omega),show q+j-(q+off)=j-off by omega,g3]
       rfl
      ·rw[Ad (by omega),AR]at hj'
       have he:off+(pcells (K.row (K.sort d))).length+(j-off-(pcells (K.row (K.sort d))).length)=j:=by omega
       rw[he]at hj'
       obtain⟨r,g1,g2,g3⟩:=hcell j x hj'
       refine⟨r,?_,g2,g3.ext hx⟩
       simp only[Sort.putCells,CG,g1,AH]
       rw[if_neg (by rw[Sort.size_flatK,hsize];omega)])
   refine⟨_,_,rfl,?_,(hstep.drewW n).growW os,Un.upd hmk,rfl,by simp only[VRel];exact⟨[],rfl,by simp only[TsRel]⟩⟩
   simp only[Ctx.upd,hM,Mem.put]
end
end Go.Ideal
namespace Go.Ideal
open Go Go.Proofs
set_option maxHeartbeats 1000000
set_option maxRecDepth 100000
section
variable [B:Base]
theorem zaao (a:Int) (H:J2):CW tr.look F_Q59 [J4 a] H=some (.p (.bool false),H):=by
 refine zal look_Q59 rfl (by simp) rfl ?_
 dsimp only[i_Q59,c_Q59]
 simp(disch:=omega) []
theorem zpv (a b:Int) (H:J2):CW tr.look F_Q33 [J4 a, J4 b] H=some (J4 (cmpI a b),H):=by
 have n1:=zaao a
 have n2:=zaao b
 refine zal look_Q33 rfl (by simp) rfl ?_
 dsimp only[i_Q33,c_Q33]
 unfold cmpI
 by_cases h1:a<b
 ·simp(disch:=omega) [h1,n1,n2]
 ·by_cases h2:b<a
  ·simp(disch:=omega) [h1,h2,n1,n2]
  ·simp(disch:=omega) [h1,h2,n1,n2]
theorem zacl (x y:Int×Int) (H:J2):CW tr.look F_Q50 [.agg (pcells (pairEnc x)), .agg (pcells (pairEnc y))] H=some (J4 (cmpI x.1 y.1),H):=by
 have h:=zpv x.1 y.1
 refine zal look_Q50 rfl (by simp[pairEnc,pcells,plainArgs,plainArg,cellsPlain]) rfl ?_
 dsimp only[i_Q50,c_Q50]
 simp(disch:=omega) [pairEnc,pcells,h]
theorem zys (x y:Int×Int) (H:J2):CW tr.look F_Q67 [.agg (pcells (pairEnc x)), .agg (pcells (pairEnc y))] H=some (J4 (cmpI x.1 y.1),H):=by
 have h:=zpv x.1 y.1
 refine zal look_Q67 rfl (by simp[pairEnc,pcells,plainArgs,plainArg,cellsPlain]) rfl ?_
 dsimp only[i_Q67,c_Q67]
 simp(disch:=omega) [pairEnc,pcells,h]
theorem zyt (x y:Int×Int) (H:J2):CW tr.look F_Q32 [.agg (pcells (pairEnc x)), .agg (pcells (pairEnc y))] H=some (J4 (cmpI x.1 y.1),H):=by
 have h:=zpv x.1 y.1
 refine zal look_Q32 rfl (by simp[pairEnc,pcells,plainArgs,plainArg,cellsPlain]) rfl ?_
 dsimp only[i_Q32,c_Q32]
 simp(disch:=omega) [pairEnc,pcells,h]
end
@[reducible] def noBase:Base:=Base.of noOracle
theorem zagm (P:Program) : @BaseOK noBase P := @BaseOK.mk noBase P zxa fun _ _ _ h f a H v H' e=>(h f a H (v,H') e).elim
theorem zaks {g:FuncId} (hg:∀x y:Int×Int,@CW noBase tr.look g [.agg (pcells (pairEnc x)), .agg (pcells (pairEnc y))] []=some (J4 (cmpI x.1 y.1),[])):OracleOK Try.prog (noOracle.set F_Q31 (sortSpec pairKit g)) :=
 zaqi Go.Proofs.Try.sortPair pairKit Go.Proofs.Try.isAgg33 Go.Proofs.Try.sizeOf33 (CW_ok (B:=noBase) tr_mixed tr_prog (zagm _)) g hg
theorem zakt (l:List FuncId) (hl:∀g∈l,∀x y:Int×Int,@CW noBase tr.look g [.agg (pcells (pairEnc x)), .agg (pcells (pairEnc y))] []=some (J4 (cmpI x.1 y.1),[])):OracleOK Try.prog (noOracle.set F_Q31 (sortAny l)):=by
 induction l with
 |nil =>
  intro f args H v H' h
  unfold Oracle.set noOracle at h
  split at h<;>simp[sortAny]at h
 |cons g l ih =>
  intro f args H v H' h
  have h1:=zaks (hl g (by simp)) f args H v H'
  have h2:=ih (fun g hg=>hl g (Al _ hg)) f args H v H'
  unfold Oracle.set noOracle at h h1 h2
  split at h
  ·rename_i hf
   simp only[sortAny]at h
   split at h
   ·rename_i x hx
    injection h with h
    exact h1 (by simp only[hf,hx,h])
   ·exact h2 (by simp only[hf];exact h)
  ·cases h
theorem zaqj:BaseOK Try.prog where
 b:=zakt _ fun g hg x y=>by
  simp only[Aj,BR,or_false]at hg
  rcases hg with rfl|rfl|rfl
  ·exact zacl (B:=noBase) x y []
  ·exact zys (B:=noBase) x y []
  ·exact zyt (B:=noBase) x y []
 m C hC D hD f args H v H' e:=by
   obtain⟨rfl,h⟩:=hD f args H (v,H') e
   exact zvd tr_mixed hC ok_Q9 h
end Go.Ideal
namespace Go.Proofs.Ytjlnpggbekondaa.matchTexts
open Go.Ideal Go.ChangeShapes Go.WideShapes Go.ChangeAt Go.RowKit
set_option maxRecDepth 100000 in
theorem lifted (os:Os) (started:os.Started) (H:Type) (enc:TypeId×Value→H) :
 ReturnsInHanded {} Try.checked os 6 .any (Rows.matchTextsSpec.pre6 enc Try.prog Try.f6 Rows.matchTextsRow.domain false) (Rows.matchTextsSpec.post enc Try.prog Try.f6 false true false false):=by
 refine returnsInHanded_of_change (C:=Try.checked) own started (by kernel_rfl) Try.func6
  (ChangeSpec.witness6 (enc:=enc) (C:=Try.checked) false ⟨#[],#[.int .i64 0, .slice none 0 0],[]⟩ 6 (by kernel_rfl) (by kernel_rfl) (by kernel_rfl) (by kernel_rfl)) ?_
 intro W base args ds gs before hval0 hW hcnd _
 have hval:∀(j:Nat) t v,Try.f6.params[j]? = some t→args[j]? = some v→Value.okWide Try.prog W .any base t v:=hval0
 have hW':=hW
 obtain⟨p,q,hA0,hV,rfl,hfz,hnd⟩:=hW
 have hA:DataW.TrodAll enc Try.prog W 0 (fun _=>true) true Try.f6.params.toList args.toList ds p:=hA0
 have hA1:=hA
 rw[Try.params6]at hA hval
 obtain⟨v0,vs0,d0,ds0,p0,q0,hargs,rfl,rfl,h0,r0⟩:=trodAll_cons hA
 obtain⟨v1,vs1,d1,ds1,p1,q1,rfl,rfl,rfl,h1,r1⟩:=trodAll_cons r0
 obtain⟨rfl,rfl,rfl⟩:=trodAll_nil r1
 obtain rfl:args = #[v0,v1]:=by cases args;simp_all
 obtain⟨rfl,rfl⟩:=trodVars_none hV
 obtain⟨a,w0,s0⟩:=zabf intT (hval 0 _ v0 rfl rfl) h0
 obtain⟨b,s1⟩:=zwl (hval 1 _ v1 rfl rfl) h1
 have hlt:=fun x hx=>hW'.lt x hx
 clear hA0 hval0
 simp only[List.append_nil]at hW' hlt
 refine(zadr tr_mixed tr_prog zaqj (zacj a w0 b []) (rs:=[v0,v1]) ⟨_,_,rfl,s0.1,s0.2,_,_,rfl,s1.1,s1.2,rfl⟩).mono fun e W' ⟨he,hg⟩=>?_
 subst he
 refine⟨_,rfl,zsl (pa:=p0++(p1++[])) (pv:=[]) hW' (fun _ _ _=>(trodAll_cons_mk (shut_bool boolT _) trodAll_mk0)) (fun sp hsp=>?_) (fun _ _=>rfl) (by simp)
  (hg.frame _) hg.2.1 (ok_one (by kernel_rfl) rfl (okWide_bool_mk boolT _))⟩
 exact zkj laidOut (fun t ht=>by rw[Try.params6]at ht;simp at ht;rcases ht with rfl|rfl<;>first|exact readableBs|exact readableI) hA1 (fun x hx=>zabe hg (by simpa using hlt x (by simpa using hx))) (fun x hx=>hsp x (by simpa using hx))
theorem over:Rows.matchTextsRow.holds Try.pinned (OpenSpec.ofChange Rows.matchTextsSpec) :=
 OpenClaim.holds_of_wide 6 Try.f6 rfl rfl rfl rfl rfl rfl rfl ⟨rfl,rfl,rfl,rfl,rfl⟩ rfl rfl rfl rfl rfl (by kernel_rfl) Try.func6 (by kernel_rfl)
  (of_decide_eq_true (by kernel_rfl)) (by unfold Func.isWrapper;first|(rw[if_pos (by decide +kernel)];kernel_rfl)|(rw[if_neg (by decide +kernel)];exact⟨rfl,rfl⟩))
  (fun os started H enc _=>lifted os started H enc)
theorem proved:Rows.MatchTextsSaid :=
 over
#print axioms proved
end Go.Proofs.Ytjlnpggbekondaa.matchTexts
