import Derived.Test.YtjlnpggbekondaaGreatW3
import Derived.Test.YtjlnpggbekondaaGreatW1
import Derived.Test.YtjlnpggbekondaaGreatW5
import Derived.Test.YtjlnpggbekondaaGreatW4
namespace Go.Ideal
open Go
set_option maxHeartbeats 1000000
attribute [-simp] getElem?_pos
section
variable {H:J2} {m mp:Nat} {x y:Opd}
structure PEnt where
 key:Int×Int
 blk:Nat
 ids:List Nat
def keyI (k:Int×Int):J3:=[.p (.int .u64 k.1), .p (.int .u64 k.2)]
def idC (l:List Nat):J3:=l.map fun(i:Nat)=>J4 (i:Int)
theorem zabt (a b:Int×Int):eqVals ⟨true,[.int, .int]⟩ (.agg (keyI a)) (.agg (keyI b))=some (decide (a=b)):=by
 obtain⟨a1,a2⟩:=a
 obtain⟨b1,b2⟩:=b
 by_cases h1:a1=b1<;>by_cases h2:a2=b2<;>simp[keyI,eqVals,eqCls,clsEq,h1,h2]
theorem zvi (a:Int×Int):isKey ⟨true,[.int, .int]⟩ (.agg (keyI a))=true:=by rw[isKey,zabt]
def EOK (H:J2):List PEnt->List (IVal×IVal×Nat)->Nat->Prop
 | [],es,_=>es=[]
 |e::E,es,j=>∃v r,es=(.agg (keyI e.key),v,j)::r/\HS H e.blk 1 e.ids.length v (idC e.ids)/\EOK H E r (j+1)
theorem EOK.length:∀ {E:List PEnt} {es:List (IVal×IVal×Nat)} {j:Nat},EOK H E es j->es.length=E.length
 | [],es,j,h=>by simp only[EOK]at h;subst h;rfl
 |e::E,es,j,⟨v,r,h1,_,h2⟩=>by subst h1;simp[h2.length]
theorem EOK.keep {H':J2}:∀ {E:List PEnt} {es:List (IVal×IVal×Nat)} {j:Nat},EOK H E es j->(∀ e∈E,H'[e.blk]? = H[e.blk]?)->EOK H' E es j
 | [],es,j,h,_=>h
 |e::E,es,j,⟨v,r,h1,h2,h3⟩,hk=>⟨v,r,h1,h2.keep (hk e (by simp)),h3.keep fun x hx=>hk x (by simp[hx])⟩
theorem EOK.append {H:J2} {x:PEnt} {v:IVal} (hv:HS H x.blk 1 x.ids.length v (idC x.ids)):∀ {E:List PEnt} {es:List (IVal×IVal×Nat)} {j:Nat},EOK H E es j->EOK H (E++[x]) (es++[(.agg (keyI x.key),v,j+E.length)]) j
 | [],es,j,h=>by simp only[EOK]at h;subst h;exact⟨v,[],by simp,hv,rfl⟩
 |e::E,es,j,⟨w,r,h1,h2,h3⟩=>by
  subst h1
  refine⟨w,_,rfl,h2,?_⟩
  have:=EOK.append hv h3
  rw[show j+1+E.length=j+(e::E).length by simp;omega]at this
  exact this
theorem EOK.find {H:J2} {k:Int×Int}:∀ {E:List PEnt} {es:List (IVal×IVal×Nat)} {j:Nat} (i:Nat),EOK H E es j->(E.map (·.key)).Nodup ->
 (k∉E.map (·.key)/\findEnt ⟨true,[.int, .int]⟩ (.agg (keyI k)) es i=some none) \/
 ∃n e v,E[n]? = some e/\e.key=k/\findEnt ⟨true,[.int, .int]⟩ (.agg (keyI k)) es i=some (some (i+n,v))/\HS H e.blk 1 e.ids.length v (idC e.ids)/\es[n]? = some (.agg (keyI k),v,j+n)
 | [],es,j,i,h,_=>by simp only[EOK]at h;subst h;exact .inl ⟨by simp,rfl⟩
 |e::E,es,j,i,⟨v,r,h1,h2,h3⟩,hn=>by
  subst h1
  rw[Aq,Bn]at hn
  simp only[findEnt,zabt]
  by_cases hk:k=e.key
  ·subst hk
   exact .inr ⟨0,e,v,rfl,rfl,by simp,h2,rfl⟩
  ·simp only[hk,decide_false]
   rcases EOK.find (i+1) h3 hn.2 with⟨g1,g2⟩|⟨n,e',v',g1,g2,g3,g4,g5⟩
   ·exact .inl ⟨by simp only[Aq,Ak,not_or];exact⟨hk,g1⟩,g2⟩
   ·refine .inr ⟨n+1,e',v',by simpa using g1,g2,?_,g4,?_⟩
    ·rw[g3];congr 3;omega
    ·rw[Ax,g5];congr 3;omega
theorem EOK.born {H:J2}:∀ {E:List PEnt} {es:List (IVal×IVal×Nat)} {j:Nat} (i n:Nat),EOK H E es j->n<E.length->findBorn ((j+n:Nat):Int) es i=some (i+n)
 | [],es,j,i,n,h,hn=>by simp at hn
 |e::E,es,j,i,n,⟨v,r,h1,h2,h3⟩,hn=>by
  subst h1
  simp only[findBorn]
  cases n with
  |zero=>simp
  |succ n =>
   rw[decide_eq_false (by omega)]
   have:=EOK.born (i+1) n h3 (by simpa using hn)
   rw[show(j+(n+1):Nat)=j+1+n by omega]
   dsimp only
   rw[this];congr 1;omega
theorem EOK.set {H H':J2} {ids':List Nat} {v':IVal}:∀ {E:List PEnt} {es:List (IVal×IVal×Nat)} {j n:Nat} {e:PEnt},EOK H E es j->E[n]? = some e ->
 HS H' e.blk 1 ids'.length v' (idC ids')->(∀ m x,m≠n->E[m]? = some x->H'[x.blk]? = H[x.blk]?)->EOK H' (E.set n ⟨e.key,e.blk,ids'⟩) (es.modify n fun x=>(x.1,v',x.2.2)) j
 | [],es,j,n,e,h,hn,_,_=>by simp at hn
 |x::E,es,j,0,e,⟨v,r,h1,h2,h3⟩,hn,hv,hk=>by
  subst h1
  cases hn
  refine⟨v',r,by simp,hv,h3.keep fun y hy=>?_⟩
  obtain⟨m,hm⟩:=BD.1 hy
  exact hk (m+1) y (by omega) (by simpa using hm)
 |x::E,es,j,n+1,e,⟨v,r,h1,h2,h3⟩,hn,hv,hk=>by
  subst h1
  refine⟨v,r.modify n fun x=>(x.1,v',x.2.2),by simp,h2.keep (hk 0 x (by omega) rfl),?_⟩
  exact EOK.set h3 (by simpa using hn) hv fun m y hm hy=>hk (m+1) y (by omega) (by simpa using hy)
def idsOf (f:Nat->Int×Int) (m:Nat) (k:Int×Int):List Nat:=(List.range m).filter fun i=>decide (0<i)&&decide (f i=k)
theorem zjw (f:Nat->Int×Int) (m:Nat) (k:Int×Int):idsOf f (m+1) k=if 0<m/\f m=k then idsOf f m k++[m]else idsOf f m k:=by
 unfold idsOf
 rw[Cs,Dd]
 by_cases h1:0<m<;>by_cases h2:f m=k<;>simp[h1,h2]
structure PM (f:Nat->Int×Int) (m mp:Nat) (E:List PEnt) (H:J2):Prop where
 mpe:∃es,H[mp]? = some (.map es E.length)/\EOK H E es 0
 ids:∀e∈E,e.ids=idsOf f m e.key
 all:∀i,0<i->i<m->f i∈E.map (·.key)
 ky:(E.map (·.key)).Nodup
 nd:(mp::E.map (·.blk)).Nodup
theorem PM.keep {f:Nat->Int×Int} {E:List PEnt} {H':J2} (h:PM f m mp E H) (hk:∀x∈mp::E.map (·.blk),H'[x]? = H[x]?):PM f m mp E H':=by
 obtain⟨⟨es,h1,h2⟩,h3,h4,h5,h6⟩:=h
 exact⟨⟨es,by rw[hk _ (by simp)];exact h1,h2.keep fun e he=>hk _ (An _ (AW he))⟩,h3,h4,h5,h6⟩
theorem PM.look {f:Nat->Int×Int} {E:List PEnt} (h:PM f m mp E H) (k:Int×Int) {bx:List (Nat×IBlk)} {C:Oracle} {ρ:Opd->IVal} {x y:Opd} (hx:ρ x = .map mp) (hy:ρ y = .agg (keyI k)) :
 ∃v,evalOp C ρ ⟨bx,H⟩ (.lookup false (.p .nilslice) ⟨true,[.int, .int]⟩ x y)=some (v,⟨bx,H⟩)/\(v = .p .nilslice/\idsOf f m k=[]\/∃b∈E.map (·.blk),HS H b 1 (idsOf f m k).length v (idC (idsOf f m k))):=by
 obtain⟨⟨es,h1,h2⟩,h3,h4,h5,h6⟩:=h
 have hg:Mem.get ⟨bx,H⟩ (.heap mp)=some (.map es E.length):=h1
 simp only[evalOp,hx,hy,zvi,hg]
 rcases h2.find (k:=k) 0 h5 with⟨g1,g2⟩|⟨n,e,v,g1,g2,g3,g4,g5⟩
 ·refine⟨.p .nilslice,by rw[g2];rfl, .inl ⟨rfl,?_⟩⟩
  refine CT.2 fun i hi=>?_
  simp only[Al,decide_eq_true_eq,not_and]
  intro hp he
  exact g1 (he ▸ h4 i hp (B8.1 hi))
 ·have he:=Ao g1
  refine⟨v,by rw[g3];rfl, .inr ⟨e.blk,AW he,?_⟩⟩
  rw[h3 e he,g2]at g4
  exact g4
theorem zrk {α:Type}:∀(l:List α) (n:Nat) (f:α->α) (x:α),l[n]? = some x->f x=x->l.modify n f=l
 | [],n,f,x,h,_=>by simp at h
 |y::l,0,f,x,h,e=>by cases h;simp[e]
 |y::l,n+1,f,x,h,e=>by simp[zrk l n f x (by simpa using h) e]
theorem PM.step {f:Nat->Int×Int} {E:List PEnt} (h:PM f m mp E H) (hm:0<m) (hb:m<1000000) (hlt:∀x∈mp::E.map (·.blk),x<H.length) {bx:List (Nat×IBlk)} {C:Oracle} :
 ∃v s H1 v2 H2 H3 E',
  (∀ {ρ:Opd->IVal} {x y:Opd},ρ x = .map mp->ρ y = .agg (keyI (f m))->evalOp C ρ ⟨bx,H++[.cells (idC [m]) 1 0 false]⟩ (.mapEnt (.p .nilslice) ⟨true,[.int, .int]⟩ x y)=some (.tup [v, J4 s],⟨bx,H1⟩)) /\
  v.passOK=true/\evalAppend ⟨bx,H1⟩ 1 v (.slice H.length 0 0 1)=some (v2,⟨bx,H2⟩)/\v2.passOK=true/\(∃ a b c,v2 = .slice a b 0 c)/\(v = .p .nilslice\/∃a b c,v = .slice a b 0 c) /\
  (∀ {ρ:Opd->IVal} {x y z:Opd},ρ x = .map mp->ρ y = J4 s->ρ z=v2->evalOp C ρ ⟨bx,H2⟩ (.entSt x y z)=some (.tup [],⟨bx,H3⟩)) /\
  PM f (m+1) mp E' H3/\H.length<=H3.length/\(∀ x,x<H.length->x∉mp::E.map (·.blk)->H3[x]? = H[x]?)/\(∀ x∈E'.map (·.blk),x∈E.map (·.blk)\/H.length<=x)/\(∀ x∈mp::E'.map (·.blk),x<H3.length):=by
 obtain⟨⟨es,h1,h2⟩,h3,h4,h5,h6⟩:=h
 have hmp:=hlt mp (by simp)
 obtain⟨B,hB⟩:∃B,B=IBlk.cells (idC [m]) 1 0 false:=⟨_,rfl⟩
 rw[<- hB]
 have hg:Mem.get ⟨bx,H++[B]⟩ (.heap mp)=some (.map es E.length):=by
  show(H++[B])[mp]? = _
  rw[Ab hmp];exact h1
 have hids:∀e∈E,e.ids.length<=m:=fun e he=>by rw[h3 e he];unfold idsOf;exact Bo (BF _ _) (by simp)
 rcases h2.find (k:=f m) 0 h5 with⟨g1,g2⟩|⟨n,e,v,g1,g2,g3,g4,g5⟩
 ·
  have hE0:EOK (H++[B]) E es 0:=h2.keep fun e he=>by rw[Ab (hlt _ (An _ (AW he)))]
  obtain⟨H1,hH1⟩:∃H1,(H++[B]).set mp (.map (es++[(.agg (keyI (f m)), .p .nilslice,E.length)]) (E.length+1))=H1:=⟨_,rfl⟩
  have hH1l:H1.length=H.length+1:=by rw[<- hH1];simp
  have hsrc:srcCells ⟨bx,H1⟩ 1 (.slice H.length 0 0 1)=some (idC [m]):=by
   refine zbv (op:=false) ?_ ?_
   ·rw[<- hH1,Ad (by omega),Ae (by omega),Bk,hB];rfl
   ·simp[idC]
  have happ:=append_nil (bx:=bx) (H:=H1) (esz:=1) (ny:=1) hsrc rfl (by omega) (by omega)
  have hget1:H1[mp]? = some (.map (es++[(.agg (keyI (f m)), .p .nilslice,E.length)]) (E.length+1)):=by rw[<- hH1];exact zaq (by simp;omega)
  obtain⟨H2,hH2⟩:∃H2,H1++[IBlk.cells (idC [m]) 1 0 true]=H2:=⟨_,rfl⟩
  have hget2:H2[mp]? = some (.map (es++[(.agg (keyI (f m)), .p .nilslice,E.length)]) (E.length+1)):=by rw[<- hH2,Ab (by omega)];exact hget1
  have hlen:=h2.length
  have hborn:findBorn ((E.length:Nat):Int) (es++[(.agg (keyI (f m)), .p .nilslice,E.length)]) 0=some E.length:=by
   have key:∀(E:List PEnt) (es:List (IVal×IVal×Nat)) (j i:Nat) (x:IVal×IVal×Nat),EOK H E es j->x.2.2=j+E.length->findBorn ((j+E.length:Nat):Int) (es++[x]) i=some (i+E.length):=by
    intro E
    induction E with
    |nil=>intro es j i x h hx;simp only[EOK]at h;subst h;obtain⟨x1,x2,x3⟩:=x;simp only[BT,Bi]at hx;subst hx;simp[findBorn]
    |cons e E ih =>
     rintro es j i x ⟨v,r,e1,e2,e3⟩ hx
     subst e1
     rw[At,findBorn,decide_eq_false (by simp;omega)]
     dsimp only
     have:=ih r (j+1) (i+1) x e3 (by rw[hx];simp;omega)
     rw[show j+(e::E).length=j+1+E.length by simp;omega,this]
     simp;omega
   have:=key E es 0 0 (.agg (keyI (f m)), .p .nilslice,E.length) h2 (by simp)
   simpa using this
  obtain⟨v2,hv2⟩:∃v2:IVal,v2 = .slice (H.length+1) 0 0 1:=⟨_,rfl⟩
  rw[hH1l,<-hv2,hH2]at happ
  refine⟨.p .nilslice,E.length,H1,v2,H2,H2.set mp (.map (es++[(.agg (keyI (f m)),v2,E.length)]) (E.length+1)),E++[⟨f m,H.length+1,[m]⟩],?_,rfl,happ,by rw[hv2];rfl,⟨_,_,_,hv2⟩, .inl rfl,?_,?_,?_,?_,?_,?_⟩
  ·intro ρ x y hx hy
   simp only[evalOp,hx,hy,zvi,hg,g2,Mem.put,hH1]
  ·intro ρ x y z hx hy hz
   have hg2:Mem.get ⟨bx,H2⟩ (.heap mp)=some (.map (es++[(.agg (keyI (f m)), .p .nilslice,E.length)]) (E.length+1)):=hget2
   have hpo:v2.passOK=true:=by rw[hv2];rfl
   simp only[evalOp,hx,hy,hz,hpo,hg2,hborn,Mem.put]
   congr 4
   have key:∀(es:List (IVal×IVal×Nat)) (x:IVal×IVal×Nat) (n:Nat) (g:IVal×IVal×Nat->IVal×IVal×Nat),es.length=n->(es++[x]).modify n g=es++[g x]:=by
    intro es
    induction es with
    |nil=>intro x n g h;subst h;rfl
    |cons a es ih=>intro x n g h;subst h;simp[ih x es.length g rfl]
   rw[key es _ E.length _ hlen]
  ·obtain⟨H3,hH3⟩:∃H3,H2.set mp (.map (es++[(.agg (keyI (f m)),v2,E.length)]) (E.length+1))=H3:=⟨_,rfl⟩
   rw[hH3]
   have hH3x:∀x,x≠mp->H3[x]? = H2[x]? := fun x hx=>by rw[<- hH3,Ad (Ne.symm hx)]
   have hold:∀x,x<H.length->x≠mp->H3[x]? = H[x]? := fun x hx hne=>by
    rw[hH3x x hne,<-hH2,Ab (by omega),<-hH1,Ad (Ne.symm hne),Ab hx]
   rw[Bn]at h6
   refine⟨⟨_,by rw[<- hH3];simp only[Af,AO];exact zaq (by rw[<- hH2];simp;omega),?_⟩,?_,?_,?_,?_⟩
   ·have hE3:EOK H3 E es 0:=h2.keep fun e he=>hold _ (hlt _ (An _ (AW he))) (fun e'=>h6.1 (e' ▸ AW he))
    have:=EOK.append (x:=⟨f m,H.length+1,[m]⟩) (v:=v2) (H:=H3) ⟨0,idC [m],true,hv2,by
     dsimp only
     rw[hH3x _ (by omega),<-hH2,Ae (by omega),hH1l,Bk];rfl,by simp[idC],by simp[idC]⟩ hE3
    simpa using this
   ·intro e he
    rcases Ar.1 he with he|he
    ·rw[h3 e he,zjw,if_neg (fun hc:0<m/\f m=e.key=>g1 (hc.2 ▸ AW he))]
    ·rw[BI]at he
     subst he
     dsimp only
     rw[zjw,if_pos ⟨hm,rfl⟩]
     have:idsOf f m (f m)=[]:=by
      refine CT.2 fun i hi=>?_
      simp only[Al,decide_eq_true_eq,not_and]
      intro hp he
      exact g1 (he ▸ h4 i hp (B8.1 hi))
     rw[this];rfl
   ·intro i h0 hi
    rw[Ay,Ar]
    rcases Bf i m with h'|h'
    ·exact .inl (h4 i h0 h')
    ·have:i=m:=by omega
     subst this;exact .inr (by simp)
   ·rw[Ay]
    refine Bb.2 ⟨h5,by simp,fun a ha b hb e=>?_⟩
    simp at hb;subst hb e
    exact g1 ha
   ·rw[Ay,Bn,Ar,not_or]
    refine⟨⟨h6.1,by simp;omega⟩,Bb.2 ⟨h6.2,by simp,fun a ha b hb e=>?_⟩⟩
    simp at hb;subst hb e
    have:=hlt _ (An _ ha)
    omega
  ·rw[AC,<-hH2];simp;omega
  ·intro x hx hno
   rw[Ak,not_or]at hno
   rw[Ad (Ne.symm hno.1),<-hH2,Ab (by omega),<-hH1,Ad (Ne.symm hno.1),Ab hx]
  ·intro x hx
   rw[Ay,Ar]at hx
   rcases hx with hx|hx
   ·exact .inl hx
   ·simp at hx;exact .inr (by omega)
  ·intro x hx
   rw[AC,<-hH2,Af,hH1l]
   rw[Ak,Ay,Ar]at hx
   rcases hx with rfl|hx|hx
   ·simp;omega
   ·have:=hlt _ (An _ hx);simp;omega
   ·simp at hx;subst hx;simp
 ·
  have he:=Ao g1
  have hen:=(Aa.1 g1).1
  have hebl:=hlt _ (An _ (AW he))
  have hids:=hids e he
  rw[Bn]at h6
  have hne:e.blk≠mp:=fun e'=>h6.1 (e' ▸ AW he)
  have hmod:es.modify n (fun x=>(IVal.agg (keyI (f m)),x.2.1,x.2.2))=es:=zrk _ _ _ _ g5 rfl
  have hsame:(H++[B]).set mp (.map es E.length)=H++[B]:=by
   apply Bt
   intro i
   by_cases hi:i=mp
   ·subst hi
    rw[zaq (by simp;omega)];exact hg.symm
   ·rw[Ad (Ne.symm hi)]
  have hgk:HS (H++[B]) e.blk 1 e.ids.length v (idC e.ids):=g4.keep (Ab hebl)
  obtain⟨ver,cs,op,rfl,hk1,hk2,hk3⟩:=hgk
  have hsrc:srcCells ⟨bx,H++[B]⟩ 1 (.slice H.length 0 0 1)=some (idC [m]):=by
   refine zbv (op:=false) ?_ ?_
   ·rw[Ae (by omega),Bk,hB];rfl
   ·simp[idC]
  have happ:=zbd (bx:=bx) hk1 hk2 hsrc rfl (by omega) (ny:=1) (by omega)
  have hnew:=zgw (H:=H++[B]) (ver:=ver) (op:=op) (ys:=idC [m]) (ny:=1) (k:=e.blk) (by simp;omega) hk2 (by simp[idC])
  rw[hk3]at hnew
  obtain⟨H2,hH2⟩:∃H2,(H++[B]).set e.blk (appBlk cs (idC [m]) 1 e.ids.length 1 ver op)=H2:=⟨_,rfl⟩
  rw[hH2]at happ hnew
  obtain⟨v2,hv2⟩:∃v2:IVal,v2 = .slice e.blk (appVer cs 1 e.ids.length 1 ver) 0 (e.ids.length+1):=⟨_,rfl⟩
  rw[<- hv2]at happ hnew
  have hget2:Mem.get ⟨bx,H2⟩ (.heap mp)=some (.map es E.length):=by
   show H2[mp]? = _
   rw[<- hH2,Ad hne];exact hg
  have hborn:=h2.born 0 n hen
  rw[AB]at hborn
  obtain⟨H3,hH3⟩:∃H3,H2.set mp (.map (es.modify n fun x=>(x.1,v2,x.2.2)) E.length)=H3:=⟨_,rfl⟩
  have hbornAt:bornAt es n=n:=by rw[bornAt,g5];simp
  have hH3x:∀x,x≠mp->H3[x]? = H2[x]? := fun x hx=>by rw[<- hH3,Ad (Ne.symm hx)]
  have hold:∀x,x<H.length->x≠mp->x≠e.blk->H3[x]? = H[x]? := fun x hx h0 h1=>by
   rw[hH3x x h0,<-hH2,Ad (Ne.symm h1),Ab hx]
  have hmap:(E.set n ⟨e.key,e.blk,e.ids++[m]⟩).map (·.blk)=E.map (·.blk):=by
   rw[CA]
   apply Bt
   intro i
   by_cases hi:i=n
   ·subst hi;rw[AZ (by simpa using hen),Ap,g1];rfl
   ·rw[Ad (Ne.symm hi)]
  have hmapk:(E.set n ⟨e.key,e.blk,e.ids++[m]⟩).map (·.key)=E.map (·.key):=by
   rw[CA]
   apply Bt
   intro i
   by_cases hi:i=n
   ·subst hi;rw[AZ (by simpa using hen),Ap,g1];rfl
   ·rw[Ad (Ne.symm hi)]
  refine⟨.slice e.blk ver 0 e.ids.length,n,H++[B],v2,H2,H3,E.set n ⟨e.key,e.blk,e.ids++[m]⟩,?_,rfl,happ,by rw[hv2];rfl,⟨_,_,_,hv2⟩, .inr ⟨_,_,_,rfl⟩,?_,?_,?_,?_,?_,?_⟩
  ·intro ρ x y hx hy
   rw[AB]at g3
   simp only[evalOp,hx,hy,zvi,hg,g3,Mem.put,hmod,hsame,hbornAt]
  ·intro ρ x y z hx hy hz
   have hpo:v2.passOK=true:=by rw[hv2];rfl
   simp only[evalOp,hx,hy,hz,hpo,hget2,hborn,Mem.put,hH3]
  ·refine⟨⟨_,by rw[<- hH3,AC];exact zaq (by rw[<- hH2];simp;omega),?_⟩,?_,?_,by rw[hmapk];exact h5,by rw[hmap,Bn];exact h6⟩
   ·have hH23:H3[e.blk]? = H2[e.blk]? := hH3x _ hne
    have hE3:=EOK.set (H':=H3) (ids':=e.ids++[m]) (v':=v2) h2 g1 (by
     have:idC (e.ids++[m])=idC e.ids++idC [m]:=by simp[idC]
     rw[this,Af]
     exact hnew.keep hH23) (fun k x hk hx=>by
      have hx':=Ao hx
      refine hold _ (hlt _ (An _ (AW hx'))) (fun e'=>h6.1 (e' ▸ AW hx')) (fun e'=>hk ?_)
      have a1:(E.map (·.blk))[k]? = some x.blk:=by rw[Ap,hx];rfl
      have a2:(E.map (·.blk))[n]? = some e.blk:=by rw[Ap,g1];rfl
      have hkl:k<(E.map (·.blk)).length:=(Aa.1 a1).1
      exact(List.getElem?_inj hkl h6.2).1 (by rw[a1,a2,e']))
    exact hE3
   ·intro x hx
    rcases BD.1 hx with⟨k,hk⟩
    by_cases hkn:k=n
    ·subst hkn
     rw[AZ hen]at hk
     cases hk
     dsimp only
     rw[h3 e he,g2,zjw,if_pos ⟨hm,rfl⟩]
    ·rw[Ad (Ne.symm hkn)]at hk
     have hx':=Ao hk
     rw[h3 x hx',zjw,if_neg]
     rintro⟨_,hc⟩
     have a1:(E.map (·.key))[k]? = some x.key:=by rw[Ap,hk];rfl
     have a2:(E.map (·.key))[n]? = some e.key:=by rw[Ap,g1];rfl
     have hkl:k<(E.map (·.key)).length:=(Aa.1 a1).1
     exact hkn ((List.getElem?_inj hkl h5).1 (by rw[a1,a2,g2,hc]))
   ·intro i h0 hi
    rw[hmapk]
    rcases Bf i m with h'|h'
    ·exact h4 i h0 h'
    ·have:i=m:=by omega
     subst this;rw[<- g2];exact AW he
  ·rw[<- hH3,AC,<-hH2];simp
  ·intro x hx hno
   rw[Ak,not_or]at hno
   exact hold x hx hno.1 (fun e'=>hno.2 (e' ▸ AW he))
  ·intro x hx
   rw[hmap]at hx;exact .inl hx
  ·intro x hx
   rw[hmap]at hx
   have:=hlt x hx
   rw[<- hH3,AC,<-hH2];simp;omega
def two (x y:IVal):Opd->IVal
 | .tmp 0=>x
 |_=>y
def three (x y z:IVal):Opd->IVal
 | .tmp 0=>x
 | .tmp 1=>y
 |_=>z
def mapEntF (z:IVal) (cls:KTy) (x k:IVal) (H:J2):Option (IVal×J2):=(evalOp noOracle (two x k) ⟨[],H⟩ (.mapEnt z cls (.tmp 0) (.tmp 1))).map fun p=>(p.1,p.2.heap)
def lookupF (ok:Bool) (z:IVal) (cls:KTy) (x k:IVal) (H:J2):Option IVal:=(evalOp noOracle (two x k) ⟨[],H⟩ (.lookup ok z cls (.tmp 0) (.tmp 1))).map fun p=>p.1
def entStF (x s v:IVal) (H:J2):Option (IVal×J2):=(evalOp noOracle (three x s v) ⟨[],H⟩ (.entSt (.tmp 0) (.tmp 1) (.tmp 2))).map fun p=>(p.1,p.2.heap)
theorem zjd {α β:Type} {o:Option α} {g:α->β} {Q:β->Prop}:gets (o.map g) Q↔gets o fun a=>Q (g a):=by
 cases o<;>simp[gets]
section
variable {C:Oracle} {ρ:Opd->SV} {M:KM} {k:SV->KM->Prop}
@[simp ↓ high] theorem zasd {c:KTy} {z:IVal}:wpOp C ρ M (.mapEnt z c x y) k=gets (mapEntF z c (ρ x).den (ρ y).den M.H) (@hid _ ⟨fun p=>k (up p.1) ⟨M.B,p.2⟩⟩):=by
 have:wpOp C ρ M (.mapEnt z c x y) k=gets (evalOp C (fun o=>(ρ o).den) ⟨[],M.H⟩ (.mapEnt z c x y)) fun p=>k (up p.1) ⟨M.B,p.2.heap⟩:=rfl
 rw[this]
 unfold mapEntF
 apply propext
 refine Iff.trans ?_ zjd.symm
 rfl
@[simp ↓ high] theorem zase {c:KTy} {z:IVal} {o:Bool}:wpOp C ρ M (.lookup o z c x y) k=gets (lookupF o z c (ρ x).den (ρ y).den M.H) (@hid _ ⟨fun v=>k (up v) M⟩):=by
 have:wpOp C ρ M (.lookup o z c x y) k=gets (evalOp C (fun o=>(ρ o).den) ⟨[],M.H⟩ (.lookup o z c x y)) fun p=>k (up p.1) ⟨M.B,p.2.heap⟩:=rfl
 rw[this]
 unfold lookupF
 apply propext
 refine Iff.trans ?_ zjd.symm
 have e:evalOp C (fun o=>(ρ o).den) ⟨[],M.H⟩ (.lookup o z c x y)=evalOp noOracle (two (ρ x).den (ρ y).den) ⟨[],M.H⟩ (.lookup o z c (.tmp 0) (.tmp 1)):=rfl
 rw[e]
 have hM:∀p,evalOp noOracle (two (ρ x).den (ρ y).den) ⟨[],M.H⟩ (.lookup o z c (.tmp 0) (.tmp 1))=some p->p.2.heap=M.H:=by
  intro p hp
  simp only[evalOp,lookRes]at hp
  repeat' (split at hp)
  all_goals first|(cases hp;done)|(injection hp with hp;subst hp;rfl)
 cases hq:evalOp noOracle (two (ρ x).den (ρ y).den) ⟨[],M.H⟩ (.lookup o z c (.tmp 0) (.tmp 1))with
 |none=>simp[]
 |some p =>
  have e2:=hM p hq
  rw[zfu,zfu,e2]
  rfl
@[simp ↓ high] theorem zavy {z:Opd}:wpOp C ρ M (.entSt x y z) k=gets (entStF (ρ x).den (ρ y).den (ρ z).den M.H) (@hid _ ⟨fun p=>k (up p.1) ⟨M.B,p.2⟩⟩):=by
 have:wpOp C ρ M (.entSt x y z) k=gets (evalOp C (fun o=>(ρ o).den) ⟨[],M.H⟩ (.entSt x y z)) fun p=>k (up p.1) ⟨M.B,p.2.heap⟩:=rfl
 rw[this]
 unfold entStF
 apply propext
 refine Iff.trans ?_ zjd.symm
 rfl
end
theorem PM.lookF {f:Nat->Int×Int} {E:List PEnt} (h:PM f m mp E H) (k:Int×Int) :
 ∃v,lookupF false (.p .nilslice) ⟨true,[.int, .int]⟩ (.map mp) (.agg (keyI k)) H=some v/\(v = .p .nilslice/\idsOf f m k=[]\/∃b∈E.map (·.blk),HS H b 1 (idsOf f m k).length v (idC (idsOf f m k))):=by
 obtain⟨v,h1,h2⟩:=h.look k (bx:=[]) (C:=noOracle) (ρ:=two (.map mp) (.agg (keyI k))) (x := .tmp 0) (y := .tmp 1) rfl rfl
 exact⟨v,by unfold lookupF;rw[h1];rfl,h2⟩
theorem PM.stepF {f:Nat->Int×Int} {E:List PEnt} (h:PM f m mp E H) (hm:0<m) (hb:m<1000000) (hlt:∀x∈mp::E.map (·.blk),x<H.length) :
 ∃v s H1 v2 H2 H3 E',
  mapEntF (.p .nilslice) ⟨true,[.int, .int]⟩ (.map mp) (.agg (keyI (f m))) (H++[.cells (idC [m]) 1 0 false])=some (.tup [v, J4 s],H1) /\
  v.passOK=true/\evalAppend ⟨[],H1⟩ 1 v (.slice H.length 0 0 1)=some (v2,⟨[],H2⟩)/\v2.passOK=true/\(∃ a b c,v2 = .slice a b 0 c)/\(v = .p .nilslice\/∃a b c,v = .slice a b 0 c) /\
  entStF (.map mp) (J4 s) v2 H2=some (.tup [],H3) /\
  PM f (m+1) mp E' H3/\H.length<=H3.length/\(∀ x,x<H.length->x∉mp::E.map (·.blk)->H3[x]? = H[x]?)/\(∀ x∈E'.map (·.blk),x∈E.map (·.blk)\/H.length<=x)/\(∀ x∈mp::E'.map (·.blk),x<H3.length):=by
 obtain⟨v,s,H1,v2,H2,H3,E',h1,h2,h3,h4,h5,h6,h7,h8⟩:=h.step hm hb hlt (bx:=[]) (C:=noOracle)
 refine⟨v,s,H1,v2,H2,H3,E',?_,h2,h3,h4,h5,h6,?_,h8⟩
 ·unfold mapEntF;rw[h1 (ρ:=two (.map mp) (.agg (keyI (f m)))) (x := .tmp 0) (y := .tmp 1) rfl rfl];rfl
 ·unfold entStF;rw[h7 (ρ:=three (.map mp) (J4 s) v2) (x := .tmp 0) (y := .tmp 1) (z := .tmp 2) rfl rfl rfl];rfl
end
end Go.Ideal
namespace Go.Ideal
open Go
set_option maxHeartbeats 4000000
set_option maxRecDepth 20000
attribute [-simp] getElem?_pos
noncomputable def kp (t:Tree):Int×Int:=(hashT t,szU t)
noncomputable def kf (b:Tree) (j:Nat):Int×Int:=kp (subT b j)
@[simp] theorem zbcf (k:Int×Int):SV.dens (ups (keyI k))=keyI k:=rfl
theorem zabu {b:Tree} {j:Nat} {v:Vis} (h:b.vis[j]? = some v):keyC v=keyI (kf b j):=by
 rw[kf,zdh h];rfl
theorem zakd {l:List Vis}:∀ {j:Nat} {v:Vis},l[j]? = some v->((l.flatMap keyC).drop (j*2)).take 2=keyC v:=by
 induction l with
 |nil=>intro j v h;simp at h
 |cons x l ih =>
  intro j v h
  cases j with
  |zero=>cases h;rfl
  |succ j =>
   rw[Ax]at h
   have:=ih h
   rw[<- this,AD,show(j+1)*2=(keyC x).length+j*2 by show _=2+j*2;omega,BL,AV (B7 _ _),AN,A1]
theorem zph {t:Tree} {k0 kl il:Nat} {bs:List Bool} {H:J2} (h:SideOK t k0 kl il bs H) {j:Nat} (hj:j<t.size) :
 ∃kv ver,loadVal ⟨[],H⟩ none (J5 k0 0 6)=some kv/\up kv = .v kv/\idxS 2 kv (J4 j)=some (J5 kl ver (j*2))/\loadVal ⟨[],H⟩ (some 2) (J5 kl ver (j*2))=some (.agg (keyI (kf t j))):=by
 obtain⟨kv,iv,h1,h2,h3⟩:=h
 have l6:loadVal ⟨[],H⟩ none (J5 k0 0 6)=some kv:=zae h1 rfl
 obtain⟨v,hv⟩:∃v,t.vis[j]? = some v:=⟨_,Ac (by rw[zas];exact hj)⟩
 obtain⟨ver,e1,e2⟩:=h2.load (bx:=[]) hj
 rw[zakd hv,zabu hv]at e2
 obtain⟨_,_,_,rfl,_⟩:=h2
 exact⟨_,ver,l6,rfl,e1,e2⟩
theorem zpi {t:Tree} {k0 kl il:Nat} {bs:List Bool} {H:J2} (h:SideOK t k0 kl il bs H):loadVal ⟨[],H⟩ none (J5 k0 0 5)=some (.p (ival t)):=by
 obtain⟨kv,iv,h1,h2,h3⟩:=h
 exact zae h1 rfl
theorem zabv (a b:Tree) (p:AP) (hfz:p.fz=[]) (hb:b.size<1000000) (v2 v7 v9 v10:SV) (bx bz:List Bool) (ps:J1) (H0:J2) (hA:AS a b p bx bz ps H0) (mp:Nat) (hmp:H0[mp]? = some (.map [] 0)) (hm0:mp∉p.all)
 (hlb:∀lv,H0[p.lb]? = some (.cells [lv] 1 0 false)->lv = .p .nilslice) (Q:J0)
 (hQ:∀H E,AS a b { p with fz:=mp::E.map (·.blk) } bx bz ps H->PM (kf b) b.size mp E H->(∀ x∈mp::E.map (·.blk),x<H.length)->(∀ x,x<H0.length->x≠mp->H[x]? = H0[x]?)->H0.length<=H.length->Q .normal [(2,v2),(7,v7),(8, .v (J5 p.yb 0 0)),(9,v9),(10,v10),(11, .v (.map mp))] ⟨[],H⟩) :
 wpLoop (CW tr.look) 167 m_Q23_0 l_Q23_0 (blkK 0 b_Q23_0 Q) [(2,v2),(7,v7),(8, .v (J5 p.yb 0 0)),(9,v9),(10,v10),(11, .v (.map mp)),(12, .int .i64 1)] ⟨[],H0⟩:=by
 have hsz:=zac b
 have hmlt:=(Aa.1 hmp).1
 have hall0:=hA.lt (by rw[hfz];simp)
 refine zab (α:=Nat×List PEnt×J2) (fun s=>[(2,v2),(7,v7),(8, .v (J5 p.yb 0 0)),(9,v9),(10,v10),(11, .v (.map mp)),(12, .int .i64 s.1)]) (fun s=>⟨[],s.2.2⟩)
  (fun s=>0<s.1/\s.1<=b.size/\PM (kf b) s.1 mp s.2.1 s.2.2/\H0.length<=s.2.2.length/\(∀ x,x<H0.length->x≠mp->s.2.2[x]? = H0[x]?)/\(∀ x∈s.2.1.map (·.blk),H0.length<=x)/\(∀ x∈mp::s.2.1.map (·.blk),x<s.2.2.length)) (fun s=>b.size-s.1) ?_ (1,[],H0) ⟨by simp,hsz,⟨⟨[],hmp,rfl⟩,by simp,fun i h0 h1=>by omega,by simp,by simp⟩,Am _,fun _ _ _=>rfl,by simp,by simp;exact hmlt⟩
 rintro⟨m,E,H⟩ ⟨h0,hm,hPM,hle,hkeep,hnew,hlt⟩ L hL
 dsimp only at h0 hm hPM hle hkeep hnew hlt hL ⊢
 dsimp only[l_Q23_0]
 have hne:∀x∈p.all,x≠mp:=fun x hx e=>hm0 (e ▸ hx)
 have hyb:p.yb∈p.all:=by simp[AP.all]
 have hy:SideOK b p.y0 p.yk p.yi bz H:=by
  have m1:p.y0∈p.all/\p.yk∈p.all/\p.yi∈p.all:=by simp[AP.all]
  exact hA.sy.keep (hkeep _ (hall0 _ m1.1) (hne _ m1.1)) (hkeep _ (hall0 _ m1.2.1) (hne _ m1.2.1)) (hkeep _ (hall0 _ m1.2.2) (hne _ m1.2.2))
 have ly:loadVal ⟨[],H⟩ none (J5 p.yb 0 0)=some (J5 p.y0 0 0):=zae ((hkeep _ (hall0 _ hyb) (hne _ hyb)).trans hA.yb) rfl
 have l5:=zpi hy
 by_cases hml:m<b.size
 ·have hlt':(m:Int)<(b.size:Int):=by omega
  obtain⟨kv,ver,g1,g2,g3,g4⟩:=zph hy hml
  obtain⟨v,s,H1,v2',H2,H3,E',r1,r2,r3,r4,r5,r6,r7,r8,r9,r10,r11,r12⟩:=hPM.stepF h0 (by omega) hlt
  obtain⟨w1,w2,w3,rfl⟩:=r5
  have hcell:[IVal.p (.int .i64 (m:Int))]=idC [m]:=rfl
  rcases r6 with rfl|⟨u1,u2,u3,rfl⟩
  ·simp(disch:=omega) [zaa,ly,l5,g1,g2,g3,g4,hcell,r1,r3,r7]
   refine hL (m+1,E',H3) ⟨by dsimp only;omega,by dsimp only;omega,r8,by dsimp only;omega,fun x hx hxm=>?_,fun x hx=>?_,r12⟩ (by dsimp only;omega)
   ·dsimp only
    rw[r10 x (by omega) (by rw[Ak,not_or];exact⟨hxm,fun e=>by have:=hnew x e;omega⟩)]
    exact hkeep x hx hxm
   ·rcases r11 x hx with h|h
    ·exact hnew x h
    ·omega
  ·simp(disch:=omega) [zaa,ly,l5,g1,g2,g3,g4,hcell,r1,r3,r7]
   refine hL (m+1,E',H3) ⟨by dsimp only;omega,by dsimp only;omega,r8,by dsimp only;omega,fun x hx hxm=>?_,fun x hx=>?_,r12⟩ (by dsimp only;omega)
   ·dsimp only
    rw[r10 x (by omega) (by rw[Ak,not_or];exact⟨hxm,fun e=>by have:=hnew x e;omega⟩)]
    exact hkeep x hx hxm
   ·rcases r11 x hx with h|h
    ·exact hnew x h
    ·omega
 ·obtain rfl:m=b.size:=by omega
  simp(disch:=omega) [ly,l5]
  refine hQ H E ?_ hPM hlt hkeep hle
  have hk:∀x∈p.all,H[x]? = H0[x]? := fun x hx=>hkeep x (hall0 x hx) (hne x hx)
  have mem:p.xb∈p.all/\p.x0∈p.all/\p.xk∈p.all/\p.xi∈p.all/\p.lb∈p.all:=by simp[AP.all]
  obtain⟨m1,m2,m3,m4,m5⟩:=mem
  have hndn:(mp::E.map (·.blk)).Nodup:=hPM.nd
  refine⟨?_,(hk _ m1).trans hA.xb,(hk _ hyb).trans hA.yb,hA.lx,hA.lz,hA.sx.keep (hk _ m2) (hk _ m3) (hk _ m4),hy,?_⟩
  ·have hnd:=hA.nd
   unfold AP.all at hnd hall0 hm0 hne ⊢
   rw[hfz,AQ]at hnd hm0 hall0
   refine Bb.2 ⟨hnd,hndn,fun x hx y hy e=>?_⟩
   subst e
   rcases Ak.1 hy with rfl|hy
   ·exact hm0 hx
   ·have:=hall0 x hx
    have:=hnew x hy
    omega
  ·obtain⟨lv,e1,e2⟩:=hA.l
   have:=hlb lv e1
   subst this
   refine⟨_,(hk _ m5).trans e1, .inl ⟨rfl,?_⟩⟩
   rcases e2 with⟨_,h⟩|⟨ll,_,h,_⟩
   ·exact h
   ·obtain⟨_,_,_,h,_⟩:=h;cases h
theorem zfx:∀(n:Nat) (l:List Nat),l.Nodup->(∀ x∈l,x<n)->l.length<=n
 |0,l,_,h=>by
  cases l with
  |nil=>simp
  |cons x l=>have:=h x (by simp);omega
 |n+1,l,hn,h=>by
  by_cases hm:n∈l
  ·have h1:=List.length_erase_of_mem hm
   have h2:=zfx n (l.erase n) (hn.erase n) (fun x hx=>by
    have:=h x (List.mem_of_mem_erase hx)
    have:x≠n:=fun e=>by subst e;exact(hn.mem_erase_iff.1 hx).1 rfl
    omega)
   have:=List.length_pos_of_mem hm
   omega
  ·have:=zfx n l hn (fun x hx=>by
    have:=h x hx
    have:x≠n:=fun e=>hm (e ▸ hx)
    omega)
   omega
theorem AInv.len {a b:Tree} {h:Nat} {s:ASt} {bl:J1} (H:AInv a b h s bl):s.ps.length<=a.size:=by
 have:=zfx a.size _ H.nx (fun x hx=>by
  obtain⟨p,hp,rfl⟩:=AF.1 hx
  exact(H.pairs.ok p hp).1)
 simpa using this
theorem zys {t:Tree} {k0 kl il:Nat} {bs:List Bool} {H:J2} (h:SideOK t k0 kl il bs H) (hl:bs.length=t.size) {j:Nat} (hj:j<t.size) :
 ∃iv ver,loadVal ⟨[],H⟩ none (J5 k0 0 7)=some iv/\up iv = .v iv/\idxS 1 iv (J4 j)=some (J5 il ver j)/\loadVal ⟨[],H⟩ none (J5 il ver j)=some (.p (.bool (bs.getD j false))):=by
 obtain⟨kv,iv,h1,h2,h3⟩:=h
 have l7:loadVal ⟨[],H⟩ none (J5 k0 0 7)=some iv:=zae h1 rfl
 obtain⟨ver,cs,op,rfl,h4⟩:=h3
 have h3':HS H il 1 t.size (.slice il ver 0 t.size) (bs.map fun b=>.p (.bool b)):=⟨ver,cs,op,rfl,h4⟩
 have hx:(bs.map fun b=>IVal.p (.bool b))[j]? = some (.p (.bool (bs.getD j false))):=by
  rw[Ap,Aj,Ac (by omega)];rfl
 have:=zba (e:=1) (k:=il) (v:=ver) (o:=0) (n:=t.size) (j:=j) hj
 exact⟨_,ver,l7,rfl,by simpa using this,h3'.field hx⟩
structure AM (a b:Tree) (p:AP) (mp:Nat) (E:List PEnt) (s:ASt) (H:J2):Prop where
 st:AS a b p s.bx s.bz s.ps H
 pm:PM (kf b) b.size mp E H
 fz:p.fz=mp::E.map (·.blk)
 lt:∀x∈p.fz,x<H.length
theorem zaph (a b:Tree) (bz:List Bool) (i:Nat) (hi:i<a.size):findJ a b bz i=(idsOf (kf b) b.size (kf a i)).find? fun j=>!(bz.getD j false)&&decide (SameT (subT a i) (subT b j)):=by
 unfold findJ idsOf
 rw[List.find?_filter]
 have key:∀l:List Nat,(∀ j∈l,j<b.size)->l.find? (okJ a b bz i)=l.find? fun j=>decide ((decide (0<j)&&decide (kf b j=kf a i))=true/\(!(bz.getD j false)&&decide (SameT (subT a i) (subT b j)))=true):=by
  intro l
  induction l with
  |nil=>intro _;rfl
  |cons x l ih =>
   intro hl
   have hx:=hl x (by simp)
   have e:okJ a b bz i x=decide ((decide (0<x)&&decide (kf b x=kf a i))=true/\(!(bz.getD x false)&&decide (SameT (subT a i) (subT b x)))=true):=by
    unfold okJ
    by_cases h1:SameT (subT a i) (subT b x)
    ·obtain⟨v,hv⟩:∃v,a.vis[i]? = some v:=⟨_,Ac (by rw[zas];exact hi)⟩
     obtain⟨w,hw⟩:∃w,b.vis[x]? = some w:=⟨_,Ac (by rw[zas];exact hx)⟩
     have hk:=zapg (v:=v) (w:=w) (by rw[<- zdh hv,<-zdh hw];exact h1)
     rw[zabu hv,zabu hw]at hk
     have hk':kf b x=kf a i:=by
      simp only[keyI,Cr,IVal.p.injEq,PVal.int.injEq,and_true,true_and]at hk
      exact Prod.ext hk.1.symm hk.2.symm
     simp only[h1,hk',decide_true,Bool.and_true]
     by_cases h0:0<x<;>cases bz.getD x false<;>simp[h0]
    ·simp only[h1,decide_false,BP]
     simp
   rw[B4,B4,e,ih fun j hj=>hl j (by simp[hj])]
 exact key _ fun j hj=>B8.1 hj
def pfn (p:AP):IVal := .func F_Q56 [J5 p.xb 0 0, J5 p.lb 0 0, J5 p.yb 0 0]
theorem zake (a b:Tree) (fa:Fine a) (fb:Fine b) (p:AP) (mp:Nat) (E:List PEnt) (least:Int) (s:ASt) (h i:Nat) (h0:0<i) (hi:i<a.size) (hbx:s.bx.getD i false=false) (hh:(subT a i).height=h) (hps:∀j,findJ a b s.bz i=some j->s.ps.length+(subT a i).size<1000000) (H:J2) (hM:AM a b p mp E s H)
 (lv:IVal) (hlv:lv = .p .nilslice/\idsOf (kf b) b.size (kf a i)=[]\/∃k∈E.map (·.blk),HS H k 1 (idsOf (kf b) b.size (kf a i)).length lv (idC (idsOf (kf b) b.size (kf a i)))) (Q:J0)
 (hQ:∀H',AM a b p mp E (stepI a b h i s) H'->Q .normal [(2, .int .i64 least),(7, .v (J5 p.xb 0 0)),(8, .v (J5 p.yb 0 0)),(9, .v (J5 p.lb 0 0)),(10, .v (pfn p)),(11, .v (.map mp)),(13, .int .i64 h),(14, .int .i64 i)] ⟨[],H'⟩) :
 wpLoop (CW tr.look) 167 m_Q23_1 l_Q23_1 (blkK 6 b_Q23_6 Q) [(2, .int .i64 least),(7, .v (J5 p.xb 0 0)),(8, .v (J5 p.yb 0 0)),(9, .v (J5 p.lb 0 0)),(10, .v (pfn p)),(11, .v (.map mp)),(13, .int .i64 h),(14, .int .i64 i),(15, .box 15 0),(121, .v lv),(122, .int .i64 (idsOf (kf b) b.size (kf a i)).length),(123, .int .i64 0)] ⟨[(15,some ⟨[.int .i64 (subT a i).kind, .str (subT a i).name, .str (subT a i).text, .v (.p (aval (subT a i).attrs)), .v (.p (kval (subT a i).kids))],5⟩)],H⟩:=by
 have hf:=zaph a b s.bz i hi
 have hstep:stepI a b h i s=match findJ a b s.bz i with
  |none=>s
  |some j=>⟨markN s.bx i (subT a i).size,markN s.bz j (subT a i).size,s.ps++pairsN i j (subT a i).size⟩:=by
  unfold stepI
  refine if_neg ?_
  rintro(e|e|e)
  ·omega
  ·rw[hbx]at e;cases e
  ·exact e hh
 have hid:∀j∈idsOf (kf b) b.size (kf a i),0<j/\j<b.size/\kf b j=kf a i:=by
  intro j hj
  unfold idsOf at hj
  rw[B1]at hj
  obtain⟨h1,h2⟩:=hj
  simp only[Al,decide_eq_true_eq]at h2
  exact⟨h2.1,B8.1 h1,h2.2⟩
 have hidl:(idsOf (kf b) b.size (kf a i)).length<=b.size:=by
  unfold idsOf
  exact Bo (BF _ _) (by simp)
 have hb6:=fb.1
 have hke:∀k:Int×Int,eqCls [Cls.int,Cls.int] (keyI k) (keyI k)=some true:=fun k=>by
  have:=zabt k k
  simpa[eqVals]using this
 generalize idsOf (kf b) b.size (kf a i)=ids at *
 refine zab (α:=Nat) (fun n=>[(2, .int .i64 least),(7, .v (J5 p.xb 0 0)),(8, .v (J5 p.yb 0 0)),(9, .v (J5 p.lb 0 0)),(10, .v (pfn p)),(11, .v (.map mp)),(13, .int .i64 h),(14, .int .i64 i),(15, .box 15 0),(121, .v lv),(122, .int .i64 ids.length),(123, .int .i64 n)]) (fun _=>⟨[(15,some ⟨[.int .i64 (subT a i).kind, .str (subT a i).name, .str (subT a i).text, .v (.p (aval (subT a i).attrs)), .v (.p (kval (subT a i).kids))],5⟩)],H⟩)
  (fun n=>n<=ids.length/\findJ a b s.bz i=(ids.drop n).find? fun j=>!(s.bz.getD j false)&&decide (SameT (subT a i) (subT b j))) (fun n=>ids.length-n) ?_ 0 ⟨AU _,by rw[hf];rfl⟩
 rintro n ⟨hn,hfn⟩ L hL
 try dsimp only at hn hfn hL ⊢
 dsimp only[l_Q23_1]
 by_cases hnl:n<ids.length
 ·obtain⟨k,hk,hlist⟩:∃k∈E.map (·.blk),HS H k 1 ids.length lv (idC ids):=by
   rcases hlv with⟨_,e⟩|e
   ·rw[e]at hnl;simp at hnl
   ·exact e
  have hlt:(n:Int)<(ids.length:Int):=by omega
  obtain⟨j1,j2,j3⟩:=hid ids[n] (A2 hnl)
  have hlx:loadVal ⟨[],H⟩ none (J5 k 0 0)=loadVal ⟨[],H⟩ none (J5 k 0 0):=rfl
  obtain⟨ver,cs,op,rfl,hl2⟩:=hlist
  have hlist':HS H k 1 ids.length (.slice k ver 0 ids.length) (idC ids):=⟨ver,cs,op,rfl,hl2⟩
  have li:idxS 1 (.slice k ver 0 ids.length) (J4 n)=some (J5 k ver n):=by
   have:=zba (e:=1) (k:=k) (v:=ver) (o:=0) (n:=ids.length) (j:=n) hnl
   simpa using this
  have ll:loadVal ⟨[],H⟩ none (J5 k ver n)=some (J4 (ids[n]:Nat)):=by
   refine hlist'.field ?_
   rw[idC,Ap,Ac hnl];rfl
  have lx:=zae (bx:=[]) (off:=0) hM.st.xb rfl
  have ly:=zae (bx:=[]) (off:=0) hM.st.yb rfl
  obtain⟨iv,vr,m1,m2,m3,m4⟩:=zys hM.st.sy hM.st.lz j2
  obtain⟨kv,vk,k1,k2,k3,k4⟩:=zph hM.st.sy j2
  obtain⟨kw,vw,w1,w2,w3,w4⟩:=zph hM.st.sx hi
  have hsub:=zrj b fb.1 hM.st.sy ids[n] j2
  have hdrop:ids.drop n=ids[n]::ids.drop (n+1):=As hnl
  rw[j3]at k4
  have hfa:Fine (subT a i):=fa.sub hi
  have hsame:=zvd _ (subT a i) (subT b ids[n]) (Ai _) hfa
  generalize hjj:ids[n]=j at *
  rw[hdrop,B4]at hfn
  by_cases hb:s.bz.getD j false=true
  ·rw[hb]at m4 hfn
   simp(disch:=omega) [li,ll,ly,m1,m2,m3,m4,zaa]
   refine hL (n+1) ⟨by omega,by simpa using hfn⟩ (by omega)
  ·have hb':s.bz.getD j false=false:=by simpa using hb
   rw[hb']at m4 hfn
   by_cases hs:SameT (subT a i) (subT b j)
   ·rw[decide_eq_true hs]at hsame hfn
    obtain⟨v,hv⟩:∃v,a.vis[i]? = some v:=⟨_,Ac (by rw[zas];exact hi)⟩
    have hvt:=zdh hv
    have e2:=zbc j2
    have e3:=hs.size
    obtain⟨H',p1,p2,p3,p4⟩:=zakb a b p i j v hv (by rw[<- hvt];omega) ⟨fa.1,fb.1⟩ s.bx s.bz s.ps (by rw[<- hvt];exact hps j (by rw[hfn];rfl)) H hM.lt hM.st
    simp(disch:=omega) [li,ll,lx,ly,m1,m2,m3,m4,k1,k2,k3,k4,w1,w2,w3,w4,hsub,zad,hsame,hke,pfn,p1]
    have hfin:=hQ H' ?_
    ·simpa[pfn]using hfin
    ·rw[hstep,hfn]
     simp only[Bool.not_false,A3]
     rw[hvt]
     exact⟨p2,hM.pm.keep fun x hx=>p4 x (by rw[hM.fz];exact hx),hM.fz,fun x hx=>by have:=hM.lt x hx;omega⟩
   ·rw[decide_eq_false hs]at hsame hfn
    simp(disch:=omega) [li,ll,lx,ly,m1,m2,m3,m4,k1,k2,k3,k4,w1,w2,w3,w4,hsub,zad,hsame,hke,zaa]
    refine hL (n+1) ⟨by omega,by simpa using hfn⟩ (by omega)
 ·obtain rfl:n=ids.length:=by omega
  simp(disch:=omega) []
  have hnone:findJ a b s.bz i=none:=by rw[hfn,AV (Am _)];rfl
  refine hQ H ?_
  rw[hstep,hnone]
  exact hM
theorem zagh (a b:Tree) (fa:Fine a) (fb:Fine b) (p:AP) (mp:Nat) (E:List PEnt) (least:Int) (s:ASt) (bl:J1) (h:Nat) (hI:AInv a b h s bl) (H:J2) (hM:AM a b p mp E s H) (Q:J0)
 (hQ:∀H',AM a b p mp E (runI a b h a.size s) H'->Q .normal [(2, .int .i64 least),(7, .v (J5 p.xb 0 0)),(8, .v (J5 p.yb 0 0)),(9, .v (J5 p.lb 0 0)),(10, .v (pfn p)),(11, .v (.map mp)),(13, .int .i64 h)] ⟨[],H'⟩) :
 wpLoop (CW tr.look) 167 m_Q23_2 l_Q23_2 (blkK 4 b_Q23_4 Q) [(2, .int .i64 least),(7, .v (J5 p.xb 0 0)),(8, .v (J5 p.yb 0 0)),(9, .v (J5 p.lb 0 0)),(10, .v (pfn p)),(11, .v (.map mp)),(13, .int .i64 h),(14, .int .i64 1)] ⟨[],H⟩:=by
 have one:=zac a
 have ha6:=fa.1
 refine zab (α:=Nat×J2) (fun x=>[(2, .int .i64 least),(7, .v (J5 p.xb 0 0)),(8, .v (J5 p.yb 0 0)),(9, .v (J5 p.lb 0 0)),(10, .v (pfn p)),(11, .v (.map mp)),(13, .int .i64 h),(14, .int .i64 x.1)]) (fun x=>⟨[],x.2⟩)
  (fun x=>0<x.1/\x.1<=a.size/\AM a b p mp E (runI a b h x.1 s) x.2) (fun x=>a.size-x.1) ?_ (1,H) ⟨by simp,one,by
   have:runI a b h 1 s=s:=by simp[runI,stepI]
   dsimp only
   rw[this];exact hM⟩
 rintro⟨i,K⟩ ⟨h0,hi,hA⟩ L hL
 dsimp only at h0 hi hA hL ⊢
 dsimp only[l_Q23_2]
 have lx:=zae (bx:=[]) (off:=0) hA.st.xb rfl
 have ly:=zae (bx:=[]) (off:=0) hA.st.yb rfl
 have l5:=zpi hA.st.sx
 by_cases hil:i<a.size
 ·have hlt:(i:Int)<(a.size:Int):=by omega
  obtain⟨bl2,hI2⟩:=zjv hI (i:=i) hi
  obtain⟨bl3,hI3⟩:=zyp hI2 hil
  obtain⟨iv,vr,m1,m2,m3,m4⟩:=zys hA.st.sx hA.st.lx hil
  obtain⟨v,hv⟩:∃v,a.vis[i]? = some v:=⟨_,Ac (by rw[zas];exact hil)⟩
  have hit:a.items[i]? = some (fullOf v):=by rw[Tree.items,zdz,Ap];rw[show visT a 0 (-1) 0 0=a.vis from rfl,hv];rfl
  have ix:=zbq hit
  have hvt:=zdh hv
  by_cases hb:(runI a b h i s).bx.getD i false=true
  ·rw[hb]at m4
   simp(disch:=omega) [lx,l5,m1,m2,m3,m4,zaa]
   refine hL (i+1,K) ⟨by dsimp only;omega,by dsimp only;omega,?_⟩ (by dsimp only;omega)
   dsimp only
   rw[runI,stepI,if_pos (.inr (.inl hb))]
   exact hA
  ·have hb':(runI a b h i s).bx.getD i false=false:=by simpa using hb
   rw[hb']at m4
   by_cases hh:(subT a i).height=h
   ·have hh':v.t.height=h:=by rw[<- hvt];exact hh
    obtain⟨kv,vk,k1,k2,k3,k4⟩:=zph hA.st.sx hil
    have hsub:=zrj a fa.1 hA.st.sx i hil
    obtain⟨lv,q1,q2⟩:=hA.pm.lookF (kf a i)
    have hup:up lv = .v lv:=by
     rcases q2 with⟨rfl,_⟩|⟨k,_,_,_,_,rfl,_⟩<;>rfl
    have hln:sliceLen lv=some (idsOf (kf b) b.size (kf a i)).length:=by
     rcases q2 with⟨rfl,e⟩|⟨k,_,hs⟩
     ·rw[e];rfl
     ·exact hs.len
    simp(disch:=omega) [lx,l5,m1,m2,m3,m4,ix,fullOf,hh',hsub,k1,k2,k3,k4,q1,hup,hln]
    refine zake a b fa fb p mp E least _ h i h0 hil hb' hh (fun j hj=>?_) K hA lv q2 _ fun H' hH'=>?_
    ·have:=hI3.len
     rw[stepI,if_neg (by rintro(e|e|e);omega;exact hb e;exact e hh),hj]at this
     dsimp only at this
     rw[Af,zfm]at this
     omega
    ·simp(disch:=omega) [zaa]
     exact hL (i+1,H') ⟨by dsimp only;omega,by dsimp only;omega,hH'⟩ (by dsimp only;omega)
   ·have hh':¬(v.t.height:Int)=(h:Int):=by rw[<- hvt];omega
    simp(disch:=omega) [lx,l5,m1,m2,m3,m4,ix,fullOf,zaa]
    refine hL (i+1,K) ⟨by dsimp only;omega,by dsimp only;omega,?_⟩ (by dsimp only;omega)
    dsimp only
    rw[runI,stepI,if_pos (.inr (.inr hh))]
    exact hA
 ·obtain rfl:i=a.size:=by omega
  simp(disch:=omega) [lx,l5]
  exact hQ K hA
theorem zvj (x y:Int):evalExt x true [J4 y]=some (max x y):=by
 show some (if y>x then y else x)=_
 congr 1
 split<;>omega
theorem zakf (x y:Int):evalExt x false [J4 y]=some (min x y):=by
 show some (if y<x then y else x)=_
 congr 1
 split<;>omega
theorem zabw (a b:Tree) (fa:Fine a) (fb:Fine b) (p:AP) (mp:Nat) (E:List PEnt) (least:Int) (Q:J0):∀(n:Nat) (s:ASt) (bl:J1) (h:Nat) (_:AInv a b h s bl) (H:J2) (_:AM a b p mp E s H) (_:h<1000000) (_:(n:Int)=max 0 ((h:Int)+1-max 1 least))
 (_:∀H',AM a b p mp E (runH a b n h s) H'->Q .normal [(9, .v (J5 p.lb 0 0))] ⟨[],H'⟩),
 wpLoop (CW tr.look) 167 m_Q23_3 l_Q23_3 (blkK 2 b_Q23_2 Q) [(2, .int .i64 least),(7, .v (J5 p.xb 0 0)),(8, .v (J5 p.yb 0 0)),(9, .v (J5 p.lb 0 0)),(10, .v (pfn p)),(11, .v (.map mp)),(13, .int .i64 h)] ⟨[],H⟩:=by
 intro n
 induction n with
 |zero =>
  intro s bl h hI H hM h6 hn hQ
  refine zbp ?_
  dsimp only[l_Q23_3]
  have hlt:¬(max 1 least:Int)<=(h:Int):=by omega
  simp(disch:=omega) [zvj]
  exact hQ H hM
 |succ n ih =>
  intro s bl h hI H hM h6 hn hQ
  refine zbp ?_
  dsimp only[l_Q23_3]
  have hlt:(max 1 least:Int)<=(h:Int):=by omega
  simp(disch:=omega) [zvj]
  refine zagh a b fa fb p mp E least s bl h hI H hM _ fun H' hH'=>?_
  obtain⟨bl',hI'⟩:=zjv hI (Am a.size)
  have hc:(h:Int)-1=((h-1:Nat):Int):=by omega
  simp(disch:=omega) [zaa,hc]
  refine ih _ bl' (h-1) (hI'.mono (Nat.sub_le h 1)) H' hH' (by omega) (by omega) fun H2 hH2=>hQ H2 ?_
  exact hH2
def PV (v:PVal) (L:J1):Prop:=(v = .nilslice/\L=[])\/v = .slice 2 L.length (prc L)
theorem zavz (L:J1):L.flatMap pc=pcells (prc L):=by
 simp[pcells,prc,List.map_flatMap]
 rfl
theorem zakg:∀L:J1,(prc L).length=L.length*2
 | []=>rfl
 |p::L=>by
  have:=zakg L
  unfold prc at this ⊢
  rw[AD,Af,this]
  simp
  omega
theorem zpj (L:J1):(pcells (prc L)).length=L.length*2:=by rw[pcells,A4,zakg]
theorem zbcg {p:AP} {ps:J1} {H:J2} (h:LOK p ps H) (hn:(ps.map (·.1)).Nodup) (hb:ps.length<1000000):∃lv H',H[p.lb]? = some (.cells [lv] 1 0 false)/\up lv = .v lv/\lv.passOK=true /\
 CW tr.look F_Q30 [lv, .p (.func F_Q59)] H=some (.tup [],H')/\H'[p.lb]? = some (.cells [lv] 1 0 false)/\(lv = .p .nilslice/\sortP ps=[]\/∃ll,HS H' ll 2 (sortP ps).length lv (pcells (prc (sortP ps)))):=by
 obtain⟨lv,e1,e2⟩:=h
 have hlb:p.lb∈p.all:=by simp[AP.all]
 have hset:∀ {v:IVal} {H:J2} {r:IVal×J2},sortSpec pairKit F_Q59 [v, .p (.func F_Q59)] H=some r->seatBase.b F_Q30 [v, .p (.func F_Q59)] H=some r:=fun h=>zmh (by simp) h
 have hlen:(sortP ps).length=ps.length:=(zaw ps).length_eq
 rcases e2 with⟨rfl,rfl⟩|⟨ll,hll,⟨ver,cs,op,rfl,hk,hl,hx⟩,h0⟩
 ·refine⟨_,H,e1,rfl,rfl,zqk none_Q30 ?_,e1, .inl ⟨rfl,by simp[sortP]⟩⟩
  exact hset (zoo _ _ _)
 ·have hsz:(ps.map toI).toArray.size=ps.length:=by simp
  have hs:=zop pairKit F_Q59 (H:=H) (i:=ll) (ver:=ver) (off:=0) (ps.map toI).toArray hk (by omega) (by omega) (by rw[hsz];show 0+ps.length*2<=_;omega) (by
   rw[hsz,zuu,<-zavz,Bz];exact hx)
  rw[hsz,zoq hn,zuu]at hs
  refine⟨_,_,e1,rfl,rfl,zqk none_Q30 (hset hs),?_, .inr ⟨ll,ver,_,op,by rw[hlen],zaq (Aa.1 hk).1,?_,?_⟩⟩
  ·rw[Ad (fun e:ll=p.lb=>hll (by rw[e];exact hlb))];exact e1
  ·have:(pcells (prc (sortP ps))).length=ps.length*2:=by rw[zpj,hlen]
   simp only[splice,Af,A0,Br,hlen];omega
  ·have:(pcells (prc (sortP ps))).length=(sortP ps).length*2:=by rw[zpj]
   simp only[splice,Cw,AN]
   rw[BM (by omega),Au (by omega)]
theorem zabx (a b:Tree) (ha:Fine a) (hb:Fine b) (sa:StrT a) (sb:StrT b) (least:Int) (ca:checkB a=true) (cb:checkB b=true) (hs:¬SameT a b):∃r,CW tr.look F_Q23 [tagg a,tagg b, J4 least] []=some (r,[])/\∃pv,r = .p pv/\PV pv (sortP (alikeN a b least)):=by
 have h1:=zbx a ha.1
 have h2:=zbx b hb.1
 rw[ca]at h1
 rw[cb]at h2
 obtain⟨B0,hB0⟩:∃B0,B0=IBlk.cells [IVal.p .nilptr] 1 0 false:=⟨_,rfl⟩
 obtain⟨H1,kl,il,o1,o2,o3,o4,o5,o6⟩:=zvh a ha sa [B0,B0]
 obtain⟨H2,kl2,il2,q1,q2,q3,q4,q5,q6⟩:=zvh b hb sb H1
 have hsm:=zvd _ a b (Ai _) ha
 rw[decide_eq_false hs]at hsm
 have k0:H2[0]? = some B0:=by rw[q2.2 0 (by have:=o2.1;simp at this;omega) (by simp),o2.2 0 (by simp) (by simp)];rfl
 have k1:H2[1]? = some B0:=by rw[q2.2 1 (by have:=o2.1;simp at this;omega) (by simp),o2.2 1 (by simp) (by simp)];rfl
 have k0l:=(Aa.1 k0).1
 have k1l:=(Aa.1 k1).1
 have j0:H1[0]? = some B0:=by rw[o2.2 0 (by simp) (by simp)];rfl
 have j1:H1[1]? = some B0:=by rw[o2.2 1 (by simp) (by simp)];rfl
 rw[hB0]at k0 k1 o1 j0 j1
 have w1:=zan (bx:=[]) (off:=0) (new:=[J5 2 0 0]) k0 (by simp)
 have k1':(H2.set 0 (.cells [J5 2 0 0] 1 0 false))[1]? = some (.cells [.p .nilptr] 1 0 false):=by rw[Ad (by omega)];exact k1
 have w2:=zan (bx:=[]) (off:=0) (new:=[J5 H1.length 0 0]) k1' (by simp)
 have sp:∀x:IVal,splice [IVal.p .nilptr] 0 [x]=[x]:=fun _=>rfl
 rw[sp]at w1 w2
 refine zfk look_Q23 rfl (zbn (by simp)) rfl ?_
 dsimp only[i_Q23,c_Q23]
 simp only[AA,BT]at o1
 have o3':2<kl:=by simpa using o3
 have o4':2<il:=by simpa using o4
 have l1:2<H1.length:=by have:=o6;obtain⟨kv,iv,e1,_⟩:=this;simpa using(Aa.1 e1).1
 have l1k:kl<H1.length:=by obtain⟨kv,iv,e1,e2,e3⟩:=o6;exact e2.lt
 have l1i:il<H1.length:=by obtain⟨kv,iv,e1,e2,e3⟩:=o6;exact e3.lt
 have l2:H1.length<H2.length/\kl2<H2.length/\il2<H2.length:=by obtain⟨kv,iv,e1,e2,e3⟩:=q6;exact⟨(Aa.1 e1).1,e2.lt,e3.lt⟩
 obtain⟨K,hK⟩:∃K,(H2.set 0 (IBlk.cells [IVal.ptr (Key.heap 2) 0 0] 1 0 false)).set 1 (IBlk.cells [IVal.ptr (Key.heap H1.length) 0 0] 1 0 false)++[IBlk.cells [IVal.p PVal.nilslice] 1 0 false]=K:=⟨_,rfl⟩
 have hKx:∀x,1<x->x<H2.length->K[x]? = H2[x]? := fun x h1 h2=>by
  rw[<- hK,Ab (by simp;omega),Ad (by omega),Ad (by omega)]
 obtain⟨p0,hp0⟩:∃p0:AP,p0=⟨0,1,H2.length,2,H1.length,kl,il,kl2,il2,[]⟩:=⟨_,rfl⟩
 have hAS:AS a b p0 (List.replicate a.size false) (List.replicate b.size false) [] K:=by
  subst hp0
  refine⟨?_,?_,?_,by simp,by simp,?_,?_,?_⟩
  ·simp[AP.all];omega
  ·rw[<- hK,Ab (by simp;omega),Ad (show(1:Nat)≠0 by omega)];exact zaq k0l
  ·rw[<- hK,Ab (by simp;omega)];exact zaq (by simpa using k1l)
  ·have:SideOK a 2 kl il (List.replicate a.size false) H1:=o6
   exact this.keep (by rw[hKx 2 (by omega) (by omega),q2.2 2 l1 (by simp)]) (by rw[hKx kl (by omega) (by omega),q2.2 kl l1k (by simp)]) (by rw[hKx il (by omega) (by omega),q2.2 il l1i (by simp)])
  ·exact q6.keep (hKx _ (by omega) (by omega)) (hKx _ (by omega) (by omega)) (hKx _ (by omega) (by omega))
  ·refine⟨.p .nilslice,?_, .inl ⟨rfl,rfl⟩⟩
   rw[<- hK,Ae (by simp)];simp;rfl
 have hb0:∀x∈p0.fz,x<K.length:=by rw[hp0];simp
 have hall:=hAS.lt hb0
 have hfz0:p0.fz=[]:=by rw[hp0]
 have exb:p0.xb=0:=by rw[hp0]
 have eyb:p0.yb=1:=by rw[hp0]
 have elb:p0.lb=H2.length:=by rw[hp0]
 have hKlb:∀lv,K[p0.lb]? = some (.cells [lv] 1 0 false)->lv = .p .nilslice:=by
  intro lv h
  rw[elb,<-hK,Ae (by simp)]at h
  rw[show H2.length-((H2.set 0 (IBlk.cells [IVal.ptr (Key.heap 2) 0 0] 1 0 false)).set 1 (IBlk.cells [IVal.ptr (Key.heap H1.length) 0 0] 1 0 false)).length=0 by simp,AK]at h
  cases h
  rfl
 have hAS1:AS a b p0 (List.replicate a.size false) (List.replicate b.size false) [] (K++[.map [] 0]):=by
  have hk:∀x∈p0.all,(K++[IBlk.map [] 0])[x]? = K[x]? := fun x hx=>Ab (hall x hx)
  have mem:p0.xb∈p0.all/\p0.yb∈p0.all/\p0.lb∈p0.all/\p0.x0∈p0.all/\p0.y0∈p0.all/\p0.xk∈p0.all/\p0.xi∈p0.all/\p0.yk∈p0.all/\p0.yi∈p0.all:=by simp[AP.all]
  obtain⟨m1,m2,m3,m4,m5,m6,m7,m8,m9⟩:=mem
  exact⟨hAS.nd,(hk _ m1).trans hAS.xb,(hk _ m2).trans hAS.yb,hAS.lx,hAS.lz,hAS.sx.keep (hk _ m4) (hk _ m6) (hk _ m7),hAS.sy.keep (hk _ m5) (hk _ m8) (hk _ m9),
   hAS.l.keep (hk _ m3) fun x _ hx=>Ab hx⟩
 simp(disch:=omega) [zad,h1,h2,o1,q1,w1,w2,hsm,j0,j1,k0,k1,hK]
 subst hp0
 refine zabv a b _ hfz0 hb.1 _ _ _ _ _ _ _ _ hAS1 K.length (by rw[Ae (Am _),Bk];rfl) (fun h=>by have:=hall _ h;omega) (fun lv h=>hKlb lv (by rw[Ab (hall _ (by simp[AP.all]))]at h;exact h)) _ fun H E hA hPM hlt hkp hle=>?_
 have lx:=zae (bx:=[]) (off:=0) hA.xb rfl
 have ly:=zae (bx:=[]) (off:=0) hA.yb rfl
 have l5x:=zpi hA.sx
 have l5y:=zpi hA.sy
 have one:=zac a
 have oneb:=zac b
 have hv0:∀t:Tree,t.items[0]? = some (fullOf ⟨t, -1,0,0⟩):=fun t=>by
  rw[Tree.items,zdz,Ap,show visT t 0 (-1) 0 0=t.vis from rfl,show t.vis=visT t 0 (-1) 0 0 from rfl,zbj];rfl
 have ixa:idxS 10 (.p (ival a)) (J4 0)=_:=zbq (hv0 a)
 have ixb:idxS 10 (.p (ival b)) (J4 0)=_:=zbq (hv0 b)
 simp(disch:=omega) [lx,ly,l5x,l5y,ixa,ixb,fullOf,zakf]
 have hca:=zeb a
 have ha6:=ha.1
 have hc:min (a.height:Int) (b.height:Int)=((min a.height b.height:Nat):Int):=by omega
 rw[hc]
 refine zabw a b ha hb { xb:=0,yb:=1,lb:=H2.length,x0:=2,y0:=H1.length,xk:=kl,xi:=il,yk:=kl2,yi:=il2,fz:=K.length::E.map (·.blk) } K.length E least _ (((min a.height b.height:Nat):Int)+1-max 1 least).toNat (ASt.start a b) [] (min a.height b.height) (zms a b _) H ⟨hA,hPM,rfl,hlt⟩ (by omega) (by omega) fun H' hM'=>?_
 obtain⟨h',bl',hI⟩:=zve (n:=(((min a.height b.height:Nat):Int)+1-max 1 least).toNat) (zms a b (min a.height b.height))
 have heq:alikeN a b least=(runH a b (((min a.height b.height:Nat):Int)+1-max 1 least).toNat (min a.height b.height) (ASt.start a b)).ps:=by
  rw[alikeN,if_neg hs]
 obtain⟨lv,H5,s1,s2,s3,s4,s5,s6⟩:=zbcg hM'.st.l hI.nx (by have:=hI.len;omega)
 rw[<- heq]at s6
 dsimp only at s1 s4 s5 s6
 have z1:=zae (bx:=[]) (off:=0) s1 rfl
 have z2:=zae (bx:=[]) (off:=0) s5 rfl
 have hden:(up lv).den=lv:=by rw[s2];rfl
 simp(disch:=omega) [z1,z2,s2,s3,s4]
 rcases s6 with⟨rfl,s6⟩|⟨ll,s6⟩
 ·exact⟨.p .nilslice,rfl, .nilslice,rfl, .inl ⟨rfl,s6⟩⟩
 ·have hz:=zdq s6
  obtain⟨ver,cs,op,rfl,_⟩:=s6
  rw[zcb]
  refine⟨_,by simp only[freezeOne,hz],_,rfl, .inr rfl⟩
theorem zapi {l:J1} (h:l.Pairwise fun p q=>p.1<=q.1):sortP l=l:=List.mergeSort_of_pairwise (h.imp fun h=>by simpa using h)
theorem zmt (i j:Nat) (k:Nat):(pairsN i j k).Pairwise fun p q=>p.1<=q.1:=by
 have h:((pairsN i j k).map (·.1)).Pairwise (· < ·):=by rw[zhb];exact List.pairwise_lt_range'
 rw[BX]at h
 exact h.imp fun h=>by omega
theorem zapj (a b:Tree) (ha:Fine a) (hb:Fine b) (sa:StrT a) (sb:StrT b) (least:Int) (ca:checkB a=true) (cb:checkB b=true):∃pv,PV pv (sortP (alikeN a b least))/\∀H,CW tr.look F_Q23 [tagg a,tagg b, J4 least] H=some (.p pv,H):=by
 by_cases hs:SameT a b
 ·refine⟨_, .inr ?_,zagg a b ha hb sa sb least ca cb hs⟩
  rw[alikeN,if_pos hs,zapi (zmt _ _ _),zfm]
  rfl
 ·obtain⟨r,h1,pv,rfl,h2⟩:=zabx a b ha hb sa sb least ca cb hs
  exact⟨pv,h2,fun H=>zns look_Q23 rfl (by simp) h1⟩
theorem zrl:∀L:J1,prcells L=prc L
 | []=>rfl
 |p::L=>by
  have:=zrl L
  simp only[prcells,prc,AD]at this ⊢
theorem zakh {g:FuncId} (hg:g∈[F_Q59,F_Q87,F_Q31]) (v:IVal) (o:Option Nat) (L:J1) (hn:(L.map (·.1)).Nodup) (hs:L.length<1000000) (H:J2) (h:VS H o 2 L.length v (pcells (prc L))) :
 ∃H',CW tr.look F_Q30 [v, .p (.func g)] H=some (.tup [],H')/\VS H' o 2 L.length v (pcells (prc (sortP L))):=by
 have hlen:(sortP L).length=L.length:=(zaw L).length_eq
 cases o with
 |none =>
  obtain⟨rfl,h1,h2⟩:=h
  have hL:L=[]:=Av.1 h1
  subst hL
  exact⟨H,zqk none_Q30 (zmh hg (zoo _ _ _)),rfl,rfl,by simp[sortP,prc,pcells]⟩
 |some k =>
  obtain⟨ver,cs,op,rfl,hk,hl,hx⟩:=h
  have hsz:(L.map toI).toArray.size=L.length:=by simp
  by_cases h0:L.length=0
  ·obtain rfl:L=[]:=Av.1 h0
   exact⟨H,zqk none_Q30 (zmh hg (zsj _ _ _ _ _ _)),ver,cs,op,rfl,hk,by omega,by simpa[sortP]using hx⟩
  ·have hs:=zop pairKit g (H:=H) (i:=k) (ver:=ver) (off:=0) (L.map toI).toArray hk (by omega) (by omega) (by rw[hsz];show 0+L.length*2<=_;omega) (by
    rw[hsz,zuu,Bz];exact hx)
   rw[hsz,zoq hn,zuu]at hs
   refine⟨_,zqk none_Q30 (zmh hg hs),ver,_,op,rfl,zaq (Aa.1 hk).1,?_,?_⟩
   ·have:(pcells (prc (sortP L))).length=L.length*2:=by rw[zpj,hlen]
    simp only[splice,Af,A0,Br];omega
   ·have:(pcells (prc (sortP L))).length=L.length*2:=by rw[zpj,hlen]
    simp only[splice,Cw,AN]
    rw[BM (by omega),Au (by omega)]
def mapping (s t:Tree):J1:=sortP (pr (postT s 0) (postT t 0) 0 0 [s] [t])
theorem zli (s t:Tree):(mapping s t).length<=s.size:=by
 have:=zyg (postT s 0) (postT t 0) 0 0 [s] [t]
 rw[zds]at this
 rw[mapping,(zaw _).length_eq]
 exact this
end Go.Ideal
namespace Go.Ideal
open Go
attribute [-simp] getElem?_pos
abbrev kI:KTy:=⟨false,[.int]⟩
def ME0:Nat->List (Int×IVal)->List (IVal×IVal×Nat)
 |_,[]=>[]
 |n,(k,v)::r=>(J4 k,v,n)::ME0 (n+1) r
def imap (E:List (Int×IVal)):IBlk := .map (ME0 0 E) E.length
def mfind (k:Int):List (Int×IVal)->Nat->Option (Nat×IVal)
 | [],_=>none
 |(a,v)::r,j=>if a=k then some (j,v)else mfind k r (j+1)
def mget (E:List (Int×IVal)) (k:Int):Option IVal:=(mfind k E 0).map (·.2)
theorem kI_eq (a b:Int):eqVals kI (J4 a) (J4 b)=some (decide (a=b)):=by
 by_cases h:a=b<;>simp[eqVals,clsEq,h]
theorem zyt (a:Int):isKey kI (J4 a)=true:=by rw[isKey,kI_eq]
theorem znt (k:Int):∀(E:List (Int×IVal)) (n j:Nat),findEnt kI (J4 k) (ME0 n E) j=some (mfind k E j)
 | [],n,j=>rfl
 |(a,v)::r,n,j=>by
  simp only[ME0,findEnt,kI_eq,mfind]
  by_cases h:a=k
  ·subst h
   simp only[decide_true,if_true]
  ·have h':¬k=a:=fun e=>h e.symm
   simp only[h,h',decide_false,if_false]
   exact znt k r (n+1) (j+1)
theorem zasf:∀(E:List (Int×IVal)) (n:Nat),(ME0 n E).length=E.length
 | [],_=>rfl
 |(a,v)::r,n=>by simp[ME0,zasf r]
theorem zaki:∀(E:List (Int×IVal)) (n:Nat) (k:Int) (v:IVal),ME0 n (E++[(k,v)])=ME0 n E++[(J4 k,v,n+E.length)]
 | [],n,k,v=>rfl
 |(a,w)::r,n,k,v=>by simp[ME0,zaki r (n+1)];omega
theorem zrm {k:Int}:∀ {E:List (Int×IVal)} {n j:Nat} {v:IVal},mfind k E n=some (j,v)->n<=j/\E[j-n]? = some (k,v)
 | [],n,j,v,h=>by simp[mfind]at h
 |(a,w)::r,n,j,v,h=>by
  simp only[mfind]at h
  split at h
  ·rename_i e
   injection h with h
   injection h with h1 h2
   subst h1 h2 e
   exact⟨Am _,by rw[Bk];rfl⟩
  ·obtain⟨h1,h2⟩:=zrm h
   refine⟨by omega,?_⟩
   rw[show j-n=(j-(n+1))+1 by omega,Ax]
   exact h2
theorem zyu {k a:Int} {v:IVal}:∀ {E:List (Int×IVal)} {n:Nat},mfind k (E++[(a,v)]) n=match mfind k E n with|some p=>some p|none=>if a=k then some (n+E.length,v)else none
 | [],n=>by simp[mfind]
 |(b,w)::r,n=>by
  simp only[At,mfind]
  split
  ·rfl
  ·rw[zyu]
   simp only[AA]
   rw[show n+1+r.length=n+(r.length+1)by omega]
theorem zapk {k a:Int} {v:IVal} {E:List (Int×IVal)}:mget (E++[(a,v)]) k=match mget E k with|some p=>some p|none=>if a=k then some v else none:=by
 unfold mget
 rw[zyu]
 cases mfind k E 0 with
 |some p=>rfl
 |none =>
  simp only[Cc]
  split<;>rfl
theorem zyv {k:Int}:∀ {E:List (Int×IVal)} {n j:Nat} {v w:IVal} (l:Int),mfind k E n=some (j,v)->mfind l (E.set (j-n) (k,w)) n=if k=l then some (j,w)else mfind l E n
 | [],n,j,v,w,l,h=>by simp[mfind]at h
 |(a,u)::r,n,j,v,w,l,h=>by
  simp only[mfind]at h
  split at h
  ·rename_i e
   injection h with h
   injection h with h1 h2
   subst h1 h2 e
   simp only[Bk,B9,mfind]
   split<;>rfl
  ·rename_i hne
   have h0:=(zrm h).1
   rw[show j-n=(j-(n+1))+1 by omega,CK]
   simp only[mfind]
   split
   ·rename_i e
    subst e
    rw[if_neg (fun e=>hne e.symm)]
   ·exact zyv l h
theorem zapl {k:Int} {E:List (Int×IVal)} {j:Nat} {v w:IVal} (h:mfind k E 0=some (j,v)) (l:Int):mget (E.set j (k,w)) l=if k=l then some w else mget E l:=by
 have:=zyv (w:=w) l h
 rw[C7]at this
 unfold mget
 rw[this]
 split<;>rfl
theorem zakj:∀(E:List (Int×IVal)) (n j:Nat) (f:IVal×IVal×Nat->IVal×IVal×Nat) (k:Int) (w:IVal),(∀ p,E[j]? = some p->f (J4 p.1,p.2,n+j)=(J4 k,w,n+j))->(ME0 n E).modify j f=ME0 n (E.set j (k,w))
 | [],n,j,f,k,w,h=>by simp[ME0]
 |(a,v)::r,n,0,f,k,w,h=>by
  have:=h (a,v) rfl
  simp only[ME0,List.modify_zero_cons,B9]
  rw[Bi]at this
  rw[this]
 |(a,v)::r,n,j+1,f,k,w,h=>by
  simp only[ME0,List.modify_succ_cons,CK]
  rw[zakj r (n+1) j f k w (fun p hp=>by
   have:=h p (by simpa using hp)
   rw[show n+1+j=n+(j+1)by omega];exact this)]
theorem zakk:∀(E:List (Int×IVal)) (n j b:Nat),n<=b->b<n+E.length->findBorn (b:Int) (ME0 n E) j=some (j+(b-n))
 | [],n,j,b,h1,h2=>by simp at h2;omega
 |(a,v)::r,n,j,b,h1,h2=>by
  simp only[ME0,findBorn]
  by_cases e:n=b
  ·subst e;simp
  ·have e':¬(n:Int)=(b:Int):=by omega
   have:=zakk r (n+1) (j+1) b (by omega) (by simp at h2;omega)
   rw[decide_eq_false e']
   simp only
   rw[this]
   congr 1;omega
def mapUpdF (cls:KTy) (x k v:IVal) (H:J2):Option (IVal×J2):=(evalOp noOracle (three x k v) ⟨[],H⟩ (.mapUpd cls (.tmp 0) (.tmp 1) (.tmp 2))).map fun p=>(p.1,p.2.heap)
section
variable {C:Oracle} {ρ:Opd->SV} {M:KM} {k:SV->KM->Prop}
@[simp ↓ high] theorem zasg {c:KTy} {x y z:Opd}:wpOp C ρ M (.mapUpd c x y z) k=gets (mapUpdF c (ρ x).den (ρ y).den (ρ z).den M.H) (@hid _ ⟨fun p=>k (up p.1) ⟨M.B,p.2⟩⟩):=by
 have:wpOp C ρ M (.mapUpd c x y z) k=gets (evalOp C (fun o=>(ρ o).den) ⟨[],M.H⟩ (.mapUpd c x y z)) fun p=>k (up p.1) ⟨M.B,p.2.heap⟩:=rfl
 rw[this]
 unfold mapUpdF
 apply propext
 refine Iff.trans ?_ zjd.symm
 rfl
end
section
variable {H:J2} {m:Nat} {E:List (Int×IVal)} {k:Int}
theorem zje (hm:H[m]? = some (imap E)) (z:IVal):lookupF true z kI (.map m) (J4 k) H=some (.tup [(mget E k).getD z, .p (.bool (mget E k).isSome)]):=by
 simp only[lookupF,evalOp,two,zyt,Mem.get,hm,imap,znt,mget]
 cases mfind k E 0<;>rfl
theorem zjx (hm:H[m]? = some (imap E)) (z:IVal):lookupF false z kI (.map m) (J4 k) H=some ((mget E k).getD z):=by
 simp only[lookupF,evalOp,two,zyt,Mem.get,hm,imap,znt,mget]
 cases mfind k E 0<;>rfl
theorem zvk (hm:H[m]? = some (imap E)) (hk:mget E k=none) {v:IVal} (hv:v.passOK=true):mapUpdF kI (.map m) (J4 k) v H=some (.tup [],H.set m (imap (E++[(k,v)]))):=by
 have h0:mfind k E 0=none:=by
  unfold mget at hk
  cases h:mfind k E 0 with
  |none=>rfl
  |some p=>rw[h]at hk;cases hk
 simp only[mapUpdF,evalOp,three,zyt,Mem.get,hm,imap,znt,hv,h0,Mem.put,AI,zaki,Af,AO,AB]
theorem zyw (hm:H[m]? = some (imap E)) {j:Nat} {u:IVal} (hk:mfind k E 0=some (j,u)) {v:IVal} (hv:v.passOK=true):mapUpdF kI (.map m) (J4 k) v H=some (.tup [],H.set m (imap (E.set j (k,v)))):=by
 have hj:=(zrm hk).2
 rw[C7]at hj
 simp only[mapUpdF,evalOp,three,zyt,Mem.get,hm,imap,znt,hv,hk,Mem.put,AI,AC]
 rw[zakj E 0 j _ k v (fun p hp=>rfl)]
theorem zov (hm:H[m]? = some (imap E)) (hk:mget E k=none) (z:IVal):mapEntF z kI (.map m) (J4 k) H=some (.tup [z, J4 (E.length:Nat)],H.set m (imap (E++[(k,z)]))):=by
 have h0:mfind k E 0=none:=by
  unfold mget at hk
  cases h:mfind k E 0 with
  |none=>rfl
  |some p=>rw[h]at hk;cases hk
 simp only[mapEntF,evalOp,two,zyt,Mem.get,hm,imap,znt,h0,Mem.put,AI,zaki,Af,AO,AB]
theorem ztp (hm:H[m]? = some (imap E)) {b:Nat} {p:Int×IVal} (hb:E[b]? = some p) {v:IVal} (hv:v.passOK=true):entStF (.map m) (J4 (b:Nat)) v H=some (.tup [],H.set m (imap (E.set b (p.1,v)))):=by
 have hl:=(Aa.1 hb).1
 simp only[entStF,evalOp,three,Mem.get,hm,imap,hv,Mem.put,AC]
 rw[zakk E 0 0 b (by omega) (by omega)]
 simp only[C7,AB,AI]
 rw[zakj E 0 b _ p.1 v (fun q hq=>by rw[hb]at hq;injection hq with hq;subst hq;rfl)]
end
def mapA (n:Nat) (ps:J1):List Int:=ps.foldl (fun l p=>l.set p.1 (p.2:Int)) (List.replicate n (-1))
def mapB (n:Nat) (ps:J1):List Int:=ps.foldl (fun l p=>l.set p.2 (p.1:Int)) (List.replicate n (-1))
theorem zvl (n:Nat) (ps:J1) (p:Nat×Nat):mapA n (ps++[p])=(mapA n ps).set p.1 (p.2:Int):=by simp[mapA,BY]
theorem zvm (n:Nat) (ps:J1) (p:Nat×Nat):mapB n (ps++[p])=(mapB n ps).set p.2 (p.1:Int):=by simp[mapB,BY]
theorem zff (n:Nat) (ps:J1):(mapA n ps).length=n:=by
 have key:∀(ps:J1) (l:List Int),(ps.foldl (fun l p=>l.set p.1 (p.2:Int)) l).length=l.length:=by
  intro ps
  induction ps with
  |nil=>intro l;rfl
  |cons p ps ih=>intro l;rw[CJ,ih,AC]
 rw[mapA,key,List.length_replicate]
theorem zhr (n:Nat) (ps:J1):(mapB n ps).length=n:=by
 have key:∀(ps:J1) (l:List Int),(ps.foldl (fun l p=>l.set p.2 (p.1:Int)) l).length=l.length:=by
  intro ps
  induction ps with
  |nil=>intro l;rfl
  |cons p ps ih=>intro l;rw[CJ,ih,AC]
 rw[mapB,key,List.length_replicate]
theorem zakl {α:Type} {P:List α->Prop} (h0:P []) (h1:∀l x,P l->P (l++[x])):∀l,P l:=by
 intro l
 rw[<- Ce l]
 generalize l.reverse=m
 induction m with
 |nil=>exact h0
 |cons x m ih=>rw[Bc];exact h1 _ _ ih
theorem zjy {n:Nat}:∀ps:J1,(ps.map (·.1)).Nodup->∀i,i<n->((∃ j,(i,j)∈ps/\(mapA n ps)[i]? = some (j:Int))\/(i∉ps.map (·.1)/\(mapA n ps)[i]? = some (-1))):=by
 refine zakl ?_ ?_
 ·intro _ i hi
  exact .inr ⟨by simp,by simp[mapA,hi]⟩
 ·intro l x ih hn i hi
  rw[Ay,Bb]at hn
  obtain⟨n1,_,n3⟩:=hn
  rw[zvl]
  by_cases he:x.1=i
  ·subst he
   refine .inl ⟨x.2,by simp,?_⟩
   rw[AZ (by rw[zff];exact hi)]
  ·rw[Ad he]
   rcases ih n1 i hi with⟨j,h1,h2⟩|⟨h1,h2⟩
   ·exact .inl ⟨j,by simp[h1],h2⟩
   ·exact .inr ⟨by rw[Ay,Ar];rintro(h|h);exact h1 h;simp at h;exact he h.symm,h2⟩
theorem zpk {n:Nat}:∀ps:J1,(ps.map (·.2)).Nodup->∀j,j<n->((∃ i,(i,j)∈ps/\(mapB n ps)[j]? = some (i:Int))\/(j∉ps.map (·.2)/\(mapB n ps)[j]? = some (-1))):=by
 refine zakl ?_ ?_
 ·intro _ i hi
  exact .inr ⟨by simp,by simp[mapB,hi]⟩
 ·intro l x ih hn i hi
  rw[Ay,Bb]at hn
  obtain⟨n1,_,n3⟩:=hn
  rw[zvm]
  by_cases he:x.2=i
  ·subst he
   refine .inl ⟨x.1,by simp,?_⟩
   rw[AZ (by rw[zhr];exact hi)]
  ·rw[Ad he]
   rcases ih n1 i hi with⟨j,h1,h2⟩|⟨h1,h2⟩
   ·exact .inl ⟨j,by simp[h1],h2⟩
   ·exact .inr ⟨by rw[Ay,Ar];rintro(h|h);exact h1 h;simp at h;exact he h.symm,h2⟩
def offA (A:List Int) (m:Nat):J1:=(List.range m).filterMap fun i=>if 0<=A.getD i (-1)then some (i,(A.getD i (-1)).toNat)else none
theorem zakm (A:List Int) (m:Nat):offA A (m+1)=if 0<=A.getD m (-1)then offA A m++[(m,(A.getD m (-1)).toNat)]else offA A m:=by
 unfold offA
 rw[Cs,List.filterMap_append]
 by_cases h:0<=A.getD m (-1)
 ·rw[if_pos h];simp only[List.filterMap_cons,if_pos h,List.filterMap_nil]
 ·rw[if_neg h];simp only[List.filterMap_cons,if_neg h,List.filterMap_nil,AQ]
theorem zapm (A:List Int) (m:Nat):(offA A m).length<=m:=by
 have:=List.length_filterMap_le (fun i=>if 0<=A.getD i (-1)then some (i,(A.getD i (-1)).toNat)else none) (List.range m)
 unfold offA;simpa using this
theorem zakn {n:Nat} {ps:J1} (hn:(ps.map (·.1)).Nodup) (hlt:∀p∈ps,p.1<n):offA (mapA n ps) n=sortP ps:=by
 have hs:(offA (mapA n ps) n).Pairwise fun p q=>p.1<q.1:=by
  unfold offA
  rw[List.pairwise_filterMap]
  refine CX.imp fun h b hb c hc=>?_
  split at hb
  ·split at hc
   ·injection hb with hb;injection hc with hc;subst hb hc;exact h
   ·cases hc
  ·cases hb
 refine zel hn ((De (hs.imp fun h e=>by subst e;omega) ?_).2 fun p=>?_) (hs.imp fun h=>Da h)
 ·exact(BX.1 hn).imp fun h e=>h (by rw[e])
 ·unfold offA
  rw[List.mem_filterMap]
  constructor
  ·rintro⟨i,hi,he⟩
   rw[B8]at hi
   rcases zjy ps hn i hi with⟨j,h1,h2⟩|⟨h1,h2⟩
   ·rw[Aj,h2,Bs,if_pos (by omega)]at he
    injection he with he
    rw[<- he]
    simpa using h1
   ·rw[Aj,h2,Bs,if_neg (by omega)]at he
    cases he
  ·intro hp
   have hlt:=hlt p hp
   refine⟨p.1,B8.2 hlt,?_⟩
   rcases zjy ps hn p.1 hlt with⟨j,h1,h2⟩|⟨h1,h2⟩
   ·have:=zabb hn hp h1 rfl
    rw[Aj,h2,Bs,if_pos (by omega),this]
    simp
   ·exact absurd (AW hp) h1
end Go.Ideal
namespace Go.Ideal
open Go
set_option maxHeartbeats 4000000
set_option maxRecDepth 20000
attribute [-simp] getElem?_pos
section
variable {H:J2} {L:List Int} {v:IVal}
def iv (l:List Int):J3:=l.map fun x=>J4 x
def MOK (k0 ka kb:Nat) (A B:List Int) (H:J2):Prop:=∃av bv,H[k0]? = some (.cells [av,bv] 2 0 false)/\HS H ka 1 A.length av (iv A)/\HS H kb 1 B.length bv (iv B)/\k0≠ka/\k0≠kb/\ka≠kb
theorem zako {x:Int} (hv:v = .p .nilslice/\L=[]\/∃kl,HS H kl 1 L.length v (iv L)) (hb:L.length<1000000) :
 up v = .v v/\∃v' H2 kl,evalAppend ⟨[],H++[.cells [J4 x] 1 0 false]⟩ 1 v (.slice H.length 0 0 1)=some (v',⟨[],H2⟩)/\(∃ a b c,v' = .slice a b 0 c)/\H.length<=H2.length/\HS H2 kl 1 (L++[x]).length v' (iv (L++[x]))/\(∀ y,y<H.length->y≠kl->H2[y]? = H[y]?)/\(H.length<=kl\/HS H kl 1 L.length v (iv L)):=by
 have hiv:iv (L++[x])=iv L++[J4 x]:=by simp[iv]
 rcases hv with⟨rfl,rfl⟩|⟨kl,hs⟩
 ·refine⟨rfl,_,_,H.length+1,append_nil (ys:=[J4 x]) (zbv (op:=false) zaz (by simp)) rfl (by omega) (by omega),⟨_,_,_,rfl⟩,by simp,⟨0,_,true,by simp,by rw[Ae (by simp)];simp;rfl,by simp,by simp[iv]⟩,fun y hy _=>?_, .inl (by omega)⟩
  rw[Ab (by simp;omega),Ab hy]
 ·have hs0:=hs
  obtain⟨ver,cs,op,rfl,hk,hn,hx⟩:=hs
  have hkl:=(Aa.1 hk).1
  have happ:=zbd (bx:=[]) (H:=H++[.cells [J4 x] 1 0 false]) (y := .slice H.length 0 0 1) (ny:=1) (by rw[Ab hkl];exact hk) hn (ys:=[J4 x]) (zbv (op:=false) (ver:=0) (n:=1) zaz (by simp)) rfl (by omega) (by omega)
  have hnew:=zgw (H:=H++[.cells [J4 x] 1 0 false]) (ver:=ver) (op:=op) (ys:=[J4 x]) (ny:=1) (k:=kl) (by simp;omega) hn (by simp)
  rw[hx]at hnew
  refine⟨rfl,_,_,kl,happ,⟨_,_,_,rfl⟩,by simp,by rw[hiv];simpa using hnew,fun y hy hne=>?_, .inr hs0⟩
  rw[Ad (Ne.symm hne),Ab hy]
def NOK (H:J2) (v:IVal) (L:List Int) (lo:Nat) (k:Nat):Prop:=v = .p .nilslice/\L=[]\/(lo<k/\HS H k 1 L.length v (iv L))
theorem zakp (n m:Nat) (hn:0<n/\n<1000000) (H0:J2) (Q:J0)
 (hQ:∀H' av ka,Keep (fun _=>False) H0 H'->H'[H0.length]? = some (.cells [av, .p .nilslice] 2 0 false)->H0.length<ka->HS H' ka 1 n av (iv (List.replicate n (-1)))->Q .normal [(1, .int .i64 m),(5, .v (J5 H0.length 0 0))] ⟨[],H'⟩) :
 wpLoop (CW tr.look) 39 m_Q72_0 l_Q72_0 (blkK 0 b_Q72_0 Q) [(0, .int .i64 n),(1, .int .i64 m),(5, .v (J5 H0.length 0 0)),(6, .int .i64 0)] ⟨[],H0++[.cells [.p .nilslice, .p .nilslice] 2 0 false]⟩:=by
 refine zab (α:=Nat×IVal×Nat×J2) (fun s=>[(0, .int .i64 n),(1, .int .i64 m),(5, .v (J5 H0.length 0 0)),(6, .int .i64 s.1)]) (fun s=>⟨[],s.2.2.2⟩)
  (fun s=>s.1<=n/\Keep (fun _=>False) H0 s.2.2.2/\s.2.2.2[H0.length]? = some (.cells [s.2.1, .p .nilslice] 2 0 false)/\NOK s.2.2.2 s.2.1 (List.replicate s.1 (-1)) H0.length s.2.2.1) (fun s=>n-s.1) ?_ (0, .p .nilslice,0,_) ⟨by simp,Keep.new,zaz, .inl ⟨rfl,rfl⟩⟩
 rintro⟨j,v,ka,H⟩ ⟨hj,hk,h0,hv⟩ L hL
 dsimp only at hj hk h0 hv hL ⊢
 dsimp only[l_Q72_0]
 have hb0:=(Aa.1 h0).1
 by_cases hjn:j<n
 ·have hlt:(j:Int)<(n:Int):=by omega
  obtain⟨hup,v',H2,kl,e1,⟨u1,u2,u3,rfl⟩,e3,e4,e5,e6⟩:=zako (H:=H) (x := -1) (hv.imp id fun h=>⟨ka,h.2⟩) (by simp;omega)
  have hkl:H0.length<kl:=by
   rcases e6 with e6|e6
   ·omega
   ·rcases hv with⟨rfl,_⟩|⟨g1,g2⟩
    ·obtain⟨_,_,_,h,_⟩:=e6;cases h
    ·obtain⟨_,_,_,rfl,_⟩:=e6
     obtain⟨_,_,_,h,_⟩:=g2
     cases h;exact g1
  have h2:H2[H0.length]? = some (.cells [v, .p .nilslice] 2 0 false):=by rw[e5 _ hb0 (by omega)];exact h0
  have l0:loadVal ⟨[],H⟩ none (J5 H0.length 0 0)=some v:=zae h0 rfl
  have hw:=zan (bx:=[]) (off:=0) (new:=[.slice u1 u2 0 u3]) h2 (by simp)
  simp(disch:=omega) [hlt,l0,hup,e1,hw,zaa]
  refine hL (j+1, .slice u1 u2 0 u3,kl,_) ⟨by dsimp only;omega,⟨?_,fun x hx _=>?_⟩,zaq (by omega), .inr ⟨hkl,?_⟩⟩ (by dsimp only;omega)
  ·have:=hk.1;dsimp only;rw[AC];omega
  ·dsimp only
   rw[Ad (by omega),e5 x (by have:=hk.1;omega) (by omega)]
   exact hk.2 x hx (by simp)
  ·dsimp only
   rw[show List.replicate (j+1) (-1:Int)=List.replicate j (-1)++[-1]from List.replicate_succ']
   exact e4.keep (by rw[Ad (by omega)])
 ·obtain rfl:j=n:=by omega
  simp(disch:=omega) []
  rcases hv with⟨_,h⟩|⟨g1,g2⟩
  ·have:=congrArg List.length h;simp at this;omega
  ·exact hQ H v ka hk h0 g1 (by simpa using g2)
theorem zakq (m:Nat) (hm:0<m/\m<1000000) (k0 ka:Nat) (A:List Int) (H0:J2) (av:IVal) (h00:H0[k0]? = some (.cells [av, .p .nilslice] 2 0 false)) (hka:k0<ka) (hA0:HS H0 ka 1 A.length av (iv A)) (Q:J0)
 (hQ:∀H' kb,(∀ x,x<H0.length->x≠k0->H'[x]? = H0[x]?)->H0.length<=H'.length->MOK k0 ka kb A (List.replicate m (-1)) H'->H0.length<=kb->Q .normal [(5, .v (J5 k0 0 0))] ⟨[],H'⟩) :
 wpLoop (CW tr.look) 39 m_Q72_1 l_Q72_1 (blkK 2 b_Q72_2 Q) [(1, .int .i64 m),(5, .v (J5 k0 0 0)),(7, .int .i64 0)] ⟨[],H0⟩:=by
 refine zab (α:=Nat×IVal×Nat×J2) (fun s=>[(1, .int .i64 m),(5, .v (J5 k0 0 0)),(7, .int .i64 s.1)]) (fun s=>⟨[],s.2.2.2⟩)
  (fun s=>s.1<=m/\H0.length<=s.2.2.2.length/\(∀ x,x<H0.length->x≠k0->s.2.2.2[x]? = H0[x]?)/\s.2.2.2[k0]? = some (.cells [av,s.2.1] 2 0 false)/\NOK s.2.2.2 s.2.1 (List.replicate s.1 (-1)) (H0.length-1) s.2.2.1) (fun s=>m-s.1) ?_ (0, .p .nilslice,0,_) ⟨by simp,Am _,fun _ _ _=>rfl,h00, .inl ⟨rfl,rfl⟩⟩
 rintro⟨j,v,kb,H⟩ ⟨hj,hle,hk,h0,hv⟩ L hL
 dsimp only at hj hk h0 hv hL hle ⊢
 dsimp only[l_Q72_1]
 have hb0:=(Aa.1 h0).1
 have hb00:=(Aa.1 h00).1
 have hkal:=hA0.lt
 by_cases hjn:j<m
 ·have hlt:(j:Int)<(m:Int):=by omega
  obtain⟨hup,v',H2,kl,e1,⟨u1,u2,u3,rfl⟩,e3,e4,e5,e6⟩:=zako (H:=H) (x := -1) (hv.imp id fun h=>⟨kb,h.2⟩) (by simp;omega)
  have hkl:H0.length-1<kl:=by
   rcases e6 with e6|e6
   ·omega
   ·rcases hv with⟨rfl,_⟩|⟨g1,g2⟩
    ·obtain⟨_,_,_,h,_⟩:=e6;cases h
    ·obtain⟨_,_,_,rfl,_⟩:=e6
     obtain⟨_,_,_,h,_⟩:=g2
     cases h;exact g1
  have h2:H2[k0]? = some (.cells [av,v] 2 0 false):=by rw[e5 _ hb0 (by omega)];exact h0
  have l0:loadVal ⟨[],H⟩ none (J5 k0 0 1)=some v:=zae h0 rfl
  have hw:=zan (bx:=[]) (off:=1) (new:=[.slice u1 u2 0 u3]) h2 (by simp)
  simp(disch:=omega) [hlt,l0,hup,e1,hw,zaa]
  refine hL (j+1, .slice u1 u2 0 u3,kl,_) ⟨by dsimp only;omega,?_,fun x hx hx0=>?_,zaq (by omega), .inr ⟨hkl,?_⟩⟩ (by dsimp only;omega)
  ·dsimp only;rw[AC];omega
  ·dsimp only
   rw[Ad (Ne.symm hx0),e5 x (by omega) (by omega)]
   exact hk x hx hx0
  ·dsimp only
   rw[show List.replicate (j+1) (-1:Int)=List.replicate j (-1)++[-1]from List.replicate_succ']
   exact e4.keep (by rw[Ad (by omega)])
 ·obtain rfl:j=m:=by omega
  simp(disch:=omega) []
  rcases hv with⟨_,h⟩|⟨g1,g2⟩
  ·have:=congrArg List.length h;simp at this;omega
  ·exact hQ H kb hk hle ⟨av,v,h0,hA0.keep (hk _ hkal (by omega)),g2,by omega,by omega,by omega⟩ (by omega)
def NewQ (n m:Nat) (H:J2) (r:IVal) (H':J2):Prop:=r = J5 H.length 0 0/\∃ka kb,Keep (fun _=>False) H H'/\MOK H.length ka kb (List.replicate n (-1)) (List.replicate m (-1)) H'/\H.length<ka/\H.length<kb
theorem zbch (n m:Nat) (hn:0<n/\n<1000000) (hm:0<m/\m<1000000) (H:J2):∃H' ka kb,CW tr.look F_Q72 [J4 n, J4 m] H=some (J5 H.length 0 0,H')/\Keep (fun _=>False) H H'/\MOK H.length ka kb (List.replicate n (-1)) (List.replicate m (-1)) H'/\H.length<ka/\H.length<kb:=by
 obtain⟨r,H',e1,rfl,ka,kb,e2⟩:=zat (args:=[J4 n, J4 m]) (H:=H) (Q:=NewQ n m H) look_Q72 rfl rfl (by
  dsimp only[i_Q72,c_Q72]
  simp(disch:=omega) []
  refine zakp n m hn H _ fun H1 av ka k1 k2 k3 k4=>?_
  simp(disch:=omega) []
  have k4':HS H1 ka 1 (List.replicate n (-1:Int)).length av (iv (List.replicate n (-1))):=by simpa using k4
  have hl1:=(Aa.1 k2).1
  refine zakq m hm H.length ka (List.replicate n (-1)) H1 av k2 k3 k4' _ fun H2 kb g1 g2 g3 g4=>?_
  simp(disch:=omega) []
  exact⟨rfl,ka,kb,⟨by have:=k1.1;omega,fun x hx _=>by rw[g1 x (by omega) (by omega)];exact k1.2 x hx (by simp)⟩,g3,k3,by omega⟩)
 exact⟨H',ka,kb,e1,e2⟩
theorem HS.setI {k:Nat} (h:HS H k 1 L.length v (iv L)) {j:Nat} (hj:j<L.length) (x:Int):up v = .v v/\∃ver B,idxS 1 v (J4 j)=some (J5 k ver j)/\writeCells ⟨[],H⟩ (J5 k ver j) [J4 x]=some ⟨[],H.set k B⟩/\HS (H.set k B) k 1 (L.set j x).length v (iv (L.set j x)):=by
 have h0:=h
 obtain⟨ver,cs,op,rfl,_⟩:=h
 obtain⟨B,w1,w2⟩:=h0.store (bx:=[]) (off:=j) (new:=[J4 x]) (by simp;omega)
 refine⟨rfl,ver,B,by have:=zba (e:=1) (k:=k) (v:=ver) (o:=0) (n:=L.length) (j:=j) hj;simpa using this,w1,?_⟩
 rw[AC]
 have:iv (L.set j x)=splice (iv L) j [J4 x]:=by
  rw[iv,CA,Bm,if_pos (by simpa using hj)]
  rfl
 rw[this]
 exact w2
theorem HS.getI {k:Nat} (h:HS H k 1 L.length v (iv L)) {j:Nat} (hj:j<L.length):up v = .v v/\sliceLen v=some L.length/\∃ver,idxS 1 v (J4 j)=some (J5 k ver j)/\loadVal ⟨[],H⟩ none (J5 k ver j)=some (J4 (L.getD j (-1))):=by
 have h0:=h
 obtain⟨ver,cs,op,rfl,_⟩:=h
 refine⟨rfl,rfl,ver,by have:=zba (e:=1) (k:=k) (v:=ver) (o:=0) (n:=L.length) (j:=j) hj;simpa using this,h0.field ?_⟩
 rw[iv,Ap,Aj,Ac hj];rfl
theorem zash {k0 ka kb:Nat} {A B:List Int} (h:MOK k0 ka kb A B H) (i j:Nat) (hi:i<A.length) (hj:j<B.length):∃H',CW tr.look F_Q38 [J5 k0 0 0, J4 i, J4 j] H=some (.tup [],H')/\MOK k0 ka kb (A.set i j) (B.set j i) H'/\H'.length=H.length/\∀x,x≠ka->x≠kb->H'[x]? = H[x]? := by
 obtain⟨av,bv,h1,h2,h3,h4,h5,h6⟩:=h
 obtain⟨u1,va,BA,i1,w1,s1⟩:=h2.setI hi (x:=j)
 have h3':HS (H.set ka BA) kb 1 B.length bv (iv B):=h3.keep (Ad h6)
 obtain⟨u2,vb,BB,i2,w2,s2⟩:=h3'.setI hj (x:=i)
 have l0:loadVal ⟨[],H⟩ none (J5 k0 0 0)=some av:=zae h1 rfl
 have h1':(H.set ka BA)[k0]? = some (.cells [av,bv] 2 0 false):=by rw[Ad (Ne.symm h4)];exact h1
 have l1:loadVal ⟨[],H.set ka BA⟩ none (J5 k0 0 1)=some bv:=zae h1' rfl
 obtain⟨r,H',e1,rfl,rfl⟩:=zat (args:=[J5 k0 0 0, J4 i, J4 j]) (H:=H) (Q:=fun r H'=>r = .tup []/\H'=(H.set ka BA).set kb BB) look_Q38 rfl rfl (by
  dsimp only[i_Q38,c_Q38]
  simp(disch:=omega) [l0,u1,i1,w1,l1,u2,i2,w2])
 refine⟨_,e1,⟨av,bv,?_,s1.keep ?_,s2,h4,h5,h6⟩,by simp,fun x hx hy=>?_⟩
 ·rw[Ad (Ne.symm h5)];exact h1'
 ·rw[Ad (Ne.symm h6)]
 ·rw[Ad (Ne.symm hy),Ad (Ne.symm hx)]
end
theorem zadw {k0 ka kb:Nat} (n m:Nat) (ps:J1) (i j sz:Nat) (hi:i+sz<=n) (hj:j+sz<=m) (hb:n<1000000/\m<1000000) {H:J2} (h:MOK k0 ka kb (mapA n ps) (mapB m ps) H) :
 ∃H',CW tr.look F_Q73 [J5 k0 0 0, J4 i, J4 j, J4 sz] H=some (.tup [],H')/\MOK k0 ka kb (mapA n (ps++pairsN i j sz)) (mapB m (ps++pairsN i j sz)) H'/\H'.length=H.length/\∀x,x≠ka->x≠kb->H'[x]? = H[x]? := by
 obtain⟨r,H',e1,rfl,e2⟩:=zat (args:=[J5 k0 0 0, J4 i, J4 j, J4 sz]) (H:=H) (Q:=fun r H'=>r = .tup []/\MOK k0 ka kb (mapA n (ps++pairsN i j sz)) (mapB m (ps++pairsN i j sz)) H'/\H'.length=H.length/\∀x,x≠ka->x≠kb->H'[x]? = H[x]?) look_Q73 rfl rfl (by
  dsimp only[i_Q73,c_Q73]
  simp(disch:=omega) []
  refine zab (α:=Nat×J2) (fun s=>[(0, .v (J5 k0 0 0)),(1, .int .i64 i),(2, .int .i64 j),(3, .int .i64 sz),(8, .int .i64 s.1)]) (fun s=>⟨[],s.2⟩)
   (fun s=>s.1<=sz/\MOK k0 ka kb (mapA n (ps++pairsN i j s.1)) (mapB m (ps++pairsN i j s.1)) s.2/\s.2.length=H.length/\∀x,x≠ka->x≠kb->s.2[x]? = H[x]?) (fun s=>sz-s.1) ?_ (0,H) ⟨by simp,by simpa[pairsN]using h,rfl,fun _ _ _=>rfl⟩
  rintro⟨k,K⟩ ⟨hk,hM,hlen,hfr⟩ L hL
  dsimp only at hk hM hlen hfr hL ⊢
  dsimp only[l_Q73_0]
  by_cases hks:k<sz
  ·have hlt:(k:Int)<(sz:Int):=by omega
   obtain⟨K',a1,a2,a3,a4⟩:=zash hM (i+k) (j+k) (by rw[zff];omega) (by rw[zhr];omega)
   simp only[B3]at a1
   simp(disch:=omega) [hlt,zaa,a1]
   refine hL (k+1,K') ⟨by dsimp only;omega,?_,by dsimp only;omega,fun x hx hy=>(a4 x hx hy).trans (hfr x hx hy)⟩ (by dsimp only;omega)
   dsimp only
   rw[pairsN,<-Aw,zvl,zvm]
   exact a2
  ·obtain rfl:k=sz:=by omega
   simp(disch:=omega) []
   exact⟨hM,hlen,hfr⟩)
 exact⟨H',e1,e2⟩
structure RM (a b:Tree) (k0 ka kb:Nat) (s:ASt) (H:J2):Prop where
 m:MOK k0 ka kb (mapA a.size s.ps) (mapB b.size s.ps) H
theorem zagi (a b:Tree) (fa:Fine a) (fb:Fine b) (k0 ka kb:Nat) (least:Int) (s:ASt) (bl:J1) (h i:Nat) (hI:AInv a b h s bl) (h0:0<i) (hi:i<a.size) (hbx:s.bx.getD i false=false) (hh:(subT a i).height=h) (H:J2) (hM:RM a b k0 ka kb s H)
 (Q:J0)
 (hQ:∀H',RM a b k0 ka kb (stepI a b h i s) H'->H'.length=H.length->(∀ x,x≠ka->x≠kb->H'[x]? = H[x]?)->Q .normal [(2, .int .i64 least),(7, .v (.p (rval a))),(8, .v (.p (rval b))),(9, .v (J5 k0 0 0)),(10, .int .i64 h),(11, .int .i64 i)] ⟨[],H'⟩) :
 wpLoop (CW tr.look) 114 m_Q35_0 l_Q35_0 (blkK 4 b_Q35_4 Q) [(2, .int .i64 least),(7, .v (.p (rval a))),(8, .v (.p (rval b))),(9, .v (J5 k0 0 0)),(10, .int .i64 h),(11, .int .i64 i),(12, .int .i64 1)] ⟨[],H⟩:=by
 have oneb:=zac b
 have hb6:=fb.1
 have hstep:stepI a b h i s=match findJ a b s.bz i with
  |none=>s
  |some j=>⟨markN s.bx i (subT a i).size,markN s.bz j (subT a i).size,s.ps++pairsN i j (subT a i).size⟩:=by
  unfold stepI
  refine if_neg ?_
  rintro(e|e|e)
  ·omega
  ·rw[hbx]at e;cases e
  ·exact e hh
 have hr1:List.range b.size=0::(List.range b.size).drop 1:=by
  have:=As (l:=List.range b.size) (i:=0) (by rw[List.length_range];omega)
  simpa using this
 have hf0:findJ a b s.bz i=((List.range b.size).drop 1).find? (okJ a b s.bz i):=by
  unfold findJ
  rw[hr1,B4]
  have:okJ a b s.bz i 0=false:=by simp[okJ]
  rw[this];rfl
 obtain⟨v,hv⟩:∃v,a.vis[i]? = some v:=⟨_,Ac (by rw[zas];exact hi)⟩
 have ixa:=zdd hv
 have hvt:=zdh hv
 refine zab (α:=Nat) (fun n=>[(2, .int .i64 least),(7, .v (.p (rval a))),(8, .v (.p (rval b))),(9, .v (J5 k0 0 0)),(10, .int .i64 h),(11, .int .i64 i),(12, .int .i64 n)]) (fun _=>⟨[],H⟩)
  (fun n=>0<n/\n<=b.size/\findJ a b s.bz i=((List.range b.size).drop n).find? (okJ a b s.bz i)) (fun n=>b.size-n) ?_ 1 ⟨by omega,by omega,hf0⟩
 rintro n ⟨hn0,hn,hfn⟩ L hL
 try dsimp only at hn0 hn hfn hL ⊢
 dsimp only[l_Q35_0]
 by_cases hnl:n<b.size
 ·have hlt:(n:Int)<(b.size:Int):=by omega
  obtain⟨w,hw⟩:∃w,b.vis[n]? = some w:=⟨_,Ac (by rw[zas];exact hnl)⟩
  have ixb:=zdd hw
  have hwt:=zdh hw
  have hdrop:(List.range b.size).drop n=n::(List.range b.size).drop (n+1):=by
   have:=As (l:=List.range b.size) (i:=n) (by simpa using hnl)
   simpa using this
  rw[hdrop,B4]at hfn
  obtain⟨av,bv,m1,m2,m3,m4,m5,m6⟩:=hM.m
  have l1:loadVal ⟨[],H⟩ none (J5 k0 0 1)=some bv:=zae m1 rfl
  obtain⟨u1,_,vr,g1,g2⟩:=m3.getI (j:=n) (by rw[zhr];exact hnl)
  have hsame:=zuv (subT a i) (subT b n) (fa.sub hi)
  have hneg:∀hok:okJ a b s.bz i n=false,findJ a b s.bz i=((List.range b.size).drop (n+1)).find? (okJ a b s.bz i):=fun hok=>by rw[hok]at hfn;exact hfn
  by_cases hht:(subT b n).height=h
  ·have hht':(w.t.height:Int)=(h:Int):=by rw[<- hwt];omega
   have hmark:s.bz.getD n false=true↔n∈s.ps.map (·.2):=(hI.snd n).symm
   rcases zpk s.ps hI.nz n hnl with⟨x,y1,y2⟩|⟨y1,y2⟩
   ·have hB:(mapB b.size s.ps).getD n (-1)=(x:Int):=by rw[Aj,y2];rfl
    rw[hB]at g2
    have hneg0:¬(x:Int)<0:=by omega
    have hbz:s.bz.getD n false=true:=hmark.2 (AW y1)
    have hok:okJ a b s.bz i n=false:=by unfold okJ;rw[hbz];simp
    simp(disch:=omega) [hlt,ixb,hht',l1,u1,g1,g2,hneg0,zaa]
    exact hL (n+1) ⟨by omega,by omega,hneg hok⟩ (by omega)
   ·have hB:(mapB b.size s.ps).getD n (-1) = -1:=by rw[Aj,y2];rfl
    rw[hB]at g2
    have hbz:s.bz.getD n false=false:=by
     cases e:s.bz.getD n false with
     |false=>rfl
     |true=>exact absurd (hmark.1 e) y1
    have hok:okJ a b s.bz i n=decide (SameT (subT a i) (subT b n)):=by unfold okJ;rw[hbz];simp[hn0]
    rw[hvt,hwt]at hsame
    by_cases hs:SameT (subT a i) (subT b n)
    ·rw[hok,decide_eq_true hs]at hfn
     have hs':SameT v.t w.t:=by rw[<- hvt,<-hwt];exact hs
     rw[decide_eq_true hs']at hsame
     have e1:=zbc hi
     have e2:=zbc hnl
     have e3:=hs.size
     obtain⟨H',p1,p2,p3,p4⟩:=zadw a.size b.size s.ps i n (subT a i).size e1 (by omega) ⟨fa.1,fb.1⟩ hM.m
     rw[hvt]at p1
     simp(disch:=omega) [hlt,ixa,ixb,hht',l1,u1,g1,g2,hsame,zad,p1]
     have hfin:=hQ H' ?_ p3 p4
     ·simpa using hfin
     ·rw[hstep,hfn]
      exact⟨p2⟩
    ·rw[hok,decide_eq_false hs]at hfn
     have hs':¬SameT v.t w.t:=by rw[<- hvt,<-hwt];exact hs
     rw[decide_eq_false hs']at hsame
     simp(disch:=omega) [hlt,ixa,ixb,hht',l1,u1,g1,g2,hsame,zad,zaa]
     exact hL (n+1) ⟨by omega,by omega,hfn⟩ (by omega)
  ·have hht':¬(w.t.height:Int)=(h:Int):=by rw[<- hwt];omega
   have hok:okJ a b s.bz i n=false:=by
    unfold okJ
    have:¬SameT (subT a i) (subT b n):=fun e=>hht (by rw[<- e.height];exact hh)
    simp[this]
   simp(disch:=omega) [hlt,ixb,hht',zaa]
   exact hL (n+1) ⟨by omega,by omega,hneg hok⟩ (by omega)
 ·obtain rfl:n=b.size:=by omega
  simp(disch:=omega) []
  have hnone:findJ a b s.bz i=none:=by rw[hfn,AV (by simp)];rfl
  refine hQ H ?_ rfl fun _ _ _=>rfl
  rw[hstep,hnone]
  exact hM
theorem zaby (a b:Tree) (fa:Fine a) (fb:Fine b) (k0 ka kb:Nat) (least:Int) (s:ASt) (bl:J1) (h:Nat) (hI:AInv a b h s bl) (H:J2) (hM:RM a b k0 ka kb s H) (Q:J0)
 (hQ:∀H',RM a b k0 ka kb (runI a b h a.size s) H'->H'.length=H.length->(∀ x,x≠ka->x≠kb->H'[x]? = H[x]?)->Q .normal [(2, .int .i64 least),(7, .v (.p (rval a))),(8, .v (.p (rval b))),(9, .v (J5 k0 0 0)),(10, .int .i64 h)] ⟨[],H'⟩) :
 wpLoop (CW tr.look) 114 m_Q35_1 l_Q35_1 (blkK 2 b_Q35_2 Q) [(2, .int .i64 least),(7, .v (.p (rval a))),(8, .v (.p (rval b))),(9, .v (J5 k0 0 0)),(10, .int .i64 h),(11, .int .i64 1)] ⟨[],H⟩:=by
 have one:=zac a
 have ha6:=fa.1
 refine zab (α:=Nat×J2) (fun x=>[(2, .int .i64 least),(7, .v (.p (rval a))),(8, .v (.p (rval b))),(9, .v (J5 k0 0 0)),(10, .int .i64 h),(11, .int .i64 x.1)]) (fun x=>⟨[],x.2⟩)
  (fun x=>0<x.1/\x.1<=a.size/\RM a b k0 ka kb (runI a b h x.1 s) x.2/\x.2.length=H.length/\∀y,y≠ka->y≠kb->x.2[y]? = H[y]?) (fun x=>a.size-x.1) ?_ (1,H) ⟨by simp,one,by
   have:runI a b h 1 s=s:=by simp[runI,stepI]
   dsimp only
   rw[this];exact hM,rfl,fun _ _ _=>rfl⟩
 rintro⟨i,K⟩ ⟨h0,hi,hA,hlen,hfr⟩ L hL
 dsimp only at h0 hi hA hlen hfr hL ⊢
 dsimp only[l_Q35_1]
 by_cases hil:i<a.size
 ·have hlt:(i:Int)<(a.size:Int):=by omega
  obtain⟨bl2,hI2⟩:=zjv hI (i:=i) hi
  obtain⟨v,hv⟩:∃v,a.vis[i]? = some v:=⟨_,Ac (by rw[zas];exact hil)⟩
  have ixa:=zdd hv
  have hvt:=zdh hv
  by_cases hh:(subT a i).height=h
  ·have hh':(v.t.height:Int)=(h:Int):=by rw[<- hvt];omega
   obtain⟨av,bv,m1,m2,m3,m4,m5,m6⟩:=hA.m
   have l0:loadVal ⟨[],K⟩ none (J5 k0 0 0)=some av:=zae m1 rfl
   obtain⟨u1,_,vr,g1,g2⟩:=m2.getI (j:=i) (by rw[zff];exact hil)
   have hmark:(runI a b h i s).bx.getD i false=true↔i∈(runI a b h i s).ps.map (·.1):=(hI2.fst i).symm
   rcases zjy (runI a b h i s).ps hI2.nx i hil with⟨x,y1,y2⟩|⟨y1,y2⟩
   ·have hB:(mapA a.size (runI a b h i s).ps).getD i (-1)=(x:Int):=by rw[Aj,y2];rfl
    rw[hB]at g2
    have hge:(0:Int)<=(x:Int):=by omega
    have hb:=hmark.2 (AW y1)
    simp(disch:=omega) [hlt,ixa,hh',l0,u1,g1,g2,hge,zaa]
    refine hL (i+1,K) ⟨by dsimp only;omega,by dsimp only;omega,?_,hlen,hfr⟩ (by dsimp only;omega)
    dsimp only
    rw[runI,stepI,if_pos (.inr (.inl hb))]
    exact hA
   ·have hB:(mapA a.size (runI a b h i s).ps).getD i (-1) = -1:=by rw[Aj,y2];rfl
    rw[hB]at g2
    have hb:(runI a b h i s).bx.getD i false=false:=by
     cases e:(runI a b h i s).bx.getD i false with
     |false=>rfl
     |true=>exact absurd (hmark.1 e) y1
    simp(disch:=omega) [hlt,ixa,hh',l0,u1,g1,g2]
    refine zagi a b fa fb k0 ka kb least _ bl2 h i hI2 h0 hil hb hh K hA _ fun H' q1 q2 q3=>?_
    simp(disch:=omega) [zaa]
    exact hL (i+1,H') ⟨by dsimp only;omega,by dsimp only;omega,q1,by dsimp only;omega,fun y z1 z2=>(q3 y z1 z2).trans (hfr y z1 z2)⟩ (by dsimp only;omega)
  ·have hh':¬(v.t.height:Int)=(h:Int):=by rw[<- hvt];omega
   simp(disch:=omega) [hlt,ixa,hh',zaa]
   refine hL (i+1,K) ⟨by dsimp only;omega,by dsimp only;omega,?_,hlen,hfr⟩ (by dsimp only;omega)
   dsimp only
   rw[runI,stepI,if_pos (.inr (.inr hh))]
   exact hA
 ·obtain rfl:i=a.size:=by omega
  simp(disch:=omega) []
  exact hQ K hA hlen hfr
theorem zyx (a b:Tree) (fa:Fine a) (fb:Fine b) (k0 ka kb:Nat) (least:Int) (H0:J2) (Q:J0):∀(n:Nat) (s:ASt) (bl:J1) (h:Nat) (_:AInv a b h s bl) (H:J2) (_:RM a b k0 ka kb s H) (_:H.length=H0.length/\∀x,x≠ka->x≠kb->H[x]? = H0[x]?) (_:h<1000000) (_:(n:Int)=max 0 ((h:Int)+1-max 1 least))
 (_:∀H',RM a b k0 ka kb (runH a b n h s) H'->H'.length=H0.length->(∀ x,x≠ka->x≠kb->H'[x]? = H0[x]?)->Q .normal [(9, .v (J5 k0 0 0))] ⟨[],H'⟩),
 wpLoop (CW tr.look) 114 m_Q35_2 l_Q35_2 (blkK 0 b_Q35_0 Q) [(2, .int .i64 least),(7, .v (.p (rval a))),(8, .v (.p (rval b))),(9, .v (J5 k0 0 0)),(10, .int .i64 h)] ⟨[],H⟩:=by
 intro n
 induction n with
 |zero =>
  intro s bl h hI H hM hfr h6 hn hQ
  refine zbp ?_
  dsimp only[l_Q35_2]
  have hlt:¬(max least 1:Int)<=(h:Int):=by omega
  simp(disch:=omega) [zvj,hlt]
  exact hQ H hM hfr.1 hfr.2
 |succ n ih =>
  intro s bl h hI H hM hfr h6 hn hQ
  refine zbp ?_
  dsimp only[l_Q35_2]
  have hlt:(max least 1:Int)<=(h:Int):=by omega
  simp(disch:=omega) [zvj,hlt]
  refine zaby a b fa fb k0 ka kb least s bl h hI H hM _ fun H' hH' q1 q2=>?_
  obtain⟨bl',hI'⟩:=zjv hI (Am a.size)
  have hc:(h:Int)-1=((h-1:Nat):Int):=by omega
  simp(disch:=omega) [zaa,hc]
  exact ih _ bl' (h-1) (hI'.mono (Nat.sub_le h 1)) H' hH' ⟨q1.trans hfr.1,fun x y1 y2=>(q2 x y1 y2).trans (hfr.2 x y1 y2)⟩ (by omega) (by omega) fun H2 hH2=>hQ H2 hH2
def RAQ (a b:Tree) (least:Int) (H:J2) (r:IVal) (H':J2):Prop:=r = J5 H.length 0 0/\∃ka kb,Keep (fun _=>False) H H'/\MOK H.length ka kb (mapA a.size (alikeN a b least)) (mapB b.size (alikeN a b least)) H'
theorem zakr (a b:Tree) (ha:Fine a) (hb:Fine b) (least:Int) (H:J2):∃H',CW tr.look F_Q35 [tagg a,tagg b, J4 least] H=some (J5 H.length 0 0,H')/\∃ka kb,Keep (fun _=>False) H H'/\MOK H.length ka kb (mapA a.size (alikeN a b least)) (mapB b.size (alikeN a b least)) H':=by
 have f1:=zcx a ha
 have f2:=zcx b hb
 have one:=zac a
 have oneb:=zac b
 have ha6:=ha.1
 have hb6:=hb.1
 obtain⟨H1,ka,kb,n1,n2,n3,n4,n5⟩:=zbch a.size b.size ⟨one,ha6⟩ ⟨oneb,hb6⟩ H
 have hsm:=zuv a b ha
 have hM0:RM a b H.length ka kb (ASt.start a b) H1:=⟨n3⟩
 obtain⟨r,H',e1,rfl,e2⟩:∃r H',CW tr.look F_Q35 [tagg a,tagg b, J4 least] H=some (r,H')/\RAQ a b least H r H':=by
  refine zat look_Q35 rfl rfl ?_
  dsimp only[i_Q35,c_Q35]
  by_cases hs:SameT a b
  ·rw[decide_eq_true hs]at hsm
   have hsz:=hs.size
   obtain⟨H2,w1,w2,w3,w4⟩:=zadw a.size b.size [] 0 0 a.size (by omega) (by omega) ⟨ha6,hb6⟩ n3
   have w1':CW tr.look F_Q73 [J5 H.length 0 0, J4 0, J4 0, J4 a.size] H1=some (.tup [],H2):=w1
   simp(disch:=omega) [zad,f1,f2,n1,hsm,w1']
   refine⟨rfl,ka,kb,⟨by have:=n2.1;omega,fun x hx _=>by rw[w4 x (by omega) (by omega)];exact n2.2 x hx (by simp)⟩,?_⟩
   rw[alikeN,if_pos hs]
   exact w2
  ·rw[decide_eq_false hs]at hsm
   obtain⟨va,hva⟩:∃v,a.vis[0]? = some v:=⟨_,Ac (by rw[zas];exact one)⟩
   obtain⟨vb,hvb⟩:∃v,b.vis[0]? = some v:=⟨_,Ac (by rw[zas];exact oneb)⟩
   have ta:va.t=a:=by rw[<- zdh hva,zfw]
   have tb:vb.t=b:=by rw[<- zdh hvb,zfw]
   have ixa:idxS 15 (.p (rval a)) (J4 0)=_:=zdd hva
   have ixb:idxS 15 (.p (rval b)) (J4 0)=_:=zdd hvb
   have hca:=zeb a
   have hc:min (a.height:Int) (b.height:Int)=((min a.height b.height:Nat):Int):=by omega
   simp(disch:=omega) [zad,f1,f2,n1,hsm,ixa,ixb,ta,tb,zakf]
   rw[hc]
   refine zyx a b ha hb H.length ka kb least H1 _ (((min a.height b.height:Nat):Int)+1-max 1 least).toNat (ASt.start a b) [] (min a.height b.height) (zms a b _) H1 hM0 ⟨rfl,fun _ _ _=>rfl⟩ (by omega) (by omega) fun H2 g1 g2 g3=>?_
   simp(disch:=omega) []
   refine⟨rfl,ka,kb,⟨by have:=n2.1;omega,fun x hx _=>by rw[g3 x (by omega) (by omega)];exact n2.2 x hx (by simp)⟩,?_⟩
   rw[alikeN,if_neg hs]
   exact g1.m
 exact⟨H',e1,e2⟩
end Go.Ideal
namespace Go.Ideal
open Go
attribute [-simp] getElem?_pos
def nk (l:List Tree):Option (List Tree):=if l=[]then none else some l
mutual
def Tree.norm:Tree->Tree
 | .mk k n x a ks=>.mk k n x (nattr a) (normK ks)
def normK:Option (List Tree)->Option (List Tree)
 |none=>none
 |some l=>nk (normL l)
def normL:List Tree->List Tree
 | []=>[]
 |t::r=>t.norm::normL r
end
theorem norm_eq (t:Tree):t.norm = .mk t.kind t.name t.text (nattr t.attrs) (nk (normL (klist t.kids))):=by
 obtain⟨k,n,x,a,ks⟩:=t
 cases ks<;>rfl
theorem zrn:∀l:List Tree,normL l=l.map Tree.norm
 | []=>rfl
 |t::l=>by rw[normL,zrn l];rfl
theorem zapn (l:List Tree):klist (nk l)=l:=by
 unfold nk
 split
 ·rename_i h;rw[h];rfl
 ·rfl
theorem zct (t:Tree):klist t.norm.kids=(klist t.kids).map Tree.norm:=by
 rw[norm_eq]
 show klist (nk _)=_
 rw[zapn,zrn]
theorem zap (t:Tree):t.norm.size=t.size:=by
 have key:∀(n:Nat) (t:Tree),t.size<n->t.norm.size=t.size:=by
  intro n
  induction n with
  |zero=>intro t h;omega
  |succ n ih =>
   intro t h
   have ht:=zag t
   have hl:∀l:List Tree,lsize l<n->lsize (l.map Tree.norm)=lsize l:=by
    intro l
    induction l with
    |nil=>intro _;rfl
    |cons u l ih2 =>
     intro hl
     simp only[lsize]at hl
     simp only[Aq,lsize,ih u (by omega),ih2 (by omega)]
   rw[zag,zct,hl _ (by omega),ht]
 exact key _ t (Ai _)
theorem zfn:∀l:List Tree,lsize (l.map Tree.norm)=lsize l
 | []=>rfl
 |t::l=>by simp only[Aq,lsize,zap,zfn l]
theorem zcf (t:Tree):t.norm.attrs=nattr t.attrs:=by rw[norm_eq];rfl
theorem zbl (t:Tree):t.norm.kind=t.kind/\t.norm.name=t.name/\t.norm.text=t.text:=by rw[norm_eq];exact⟨rfl,rfl,rfl⟩
theorem zjz (t:Tree):t.norm.nodes=t.nodes.map Tree.norm:=by
 have key:∀(n:Nat) (t:Tree),t.size<n->t.norm.nodes=t.nodes.map Tree.norm:=by
  intro n
  induction n with
  |zero=>intro t h;omega
  |succ n ih =>
   intro t h
   have ht:=zag t
   have hl:∀(l:List Tree),lsize l<n->lnodes (l.map Tree.norm)=(lnodes l).map Tree.norm:=by
    intro l
    induction l with
    |nil=>intro _;rfl
    |cons u l ih2 =>
     intro hl
     simp only[lsize]at hl
     simp only[Aq,lnodes,Ay,ih u (by omega),ih2 (by omega)]
   rw[zbu,zbu,zct,Aq,hl _ (by omega)]
 exact key _ t (Ai _)
theorem zhc {t:Tree} (h:Fine t):Fine t.norm:=by
 refine⟨by rw[zap];exact h.1,fun u hu=>?_⟩
 rw[zjz]at hu
 obtain⟨v,hv,rfl⟩:=AF.1 hu
 rw[zcf,zbe]
 exact h.2 v hv
theorem zro (t:Tree):SameT t.norm t:=by
 have key:∀(n:Nat) (t:Tree),t.size<n->SameT t.norm t:=by
  intro n
  induction n with
  |zero=>intro t h;omega
  |succ n ih =>
   intro t h
   have ht:=zag t
   obtain⟨a1,a2,a3⟩:=zbl t
   rw[zgh,zct]
   refine⟨⟨a1,a2,a3,by rw[zcf,zbe]⟩,by simp,fun j a b ha hb=>?_⟩
   rw[Ap,hb]at ha
   injection ha with ha
   subst ha
   have h1:=zam (Ao hb)
   exact ih b (by omega)
 exact key _ t (Ai _)
theorem zagj:∀(n:Nat) (t u:Tree),t.size<n->(SameT t.norm u.norm↔SameT t u):=by
 intro n
 induction n with
 |zero=>intro t u h;omega
 |succ n ih =>
  intro t u h
  have ht:=zag t
  obtain⟨a1,a2,a3⟩:=zbl t
  obtain⟨b1,b2,b3⟩:=zbl u
  rw[zgh,zgh,zct,zct,A4,A4]
  unfold SameNode
  rw[a1,a2,a3,b1,b2,b3,zcf,zcf,zbe,zbe]
  refine and_congr Iff.rfl (and_congr Iff.rfl ⟨fun g j x y hx hy=>?_,fun g j x y hx hy=>?_⟩)
  ·have:=g j x.norm y.norm (by rw[Ap,hx];rfl) (by rw[Ap,hy];rfl)
   have h1:=zam (Ao hx)
   exact(ih x y (by omega)).1 this
  ·rw[Ap]at hx hy
   cases hx':(klist t.kids)[j]? with
   |none=>rw[hx']at hx;cases hx
   |some x' =>
    cases hy':(klist u.kids)[j]? with
    |none=>rw[hy']at hy;cases hy
    |some y' =>
     rw[hx']at hx
     rw[hy']at hy
     cases hx;cases hy
     have h1:=zam (Ao hx')
     exact(ih x' y' (by omega)).2 (g j x' y' hx' hy')
theorem znu (t u:Tree):SameT t.norm u.norm↔SameT t u:=zagj _ t u (Ai _)
theorem zhs (t:Tree):t.norm.height=t.height:=(zro t).height
theorem ztq (t:Tree) (i:Nat):subT t i=(t.nodes[i]?).getD t:=by
 unfold subT
 rw[<- zcd t 0 (-1) 0 0,Ap]
theorem zbh (t:Tree) (i:Nat):subT t.norm i=(subT t i).norm:=by
 rw[ztq,ztq,zjz,Ap]
 cases t.nodes[i]? <;> rfl
theorem zagk (a b:Tree) (bz:List Bool) (i:Nat):findJ a.norm b.norm bz i=findJ a b bz i:=by
 unfold findJ
 rw[zap]
 congr 1
 funext j
 unfold okJ
 rw[zbh,zbh]
 congr 2
 exact decide_eq_decide.2 (znu _ _)
theorem zagl (a b:Tree) (h i:Nat) (s:ASt):stepI a.norm b.norm h i s=stepI a b h i s:=by
 unfold stepI
 rw[zagk,zbh,zhs,zap]
theorem zyy (a b:Tree) (h:Nat):∀(i:Nat) (s:ASt),runI a.norm b.norm h i s=runI a b h i s
 |0,s=>rfl
 |i+1,s=>by rw[runI,runI,zagl,zyy a b h i s]
theorem zyz (a b:Tree):∀(n h:Nat) (s:ASt),runH a.norm b.norm n h s=runH a b n h s
 |0,_,s=>rfl
 |n+1,h,s=>by rw[runH,runH,zap,zyy,zyz a b n]
theorem zabz (a b:Tree) (least:Int):alikeN a.norm b.norm least=alikeN a b least:=by
 unfold alikeN
 by_cases h:SameT a b
 ·rw[if_pos ((znu a b).2 h),if_pos h,zap]
 ·rw[if_neg (fun e=>h ((znu a b).1 e)),if_neg h,zhs,zhs,zyz]
  unfold ASt.start
  rw[zap,zap]
end Go.Ideal
namespace Go.Ideal
open Go
set_option maxHeartbeats 4000000
set_option maxRecDepth 20000
attribute [-simp] getElem?_pos
theorem zapo (a:Option Attrs) (ha:(alist a).length<1000000) (H:J2):CW tr.look F_Q19 [.p (aval a)] H=some (.p (aval (nattr a)),H):=by
 refine zaj look_Q19 rfl (by simp) rfl ?_
 dsimp only[i_Q19,c_Q19]
 obtain⟨w,H',a1,a2,a3,a4,a5,a6,a7,_⟩:=zya a ha []
 have a8:freezeRes H' w=some (.p (aval (nattr a))):=by
  have:freezeRes H' w=freezeOne H' w:=by
   cases w with
   |tup l=>cases a2
   |_=>rfl
  rw[this];exact a7
 simp(disch:=omega) [a1,a2,a6,a8]
theorem ztr:∀a b:List Tree,kcells (a++b)=kcells a++kcells b
 | [],b=>rfl
 |t::a,b=>by simp only[At,kcells,ztr a b,Aw]
theorem zaks (t:Tree) (hs:t.size<1000000) (hk:∀u∈klist t.kids,∀H,CW tr.look F_Q7 [tagg u] H=some (tagg u.norm,H)) {c0 c1 c2 c3:SV} {z:KB} (H0:J2) (Q:J0) {x0 x1 x2:SV} {x3:PVal}
 (hQ:∀H' kv,up kv = .v kv->kv≠.undef->freezeCell H' 100 kv=some (kval (nk (normL (klist t.kids))))->kv.cellsOf=some [kv]->Q .normal [(2, .box 2 0),(3, .box 3 0)] ⟨[(3,some ⟨[x0,x1,x2, .v (.p x3), .v kv],5⟩),(2,some z)],H'⟩) :
 wpLoop (CW tr.look) 34 m_Q7_0 l_Q7_0 (blkK 0 b_Q7_0 Q) [(1, .box 1 0),(2, .box 2 0),(3, .box 3 0),(4, .int .i64 0)] ⟨[(3,some ⟨[x0,x1,x2, .v (.p x3), .v (.p .nilslice)],5⟩),(2,some z),(1,some ⟨[c0,c1,c2,c3, .v (.p (kval t.kids))],5⟩)],H0⟩:=by
 refine zab (α:=Nat×IVal×Option Nat×J2) (fun a=>[(1, .box 1 0),(2, .box 2 0),(3, .box 3 0),(4, .int .i64 a.1)]) (fun a=>⟨[(3,some ⟨[x0,x1,x2, .v (.p x3), .v a.2.1],5⟩),(2,some z),(1,some ⟨[c0,c1,c2,c3, .v (.p (kval t.kids))],5⟩)],a.2.2.2⟩)
  (fun a=>a.1<=(klist t.kids).length/\VS a.2.2.2 a.2.2.1 5 a.1 a.2.1 (pcells (kcells (((klist t.kids).take a.1).map Tree.norm)))/\((a.1=0/\a.2.2.1=none)\/(0<a.1/\∃k,a.2.2.1=some k))) (fun a=>(klist t.kids).length-a.1) ?_ (0, .p .nilslice,none,H0) ⟨AU _,VS.nil, .inl ⟨rfl,rfl⟩⟩
 rintro⟨j,kv,o,H⟩ ⟨hj,hV,ho⟩ R hR
 dsimp only at hj hV ho hR ⊢
 dsimp only[l_Q7_0]
 have ht:=zag t
 have hkl:=zao (klist t.kids)
 have hup:=hV.up
 have hne:kv≠.undef:=by rintro rfl;exact absurd hV.pass (by decide)
 by_cases hc:j<(klist t.kids).length
 ·have hcc:=hk _ (A2 hc)
  obtain⟨kv',H',o',a1,a2,a3,a4,a5,k',rfl⟩:=hV.append1 (ys:=pcells (klist t.kids)[j].norm.cells) (by simp[Tree.zbb]) (by omega)
  have hup':=a2.up
  have hne':kv'≠.undef:=by rintro rfl;exact absurd a2.pass (by decide)
  have hco:=a2.cells
  have e:pcells (klist t.kids)[j].norm.cells=[.p (.int .i64 (klist t.kids)[j].norm.kind), .p (.str (klist t.kids)[j].norm.name), .p (.str (klist t.kids)[j].norm.text), .p (aval (klist t.kids)[j].norm.attrs), .p (kval (klist t.kids)[j].norm.kids)]:=by rw[Tree.zau];rfl
  rw[e]at a1
  simp(disch:=omega) [zcp,zad,hcc,hne,a1,hup',zgz hco hup',zaa]
  refine hR (j+1,kv',some k',H') ⟨by dsimp only;omega,?_, .inr ⟨by dsimp only;omega,_,rfl⟩⟩ (by dsimp only;omega)
  dsimp only
  rw[AE,Ac hc,Cq,Ay,ztr,zdj]
  simpa[kcells]using a2
 ·obtain rfl:j=(klist t.kids).length:=by omega
  rw[AT]at hV
  simp(disch:=omega) []
  refine hQ H kv hup hne ?_ hV.cells
  rw[zrn]
  unfold nk
  rcases ho with⟨h1,rfl⟩|⟨h1,k,rfl⟩
  ·obtain⟨rfl,_,_⟩:=hV
   rw[Av.1 h1];rfl
  ·have:(klist t.kids).map Tree.norm≠[]:=by
    intro e;have:=congrArg List.length e;simp at this;rw[this]at h1;simp at h1
   rw[zcz hV,if_neg this,kval,A4]
theorem zakt:∀(n:Nat) (t:Tree),t.size<n->Fine t->∀H,CW tr.look F_Q7 [tagg t] H=some (tagg t.norm,H):=by
 intro n
 induction n with
 |zero=>intro t h;omega
 |succ n ih =>
  intro t h hf H
  have ht:=zag t
  refine zaj look_Q7 rfl (by simp) rfl ?_
  dsimp only[i_Q7,c_Q7]
  have ha:=fun H=>zapo t.attrs (by have:=hf.2 t (zjs t);omega) H
  simp(disch:=omega) [ha]
  refine⟨rfl,?_⟩
  refine zaks t hf.1 (fun u hu H=>ih u (by have:=zam hu;omega) (hf.kid hu) H) _ _ ?_
  intro H' kv h1 h2 h3 h4
  simp(disch:=omega) []
  simp[freezeOne,freezeList,h3,tagg,norm_eq,Tree.zau]
  simp[Tree.kind,Tree.name,Tree.text,Tree.attrs,Tree.kids]
end Go.Ideal
namespace Go.Ideal
open Go
set_option maxHeartbeats 1000000
def bigNode (n x:Bytes) (a:Option Attrs):Prop:=20<(alist a).length\/200<n.length\/6000<x.length
def bigAttrs (a:Option Attrs):Prop:=∃p∈alist a,200<p.1.length\/6000<p.2.length
instance (n x:Bytes) (a:Option Attrs):Decidable (bigNode n x a):=by unfold bigNode;infer_instance
instance (a:Option Attrs):Decidable (bigAttrs a):=by unfold bigAttrs;infer_instance
mutual
def smallS:Tree->Nat->Nat->Bool×Nat
 | .mk _ n x a ks,d,c=>if 400<c+1\/70<d\/bigNode n x a\/bigAttrs a then(false,c+1)else smallK ks (d+1) (c+1)
def smallK:Option (List Tree)->Nat->Nat->Bool×Nat
 |none,_,c=>(true,c)
 |some l,d,c=>smallL l d c
def smallL:List Tree->Nat->Nat->Bool×Nat
 | [],_,c=>(true,c)
 |t::r,d,c=>if(smallS t d c).1=true then smallL r d (smallS t d c).2 else(false,(smallS t d c).2)
end
theorem zjf (t:Tree) (d c:Nat):smallS t d c=(if 400<c+1\/70<d\/bigNode t.name t.text t.attrs\/bigAttrs t.attrs then(false,c+1)else smallL (klist t.kids) (d+1) (c+1)):=by
 obtain⟨k,n,x,a,ks⟩:=t
 rw[smallS]
 cases ks<;>simp[Tree.name,Tree.text,Tree.attrs,Tree.kids,klist,smallK,smallL]<;>rfl
def cnt (n:Nat):IBlk := .cells [J4 n] 1 0 false
theorem zaca (t:Tree) (d i:Nat) (H:J2) (hs:(alist t.attrs).length<=20) (Q:J0) {c0 c1 c2 c4:SV}
 (h1:¬bigAttrs t.attrs->Q .normal [(1, .int .i64 d),(2, .v (J5 i 0 0)),(3, .box 3 0)] ⟨[(3,some ⟨[c0,c1,c2, .v (.p (aval t.attrs)),c4],5⟩)],H⟩)
 (h2:bigAttrs t.attrs->∀E B,lookE E 6 = .bool false->Q .ret E ⟨B,H⟩) :
 wpLoop (CW tr.look) 82 m_Q47_0 l_Q47_0 (blkK 0 b_Q47_0 Q) [(1, .int .i64 d),(2, .v (J5 i 0 0)),(3, .box 3 0),(7, .int .i64 0)] ⟨[(3,some ⟨[c0,c1,c2, .v (.p (aval t.attrs)),c4],5⟩)],H⟩:=by
 refine zab (α:=Nat) (fun j=>[(1, .int .i64 d),(2, .v (J5 i 0 0)),(3, .box 3 0),(7, .int .i64 j)]) (fun _=>⟨[(3,some ⟨[c0,c1,c2, .v (.p (aval t.attrs)),c4],5⟩)],H⟩)
  (fun j=>j<=(alist t.attrs).length/\∀p∈(alist t.attrs).take j,¬(200<p.1.length\/6000<p.2.length)) (fun j=>(alist t.attrs).length-j) ?_ 0 ⟨by omega,by simp⟩
 rintro j ⟨hj,ht⟩ L hL
 dsimp only[l_Q47_0]
 by_cases hjl:j<(alist t.attrs).length
 ·by_cases h3:(200:Int)<(alist t.attrs)[j].1.length
  ·simp(disch:=omega) [zbt]
   exact h2 ⟨_,A2 hjl, .inl (by omega)⟩ _ _ rfl
  ·by_cases h4:(6000:Int)<(alist t.attrs)[j].2.length
   ·simp(disch:=omega) [zbt]
    exact h2 ⟨_,A2 hjl, .inr (by omega)⟩ _ _ rfl
   ·simp(disch:=omega) [zbt,zaa]
    refine hL (j+1) ⟨by omega,?_⟩ (by omega)
    rw[AE,Ac hjl]
    intro p hp
    rcases Ar.1 hp with hp|hp
    ·exact ht p hp
    ·simp at hp;subst hp;omega
 ·obtain rfl:j=(alist t.attrs).length:=by omega
  simp -implicitDefEqProofs
  refine h1 ?_
  rw[AT]at ht
  rintro⟨p,hp,h⟩
  exact ht p hp h
theorem zaku:∀(n:Nat) (t:Tree) (d c:Nat),t.size<n->c+1<=(smallS t d c).2/\(c<=400->(smallS t d c).2<=401/\((smallS t d c).1=true->(smallS t d c).2<=400)):=by
 intro n
 induction n with
 |zero=>intro t d c h;omega
 |succ n ih =>
  intro t d c h
  have hl:∀(l:List Tree) (d c:Nat),lsize l<n->c<=(smallL l d c).2/\(c<=400->(smallL l d c).2<=401/\((smallL l d c).1=true->(smallL l d c).2<=400)):=by
   intro l
   induction l with
   |nil=>intro d c _;rw[smallL];exact⟨by omega,fun _=>⟨by omega,fun _=>by omega⟩⟩
   |cons t l ih2 =>
    intro d c hl
    rw[smallL]
    simp only[lsize]at hl
    have h1:=ih t d c (by omega)
    split
    ·rename_i hb
     have h2:=ih2 d (smallS t d c).2 (by omega)
     refine⟨by omega,fun hc=>?_⟩
     have:=(h1.2 hc).2 hb
     exact h2.2 this
    ·rename_i hb
     exact⟨by dsimp only;omega,fun hc=>⟨(h1.2 hc).1,fun e=>by cases e⟩⟩
  rw[zjf]
  split
  ·exact⟨by dsimp only;omega,fun hc=>⟨by dsimp only;omega,fun e=>by cases e⟩⟩
  ·rename_i hne
   have ht:=zag t
   have:=hl (klist t.kids) (d+1) (c+1) (by omega)
   exact⟨by omega,fun hc=>this.2 (by omega)⟩
theorem zza (t:Tree) (d c:Nat):c+1<=(smallS t d c).2/\(c<=400->(smallS t d c).2<=401/\((smallS t d c).1=true->(smallS t d c).2<=400)):=zaku _ t d c (Ai _)
def SmallOK (t:Tree):Prop:=∀(d c i:Nat) (H:J2),i<H.length->d<=71->c<=400->CW tr.look F_Q47 [tagg t, J4 d, J5 i 0 0] (H.set i (cnt c))=some (.p (.bool (smallS t d c).1),H.set i (cnt (smallS t d c).2))
theorem zagm (k:Option (List Tree)) (d i:Nat) (H:J2) (hi:i<H.length) (hd:d<=70) (hk:∀t∈klist k,SmallOK t) (Q:J0) {c0 c1 c2 c3:SV} (c:Nat) (hc:c<=400)
 (h1:(smallL (klist k) (d+1) c).1=true->Q .normal [] ⟨[],H.set i (cnt (smallL (klist k) (d+1) c).2)⟩)
 (h2:(smallL (klist k) (d+1) c).1=false->∀E B,lookE E 6 = .bool false->Q .ret E ⟨B,H.set i (cnt (smallL (klist k) (d+1) c).2)⟩) :
 wpLoop (CW tr.look) 82 m_Q47_1 l_Q47_1 (blkK 2 b_Q47_2 Q) [(1, .int .i64 d),(2, .v (J5 i 0 0)),(3, .box 3 0),(8, .int .i64 0)] ⟨[(3,some ⟨[c0,c1,c2,c3, .v (.p (kval k))],5⟩)],H.set i (cnt c)⟩:=by
 refine zab (α:=Nat×Nat) (fun a=>[(1, .int .i64 d),(2, .v (J5 i 0 0)),(3, .box 3 0),(8, .int .i64 a.1)]) (fun a=>⟨[(3,some ⟨[c0,c1,c2,c3, .v (.p (kval k))],5⟩)],H.set i (cnt a.2)⟩)
  (fun a=>a.1<=(klist k).length/\a.1<=a.2/\a.2<=400/\smallL ((klist k).drop a.1) (d+1) a.2=smallL (klist k) (d+1) c) (fun a=>(klist k).length-a.1) ?_ (0,c) ⟨by simp,by simp,hc,by simp⟩
 rintro⟨j,e⟩ ⟨hj,hje,he,hs⟩ L hL
 dsimp only at hj hje he hs hL ⊢
 dsimp only[l_Q47_1]
 by_cases hjl:j<(klist k).length
 ·have h3:=hk _ (A2 hjl) (d+1) e i H hi (by omega) he
  have hle:=zza (klist k)[j] (d+1) e
  rw[As hjl,smallL]at hs
  have hd1:((d:Int)+1)=((d+1:Nat):Int):=rfl
  cases hb:(smallS (klist k)[j] (d+1) e).1
  ·simp only[hb]at hs h3
   simp(disch:=omega) [zcp,zaa,zad,hd1,h3, -Int.natCast_add]
   simp at hs
   rw[<- hs]at h2
   exact h2 rfl _ _ rfl
  ·simp only[hb]at hs h3
   simp(disch:=omega) [zcp,zaa,zad,hd1,h3, -Int.natCast_add]
   have:=(hle.2 he).2 hb
   exact hL (j+1,(smallS (klist k)[j] (d+1) e).2) ⟨by dsimp only;omega,by dsimp only;omega,by dsimp only;omega,by simpa using hs⟩ (by dsimp only;omega)
 ·obtain rfl:j=(klist k).length:=by omega
  simp[smallL]at hs
  simp -implicitDefEqProofs
  rw[<- hs]at h1
  exact h1 rfl
theorem zapp:∀(n:Nat) (t:Tree),t.size<n->SmallOK t:=by
 intro n
 induction n with
 |zero=>intro t h;omega
 |succ n ih =>
  intro t h d c i H hi hd hc
  have ht:=zag t
  have hl:=fun n=>zae (bx:=[]) (x := J4 ((n:Nat):Int)) (off:=0) (zaq (b:=cnt n) hi) rfl
  have hw:writeCells ⟨[],H.set i (cnt c)⟩ (J5 i 0 0) [J4 (c+1)]=some ⟨[],H.set i (cnt (c+1))⟩:=by
   rw[zan (zaq (b:=cnt c) hi) (by simp)]
   simp[CD]
   rfl
  have hl2:=hl (c+1)
  obtain⟨r,H',h1,h2⟩:=zat (args:=[tagg t, J4 d, J5 i 0 0]) (H:=H.set i (cnt c)) (Q:=fun r H'=>r = .p (.bool (smallS t d c).1)/\H'=H.set i (cnt (smallS t d c).2)) look_Q47 rfl rfl (by
   dsimp only[i_Q47,c_Q47]
   rw[zjf]
   by_cases e1:400<c+1
   ·simp(disch:=omega) [hl,hw,zaa,e1]
   by_cases e2:70<d
   ·simp(disch:=omega) [hl,hw,zaa,e2]
   by_cases e3:20<(alist t.attrs).length
   ·simp(disch:=omega) [hl,hw,zaa,e3,bigNode]
   by_cases e4:200<t.name.length
   ·simp(disch:=omega) [hl,hw,zaa,e4,bigNode]
   by_cases e5:6000<t.text.length
   ·simp(disch:=omega) [hl,hw,zaa,e5,bigNode]
   have hn:¬bigNode t.name t.text t.attrs:=by unfold bigNode;omega
   simp(disch:=omega) [hl,hw,zaa]
   refine zaca t d i _ (by omega) _ (fun h=>?_) (fun h E B hE=>?_)
   ·have hd:¬(400<c+1\/70<d\/bigNode t.name t.text t.attrs\/bigAttrs t.attrs):=by
     rintro(h1|h1|h1|h1)
     ·exact e1 h1
     ·exact e2 h1
     ·exact hn h1
     ·exact h h1
    simp -implicitDefEqProofs
    refine zagm t.kids d i H hi (by omega) (fun u hu=>ih u (by have:=zam hu;omega)) _ (c+1) (by omega) (fun h=>?_) (fun h E B hE=>?_)
    ·simp[h,if_neg hd]
    ·simp[h,hE,if_neg hd]
   ·simp[hE,h])
  rw[h1,h2.1,h2.2]
theorem zagn (t:Tree) (H:J2):CW tr.look F_Q17 [tagg t] H=some (.p (.bool (smallS t 0 0).1),H):=by
 refine zaj look_Q17 rfl (by simp) rfl ?_
 dsimp only[i_Q17,c_Q17]
 have h0:([cnt 0]:J2)=[cnt 0].set 0 (cnt 0):=rfl
 have h1:=zapp _ t (Ai _) 0 0 0 [cnt 0] (by simp) (by omega) (by omega)
 have hw:writeCells ⟨[],[cnt 0]⟩ (J5 0 0 0) [J4 0]=some ⟨[],[cnt 0]⟩:=rfl
 simp only[B9,Int.natCast_zero]at h1
 have hc:IBlk.cells [J4 0] 1 0 false=cnt 0:=rfl
 simp(disch:=omega) [hc,hw,h1,zad]
theorem smallSize:∀(n:Nat) (t:Tree) (d c:Nat),t.size<n->(smallS t d c).1=true->(smallS t d c).2=c+t.size:=by
 intro n
 induction n with
 |zero=>intro t d c h;omega
 |succ n ih =>
  intro t d c h
  have hl:∀(l:List Tree) (d c:Nat),lsize l<n->(smallL l d c).1=true->(smallL l d c).2=c+lsize l:=by
   intro l
   induction l with
   |nil=>intro d c _ _;rw[smallL];rfl
   |cons t l ih2 =>
    intro d c hl
    rw[smallL]
    simp only[lsize]at hl ⊢
    split
    ·rename_i hb
     intro h2
     rw[ih2 d _ (by omega) h2,ih t d c (by omega) hb]
     omega
    ·intro e;cases e
  rw[zjf]
  split
  ·intro e;cases e
  ·have ht:=zag t
   intro h2
   rw[hl _ _ _ (by omega) h2]
   omega
end Go.Ideal
namespace Go.Ideal
open Go
attribute [-simp] getElem?_pos
def All2 (R:IVal->PVal->Prop):J3->List PVal->Prop
 | [],l=>l=[]
 |v::vs,l=>∃p ps,l=p::ps/\R v p/\All2 R vs ps
def frzP (P:Nat->Prop) (H:J2):Nat->IVal->PVal->Prop
 |0,_,_=>False
 |n+1,v,p=>match v with
  | .p w=>w=p
  | .slice k ver off len=>P k/\∃cs e op,H[k]? = some (.cells cs e ver op)/\off+len*e<=cs.length/\∃l,p = .slice e len l/\All2 (frzP P H n) ((cs.drop off).take (len*e)) l
  |_=>False
theorem All2.imp {R S:IVal->PVal->Prop} (h:∀v p,R v p->S v p):∀ {l:J3} {m:List PVal},All2 R l m->All2 S l m
 | [],_,e=>e
 |v::_,_,⟨p,ps,e,h1,h2⟩=>⟨p,ps,e,h v p h1,All2.imp h h2⟩
theorem All2.append {R:IVal->PVal->Prop}:∀ {l:J3} {m:List PVal} {l':J3} {m':List PVal},All2 R l m->All2 R l' m'->All2 R (l++l') (m++m')
 | [],m,l',m',e,h=>by simp only[All2]at e;subst e;exact h
 |v::vs,m,l',m',⟨p,ps,e,h1,h2⟩,h=>by subst e;exact⟨p,ps++m',rfl,h1,h2.append h⟩
theorem All2.plain {P:Nat->Prop} {H:J2} {n:Nat}:∀(l:List PVal),All2 (frzP P H (n+1)) (pcells l) l
 | []=>rfl
 |p::l=>⟨p,l,rfl,rfl,All2.plain l⟩
theorem zzb {P:Nat->Prop} {H:J2}:∀ {n:Nat} {v:IVal} {p:PVal},frzP P H n v p->frzP P H (n+1) v p
 |0,v,p,h=>h.elim
 |n+1,v,p,h=>by
  unfold frzP at h ⊢
  cases v with
  |p w=>exact h
  |slice k ver off len =>
   obtain⟨h1,cs,e,op,h2,h3,l,h4,h5⟩:=h
   exact⟨h1,cs,e,op,h2,h3,l,h4,h5.imp fun v p h=>zzb h⟩
  |_=>exact h
theorem zem {P:Nat->Prop} {H:J2} {n m:Nat} (hnm:n<=m) {v:IVal} {p:PVal} (h:frzP P H n v p):frzP P H m v p:=by
 induction hnm with
 |refl=>exact h
 |step _ ih=>exact zzb ih
theorem zcu {P Q:Nat->Prop} {H H':J2} (hk:∀k,P k->k<H.length->Q k/\H'[k]? = H[k]?):∀ {n:Nat} {v:IVal} {p:PVal},frzP P H n v p->frzP Q H' n v p
 |0,v,p,h=>h.elim
 |n+1,v,p,h=>by
  unfold frzP at h ⊢
  cases v with
  |p w=>exact h
  |slice k ver off len =>
   obtain⟨h1,cs,e,op,h2,h3,l,h4,h5⟩:=h
   obtain⟨g1,g2⟩:=hk k h1 (Aa.1 h2).1
   exact⟨g1,cs,e,op,by rw[g2];exact h2,h3,l,h4,h5.imp fun v p h=>zcu hk h⟩
  |_=>exact h
theorem zjg {P:Nat->Prop} {H:J2} {n:Nat} (hp:∀ {v:IVal} {p:PVal},frzP P H n v p->freezeCell H n v=some p):∀ {l:J3} {m:List PVal},All2 (frzP P H n) l m->freezeList (freezeCell H n) l=some m
 | [],m,e=>by simp only[All2]at e;subst e;rfl
 |v::vs,m,⟨p,ps,e,h1,h2⟩=>by
  subst e
  simp only[freezeList,hp h1,zjg hp h2]
theorem zrp {P:Nat->Prop} {H:J2}:∀ {n:Nat} {v:IVal} {p:PVal},frzP P H n v p->freezeCell H n v=some p
 |0,v,p,h=>h.elim
 |n+1,v,p,h=>by
  unfold frzP at h
  unfold freezeCell
  cases v with
  |p w=>simp only at h ⊢;rw[h]
  |slice k ver off len =>
   obtain⟨h1,cs,e,op,h2,h3,l,h4,h5⟩:=h
   have hb:(Nat.beq ver ver&&Nat.ble (off+len*e) cs.length)=true:=by
    rw[AH,A3];exact AG h3
   simp only[h2,hb,zjg (fun h=>zrp h) h5,h4]
  |_=>exact h.elim
theorem HS.frz {P:Nat->Prop} {H:J2} {n:Nat} {k e len:Nat} {v:IVal} {X:J3} {l:List PVal} (h:HS H k e len v X) (hP:P k) (hX:All2 (frzP P H n) X l):frzP P H (n+1) v (.slice e len l):=by
 obtain⟨ver,cs,op,rfl,h1,h2,h3⟩:=h
 exact⟨hP,cs,e,op,h1,by omega,l,rfl,by rw[Bz,h3];exact hX⟩
end Go.Ideal
