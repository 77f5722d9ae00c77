import Derived.Test.YtpcamifaefigaaaGreatW6
import Derived.Test.YtpcamifaefigaaaGreatW2
import Derived.Test.YtpcamifaefigaaaGreatW8
import Derived.Test.YtpcamifaefigaaaGreatW7
namespace Go.Ideal
open Go
set_option linter.unusedSectionVars false
section
variable [Tabs]
set_option maxHeartbeats 1000000
attribute [-simp] getElem?_pos
variable {H:J2}{m mp:Nat}{x y:Opd}
structure PEnt where
 key:Int×Int
 blk:Nat
 ids:List Nat
def keyI(k:Int×Int):J3:=[.p (.int .u64 k.1), .p (.int .u64 k.2)]
def idC(l:List Nat):J3:=l.map fun(i:Nat)=>J4 (i:Int)
theorem zahv(a b:Int×Int):eqVals ⟨true,[.int, .int]⟩ (.agg (keyI a)) (.agg (keyI b))=some (decide (a=b)):=by
 obtain⟨a1,a2⟩:=a;obtain⟨b1,b2⟩:=b;by_cases h1:a1=b1<;>by_cases h2:a2=b2<;>simp[keyI,eqVals,eqCls,clsEq,h1,h2]
theorem zabn(a:Int×Int):isKey ⟨true,[.int, .int]⟩ (.agg (keyI a))=true:=by rw[isKey,zahv]
def EOK(H:J2):List PEnt->List (IVal×IVal×Nat)->Nat->Prop
 | [],es,_=>es=[]
 |e::E,es,j=>∃v r,es=(.agg (keyI e.key),v,j)::r/\HS H e.blk 1 e.ids.length v (idC e.ids)/\EOK H E r (j+1)
theorem EOK.length:∀ {E:List PEnt}{es:List (IVal×IVal×Nat)}{j:Nat},EOK H E es j->es.length=E.length
 | [],es,j,h=>by simp only[EOK]at h;subst h;rfl
 |e::E,es,j,⟨v,r,h1,_,h2⟩=>by subst h1;simp[h2.length]
theorem EOK.keep{H':J2}:∀ {E:List PEnt}{es:List (IVal×IVal×Nat)}{j:Nat},EOK H E es j->(∀ e∈E,H'[e.blk]? = H[e.blk]?)->EOK H' E es j
 | [],es,j,h,_=>h
 |e::E,es,j,⟨v,r,h1,h2,h3⟩,hk=>⟨v,r,h1,h2.keep (hk e (by simp)),h3.keep fun x hx=>hk x (by simp[hx])⟩
theorem EOK.append{H:J2}{x:PEnt}{v:IVal}(hv:HS H x.blk 1 x.ids.length v (idC x.ids)):∀ {E:List PEnt}{es:List (IVal×IVal×Nat)}{j:Nat},EOK H E es j->EOK H (E++[x]) (es++[(.agg (keyI x.key),v,j+E.length)]) j
 | [],es,j,h=>by simp only[EOK]at h;subst h;exact⟨v,[],by simp,hv,rfl⟩
 |e::E,es,j,⟨w,r,h1,h2,h3⟩=>by
  subst h1;refine⟨w,_,rfl,h2,?_⟩;have:=EOK.append hv h3;rw[show j+1+E.length=j+(e::E).length by simp;omega]at this;exact this
theorem EOK.find{H:J2}{k:Int×Int}:∀ {E:List PEnt}{es:List (IVal×IVal×Nat)}{j:Nat}(i:Nat),EOK H E es j->(E.map (·.key)).Nodup ->
 (k∉E.map (·.key)/\findEnt ⟨true,[.int, .int]⟩ (.agg (keyI k)) es i=some none) \/
 ∃n e v,E[n]? = some e/\e.key=k/\findEnt ⟨true,[.int, .int]⟩ (.agg (keyI k)) es i=some (some (i+n,v))/\HS H e.blk 1 e.ids.length v (idC e.ids)/\es[n]? = some (.agg (keyI k),v,j+n)
 | [],es,j,i,h,_=>by simp only[EOK]at h;subst h;exact .inl ⟨by simp,rfl⟩
 |e::E,es,j,i,⟨v,r,h1,h2,h3⟩,hn=>by
  subst h1;rw[At,Bm]at hn;simp only[findEnt,zahv];by_cases hk:k=e.key
  ·subst hk;exact .inr ⟨0,e,v,rfl,rfl,by simp,h2,rfl⟩
  ·simp only[hk,decide_false];rcases EOK.find (i+1) h3 hn.2 with⟨g1,g2⟩|⟨n,e',v',g1,g2,g3,g4,g5⟩
   ·exact .inl ⟨by simp only[At,Am,not_or];exact⟨hk,g1⟩,g2⟩
   ·refine .inr ⟨n+1,e',v',by simpa using g1,g2,?_,g4,?_⟩
    ·rw[g3];congr 3;omega
    ·rw[Ar,g5];congr 3;omega
theorem EOK.born{H:J2}:∀ {E:List PEnt}{es:List (IVal×IVal×Nat)}{j:Nat}(i n:Nat),EOK H E es j->n<E.length->findBorn ((j+n:Nat):Int) es i=some (i+n)
 | [],es,j,i,n,h,hn=>by simp at hn
 |e::E,es,j,i,n,⟨v,r,h1,h2,h3⟩,hn=>by
  subst h1;simp only[findBorn];cases n with
  |zero=>simp
  |succ n =>
   rw[decide_eq_false (by omega)];have:=EOK.born (i+1) n h3 (by simpa using hn);rw[show(j+(n+1):Nat)=j+1+n by omega];dsimp only;rw[this];congr 1;omega
theorem EOK.set{H H':J2}{ids':List Nat}{v':IVal}:∀ {E:List PEnt}{es:List (IVal×IVal×Nat)}{j n:Nat}{e:PEnt},EOK H E es j->E[n]? = some e ->
 HS H' e.blk 1 ids'.length v' (idC ids')->(∀ m x,m≠n->E[m]? = some x->H'[x.blk]? = H[x.blk]?)->EOK H' (E.set n ⟨e.key,e.blk,ids'⟩) (es.modify n fun x=>(x.1,v',x.2.2)) j
 | [],es,j,n,e,h,hn,_,_=>by simp at hn
 |x::E,es,j,0,e,⟨v,r,h1,h2,h3⟩,hn,hv,hk=>by
  subst h1;cases hn;refine⟨v',r,by simp,hv,h3.keep fun y hy=>?_⟩;obtain⟨m,hm⟩:=AJ.1 hy;exact hk (m+1) y (by omega) (by simpa using hm)
 |x::E,es,j,n+1,e,⟨v,r,h1,h2,h3⟩,hn,hv,hk=>by
  subst h1;refine⟨v,r.modify n fun x=>(x.1,v',x.2.2),by simp,h2.keep (hk 0 x (by omega) rfl),?_⟩;exact EOK.set h3 (by simpa using hn) hv fun m y hm hy=>hk (m+1) y (by omega) (by simpa using hy)
def idsOf(f:Nat->Int×Int)(m:Nat)(k:Int×Int):List Nat:=(List.range m).filter fun i=>decide (0<i)&&decide (f i=k)
theorem zns(f:Nat->Int×Int)(m:Nat)(k:Int×Int):idsOf f (m+1) k=if 0<m/\f m=k then idsOf f m k++[m]else idsOf f m k:=by
 unfold idsOf;rw[Db,List.filter_append];by_cases h1:0<m<;>by_cases h2:f m=k<;>simp[h1,h2]
structure PM(f:Nat->Int×Int)(m mp:Nat)(E:List PEnt)(H:J2):Prop where
 mpe:∃es,H[mp]? = some (.map es E.length)/\EOK H E es 0
 ids:∀e∈E,e.ids=idsOf f m e.key
 all:∀i,0<i->i<m->f i∈E.map (·.key)
 ky:(E.map (·.key)).Nodup
 nd:(mp::E.map (·.blk)).Nodup
theorem PM.keep{f:Nat->Int×Int}{E:List PEnt}{H':J2}(h:PM f m mp E H)(hk:∀x∈mp::E.map (·.blk),H'[x]? = H[x]?):PM f m mp E H':=by
 obtain⟨⟨es,h1,h2⟩,h3,h4,h5,h6⟩:=h;exact⟨⟨es,by rw[hk _ (by simp)];exact h1,h2.keep fun e he=>hk _ (Ao _ (A3 he))⟩,h3,h4,h5,h6⟩
theorem PM.look{f:Nat->Int×Int}{E:List PEnt}(h:PM f m mp E H)(k:Int×Int){bx:List (Nat×IBlk)}{C:Oracle} {ρ:Opd->IVal}{x y:Opd}(hx:ρ x = .map mp)(hy:ρ y = .agg (keyI k)) :
 ∃v,evalOp C ρ ⟨bx,H⟩ (.lookup false (.p .nilslice) ⟨true,[.int, .int]⟩ x y)=some (v,⟨bx,H⟩)/\(v = .p .nilslice/\idsOf f m k=[]\/∃b∈E.map (·.blk),HS H b 1 (idsOf f m k).length v (idC (idsOf f m k))):=by
 obtain⟨⟨es,h1,h2⟩,h3,h4,h5,h6⟩:=h;have hg:Mem.get ⟨bx,H⟩ (.heap mp)=some (.map es E.length):=h1;simp only[evalOp,hx,hy,zabn,hg];rcases h2.find (k:=k) 0 h5 with⟨g1,g2⟩|⟨n,e,v,g1,g2,g3,g4,g5⟩
 ·refine⟨.p .nilslice,by rw[g2];rfl, .inl ⟨rfl,?_⟩⟩;refine BK.2 fun i hi=>?_;simp only[Aj,decide_eq_true_eq,not_and];intro hp he;exact g1 (he ▸ h4 i hp (CH.1 hi))
 ·have he:=Al g1;refine⟨v,by rw[g3];rfl, .inr ⟨e.blk,A3 he,?_⟩⟩;rw[h3 e he,g2]at g4;exact g4
theorem zwj{α:Type}:∀(l:List α)(n:Nat)(f:α->α)(x:α),l[n]? = some x->f x=x->l.modify n f=l
 | [],n,f,x,h,_=>by simp at h
 |y::l,0,f,x,h,e=>by cases h;simp[e]
 |y::l,n+1,f,x,h,e=>by simp[zwj l n f x (by simpa using h) e]
theorem PM.step{f:Nat->Int×Int}{E:List PEnt}(h:PM f m mp E H)(hm:0<m)(hb:m<1000000)(hlt:∀x∈mp::E.map (·.blk),x<H.length){bx:List (Nat×IBlk)}{C:Oracle} :
 ∃v s H1 v2 H2 H3 E',
  (∀ {ρ:Opd->IVal}{x y:Opd},ρ x = .map mp->ρ y = .agg (keyI (f m))->evalOp C ρ ⟨bx,H++[.cells (idC [m]) 1 0 false]⟩ (.mapEnt (.p .nilslice) ⟨true,[.int, .int]⟩ x y)=some (.tup [v, J4 s],⟨bx,H1⟩)) /\
  v.passOK=true/\evalAppend ⟨bx,H1⟩ 1 v (.slice H.length 0 0 1)=some (v2,⟨bx,H2⟩)/\v2.passOK=true/\(∃ a b c,v2 = .slice a b 0 c)/\(v = .p .nilslice\/∃a b c,v = .slice a b 0 c) /\
  (∀ {ρ:Opd->IVal}{x y z:Opd},ρ x = .map mp->ρ y = J4 s->ρ z=v2->evalOp C ρ ⟨bx,H2⟩ (.entSt x y z)=some (.tup [],⟨bx,H3⟩)) /\
  PM f (m+1) mp E' H3/\H.length<=H3.length/\(∀ x,x<H.length->x∉mp::E.map (·.blk)->H3[x]? = H[x]?)/\(∀ x∈E'.map (·.blk),x∈E.map (·.blk)\/H.length<=x)/\(∀ x∈mp::E'.map (·.blk),x<H3.length):=by
 obtain⟨⟨es,h1,h2⟩,h3,h4,h5,h6⟩:=h;have hmp:=hlt mp (by simp);obtain⟨B,hB⟩:∃B,B=IBlk.cells (idC [m]) 1 0 false:=⟨_,rfl⟩;rw[<- hB]
 have hg:Mem.get ⟨bx,H++[B]⟩ (.heap mp)=some (.map es E.length):=by
  show(H++[B])[mp]? = _;rw[Ac hmp];exact h1
 have hids:∀e∈E,e.ids.length<=m:=fun e he=>by rw[h3 e he];unfold idsOf;exact A8 (BU _ _) (by simp)
 rcases h2.find (k:=f m) 0 h5 with⟨g1,g2⟩|⟨n,e,v,g1,g2,g3,g4,g5⟩
 ·
  have hE0:EOK (H++[B]) E es 0:=h2.keep fun e he=>by rw[Ac (hlt _ (Ao _ (A3 he)))]
  obtain⟨H1,hH1⟩:∃H1,(H++[B]).set mp (.map (es++[(.agg (keyI (f m)), .p .nilslice,E.length)]) (E.length+1))=H1:=⟨_,rfl⟩;have hH1l:H1.length=H.length+1:=(by rw[<- hH1];simp)
  have hsrc:srcCells ⟨bx,H1⟩ 1 (.slice H.length 0 0 1)=some (idC [m]):=by
   refine zch (op:=false) ?_ ?_
   ·rw[<- hH1,Ag (by omega),Ad (by omega),A6,hB];rfl
   ·simp[idC]
  have happ:=append_nil (bx:=bx) (H:=H1) (esz:=1) (ny:=1) hsrc rfl (by omega) (by omega);have hget1:H1[mp]? = some (.map (es++[(.agg (keyI (f m)), .p .nilslice,E.length)]) (E.length+1)):=(by rw[<- hH1];exact zap (by simp;omega));obtain⟨H2,hH2⟩:∃H2,H1++[IBlk.cells (idC [m]) 1 0 true]=H2:=⟨_,rfl⟩;have hget2:H2[mp]? = some (.map (es++[(.agg (keyI (f m)), .p .nilslice,E.length)]) (E.length+1)):=(by rw[<- hH2,Ac (by omega)];exact hget1);have hlen:=h2.length
  have hborn:findBorn ((E.length:Nat):Int) (es++[(.agg (keyI (f m)), .p .nilslice,E.length)]) 0=some E.length:=by
   have key:∀(E:List PEnt)(es:List (IVal×IVal×Nat))(j i:Nat)(x:IVal×IVal×Nat),EOK H E es j->x.2.2=j+E.length->findBorn ((j+E.length:Nat):Int) (es++[x]) i=some (i+E.length):=by
    intro E
    induction E with
    |nil=>intro es j i x h hx;simp only[EOK]at h;subst h;obtain⟨x1,x2,x3⟩:=x;simp only[CS,BA]at hx;subst hx;simp[findBorn]
    |cons e E ih =>
     rintro es j i x ⟨v,r,e1,e2,e3⟩ hx;subst e1;rw[Au,findBorn,decide_eq_false (by simp;omega)];dsimp only;have:=ih r (j+1) (i+1) x e3 (by rw[hx];simp;omega);rw[show j+(e::E).length=j+1+E.length by simp;omega,this];simp;omega
   have:=key E es 0 0 (.agg (keyI (f m)), .p .nilslice,E.length) h2 (by simp)
   simpa using this
  obtain⟨v2,hv2⟩:∃v2:IVal,v2 = .slice (H.length+1) 0 0 1:=⟨_,rfl⟩;rw[hH1l,<-hv2,hH2]at happ;refine⟨.p .nilslice,E.length,H1,v2,H2,H2.set mp (.map (es++[(.agg (keyI (f m)),v2,E.length)]) (E.length+1)),E++[⟨f m,H.length+1,[m]⟩],?_,rfl,happ,by rw[hv2];rfl,⟨_,_,_,hv2⟩, .inl rfl,?_,?_,?_,?_,?_,?_⟩
  ·intro ρ x y hx hy;simp only[evalOp,hx,hy,zabn,hg,g2,Mem.put,hH1]
  ·intro ρ x y z hx hy hz;have hg2:Mem.get ⟨bx,H2⟩ (.heap mp)=some (.map (es++[(.agg (keyI (f m)), .p .nilslice,E.length)]) (E.length+1)):=hget2;have hpo:v2.passOK=true:=(by rw[hv2];rfl);simp only[evalOp,hx,hy,hz,hpo,hg2,hborn,Mem.put];congr 4
   have key:∀(es:List (IVal×IVal×Nat))(x:IVal×IVal×Nat)(n:Nat)(g:IVal×IVal×Nat->IVal×IVal×Nat),es.length=n->(es++[x]).modify n g=es++[g x]:=by
    intro es
    induction es with
    |nil=>intro x n g h;subst h;rfl
    |cons a es ih=>intro x n g h;subst h;simp[ih x es.length g rfl]
   rw[key es _ E.length _ hlen]
  ·obtain⟨H3,hH3⟩:∃H3,H2.set mp (.map (es++[(.agg (keyI (f m)),v2,E.length)]) (E.length+1))=H3:=⟨_,rfl⟩;rw[hH3];have hH3x:∀x,x≠mp->H3[x]? = H2[x]? := fun x hx=>by rw[<- hH3,Ag (Ne.symm hx)]
   have hold:∀x,x<H.length->x≠mp->H3[x]? = H[x]? := fun x hx hne=>by
    rw[hH3x x hne,<-hH2,Ac (by omega),<-hH1,Ag (Ne.symm hne),Ac hx]
   rw[Bm]at h6;refine⟨⟨_,by rw[<- hH3];simp only[Ah,AK];exact zap (by rw[<- hH2];simp;omega),?_⟩,?_,?_,?_,?_⟩
   ·have hE3:EOK H3 E es 0:=h2.keep fun e he=>hold _ (hlt _ (Ao _ (A3 he))) (fun e'=>h6.1 (e' ▸ A3 he))
    have:=EOK.append (x:=⟨f m,H.length+1,[m]⟩) (v:=v2) (H:=H3) ⟨0,idC [m],true,hv2,by
     dsimp only
     rw[hH3x _ (by omega),<-hH2,Ad (by omega),hH1l,A6];rfl,by simp[idC],by simp[idC]⟩ hE3
    simpa using this
   ·intro e he;rcases AB.1 he with he|he
    ·rw[h3 e he,zns,if_neg (fun hc:0<m/\f m=e.key=>g1 (hc.2 ▸ A3 he))]
    ·rw[Bt]at he;subst he;dsimp only;rw[zns,if_pos ⟨hm,rfl⟩]
     have:idsOf f m (f m)=[]:=by
      refine BK.2 fun i hi=>?_;simp only[Aj,decide_eq_true_eq,not_and];intro hp he;exact g1 (he ▸ h4 i hp (CH.1 hi))
     rw[this];rfl
   ·intro i h0 hi;rw[AO,AB];rcases AV i m with h'|h'
    ·exact .inl (h4 i h0 h')
    ·have:i=m:=(by omega);subst this;exact .inr (by simp)
   ·rw[AO];refine Bp.2 ⟨h5,by simp,fun a ha b hb e=>?_⟩;simp at hb;subst hb e;exact g1 ha
   ·rw[AO,Bm,AB,not_or];refine⟨⟨h6.1,by simp;omega⟩,Bp.2 ⟨h6.2,by simp,fun a ha b hb e=>?_⟩⟩;simp at hb;subst hb e;have:=hlt _ (Ao _ ha);omega
  ·rw[AC,<-hH2];simp;omega
  ·intro x hx hno;rw[Am,not_or]at hno;rw[Ag (Ne.symm hno.1),<-hH2,Ac (by omega),<-hH1,Ag (Ne.symm hno.1),Ac hx]
  ·intro x hx;rw[AO,AB]at hx;rcases hx with hx|hx
   ·exact .inl hx
   ·simp at hx;exact .inr (by omega)
  ·intro x hx;rw[AC,<-hH2,Ah,hH1l];rw[Am,AO,AB]at hx;rcases hx with rfl|hx|hx
   ·simp;omega
   ·have:=hlt _ (Ao _ hx);simp;omega
   ·simp at hx;subst hx;simp
 ·
  have he:=Al g1;have hen:=(Aa.1 g1).1;have hebl:=hlt _ (Ao _ (A3 he));have hids:=hids e he;rw[Bm]at h6;have hne:e.blk≠mp:=fun e'=>h6.1 (e' ▸ A3 he);have hmod:es.modify n (fun x=>(IVal.agg (keyI (f m)),x.2.1,x.2.2))=es:=zwj _ _ _ _ g5 rfl
  have hsame:(H++[B]).set mp (.map es E.length)=H++[B]:=by
   apply Bd;intro i;by_cases hi:i=mp
   ·subst hi;rw[zap (by simp;omega)];exact hg.symm
   ·rw[Ag (Ne.symm hi)]
  have hgk:HS (H++[B]) e.blk 1 e.ids.length v (idC e.ids):=g4.keep (Ac hebl);obtain⟨ver,cs,op,rfl,hk1,hk2,hk3⟩:=hgk
  have hsrc:srcCells ⟨bx,H++[B]⟩ 1 (.slice H.length 0 0 1)=some (idC [m]):=by
   refine zch (op:=false) ?_ ?_
   ·rw[Ad (by omega),A6,hB];rfl
   ·simp[idC]
  have happ:=zcb (bx:=bx) hk1 hk2 hsrc rfl (by omega) (ny:=1) (by omega);have hnew:=zlc (H:=H++[B]) (ver:=ver) (op:=op) (ys:=idC [m]) (ny:=1) (k:=e.blk) (by simp;omega) hk2 (by simp[idC]);rw[hk3]at hnew;obtain⟨H2,hH2⟩:∃H2,(H++[B]).set e.blk (appBlk cs (idC [m]) 1 e.ids.length 1 ver op)=H2:=⟨_,rfl⟩;rw[hH2]at happ hnew;obtain⟨v2,hv2⟩:∃v2:IVal,v2 = .slice e.blk (appVer cs 1 e.ids.length 1 ver) 0 (e.ids.length+1):=⟨_,rfl⟩;rw[<- hv2]at happ hnew
  have hget2:Mem.get ⟨bx,H2⟩ (.heap mp)=some (.map es E.length):=by
   show H2[mp]? = _;rw[<- hH2,Ag hne];exact hg
  have hborn:=h2.born 0 n hen;rw[As]at hborn;obtain⟨H3,hH3⟩:∃H3,H2.set mp (.map (es.modify n fun x=>(x.1,v2,x.2.2)) E.length)=H3:=⟨_,rfl⟩;have hbornAt:bornAt es n=n:=(by rw[bornAt,g5];simp);have hH3x:∀x,x≠mp->H3[x]? = H2[x]? := fun x hx=>by rw[<- hH3,Ag (Ne.symm hx)]
  have hold:∀x,x<H.length->x≠mp->x≠e.blk->H3[x]? = H[x]? := fun x hx h0 h1=>by
   rw[hH3x x h0,<-hH2,Ag (Ne.symm h1),Ac hx]
  have hmap:(E.set n ⟨e.key,e.blk,e.ids++[m]⟩).map (·.blk)=E.map (·.blk):=by
   rw[Cu];apply Bd;intro i;by_cases hi:i=n
   ·subst hi;rw[AQ (by simpa using hen),Ap,g1];rfl
   ·rw[Ag (Ne.symm hi)]
  have hmapk:(E.set n ⟨e.key,e.blk,e.ids++[m]⟩).map (·.key)=E.map (·.key):=by
   rw[Cu];apply Bd;intro i;by_cases hi:i=n
   ·subst hi;rw[AQ (by simpa using hen),Ap,g1];rfl
   ·rw[Ag (Ne.symm hi)]
  refine⟨.slice e.blk ver 0 e.ids.length,n,H++[B],v2,H2,H3,E.set n ⟨e.key,e.blk,e.ids++[m]⟩,?_,rfl,happ,by rw[hv2];rfl,⟨_,_,_,hv2⟩, .inr ⟨_,_,_,rfl⟩,?_,?_,?_,?_,?_,?_⟩
  ·intro ρ x y hx hy;rw[As]at g3;simp only[evalOp,hx,hy,zabn,hg,g3,Mem.put,hmod,hsame,hbornAt]
  ·intro ρ x y z hx hy hz;have hpo:v2.passOK=true:=(by rw[hv2];rfl);simp only[evalOp,hx,hy,hz,hpo,hget2,hborn,Mem.put,hH3]
  ·refine⟨⟨_,by rw[<- hH3,AC];exact zap (by rw[<- hH2];simp;omega),?_⟩,?_,?_,by rw[hmapk];exact h5,by rw[hmap,Bm];exact h6⟩
   ·have hH23:H3[e.blk]? = H2[e.blk]? := hH3x _ hne
    have hE3:=EOK.set (H':=H3) (ids':=e.ids++[m]) (v':=v2) h2 g1 (by
     have:idC (e.ids++[m])=idC e.ids++idC [m]:=(by simp[idC]);rw[this,Ah]
     exact hnew.keep hH23) (fun k x hk hx=>by
      have hx':=Al hx;refine hold _ (hlt _ (Ao _ (A3 hx'))) (fun e'=>h6.1 (e' ▸ A3 hx')) (fun e'=>hk ?_);have a1:(E.map (·.blk))[k]? = some x.blk:=(by rw[Ap,hx];rfl);have a2:(E.map (·.blk))[n]? = some e.blk:=(by rw[Ap,g1];rfl);have hkl:k<(E.map (·.blk)).length:=(Aa.1 a1).1
      exact(List.getElem?_inj hkl h6.2).1 (by rw[a1,a2,e']))
    exact hE3
   ·intro x hx;rcases AJ.1 hx with⟨k,hk⟩;by_cases hkn:k=n
    ·subst hkn;rw[AQ hen]at hk;cases hk;dsimp only;rw[h3 e he,g2,zns,if_pos ⟨hm,rfl⟩]
    ·rw[Ag (Ne.symm hkn)]at hk;have hx':=Al hk;rw[h3 x hx',zns,if_neg];rintro⟨_,hc⟩;have a1:(E.map (·.key))[k]? = some x.key:=(by rw[Ap,hk];rfl);have a2:(E.map (·.key))[n]? = some e.key:=(by rw[Ap,g1];rfl);have hkl:k<(E.map (·.key)).length:=(Aa.1 a1).1;exact hkn ((List.getElem?_inj hkl h5).1 (by rw[a1,a2,g2,hc]))
   ·intro i h0 hi;rw[hmapk];rcases AV i m with h'|h'
    ·exact h4 i h0 h'
    ·have:i=m:=(by omega);subst this;rw[<- g2];exact A3 he
  ·rw[<- hH3,AC,<-hH2];simp
  ·intro x hx hno;rw[Am,not_or]at hno;exact hold x hx hno.1 (fun e'=>hno.2 (e' ▸ A3 he))
  ·intro x hx;rw[hmap]at hx;exact .inl hx
  ·intro x hx;rw[hmap]at hx;have:=hlt x hx;rw[<- hH3,AC,<-hH2];simp;omega
def two(x y:IVal):Opd->IVal
 | .tmp 0=>x
 |_=>y
def three(x y z:IVal):Opd->IVal
 | .tmp 0=>x
 | .tmp 1=>y
 |_=>z
def mapEntF(z:IVal)(cls:KTy)(x k:IVal)(H:J2):Option (IVal×J2):=(evalOp noOracle (two x k) ⟨[],H⟩ (.mapEnt z cls (.tmp 0) (.tmp 1))).map fun p=>(p.1,p.2.heap)
def lookupF(ok:Bool)(z:IVal)(cls:KTy)(x k:IVal)(H:J2):Option IVal:=(evalOp noOracle (two x k) ⟨[],H⟩ (.lookup ok z cls (.tmp 0) (.tmp 1))).map fun p=>p.1
def entStF(x s v:IVal)(H:J2):Option (IVal×J2):=(evalOp noOracle (three x s v) ⟨[],H⟩ (.entSt (.tmp 0) (.tmp 1) (.tmp 2))).map fun p=>(p.1,p.2.heap)
theorem zmy{α β:Type}{o:Option α}{g:α->β}{Q:β->Prop}:gets (o.map g) Q↔gets o fun a=>Q (g a):=by
 cases o<;>simp[gets]
section
variable {C:Oracle} {ρ:Opd->SV}{M:KM}{k:SV->KM->Prop}
@[simp ↓ high] theorem zawt{c:KTy}{z:IVal}:wpOp C ρ M (.mapEnt z c x y) k=gets (mapEntF z c (ρ x).den (ρ y).den M.H) (@hid _ ⟨fun p=>k (up p.1) ⟨M.B,p.2⟩⟩):=by
 have:wpOp C ρ M (.mapEnt z c x y) k=gets (evalOp C (fun o=>(ρ o).den) ⟨[],M.H⟩ (.mapEnt z c x y)) fun p=>k (up p.1) ⟨M.B,p.2.heap⟩:=rfl;rw[this];unfold mapEntF;apply propext;refine Iff.trans ?_ zmy.symm;rfl
@[simp ↓ high] theorem zawu{c:KTy}{z:IVal}{o:Bool}:wpOp C ρ M (.lookup o z c x y) k=gets (lookupF o z c (ρ x).den (ρ y).den M.H) (@hid _ ⟨fun v=>k (up v) M⟩):=by
 have:wpOp C ρ M (.lookup o z c x y) k=gets (evalOp C (fun o=>(ρ o).den) ⟨[],M.H⟩ (.lookup o z c x y)) fun p=>k (up p.1) ⟨M.B,p.2.heap⟩:=rfl;rw[this];unfold lookupF;apply propext;refine Iff.trans ?_ zmy.symm;have e:evalOp C (fun o=>(ρ o).den) ⟨[],M.H⟩ (.lookup o z c x y)=evalOp noOracle (two (ρ x).den (ρ y).den) ⟨[],M.H⟩ (.lookup o z c (.tmp 0) (.tmp 1)):=rfl;rw[e]
 have hM:∀p,evalOp noOracle (two (ρ x).den (ρ y).den) ⟨[],M.H⟩ (.lookup o z c (.tmp 0) (.tmp 1))=some p->p.2.heap=M.H:=by
  intro p hp;simp only[evalOp,lookRes]at hp
  repeat' (split at hp)
  all_goals first|(cases hp;done)|(injection hp with hp;subst hp;rfl)
 cases hq:evalOp noOracle (two (ρ x).den (ρ y).den) ⟨[],M.H⟩ (.lookup o z c (.tmp 0) (.tmp 1))with
 |none=>simp[]
 |some p =>
  have e2:=hM p hq;rw[zie,zie,e2];rfl
@[simp ↓ high] theorem zbao{z:Opd}:wpOp C ρ M (.entSt x y z) k=gets (entStF (ρ x).den (ρ y).den (ρ z).den M.H) (@hid _ ⟨fun p=>k (up p.1) ⟨M.B,p.2⟩⟩):=by
 have:wpOp C ρ M (.entSt x y z) k=gets (evalOp C (fun o=>(ρ o).den) ⟨[],M.H⟩ (.entSt x y z)) fun p=>k (up p.1) ⟨M.B,p.2.heap⟩:=rfl;rw[this];unfold entStF;apply propext;refine Iff.trans ?_ zmy.symm;rfl
end
theorem PM.lookF{f:Nat->Int×Int}{E:List PEnt}(h:PM f m mp E H)(k:Int×Int) :
 ∃v,lookupF false (.p .nilslice) ⟨true,[.int, .int]⟩ (.map mp) (.agg (keyI k)) H=some v/\(v = .p .nilslice/\idsOf f m k=[]\/∃b∈E.map (·.blk),HS H b 1 (idsOf f m k).length v (idC (idsOf f m k))):=by
 obtain⟨v,h1,h2⟩:=h.look k (bx:=[]) (C:=noOracle) (ρ:=two (.map mp) (.agg (keyI k))) (x := .tmp 0) (y := .tmp 1) rfl rfl;exact⟨v,by unfold lookupF;rw[h1];rfl,h2⟩
theorem PM.stepF{f:Nat->Int×Int}{E:List PEnt}(h:PM f m mp E H)(hm:0<m)(hb:m<1000000)(hlt:∀x∈mp::E.map (·.blk),x<H.length) :
 ∃v s H1 v2 H2 H3 E',
  mapEntF (.p .nilslice) ⟨true,[.int, .int]⟩ (.map mp) (.agg (keyI (f m))) (H++[.cells (idC [m]) 1 0 false])=some (.tup [v, J4 s],H1) /\
  v.passOK=true/\evalAppend ⟨[],H1⟩ 1 v (.slice H.length 0 0 1)=some (v2,⟨[],H2⟩)/\v2.passOK=true/\(∃ a b c,v2 = .slice a b 0 c)/\(v = .p .nilslice\/∃a b c,v = .slice a b 0 c) /\
  entStF (.map mp) (J4 s) v2 H2=some (.tup [],H3) /\
  PM f (m+1) mp E' H3/\H.length<=H3.length/\(∀ x,x<H.length->x∉mp::E.map (·.blk)->H3[x]? = H[x]?)/\(∀ x∈E'.map (·.blk),x∈E.map (·.blk)\/H.length<=x)/\(∀ x∈mp::E'.map (·.blk),x<H3.length):=by
 obtain⟨v,s,H1,v2,H2,H3,E',h1,h2,h3,h4,h5,h6,h7,h8⟩:=h.step hm hb hlt (bx:=[]) (C:=noOracle);refine⟨v,s,H1,v2,H2,H3,E',?_,h2,h3,h4,h5,h6,?_,h8⟩
 ·unfold mapEntF;rw[h1 (ρ:=two (.map mp) (.agg (keyI (f m)))) (x := .tmp 0) (y := .tmp 1) rfl rfl];rfl
 ·unfold entStF;rw[h7 (ρ:=three (.map mp) (J4 s) v2) (x := .tmp 0) (y := .tmp 1) (z := .tmp 2) rfl rfl rfl];rfl
end
end Go.Ideal
namespace Go.Ideal
open Go
set_option maxHeartbeats 4000000
set_option maxRecDepth 20000
attribute [-simp] getElem?_pos
noncomputable def kp(t:Tree):Int×Int:=(hashT t,szU t)
noncomputable def kf(b:Tree)(j:Nat):Int×Int:=kp (subT b j)
@[simp] theorem zbgz(k:Int×Int):SV.dens (ups (keyI k))=keyI k:=rfl
theorem zahw{b:Tree}{j:Nat}{v:Vis}(h:b.vis[j]? = some v):keyC v=keyI (kf b j):=by
 rw[kf,zmx h];rfl
theorem zapj{l:List Vis}:∀ {j:Nat}{v:Vis},l[j]? = some v->((l.flatMap keyC).drop (j*2)).take 2=keyC v:=by
 induction l with
 |nil=>intro j v h;simp at h
 |cons x l ih =>
  intro j v h;cases j with
  |zero=>cases h;rfl
  |succ j =>
   rw[Ar]at h;have:=ih h;rw[<- this,A0,show(j+1)*2=(keyC x).length+j*2 by show _=2+j*2;omega,BY,Bh (Nat.le_add_right _ _),AT,A2]
theorem zuh{t:Tree}{k0 kl il:Nat}{bs:List Bool}{H:J2}(h:SideOK t k0 kl il bs H){j:Nat}(hj:j<t.size) :
 ∃kv ver,loadVal ⟨[],H⟩ none (J5 k0 0 6)=some kv/\up kv = .v kv/\idxS 2 kv (J4 j)=some (J5 kl ver (j*2))/\loadVal ⟨[],H⟩ (some 2) (J5 kl ver (j*2))=some (.agg (keyI (kf t j))):=by
 obtain⟨kv,iv,h1,h2,h3⟩:=h;have l6:loadVal ⟨[],H⟩ none (J5 k0 0 6)=some kv:=zab h1 rfl;obtain⟨v,hv⟩:∃v,t.vis[j]? = some v:=⟨_,Ae (by rw[zbi];exact hj)⟩;obtain⟨ver,e1,e2⟩:=h2.load (bx:=[]) hj;rw[zapj hv,zahw hv]at e2;obtain⟨_,_,_,rfl,_⟩:=h2;exact⟨_,ver,l6,rfl,e1,e2⟩
theorem zui{t:Tree}{k0 kl il:Nat}{bs:List Bool}{H:J2}(h:SideOK t k0 kl il bs H):loadVal ⟨[],H⟩ none (J5 k0 0 5)=some (.p (ival t)):=by
 obtain⟨kv,iv,h1,h2,h3⟩:=h;exact zab h1 rfl
theorem zahx(a b:Tree)(p:AP)(hfz:p.fz=[])(hb:b.size<1000000)(v2 v7 v9 v10:SV)(bx bz:List Bool)(ps:J1)(H0:J2)(hA:AS a b p bx bz ps H0)(mp:Nat)(hmp:H0[mp]? = some (.map [] 0))(hm0:mp∉p.all)
 (hlb:∀lv,H0[p.lb]? = some (.cells [lv] 1 0 false)->lv = .p .nilslice)(Q:J0)
 (hQ:∀H E,AS a b { p with fz:=mp::E.map (·.blk) } bx bz ps H->PM (kf b) b.size mp E H->(∀ x∈mp::E.map (·.blk),x<H.length)->(∀ x,x<H0.length->x≠mp->H[x]? = H0[x]?)->H0.length<=H.length->Q .normal [(2,v2),(7,v7),(8, .v (J5 p.yb 0 0)),(9,v9),(10,v10),(11, .v (.map mp))] ⟨[],H⟩) :
 wpLoop (CW tr.look) 167 m_87_0 l_87_0 (blkK 0 b_87_0 Q) [(2,v2),(7,v7),(8, .v (J5 p.yb 0 0)),(9,v9),(10,v10),(11, .v (.map mp)),(12, .int .i64 1)] ⟨[],H0⟩:=by
 have hsz:=zad b;have hmlt:=(Aa.1 hmp).1;have hall0:=hA.lt (by rw[hfz];simp)
 refine zac (α:=Nat×List PEnt×J2) (fun s=>[(2,v2),(7,v7),(8, .v (J5 p.yb 0 0)),(9,v9),(10,v10),(11, .v (.map mp)),(12, .int .i64 s.1)]) (fun s=>⟨[],s.2.2⟩)
  (fun s=>0<s.1/\s.1<=b.size/\PM (kf b) s.1 mp s.2.1 s.2.2/\H0.length<=s.2.2.length/\(∀ x,x<H0.length->x≠mp->s.2.2[x]? = H0[x]?)/\(∀ x∈s.2.1.map (·.blk),H0.length<=x)/\(∀ x∈mp::s.2.1.map (·.blk),x<s.2.2.length)) (fun s=>b.size-s.1) ?_ (1,[],H0) ⟨by simp,hsz,⟨⟨[],hmp,rfl⟩,by simp,fun i h0 h1=>by omega,by simp,by simp⟩,Ak _,fun _ _ _=>rfl,by simp,by simp;exact hmlt⟩
 rintro⟨m,E,H⟩⟨h0,hm,hPM,hle,hkeep,hnew,hlt⟩ L hL;dsimp only at h0 hm hPM hle hkeep hnew hlt hL ⊢;dsimp only[l_87_0];have hne:∀x∈p.all,x≠mp:=fun x hx e=>hm0 (e ▸ hx);have hyb:p.yb∈p.all:=(by simp[AP.all])
 have hy:SideOK b p.y0 p.yk p.yi bz H:=by
  have m1:p.y0∈p.all/\p.yk∈p.all/\p.yi∈p.all:=(by simp[AP.all]);exact hA.sy.keep (hkeep _ (hall0 _ m1.1) (hne _ m1.1)) (hkeep _ (hall0 _ m1.2.1) (hne _ m1.2.1)) (hkeep _ (hall0 _ m1.2.2) (hne _ m1.2.2))
 have ly:loadVal ⟨[],H⟩ none (J5 p.yb 0 0)=some (J5 p.y0 0 0):=zab ((hkeep _ (hall0 _ hyb) (hne _ hyb)).trans hA.yb) rfl;have l5:=zui hy;by_cases hml:m<b.size
 ·have hlt':(m:Int)<(b.size:Int):=(by omega);obtain⟨kv,ver,g1,g2,g3,g4⟩:=zuh hy hml;obtain⟨v,s,H1,v2',H2,H3,E',r1,r2,r3,r4,r5,r6,r7,r8,r9,r10,r11,r12⟩:=hPM.stepF h0 (by omega) hlt;obtain⟨w1,w2,w3,rfl⟩:=r5;have hcell:[IVal.p (.int .i64 (m:Int))]=idC [m]:=rfl;rcases r6 with rfl|⟨u1,u2,u3,rfl⟩
  ·simp(disch:=omega) [zaa,ly,l5,g1,g2,g3,g4,hcell,r1,r3,r7];refine hL (m+1,E',H3) ⟨by dsimp only;omega,by dsimp only;omega,r8,by dsimp only;omega,fun x hx hxm=>?_,fun x hx=>?_,r12⟩ (by dsimp only;omega)
   ·dsimp only;rw[r10 x (by omega) (by rw[Am,not_or];exact⟨hxm,fun e=>by have:=hnew x e;omega⟩)];exact hkeep x hx hxm
   ·rcases r11 x hx with h|h
    ·exact hnew x h
    ·omega
  ·simp(disch:=omega) [zaa,ly,l5,g1,g2,g3,g4,hcell,r1,r3,r7];refine hL (m+1,E',H3) ⟨by dsimp only;omega,by dsimp only;omega,r8,by dsimp only;omega,fun x hx hxm=>?_,fun x hx=>?_,r12⟩ (by dsimp only;omega)
   ·dsimp only;rw[r10 x (by omega) (by rw[Am,not_or];exact⟨hxm,fun e=>by have:=hnew x e;omega⟩)];exact hkeep x hx hxm
   ·rcases r11 x hx with h|h
    ·exact hnew x h
    ·omega
 ·obtain rfl:m=b.size:=by omega
  simp(disch:=omega) [ly,l5];refine hQ H E ?_ hPM hlt hkeep hle;have hk:∀x∈p.all,H[x]? = H0[x]? := fun x hx=>hkeep x (hall0 x hx) (hne x hx);have mem:p.xb∈p.all/\p.x0∈p.all/\p.xk∈p.all/\p.xi∈p.all/\p.lb∈p.all:=(by simp[AP.all]);obtain⟨m1,m2,m3,m4,m5⟩:=mem;have hndn:(mp::E.map (·.blk)).Nodup:=hPM.nd;refine⟨?_,(hk _ m1).trans hA.xb,(hk _ hyb).trans hA.yb,hA.lx,hA.lz,hA.sx.keep (hk _ m2) (hk _ m3) (hk _ m4),hy,?_⟩
  ·have hnd:=hA.nd;unfold AP.all at hnd hall0 hm0 hne ⊢;rw[hfz,AX]at hnd hm0 hall0;refine Bp.2 ⟨hnd,hndn,fun x hx y hy e=>?_⟩;subst e;rcases Am.1 hy with rfl|hy
   ·exact hm0 hx
   ·have:=hall0 x hx;have:=hnew x hy;omega
  ·obtain⟨lv,e1,e2⟩:=hA.l;have:=hlb lv e1;subst this;refine⟨_,(hk _ m5).trans e1, .inl ⟨rfl,?_⟩⟩;rcases e2 with⟨_,h⟩|⟨ll,_,h,_⟩
   ·exact h
   ·obtain⟨_,_,_,h,_⟩:=h;cases h
theorem zil:∀(n:Nat)(l:List Nat),l.Nodup->(∀ x∈l,x<n)->l.length<=n
 |0,l,_,h=>by
  cases l with
  |nil=>simp
  |cons x l=>have:=h x (by simp);omega
 |n+1,l,hn,h=>by
  by_cases hm:n∈l
  ·have h1:=List.length_erase_of_mem hm
   have h2:=zil n (l.erase n) (hn.erase n) (fun x hx=>by
    have:=h x (List.mem_of_mem_erase hx);have:x≠n:=fun e=>by subst e;exact(hn.mem_erase_iff.1 hx).1 rfl
    omega)
   have:=List.length_pos_of_mem hm;omega
  ·have:=zil n l hn (fun x hx=>by
    have:=h x hx;have:x≠n:=fun e=>hm (e ▸ hx)
    omega)
   omega
theorem AInv.len{a b:Tree}{h:Nat}{s:ASt}{bl:J1}(H:AInv a b h s bl):s.ps.length<=a.size:=by
 have:=zil a.size _ H.nx (fun x hx=>by
  obtain⟨p,hp,rfl⟩:=AZ.1 hx
  exact(H.pairs.ok p hp).1)
 simpa using this
theorem zaet{t:Tree}{k0 kl il:Nat}{bs:List Bool}{H:J2}(h:SideOK t k0 kl il bs H)(hl:bs.length=t.size){j:Nat}(hj:j<t.size) :
 ∃iv ver,loadVal ⟨[],H⟩ none (J5 k0 0 7)=some iv/\up iv = .v iv/\idxS 1 iv (J4 j)=some (J5 il ver j)/\loadVal ⟨[],H⟩ none (J5 il ver j)=some (.p (.bool (bs.getD j false))):=by
 obtain⟨kv,iv,h1,h2,h3⟩:=h;have l7:loadVal ⟨[],H⟩ none (J5 k0 0 7)=some iv:=zab h1 rfl;obtain⟨ver,cs,op,rfl,h4⟩:=h3;have h3':HS H il 1 t.size (.slice il ver 0 t.size) (bs.map fun b=>.p (.bool b)):=⟨ver,cs,op,rfl,h4⟩
 have hx:(bs.map fun b=>IVal.p (.bool b))[j]? = some (.p (.bool (bs.getD j false))):=by
  rw[Ap,AA,Ae (by omega)];rfl
 have:=zau (e:=1) (k:=il) (v:=ver) (o:=0) (n:=t.size) (j:=j) hj;exact⟨_,ver,l7,rfl,by simpa using this,h3'.field hx⟩
structure AM(a b:Tree)(p:AP)(mp:Nat)(E:List PEnt)(s:ASt)(H:J2):Prop where
 st:AS a b p s.bx s.bz s.ps H
 pm:PM (kf b) b.size mp E H
 fz:p.fz=mp::E.map (·.blk)
 lt:∀x∈p.fz,x<H.length
theorem zaua(a b:Tree)(bz:List Bool)(i:Nat)(hi:i<a.size):findJ a b bz i=(idsOf (kf b) b.size (kf a i)).find? fun j=>!(bz.getD j false)&&decide (SameT (subT a i) (subT b j)):=by
 unfold findJ idsOf;rw[List.find?_filter]
 have key:∀l:List Nat,(∀ j∈l,j<b.size)->l.find? (okJ a b bz i)=l.find? fun j=>decide ((decide (0<j)&&decide (kf b j=kf a i))=true/\(!(bz.getD j false)&&decide (SameT (subT a i) (subT b j)))=true):=by
  intro l
  induction l with
  |nil=>intro _;rfl
  |cons x l ih =>
   intro hl;have hx:=hl x (by simp)
   have e:okJ a b bz i x=decide ((decide (0<x)&&decide (kf b x=kf a i))=true/\(!(bz.getD x false)&&decide (SameT (subT a i) (subT b x)))=true):=by
    unfold okJ;by_cases h1:SameT (subT a i) (subT b x)
    ·obtain⟨v,hv⟩:∃v,a.vis[i]? = some v:=⟨_,Ae (by rw[zbi];exact hi)⟩;obtain⟨w,hw⟩:∃w,b.vis[x]? = some w:=⟨_,Ae (by rw[zbi];exact hx)⟩;have hk:=zatz (v:=v) (w:=w) (by rw[<- zmx hv,<-zmx hw];exact h1);rw[zahw hv,zahw hw]at hk
     have hk':kf b x=kf a i:=by
      simp only[keyI,Cw,IVal.p.injEq,PVal.int.injEq,and_true,true_and]at hk;exact Prod.ext hk.1.symm hk.2.symm
     simp only[h1,hk',decide_true,Cz];by_cases h0:0<x<;>cases bz.getD x false<;>simp[h0]
    ·simp only[h1,decide_false,B6];simp
   rw[Cy,Cy,e,ih fun j hj=>hl j (by simp[hj])]
 exact key _ fun j hj=>CH.1 hj
def pfn(p:AP):IVal := .func F_127 [J5 p.xb 0 0, J5 p.lb 0 0, J5 p.yb 0 0]
theorem zapk(a b:Tree)(fa:Fine a)(fb:Fine b)(p:AP)(mp:Nat)(E:List PEnt)(least:Int)(s:ASt)(h i:Nat)(h0:0<i)(hi:i<a.size)(hbx:s.bx.getD i false=false)(hh:(subT a i).height=h)(hps:∀j,findJ a b s.bz i=some j->s.ps.length+(subT a i).size<1000000)(H:J2)(hM:AM a b p mp E s H)
 (lv:IVal)(hlv:lv = .p .nilslice/\idsOf (kf b) b.size (kf a i)=[]\/∃k∈E.map (·.blk),HS H k 1 (idsOf (kf b) b.size (kf a i)).length lv (idC (idsOf (kf b) b.size (kf a i))))(Q:J0)
 (hQ:∀H',AM a b p mp E (stepI a b h i s) H'->Q .normal [(2, .int .i64 least),(7, .v (J5 p.xb 0 0)),(8, .v (J5 p.yb 0 0)),(9, .v (J5 p.lb 0 0)),(10, .v (pfn p)),(11, .v (.map mp)),(13, .int .i64 h),(14, .int .i64 i)] ⟨[],H'⟩) :
 wpLoop (CW tr.look) 167 m_87_1 l_87_1 (blkK 6 b_87_6 Q) [(2, .int .i64 least),(7, .v (J5 p.xb 0 0)),(8, .v (J5 p.yb 0 0)),(9, .v (J5 p.lb 0 0)),(10, .v (pfn p)),(11, .v (.map mp)),(13, .int .i64 h),(14, .int .i64 i),(15, .box 15 0),(121, .v lv),(122, .int .i64 (idsOf (kf b) b.size (kf a i)).length),(123, .int .i64 0)] ⟨[(15,some ⟨[.int .i64 (subT a i).kind, .str (subT a i).name, .str (subT a i).text, .v (.p (aval (subT a i).attrs)), .v (.p (kval (subT a i).kids))],5⟩)],H⟩:=by
 have hf:=zaua a b s.bz i hi
 have hstep:stepI a b h i s=match findJ a b s.bz i with
  |none=>s
  |some j=>⟨markN s.bx i (subT a i).size,markN s.bz j (subT a i).size,s.ps++pairsN i j (subT a i).size⟩:=by
  unfold stepI;refine if_neg ?_;rintro(e|e|e)
  ·omega
  ·rw[hbx]at e;cases e
  ·exact e hh
 have hid:∀j∈idsOf (kf b) b.size (kf a i),0<j/\j<b.size/\kf b j=kf a i:=by
  intro j hj;unfold idsOf at hj;rw[Cd]at hj;obtain⟨h1,h2⟩:=hj;simp only[Aj,decide_eq_true_eq]at h2;exact⟨h2.1,CH.1 h1,h2.2⟩
 have hidl:(idsOf (kf b) b.size (kf a i)).length<=b.size:=by
  unfold idsOf;exact A8 (BU _ _) (by simp)
 have hb6:=fb.1
 have hke:∀k:Int×Int,eqCls [Cls.int,Cls.int] (keyI k) (keyI k)=some true:=fun k=>by
  have:=zahv k k
  simpa[eqVals]using this
 generalize idsOf (kf b) b.size (kf a i)=ids at *
 refine zac (α:=Nat) (fun n=>[(2, .int .i64 least),(7, .v (J5 p.xb 0 0)),(8, .v (J5 p.yb 0 0)),(9, .v (J5 p.lb 0 0)),(10, .v (pfn p)),(11, .v (.map mp)),(13, .int .i64 h),(14, .int .i64 i),(15, .box 15 0),(121, .v lv),(122, .int .i64 ids.length),(123, .int .i64 n)]) (fun _=>⟨[(15,some ⟨[.int .i64 (subT a i).kind, .str (subT a i).name, .str (subT a i).text, .v (.p (aval (subT a i).attrs)), .v (.p (kval (subT a i).kids))],5⟩)],H⟩)
  (fun n=>n<=ids.length/\findJ a b s.bz i=(ids.drop n).find? fun j=>!(s.bz.getD j false)&&decide (SameT (subT a i) (subT b j))) (fun n=>ids.length-n) ?_ 0 ⟨A9 _,by rw[hf];rfl⟩
 rintro n ⟨hn,hfn⟩ L hL
 try dsimp only at hn hfn hL ⊢
 dsimp only[l_87_1];by_cases hnl:n<ids.length
 ·obtain⟨k,hk,hlist⟩:∃k∈E.map (·.blk),HS H k 1 ids.length lv (idC ids):=by
   rcases hlv with⟨_,e⟩|e
   ·rw[e]at hnl;simp at hnl
   ·exact e
  have hlt:(n:Int)<(ids.length:Int):=(by omega);obtain⟨j1,j2,j3⟩:=hid ids[n] (Ba hnl);have hlx:loadVal ⟨[],H⟩ none (J5 k 0 0)=loadVal ⟨[],H⟩ none (J5 k 0 0):=rfl;obtain⟨ver,cs,op,rfl,hl2⟩:=hlist;have hlist':HS H k 1 ids.length (.slice k ver 0 ids.length) (idC ids):=⟨ver,cs,op,rfl,hl2⟩
  have li:idxS 1 (.slice k ver 0 ids.length) (J4 n)=some (J5 k ver n):=by
   have:=zau (e:=1) (k:=k) (v:=ver) (o:=0) (n:=ids.length) (j:=n) hnl
   simpa using this
  have ll:loadVal ⟨[],H⟩ none (J5 k ver n)=some (J4 (ids[n]:Nat)):=by
   refine hlist'.field ?_;rw[idC,Ap,Ae hnl];rfl
  have lx:=zab (bx:=[]) (off:=0) hM.st.xb rfl;have ly:=zab (bx:=[]) (off:=0) hM.st.yb rfl;obtain⟨iv,vr,m1,m2,m3,m4⟩:=zaet hM.st.sy hM.st.lz j2;obtain⟨kv,vk,k1,k2,k3,k4⟩:=zuh hM.st.sy j2;obtain⟨kw,vw,w1,w2,w3,w4⟩:=zuh hM.st.sx hi;have hsub:=zwi b fb.1 hM.st.sy ids[n] j2;have hdrop:ids.drop n=ids[n]::ids.drop (n+1):=AF hnl;rw[j3]at k4;have hfa:Fine (subT a i):=fa.sub hi;have hsame:=zabg _ (subT a i) (subT b ids[n]) (An _) hfa;generalize hjj:ids[n]=j at *;rw[hdrop,Cy]at hfn;by_cases hb:s.bz.getD j false=true
  ·rw[hb]at m4 hfn;simp(disch:=omega) [li,ll,ly,m1,m2,m3,m4,zaa];refine hL (n+1) ⟨by omega,by simpa using hfn⟩ (by omega)
  ·have hb':s.bz.getD j false=false:=(by simpa using hb);rw[hb']at m4 hfn;by_cases hs:SameT (subT a i) (subT b j)
   ·rw[decide_eq_true hs]at hsame hfn;obtain⟨v,hv⟩:∃v,a.vis[i]? = some v:=⟨_,Ae (by rw[zbi];exact hi)⟩;have hvt:=zmx hv;have e2:=zgc j2;have e3:=hs.size;obtain⟨H',p1,p2,p3,p4⟩:=zaph a b p i j v hv (by rw[<- hvt];omega) ⟨fa.1,fb.1⟩ s.bx s.bz s.ps (by rw[<- hvt];exact hps j (by rw[hfn];rfl)) H hM.lt hM.st;simp(disch:=omega) [li,ll,lx,ly,m1,m2,m3,m4,k1,k2,k3,k4,w1,w2,w3,w4,hsub,zai,hsame,hke,pfn,p1];have hfin:=hQ H' ?_
    ·simpa[pfn]using hfin
    ·rw[hstep,hfn];simp only[Bool.not_false,Bg];rw[hvt];exact⟨p2,hM.pm.keep fun x hx=>p4 x (by rw[hM.fz];exact hx),hM.fz,fun x hx=>by have:=hM.lt x hx;omega⟩
   ·rw[decide_eq_false hs]at hsame hfn;simp(disch:=omega) [li,ll,lx,ly,m1,m2,m3,m4,k1,k2,k3,k4,w1,w2,w3,w4,hsub,zai,hsame,hke,zaa];refine hL (n+1) ⟨by omega,by simpa using hfn⟩ (by omega)
 ·obtain rfl:n=ids.length:=by omega
  simp(disch:=omega) [];have hnone:findJ a b s.bz i=none:=(by rw[hfn,Bh (Ak _)];rfl);refine hQ H ?_;rw[hstep,hnone];exact hM
theorem zalu(a b:Tree)(fa:Fine a)(fb:Fine b)(p:AP)(mp:Nat)(E:List PEnt)(least:Int)(s:ASt)(bl:J1)(h:Nat)(hI:AInv a b h s bl)(H:J2)(hM:AM a b p mp E s H)(Q:J0)
 (hQ:∀H',AM a b p mp E (runI a b h a.size s) H'->Q .normal [(2, .int .i64 least),(7, .v (J5 p.xb 0 0)),(8, .v (J5 p.yb 0 0)),(9, .v (J5 p.lb 0 0)),(10, .v (pfn p)),(11, .v (.map mp)),(13, .int .i64 h)] ⟨[],H'⟩) :
 wpLoop (CW tr.look) 167 m_87_2 l_87_2 (blkK 4 b_87_4 Q) [(2, .int .i64 least),(7, .v (J5 p.xb 0 0)),(8, .v (J5 p.yb 0 0)),(9, .v (J5 p.lb 0 0)),(10, .v (pfn p)),(11, .v (.map mp)),(13, .int .i64 h),(14, .int .i64 1)] ⟨[],H⟩:=by
 have one:=zad a;have ha6:=fa.1
 refine zac (α:=Nat×J2) (fun x=>[(2, .int .i64 least),(7, .v (J5 p.xb 0 0)),(8, .v (J5 p.yb 0 0)),(9, .v (J5 p.lb 0 0)),(10, .v (pfn p)),(11, .v (.map mp)),(13, .int .i64 h),(14, .int .i64 x.1)]) (fun x=>⟨[],x.2⟩)
  (fun x=>0<x.1/\x.1<=a.size/\AM a b p mp E (runI a b h x.1 s) x.2) (fun x=>a.size-x.1) ?_ (1,H) ⟨by simp,one,by
   have:runI a b h 1 s=s:=(by simp[runI,stepI]);dsimp only
   rw[this];exact hM⟩
 rintro⟨i,K⟩⟨h0,hi,hA⟩ L hL;dsimp only at h0 hi hA hL ⊢;dsimp only[l_87_2];have lx:=zab (bx:=[]) (off:=0) hA.st.xb rfl;have ly:=zab (bx:=[]) (off:=0) hA.st.yb rfl;have l5:=zui hA.st.sx;by_cases hil:i<a.size
 ·have hlt:(i:Int)<(a.size:Int):=(by omega);obtain⟨bl2,hI2⟩:=zuf hI (i:=i) hi;obtain⟨bl3,hI3⟩:=zaeq hI2 hil;obtain⟨iv,vr,m1,m2,m3,m4⟩:=zaet hA.st.sx hA.st.lx hil;obtain⟨v,hv⟩:∃v,a.vis[i]? = some v:=⟨_,Ae (by rw[zbi];exact hil)⟩;have hit:a.items[i]? = some (fullOf v):=(by rw[Tree.items,zfh,Ap];rw[show visT a 0 (-1) 0 0=a.vis from rfl,hv];rfl);have ix:=zbx hit;have hvt:=zmx hv;by_cases hb:(runI a b h i s).bx.getD i false=true
  ·rw[hb]at m4;simp(disch:=omega) [lx,l5,m1,m2,m3,m4,zaa];refine hL (i+1,K) ⟨by dsimp only;omega,by dsimp only;omega,?_⟩ (by dsimp only;omega);dsimp only;rw[runI,stepI,if_pos (.inr (.inl hb))];exact hA
  ·have hb':(runI a b h i s).bx.getD i false=false:=(by simpa using hb);rw[hb']at m4;by_cases hh:(subT a i).height=h
   ·have hh':v.t.height=h:=(by rw[<- hvt];exact hh);obtain⟨kv,vk,k1,k2,k3,k4⟩:=zuh hA.st.sx hil;have hsub:=zwi a fa.1 hA.st.sx i hil;obtain⟨lv,q1,q2⟩:=hA.pm.lookF (kf a i)
    have hup:up lv = .v lv:=by
     rcases q2 with⟨rfl,_⟩|⟨k,_,_,_,_,rfl,_⟩<;>rfl
    have hln:sliceLen lv=some (idsOf (kf b) b.size (kf a i)).length:=by
     rcases q2 with⟨rfl,e⟩|⟨k,_,hs⟩
     ·rw[e];rfl
     ·exact hs.len
    simp(disch:=omega) [lx,l5,m1,m2,m3,m4,ix,fullOf,hh',hsub,k1,k2,k3,k4,q1,hup,hln];refine zapk a b fa fb p mp E least _ h i h0 hil hb' hh (fun j hj=>?_) K hA lv q2 _ fun H' hH'=>?_
    ·have:=hI3.len;rw[stepI,if_neg (by rintro(e|e|e);omega;exact hb e;exact e hh),hj]at this;dsimp only at this;rw[Ah,zhx]at this;omega
    ·simp(disch:=omega) [zaa];exact hL (i+1,H') ⟨by dsimp only;omega,by dsimp only;omega,hH'⟩ (by dsimp only;omega)
   ·have hh':¬(v.t.height:Int)=(h:Int):=(by rw[<- hvt];omega);simp(disch:=omega) [lx,l5,m1,m2,m3,m4,ix,fullOf,zaa];refine hL (i+1,K) ⟨by dsimp only;omega,by dsimp only;omega,?_⟩ (by dsimp only;omega);dsimp only;rw[runI,stepI,if_pos (.inr (.inr hh))];exact hA
 ·obtain rfl:i=a.size:=by omega
  simp(disch:=omega) [lx,l5];exact hQ K hA
theorem zapl(x y:Int):evalExt x true [J4 y]=some (max x y):=by
 show some (if y>x then y else x)=_;congr 1;split<;>omega
theorem zbap(x y:Int):evalExt x false [J4 y]=some (min x y):=by
 show some (if y<x then y else x)=_;congr 1;split<;>omega
theorem zahy(a b:Tree)(fa:Fine a)(fb:Fine b)(p:AP)(mp:Nat)(E:List PEnt)(least:Int)(Q:J0):∀(n:Nat)(s:ASt)(bl:J1)(h:Nat)(_:AInv a b h s bl)(H:J2)(_:AM a b p mp E s H)(_:h<1000000)(_:(n:Int)=max 0 ((h:Int)+1-max 1 least))
 (_:∀H',AM a b p mp E (runH a b n h s) H'->Q .normal [(9, .v (J5 p.lb 0 0))] ⟨[],H'⟩),
 wpLoop (CW tr.look) 167 m_87_3 l_87_3 (blkK 2 b_87_2 Q) [(2, .int .i64 least),(7, .v (J5 p.xb 0 0)),(8, .v (J5 p.yb 0 0)),(9, .v (J5 p.lb 0 0)),(10, .v (pfn p)),(11, .v (.map mp)),(13, .int .i64 h)] ⟨[],H⟩:=by
 intro n
 induction n with
 |zero =>
  intro s bl h hI H hM h6 hn hQ;refine zaq ?_;dsimp only[l_87_3];have hlt:¬(max 1 least:Int)<=(h:Int):=(by omega);simp(disch:=omega) [zapl];exact hQ H hM
 |succ n ih =>
  intro s bl h hI H hM h6 hn hQ;refine zaq ?_;dsimp only[l_87_3];have hlt:(max 1 least:Int)<=(h:Int):=(by omega);simp(disch:=omega) [zapl];refine zalu a b fa fb p mp E least s bl h hI H hM _ fun H' hH'=>?_;obtain⟨bl',hI'⟩:=zuf hI (Ak a.size);have hc:(h:Int)-1=((h-1:Nat):Int):=(by omega);simp(disch:=omega) [zaa,hc];refine ih _ bl' (h-1) (hI'.mono (Nat.sub_le h 1)) H' hH' (by omega) (by omega) fun H2 hH2=>hQ H2 ?_;exact hH2
def PV(v:PVal)(L:J1):Prop:=(v = .nilslice/\L=[])\/v = .slice 2 L.length (prc L)
theorem zbaq(L:J1):L.flatMap pc=pcells (prc L):=by
 simp[pcells,prc,List.map_flatMap];rfl
theorem zapm:∀L:J1,(prc L).length=L.length*2
 | []=>rfl
 |p::L=>by
  have:=zapm L;unfold prc at this ⊢;rw[A0,Ah,this];simp;omega
theorem zuj(L:J1):(pcells (prc L)).length=L.length*2:=by rw[pcells,AW,zapm]
theorem zbha{p:AP}{ps:J1}{H:J2}(h:LOK p ps H)(hn:(ps.map (·.1)).Nodup)(hb:ps.length<1000000):∃lv H',H[p.lb]? = some (.cells [lv] 1 0 false)/\up lv = .v lv/\lv.passOK=true /\
 CW tr.look F_93 [lv, .p (.func F_130)] H=some (.tup [],H')/\H'[p.lb]? = some (.cells [lv] 1 0 false)/\(lv = .p .nilslice/\sortP ps=[]\/∃ll,HS H' ll 2 (sortP ps).length lv (pcells (prc (sortP ps)))):=by
 obtain⟨lv,e1,e2⟩:=h;have hlb:p.lb∈p.all:=(by simp[AP.all]);have hset:∀ {v:IVal}{H:J2}{r:IVal×J2},sortSpec pairKit F_130 [v, .p (.func F_130)] H=some r->seatBase.b F_93 [v, .p (.func F_130)] H=some r:=fun h=>zjv (by simp) h;have hlen:(sortP ps).length=ps.length:=(zbh ps).length_eq;rcases e2 with⟨rfl,rfl⟩|⟨ll,hll,⟨ver,cs,op,rfl,hk,hl,hx⟩,h0⟩
 ·refine⟨_,H,e1,rfl,rfl,zif none_93 ?_,e1, .inl ⟨rfl,by simp[sortP]⟩⟩;exact hset (zmn _ _ _)
 ·have hsz:(ps.map toI).toArray.size=ps.length:=(by simp)
  have hs:=zmo pairKit F_130 (H:=H) (i:=ll) (ver:=ver) (off:=0) (ps.map toI).toArray hk (by omega) (by omega) (by rw[hsz];show 0+ps.length*2<=_;omega) (by
   rw[hsz,zsb,<-zbaq,Bn];exact hx)
  rw[hsz,zmp hn,zsb]at hs;refine⟨_,_,e1,rfl,rfl,zif none_93 (hset hs),?_, .inr ⟨ll,ver,_,op,by rw[hlen],zap (Aa.1 hk).1,?_,?_⟩⟩
  ·rw[Ag (fun e:ll=p.lb=>hll (by rw[e];exact hlb))];exact e1
  ·have:(pcells (prc (sortP ps))).length=ps.length*2:=(by rw[zuj,hlen]);simp only[splice,Ah,AD,Bo,hlen];omega
  ·have:(pcells (prc (sortP ps))).length=(sortP ps).length*2:=(by rw[zuj]);simp only[splice,Cb,AT];rw[Bf (by omega),Aq (by omega)]
theorem zahz(a b:Tree)(ha:Fine a)(hb:Fine b)(sa:StrT a)(sb:StrT b)(least:Int)(ca:checkB a=true)(cb:checkB b=true)(hs:¬SameT a b):∃r,CW tr.look F_87 [tagg a,tagg b, J4 least] []=some (r,[])/\∃pv,r = .p pv/\PV pv (sortP (alikeN a b least)):=by
 have h1:=zcx a ha.1;have h2:=zcx b hb.1;rw[ca]at h1;rw[cb]at h2;obtain⟨B0,hB0⟩:∃B0,B0=IBlk.cells [IVal.p .nilptr] 1 0 false:=⟨_,rfl⟩;obtain⟨H1,kl,il,o1,o2,o3,o4,o5,o6⟩:=zabm a ha sa [B0,B0];obtain⟨H2,kl2,il2,q1,q2,q3,q4,q5,q6⟩:=zabm b hb sb H1;have hsm:=zabg _ a b (An _) ha;rw[decide_eq_false hs]at hsm;have k0:H2[0]? = some B0:=(by rw[q2.2 0 (by have:=o2.1;simp at this;omega) (by simp),o2.2 0 (by simp) (by simp)];rfl);have k1:H2[1]? = some B0:=(by rw[q2.2 1 (by have:=o2.1;simp at this;omega) (by simp),o2.2 1 (by simp) (by simp)];rfl);have k0l:=(Aa.1 k0).1;have k1l:=(Aa.1 k1).1;have j0:H1[0]? = some B0:=(by rw[o2.2 0 (by simp) (by simp)];rfl);have j1:H1[1]? = some B0:=(by rw[o2.2 1 (by simp) (by simp)];rfl);rw[hB0]at k0 k1 o1 j0 j1;have w1:=zaj (bx:=[]) (off:=0) (new:=[J5 2 0 0]) k0 (by simp);have k1':(H2.set 0 (.cells [J5 2 0 0] 1 0 false))[1]? = some (.cells [.p .nilptr] 1 0 false):=(by rw[Ag (by omega)];exact k1);have w2:=zaj (bx:=[]) (off:=0) (new:=[J5 H1.length 0 0]) k1' (by simp);have sp:∀x:IVal,splice [IVal.p .nilptr] 0 [x]=[x]:=fun _=>rfl;rw[sp]at w1 w2;refine zew look_87 rfl (zbl (by simp)) rfl ?_;dsimp only[i_87,c_87];simp only[Ay,CS]at o1;have o3':2<kl:=(by simpa using o3);have o4':2<il:=(by simpa using o4);have l1:2<H1.length:=(by have:=o6;obtain⟨kv,iv,e1,_⟩:=this;simpa using(Aa.1 e1).1);have l1k:kl<H1.length:=(by obtain⟨kv,iv,e1,e2,e3⟩:=o6;exact e2.lt);have l1i:il<H1.length:=(by obtain⟨kv,iv,e1,e2,e3⟩:=o6;exact e3.lt);have l2:H1.length<H2.length/\kl2<H2.length/\il2<H2.length:=(by obtain⟨kv,iv,e1,e2,e3⟩:=q6;exact⟨(Aa.1 e1).1,e2.lt,e3.lt⟩);obtain⟨K,hK⟩:∃K,(H2.set 0 (IBlk.cells [IVal.ptr (Key.heap 2) 0 0] 1 0 false)).set 1 (IBlk.cells [IVal.ptr (Key.heap H1.length) 0 0] 1 0 false)++[IBlk.cells [IVal.p PVal.nilslice] 1 0 false]=K:=⟨_,rfl⟩
 have hKx:∀x,1<x->x<H2.length->K[x]? = H2[x]? := fun x h1 h2=>by
  rw[<- hK,Ac (by simp;omega),Ag (by omega),Ag (by omega)]
 obtain⟨p0,hp0⟩:∃p0:AP,p0=⟨0,1,H2.length,2,H1.length,kl,il,kl2,il2,[]⟩:=⟨_,rfl⟩
 have hAS:AS a b p0 (List.replicate a.size false) (List.replicate b.size false) [] K:=by
  subst hp0;refine⟨?_,?_,?_,by simp,by simp,?_,?_,?_⟩
  ·simp[AP.all];omega
  ·rw[<- hK,Ac (by simp;omega),Ag (show(1:Nat)≠0 by omega)];exact zap k0l
  ·rw[<- hK,Ac (by simp;omega)];exact zap (by simpa using k1l)
  ·have:SideOK a 2 kl il (List.replicate a.size false) H1:=o6;exact this.keep (by rw[hKx 2 (by omega) (by omega),q2.2 2 l1 (by simp)]) (by rw[hKx kl (by omega) (by omega),q2.2 kl l1k (by simp)]) (by rw[hKx il (by omega) (by omega),q2.2 il l1i (by simp)])
  ·exact q6.keep (hKx _ (by omega) (by omega)) (hKx _ (by omega) (by omega)) (hKx _ (by omega) (by omega))
  ·refine⟨.p .nilslice,?_, .inl ⟨rfl,rfl⟩⟩;rw[<- hK,Ad (by simp)];simp;rfl
 have hb0:∀x∈p0.fz,x<K.length:=(by rw[hp0];simp);have hall:=hAS.lt hb0;have hfz0:p0.fz=[]:=(by rw[hp0]);have exb:p0.xb=0:=(by rw[hp0]);have eyb:p0.yb=1:=(by rw[hp0]);have elb:p0.lb=H2.length:=(by rw[hp0])
 have hKlb:∀lv,K[p0.lb]? = some (.cells [lv] 1 0 false)->lv = .p .nilslice:=by
  intro lv h;rw[elb,<-hK,Ad (by simp)]at h;rw[show H2.length-((H2.set 0 (IBlk.cells [IVal.ptr (Key.heap 2) 0 0] 1 0 false)).set 1 (IBlk.cells [IVal.ptr (Key.heap H1.length) 0 0] 1 0 false)).length=0 by simp,Az]at h;cases h;rfl
 have hAS1:AS a b p0 (List.replicate a.size false) (List.replicate b.size false) [] (K++[.map [] 0]):=by
  have hk:∀x∈p0.all,(K++[IBlk.map [] 0])[x]? = K[x]? := fun x hx=>Ac (hall x hx);have mem:p0.xb∈p0.all/\p0.yb∈p0.all/\p0.lb∈p0.all/\p0.x0∈p0.all/\p0.y0∈p0.all/\p0.xk∈p0.all/\p0.xi∈p0.all/\p0.yk∈p0.all/\p0.yi∈p0.all:=(by simp[AP.all]);obtain⟨m1,m2,m3,m4,m5,m6,m7,m8,m9⟩:=mem
  exact⟨hAS.nd,(hk _ m1).trans hAS.xb,(hk _ m2).trans hAS.yb,hAS.lx,hAS.lz,hAS.sx.keep (hk _ m4) (hk _ m6) (hk _ m7),hAS.sy.keep (hk _ m5) (hk _ m8) (hk _ m9),
   hAS.l.keep (hk _ m3) fun x _ hx=>Ac hx⟩
 simp(disch:=omega) [zai,h1,h2,o1,q1,w1,w2,hsm,j0,j1,k0,k1,hK];subst hp0;refine zahx a b _ hfz0 hb.1 _ _ _ _ _ _ _ _ hAS1 K.length (by rw[Ad (Ak _),A6];rfl) (fun h=>by have:=hall _ h;omega) (fun lv h=>hKlb lv (by rw[Ac (hall _ (by simp[AP.all]))]at h;exact h)) _ fun H E hA hPM hlt hkp hle=>?_;have lx:=zab (bx:=[]) (off:=0) hA.xb rfl;have ly:=zab (bx:=[]) (off:=0) hA.yb rfl;have l5x:=zui hA.sx;have l5y:=zui hA.sy;have one:=zad a;have oneb:=zad b
 have hv0:∀t:Tree,t.items[0]? = some (fullOf ⟨t, -1,0,0⟩):=fun t=>by
  rw[Tree.items,zfh,Ap,show visT t 0 (-1) 0 0=t.vis from rfl,show t.vis=visT t 0 (-1) 0 0 from rfl,zbu];rfl
 have ixa:idxS 10 (.p (ival a)) (J4 0)=_:=zbx (hv0 a);have ixb:idxS 10 (.p (ival b)) (J4 0)=_:=zbx (hv0 b);simp(disch:=omega) [lx,ly,l5x,l5y,ixa,ixb,fullOf,zbap];have hca:=zyb a;have ha6:=ha.1;have hc:min (a.height:Int) (b.height:Int)=((min a.height b.height:Nat):Int):=(by omega);rw[hc];refine zahy a b ha hb { xb:=0,yb:=1,lb:=H2.length,x0:=2,y0:=H1.length,xk:=kl,xi:=il,yk:=kl2,yi:=il2,fz:=K.length::E.map (·.blk) } K.length E least _ (((min a.height b.height:Nat):Int)+1-max 1 least).toNat (ASt.start a b) [] (min a.height b.height) (zwf a b _) H ⟨hA,hPM,rfl,hlt⟩ (by omega) (by omega) fun H' hM'=>?_;obtain⟨h',bl',hI⟩:=zabh (n:=(((min a.height b.height:Nat):Int)+1-max 1 least).toNat) (zwf a b (min a.height b.height))
 have heq:alikeN a b least=(runH a b (((min a.height b.height:Nat):Int)+1-max 1 least).toNat (min a.height b.height) (ASt.start a b)).ps:=by
  rw[alikeN,if_neg hs]
 obtain⟨lv,H5,s1,s2,s3,s4,s5,s6⟩:=zbha hM'.st.l hI.nx (by have:=hI.len;omega);rw[<- heq]at s6;dsimp only at s1 s4 s5 s6;have z1:=zab (bx:=[]) (off:=0) s1 rfl;have z2:=zab (bx:=[]) (off:=0) s5 rfl;have hden:(up lv).den=lv:=(by rw[s2];rfl);simp(disch:=omega) [z1,z2,s2,s3,s4];rcases s6 with⟨rfl,s6⟩|⟨ll,s6⟩
 ·exact⟨.p .nilslice,rfl, .nilslice,rfl, .inl ⟨rfl,s6⟩⟩
 ·have hz:=zgp s6;obtain⟨ver,cs,op,rfl,_⟩:=s6;rw[zii];refine⟨_,by simp only[freezeOne,hz],_,rfl, .inr rfl⟩
theorem zaub{l:J1}(h:l.Pairwise fun p q=>p.1<=q.1):sortP l=l:=List.mergeSort_of_pairwise (h.imp fun h=>by simpa using h)
theorem zabo(i j:Nat)(k:Nat):(pairsN i j k).Pairwise fun p q=>p.1<=q.1:=by
 have h:((pairsN i j k).map (·.1)).Pairwise (· < ·):=(by rw[znr];exact List.pairwise_lt_range');rw[List.pairwise_map]at h;exact h.imp fun h=>by omega
theorem zauc(a b:Tree)(ha:Fine a)(hb:Fine b)(sa:StrT a)(sb:StrT b)(least:Int)(ca:checkB a=true)(cb:checkB b=true):∃pv,PV pv (sortP (alikeN a b least))/\∀H,CW tr.look F_87 [tagg a,tagg b, J4 least] H=some (.p pv,H):=by
 by_cases hs:SameT a b
 ·refine⟨_, .inr ?_,zalt a b ha hb sa sb least ca cb hs⟩;rw[alikeN,if_pos hs,zaub (zabo _ _ _),zhx];rfl
 ·obtain⟨r,h1,pv,rfl,h2⟩:=zahz a b ha hb sa sb least ca cb hs;exact⟨pv,h2,fun H=>zahs look_87 rfl (by simp) h1⟩
theorem zwk:∀L:J1,prcells L=prc L
 | []=>rfl
 |p::L=>by
  have:=zwk L;simp only[prcells,prc,A0]at this ⊢
theorem zaia{g:FuncId}(hg:g∈[F_130,F_168,F_94])(v:IVal)(o:Option Nat)(L:J1)(hn:(L.map (·.1)).Nodup)(hs:L.length<1000000)(H:J2)(h:VS H o 2 L.length v (pcells (prc L))) :
 ∃H',CW tr.look F_93 [v, .p (.func g)] H=some (.tup [],H')/\VS H' o 2 L.length v (pcells (prc (sortP L))):=by
 have hlen:(sortP L).length=L.length:=(zbh L).length_eq;cases o with
 |none =>
  obtain⟨rfl,h1,h2⟩:=h;have hL:L=[]:=Av.1 h1;subst hL;exact⟨H,zif none_93 (zjv hg (zmn _ _ _)),rfl,rfl,by simp[sortP,prc,pcells]⟩
 |some k =>
  obtain⟨ver,cs,op,rfl,hk,hl,hx⟩:=h;have hsz:(L.map toI).toArray.size=L.length:=(by simp);by_cases h0:L.length=0
  ·obtain rfl:L=[]:=Av.1 h0;exact⟨H,zif none_93 (zjv hg (zxz _ _ _ _ _ _)),ver,cs,op,rfl,hk,by omega,by simpa[sortP]using hx⟩
  ·have hs:=zmo pairKit g (H:=H) (i:=k) (ver:=ver) (off:=0) (L.map toI).toArray hk (by omega) (by omega) (by rw[hsz];show 0+L.length*2<=_;omega) (by
    rw[hsz,zsb,Bn];exact hx)
   rw[hsz,zmp hn,zsb]at hs;refine⟨_,zif none_93 (zjv hg hs),ver,_,op,rfl,zap (Aa.1 hk).1,?_,?_⟩
   ·have:(pcells (prc (sortP L))).length=L.length*2:=(by rw[zuj,hlen]);simp only[splice,Ah,AD,Bo];omega
   ·have:(pcells (prc (sortP L))).length=L.length*2:=(by rw[zuj,hlen]);simp only[splice,Cb,AT];rw[Bf (by omega),Aq (by omega)]
def mapping(s t:Tree):J1:=sortP (pr (postT s 0) (postT t 0) 0 0 [s] [t])
theorem zwl(s t:Tree):(mapping s t).length<=s.size:=by
 have:=zaor (postT s 0) (postT t 0) 0 0 [s] [t];rw[zwa]at this;rw[mapping,(zbh _).length_eq];exact this
end Go.Ideal
namespace Go.Ideal
open Go
set_option linter.unusedSectionVars false
section
variable [Tabs]
attribute [-simp] getElem?_pos
abbrev kI:KTy:=⟨false,[.int]⟩
def ME0:Nat->List (Int×IVal)->List (IVal×IVal×Nat)
 |_,[]=>[]
 |n,(k,v)::r=>(J4 k,v,n)::ME0 (n+1) r
def imap(E:List (Int×IVal)):IBlk := .map (ME0 0 E) E.length
def mfind(k:Int):List (Int×IVal)->Nat->Option (Nat×IVal)
 | [],_=>none
 |(a,v)::r,j=>if a=k then some (j,v)else mfind k r (j+1)
def mget(E:List (Int×IVal))(k:Int):Option IVal:=(mfind k E 0).map (·.2)
theorem kI_eq(a b:Int):eqVals kI (J4 a) (J4 b)=some (decide (a=b)):=by
 by_cases h:a=b<;>simp[eqVals,clsEq,h]
theorem zon(a:Int):isKey kI (J4 a)=true:=by rw[isKey,kI_eq]
theorem zsg(k:Int):∀(E:List (Int×IVal))(n j:Nat),findEnt kI (J4 k) (ME0 n E) j=some (mfind k E j)
 | [],n,j=>rfl
 |(a,v)::r,n,j=>by
  simp only[ME0,findEnt,kI_eq,mfind];by_cases h:a=k
  ·subst h;simp only[decide_true,if_true]
  ·have h':¬k=a:=fun e=>h e.symm;simp only[h,h',decide_false,if_false];exact zsg k r (n+1) (j+1)
theorem zapn:∀(E:List (Int×IVal))(n:Nat),(ME0 n E).length=E.length
 | [],_=>rfl
 |(a,v)::r,n=>by simp[ME0,zapn r]
theorem zapo:∀(E:List (Int×IVal))(n:Nat)(k:Int)(v:IVal),ME0 n (E++[(k,v)])=ME0 n E++[(J4 k,v,n+E.length)]
 | [],n,k,v=>rfl
 |(a,w)::r,n,k,v=>by simp[ME0,zapo r (n+1)];omega
theorem zwm{k:Int}:∀ {E:List (Int×IVal)}{n j:Nat}{v:IVal},mfind k E n=some (j,v)->n<=j/\E[j-n]? = some (k,v)
 | [],n,j,v,h=>by simp[mfind]at h
 |(a,w)::r,n,j,v,h=>by
  simp only[mfind]at h;split at h
  ·rename_i e;injection h with h;injection h with h1 h2;subst h1 h2 e;exact⟨Ak _,by rw[A6];rfl⟩
  ·obtain⟨h1,h2⟩:=zwm h;refine⟨by omega,?_⟩;rw[show j-n=(j-(n+1))+1 by omega,Ar];exact h2
theorem zaeu{k a:Int}{v:IVal}:∀ {E:List (Int×IVal)}{n:Nat},mfind k (E++[(a,v)]) n=match mfind k E n with|some p=>some p|none=>if a=k then some (n+E.length,v)else none
 | [],n=>by simp[mfind]
 |(b,w)::r,n=>by
  simp only[Au,mfind];split
  ·rfl
  ·rw[zaeu];simp only[Ay];rw[show n+1+r.length=n+(r.length+1)by omega]
theorem zabp{k a:Int}{v:IVal}{E:List (Int×IVal)}:mget (E++[(a,v)]) k=match mget E k with|some p=>some p|none=>if a=k then some v else none:=by
 unfold mget;rw[zaeu];cases mfind k E 0 with
 |some p=>rfl
 |none =>
  simp only[B7];split<;>rfl
theorem zaev{k:Int}:∀ {E:List (Int×IVal)}{n j:Nat}{v w:IVal}(l:Int),mfind k E n=some (j,v)->mfind l (E.set (j-n) (k,w)) n=if k=l then some (j,w)else mfind l E n
 | [],n,j,v,w,l,h=>by simp[mfind]at h
 |(a,u)::r,n,j,v,w,l,h=>by
  simp only[mfind]at h;split at h
  ·rename_i e;injection h with h;injection h with h1 h2;subst h1 h2 e;simp only[A6,Bz,mfind];split<;>rfl
  ·rename_i hne;have h0:=(zwm h).1;rw[show j-n=(j-(n+1))+1 by omega,BP];simp only[mfind];split
   ·rename_i e;subst e;rw[if_neg (fun e=>hne e.symm)]
   ·exact zaev l h
theorem zaud{k:Int}{E:List (Int×IVal)}{j:Nat}{v w:IVal}(h:mfind k E 0=some (j,v))(l:Int):mget (E.set j (k,w)) l=if k=l then some w else mget E l:=by
 have:=zaev (w:=w) l h;rw[Ci]at this;unfold mget;rw[this];split<;>rfl
theorem zapp:∀(E:List (Int×IVal))(n j:Nat)(f:IVal×IVal×Nat->IVal×IVal×Nat)(k:Int)(w:IVal),(∀ p,E[j]? = some p->f (J4 p.1,p.2,n+j)=(J4 k,w,n+j))->(ME0 n E).modify j f=ME0 n (E.set j (k,w))
 | [],n,j,f,k,w,h=>by simp[ME0]
 |(a,v)::r,n,0,f,k,w,h=>by
  have:=h (a,v) rfl;simp only[ME0,List.modify_zero_cons,Bz];rw[BA]at this;rw[this]
 |(a,v)::r,n,j+1,f,k,w,h=>by
  simp only[ME0,List.modify_succ_cons,BP]
  rw[zapp r (n+1) j f k w (fun p hp=>by
   have:=h p (by simpa using hp)
   rw[show n+1+j=n+(j+1)by omega];exact this)]
theorem zapq:∀(E:List (Int×IVal))(n j b:Nat),n<=b->b<n+E.length->findBorn (b:Int) (ME0 n E) j=some (j+(b-n))
 | [],n,j,b,h1,h2=>by simp at h2;omega
 |(a,v)::r,n,j,b,h1,h2=>by
  simp only[ME0,findBorn];by_cases e:n=b
  ·subst e;simp
  ·have e':¬(n:Int)=(b:Int):=(by omega);have:=zapq r (n+1) (j+1) b (by omega) (by simp at h2;omega);rw[decide_eq_false e'];simp only;rw[this];congr 1;omega
def mapUpdF(cls:KTy)(x k v:IVal)(H:J2):Option (IVal×J2):=(evalOp noOracle (three x k v) ⟨[],H⟩ (.mapUpd cls (.tmp 0) (.tmp 1) (.tmp 2))).map fun p=>(p.1,p.2.heap)
section
variable {C:Oracle} {ρ:Opd->SV}{M:KM}{k:SV->KM->Prop}
@[simp ↓ high] theorem zawv{c:KTy}{x y z:Opd}:wpOp C ρ M (.mapUpd c x y z) k=gets (mapUpdF c (ρ x).den (ρ y).den (ρ z).den M.H) (@hid _ ⟨fun p=>k (up p.1) ⟨M.B,p.2⟩⟩):=by
 have:wpOp C ρ M (.mapUpd c x y z) k=gets (evalOp C (fun o=>(ρ o).den) ⟨[],M.H⟩ (.mapUpd c x y z)) fun p=>k (up p.1) ⟨M.B,p.2.heap⟩:=rfl;rw[this];unfold mapUpdF;apply propext;refine Iff.trans ?_ zmy.symm;rfl
end
section
variable {H:J2}{m:Nat}{E:List (Int×IVal)}{k:Int}
theorem zjw(hm:H[m]? = some (imap E))(z:IVal):lookupF true z kI (.map m) (J4 k) H=some (.tup [(mget E k).getD z, .p (.bool (mget E k).isSome)]):=by
 simp only[lookupF,evalOp,two,zon,Mem.get,hm,imap,zsg,mget];cases mfind k E 0<;>rfl
theorem znt(hm:H[m]? = some (imap E))(z:IVal):lookupF false z kI (.map m) (J4 k) H=some ((mget E k).getD z):=by
 simp only[lookupF,evalOp,two,zon,Mem.get,hm,imap,zsg,mget];cases mfind k E 0<;>rfl
theorem zqy(hm:H[m]? = some (imap E))(hk:mget E k=none){v:IVal}(hv:v.passOK=true):mapUpdF kI (.map m) (J4 k) v H=some (.tup [],H.set m (imap (E++[(k,v)]))):=by
 have h0:mfind k E 0=none:=by
  unfold mget at hk;cases h:mfind k E 0 with
  |none=>rfl
  |some p=>rw[h]at hk;cases hk
 simp only[mapUpdF,evalOp,three,zon,Mem.get,hm,imap,zsg,hv,h0,Mem.put,AN,zapo,Ah,AK,As]
theorem zaew(hm:H[m]? = some (imap E)){j:Nat}{u:IVal}(hk:mfind k E 0=some (j,u)){v:IVal}(hv:v.passOK=true):mapUpdF kI (.map m) (J4 k) v H=some (.tup [],H.set m (imap (E.set j (k,v)))):=by
 have hj:=(zwm hk).2;rw[Ci]at hj;simp only[mapUpdF,evalOp,three,zon,Mem.get,hm,imap,zsg,hv,hk,Mem.put,AN,AC];rw[zapp E 0 j _ k v (fun p hp=>rfl)]
theorem zto(hm:H[m]? = some (imap E))(hk:mget E k=none)(z:IVal):mapEntF z kI (.map m) (J4 k) H=some (.tup [z, J4 (E.length:Nat)],H.set m (imap (E++[(k,z)]))):=by
 have h0:mfind k E 0=none:=by
  unfold mget at hk;cases h:mfind k E 0 with
  |none=>rfl
  |some p=>rw[h]at hk;cases hk
 simp only[mapEntF,evalOp,two,zon,Mem.get,hm,imap,zsg,h0,Mem.put,AN,zapo,Ah,AK,As]
theorem zzh(hm:H[m]? = some (imap E)){b:Nat}{p:Int×IVal}(hb:E[b]? = some p){v:IVal}(hv:v.passOK=true):entStF (.map m) (J4 (b:Nat)) v H=some (.tup [],H.set m (imap (E.set b (p.1,v)))):=by
 have hl:=(Aa.1 hb).1;simp only[entStF,evalOp,three,Mem.get,hm,imap,hv,Mem.put,AC];rw[zapq E 0 0 b (by omega) (by omega)];simp only[Ci,As,AN];rw[zapp E 0 b _ p.1 v (fun q hq=>by rw[hb]at hq;injection hq with hq;subst hq;rfl)]
end
end
section
variable [Tabs]
attribute [-simp] getElem?_pos
def All2(R:IVal->PVal->Prop):J3->List PVal->Prop
 | [],l=>l=[]
 |v::vs,l=>∃p ps,l=p::ps/\R v p/\All2 R vs ps
def frzP(P:Nat->Prop)(H:J2):Nat->IVal->PVal->Prop
 |0,_,_=>False
 |n+1,v,p=>match v with
  | .p w=>w=p
  | .slice k ver off len=>P k/\∃cs e op,H[k]? = some (.cells cs e ver op)/\off+len*e<=cs.length/\∃l,p = .slice e len l/\All2 (frzP P H n) ((cs.drop off).take (len*e)) l
  |_=>False
theorem All2.imp{R S:IVal->PVal->Prop}(h:∀v p,R v p->S v p):∀ {l:J3}{m:List PVal},All2 R l m->All2 S l m
 | [],_,e=>e
 |v::_,_,⟨p,ps,e,h1,h2⟩=>⟨p,ps,e,h v p h1,All2.imp h h2⟩
theorem All2.append{R:IVal->PVal->Prop}:∀ {l:J3}{m:List PVal}{l':J3}{m':List PVal},All2 R l m->All2 R l' m'->All2 R (l++l') (m++m')
 | [],m,l',m',e,h=>by simp only[All2]at e;subst e;exact h
 |v::vs,m,l',m',⟨p,ps,e,h1,h2⟩,h=>by subst e;exact⟨p,ps++m',rfl,h1,h2.append h⟩
theorem All2.plain{P:Nat->Prop}{H:J2}{n:Nat}:∀(l:List PVal),All2 (frzP P H (n+1)) (pcells l) l
 | []=>rfl
 |p::l=>⟨p,l,rfl,rfl,All2.plain l⟩
theorem zaex{P:Nat->Prop}{H:J2}:∀ {n:Nat}{v:IVal}{p:PVal},frzP P H n v p->frzP P H (n+1) v p
 |0,v,p,h=>h.elim
 |n+1,v,p,h=>by
  unfold frzP at h ⊢;cases v with
  |p w=>exact h
  |slice k ver off len =>
   obtain⟨h1,cs,e,op,h2,h3,l,h4,h5⟩:=h;exact⟨h1,cs,e,op,h2,h3,l,h4,h5.imp fun v p h=>zaex h⟩
  |_=>exact h
theorem zfj{P:Nat->Prop}{H:J2}{n m:Nat}(hnm:n<=m){v:IVal}{p:PVal}(h:frzP P H n v p):frzP P H m v p:=by
 induction hnm with
 |refl=>exact h
 |step _ ih=>exact zaex ih
theorem zjx{P Q:Nat->Prop}{H H':J2}(hk:∀k,P k->k<H.length->Q k/\H'[k]? = H[k]?):∀ {n:Nat}{v:IVal}{p:PVal},frzP P H n v p->frzP Q H' n v p
 |0,v,p,h=>h.elim
 |n+1,v,p,h=>by
  unfold frzP at h ⊢;cases v with
  |p w=>exact h
  |slice k ver off len =>
   obtain⟨h1,cs,e,op,h2,h3,l,h4,h5⟩:=h;obtain⟨g1,g2⟩:=hk k h1 (Aa.1 h2).1;exact⟨g1,cs,e,op,by rw[g2];exact h2,h3,l,h4,h5.imp fun v p h=>zjx hk h⟩
  |_=>exact h
theorem zmz{P:Nat->Prop}{H:J2}{n:Nat}(hp:∀ {v:IVal}{p:PVal},frzP P H n v p->freezeCell H n v=some p):∀ {l:J3}{m:List PVal},All2 (frzP P H n) l m->freezeList (freezeCell H n) l=some m
 | [],m,e=>by simp only[All2]at e;subst e;rfl
 |v::vs,m,⟨p,ps,e,h1,h2⟩=>by
  subst e;simp only[freezeList,hp h1,zmz hp h2]
theorem zpi{P:Nat->Prop}{H:J2}:∀ {n:Nat}{v:IVal}{p:PVal},frzP P H n v p->freezeCell H n v=some p
 |0,v,p,h=>h.elim
 |n+1,v,p,h=>by
  unfold frzP at h;unfold freezeCell;cases v with
  |p w=>simp only at h ⊢;rw[h]
  |slice k ver off len =>
   obtain⟨h1,cs,e,op,h2,h3,l,h4,h5⟩:=h
   have hb:(Nat.beq ver ver&&Nat.ble (off+len*e) cs.length)=true:=by
    rw[AG,Bg];exact AE h3
   simp only[h2,hb,zmz (fun h=>zpi h) h5,h4]
  |_=>exact h.elim
theorem HS.frz{P:Nat->Prop}{H:J2}{n:Nat}{k e len:Nat}{v:IVal}{X:J3}{l:List PVal}(h:HS H k e len v X)(hP:P k)(hX:All2 (frzP P H n) X l):frzP P H (n+1) v (.slice e len l):=by
 obtain⟨ver,cs,op,rfl,h1,h2,h3⟩:=h;exact⟨hP,cs,e,op,h1,by omega,l,rfl,by rw[Bn,h3];exact hX⟩
end
section
variable [Tabs]
attribute [-simp] getElem?_pos
variable {L:List Int}{v:PVal}
def bLo(h:Nat):Option IVal->Option Nat
 |none=>some 0
 |some v=>asBound h v
def bHi(n:Nat):Option IVal->Option Nat
 |none=>some n
 |some v=>asBound n v
def sliceStrF(x:IVal)(lo hi:Option IVal):Option IVal :=
 match x with
 | .p (.str s)=>(bHi s.length hi).bind fun h=>(bLo h lo).map fun l=>.p (.str ((s.drop l).take (h-l)))
 |_=>none
section
variable {C:Oracle} {ρ:Opd->SV}{M:KM}{k:SV->KM->Prop}
@[simp ↓ high] theorem zarc{x:Opd}{l h:Option Opd}:wpOp C ρ M (.sliceStr x l h) k=gets (sliceStrF (ρ x).den (l.map fun o=>(ρ o).den) (h.map fun o=>(ρ o).den)) (@hid _ ⟨fun v=>k (up v) M⟩):=by
 have:wpOp C ρ M (.sliceStr x l h) k=gets (evalOp C (fun o=>(ρ o).den) ⟨[],M.H⟩ (.sliceStr x l h)) fun p=>k (up p.1) ⟨M.B,p.2.heap⟩:=rfl;rw[this];apply propext
 have e:evalOp C (fun o=>(ρ o).den) ⟨[],M.H⟩ (.sliceStr x l h)=(sliceStrF (ρ x).den (l.map fun o=>(ρ o).den) (h.map fun o=>(ρ o).den)).map fun v=>(v,⟨[],M.H⟩):=by
  simp only[evalOp,sliceStrF];generalize (ρ x).den=u;cases u with
  |p v =>
   cases v with
   |str s =>
    have h1:∀n,boundHi (fun o=>(ρ o).den) n h=bHi n (h.map fun o=>(ρ o).den):=fun n=>by cases h<;>rfl
    have h2:∀n,boundLo (fun o=>(ρ o).den) n l=bLo n (l.map fun o=>(ρ o).den):=fun n=>by cases l<;>rfl
    simp only[h1,h2];cases bHi s.length (h.map fun o=>(ρ o).den)with
    |none=>rfl
    |some hh =>
     simp only[Option.bind_some];cases bLo hh (l.map fun o=>(ρ o).den)<;>rfl
   |_=>rfl
  |_=>rfl
 rw[e];exact zmy
end
theorem ztp{s:List UInt8}{h:Int}(h0:0<=h)(h1:h<=s.length):sliceStrF (.p (.str s)) none (some (J4 h))=some (.p (.str (s.take h.toNat))):=by
 simp only[sliceStrF,bHi,asBound];rw[if_pos ⟨h0,h1⟩];simp[bLo]
theorem zoo{s:List UInt8}{l h:Int}(l0:0<=l)(h0:l<=h)(h1:h<=s.length):sliceStrF (.p (.str s)) (some (J4 l)) (some (J4 h))=some (.p (.str ((s.drop l.toNat).take (h.toNat-l.toNat)))):=by
 simp only[sliceStrF,bHi,asBound];rw[if_pos ⟨by omega,h1⟩];simp only[Option.bind_some,bLo,asBound];rw[if_pos ⟨l0,by omega⟩];rfl
theorem zaue(x:Int):∃n:Nat,n<1099511627776/\evalBin .and (J4 x) (J4 1099511627775)=some (.int .i64 n):=by
 refine⟨(BitVec.ofInt 64 x &&& BitVec.ofInt 64 1099511627775).toNat,?_,?_⟩
 ·rw[BitVec.toNat_and];have:(BitVec.ofInt 64 1099511627775).toNat=1099511627775:=(by decide);rw[this];have:=Nat.and_le_right (n:=(BitVec.ofInt 64 x).toNat) (m:=1099511627775);omega
 ·have h1:(BitVec.ofInt 64 x &&& BitVec.ofInt 64 1099511627775).toNat<1099511627776:=by
   rw[BitVec.toNat_and];have:(BitVec.ofInt 64 1099511627775).toNat=1099511627775:=(by decide);rw[this];have:=Nat.and_le_right (n:=(BitVec.ofInt 64 x).toNat) (m:=1099511627775);omega
  have h2:evalBin .and (J4 x) (J4 1099511627775)=some (.int .i64 (IntKind.i64.wrap ((BitVec.ofInt 64 x &&& BitVec.ofInt 64 1099511627775).toNat:Int))):=rfl;rw[h2];generalize (BitVec.ofInt 64 x &&& BitVec.ofInt 64 1099511627775).toNat=n at *
  have:IntKind.i64.wrap (n:Int)=n:=by
   simp[IntKind.wrap,IntKind.signed,IntKind.bits];omega
  rw[this]
def IV(v:PVal)(L:List Int):Prop:=v = .nilslice/\L=[]\/v = .slice 1 L.length (L.map (.int .i64))
theorem IV.len(h:IV v L):sliceLen (.p v)=some L.length:=by
 rcases h with⟨rfl,rfl⟩|rfl<;>rfl
theorem IV.up(h:IV v L):up (.p v) = .v (.p v):=by
 rcases h with⟨rfl,rfl⟩|rfl<;>rfl
theorem IV.idx(h:IV v L){j:Nat}(hj:j<L.length):∃r,idxS 1 (.p v) (J4 j)=some (.p (.ptr (.int .i64 L[j]::r))):=by
 rcases h with⟨rfl,rfl⟩|rfl
 ·simp at hj
 ·rw[zdl hj];refine⟨(L.map (PVal.int .i64)).drop (j+1),?_⟩;rw[Cf,AF (by simpa using hj),BZ]
theorem zqz{H:J2}{v:IVal}{e n:Nat}{X ys:J3}(hv:v = .p .nilslice/\n=0/\X=[]\/∃kl,HS H kl e n v X)(hy:ys.length=e)(hb:n<1000000) :
 up v = .v v/\∃v' H2 kl,evalAppend ⟨[],H++[.cells ys e 0 false]⟩ e v (.slice H.length 0 0 1)=some (v',⟨[],H2⟩)/\(∃ a b c,v' = .slice a b 0 c)/\H.length<=H2.length/\HS H2 kl e (n+1) v' (X++ys)/\(∀ y,y<H.length->y≠kl->H2[y]? = H[y]?)/\(H.length<=kl\/HS H kl e n v X):=by
 rcases hv with⟨rfl,rfl,rfl⟩|⟨kl,hs⟩
 ·refine⟨rfl,_,_,H.length+1,append_nil (ys:=ys) (zch (op:=false) zbb (by simp[hy])) rfl (by omega) (by omega),⟨_,_,_,rfl⟩,by simp,⟨0,_,true,by simp,by rw[Ad (by simp)];simp;rfl,by simp[hy],by rw[AT,Aq (by simp[hy])]⟩,fun y hl _=>?_, .inl (by omega)⟩;rw[Ac (by simp;omega),Ac hl]
 ·have hs0:=hs;obtain⟨ver,cs,op,rfl,hk,hn,hx⟩:=hs;have hkl:=(Aa.1 hk).1;have happ:=zcb (bx:=[]) (H:=H++[.cells ys e 0 false]) (y := .slice H.length 0 0 1) (ny:=1) (by rw[Ac hkl];exact hk) hn (ys:=ys) (zch (op:=false) (ver:=0) (n:=1) zbb (by simp[hy])) rfl (by omega) (by omega);have hnew:=zlc (H:=H++[.cells ys e 0 false]) (ver:=ver) (op:=op) (ys:=ys) (ny:=1) (k:=kl) (by simp;omega) hn (by simp[hy]);rw[hx]at hnew;refine⟨rfl,_,_,kl,happ,⟨_,_,_,rfl⟩,by simp,hnew,fun y hl hne=>?_, .inr hs0⟩;rw[Ag (Ne.symm hne),Ac hl]
end
end Go.Ideal
namespace Go.Ideal
open Go
set_option maxHeartbeats 4000000
set_option maxRecDepth 20000
attribute [-simp] getElem?_pos
section
variable {L:J1}{v:PVal}
theorem zauf{i:Nat}{p:Nat×Nat}(h:L[i]? = some p):(prc L).drop (i*2) = .int .i64 p.1 :: .int .i64 p.2::(prc L).drop (i*2+2):=by
 induction L generalizing i with
 |nil=>simp at h
 |cons q L ih =>
  cases i with
  |zero =>
   rw[Az]at h;injection h with h;subst h;simp[prc]
  |succ i =>
   rw[Ar]at h;have:=ih h;simp only[prc,A0]at this ⊢;rw[show(i+1)*2=i*2+1+1 by omega,Au,Au,AT,BH,BH,this];rw[show i*2+1+1+2=i*2+2+1+1 by omega,BH,BH]
theorem PV.len(h:PV v L):sliceLen (.p v)=some L.length:=by
 rcases h with⟨rfl,rfl⟩|rfl<;>rfl
theorem PV.up(h:PV v L):up (.p v) = .v (.p v):=by
 rcases h with⟨rfl,rfl⟩|rfl<;>rfl
theorem PV.idx(h:PV v L){i:Nat}{p:Nat×Nat}(hi:L[i]? = some p):idxS 2 (.p v) (J4 i)=some (.p (.ptr (.int .i64 p.1 :: .int .i64 p.2::(prc L).drop (i*2+2)))):=by
 have hlt:=(Aa.1 hi).1;rcases h with⟨rfl,rfl⟩|rfl
 ·simp at hlt
 ·rw[zdl hlt,zauf hi]
theorem zsh{t:Tree}(h:∀u∈t.nodes,NodeStr u):StrT t:=by
 intro k v hv;refine h _ ?_;have:(visT t 0 (-1) 0 0).map (·.t)=t.nodes:=zck t 0 (-1) 0 0;rw[<- this];exact A3 (Al hv)
end
section
variable {H:J2}{L:J1}{a b:Tree}
def vI(n:Nat):IVal := J4 n
def toE(L:J1):List (Int×IVal):=L.map fun p=>((p.1:Int),vI p.2)
def byE(L:J1):List (Int×IVal):=L.map fun p=>((p.2:Int),vI p.1)
def toN(L:J1)(i:Nat):Option Nat:=(L.find? fun p=>decide (p.1=i)).map (·.2)
def byN(L:J1)(j:Nat):Option Nat:=(L.find? fun p=>decide (p.2=j)).map (·.1)
theorem zra(i:Nat):∀L:J1,mget (toE L) i=(toN L i).map vI:=by
 have key:∀(L:J1)(j:Nat),(mfind (i:Int) (toE L) j).map (·.2)=(toN L i).map vI:=by
  intro L
  induction L with
  |nil=>intro j;rfl
  |cons p L ih =>
   intro j;simp only[toE,At,mfind,toN,Cy];by_cases h:p.1=i
   ·subst h;simp
   ·have h':¬(p.1:Int)=i:=(by omega);simp only[h',h,if_false,decide_false];exact ih _
 exact fun L=>key L 0
theorem zajq(i:Nat):∀L:J1,mget (byE L) i=(byN L i).map vI:=by
 have key:∀(L:J1)(j:Nat),(mfind (i:Int) (byE L) j).map (·.2)=(byN L i).map vI:=by
  intro L
  induction L with
  |nil=>intro j;rfl
  |cons p L ih =>
   intro j;simp only[byE,At,mfind,byN,Cy];by_cases h:p.2=i
   ·subst h;simp
   ·have h':¬(p.2:Int)=i:=(by omega);simp only[h',h,if_false,decide_false];exact ih _
 exact fun L=>key L 0
theorem zrb{i:Nat}:toN L i=none↔i∉L.map (·.1):=by
 simp only[toN,Cv,List.find?_eq_none,decide_eq_true_eq,AZ,not_exists,not_and]
theorem zabq{i:Nat}:byN L i=none↔i∉L.map (·.2):=by
 simp only[byN,Cv,List.find?_eq_none,decide_eq_true_eq,AZ,not_exists,not_and]
theorem zajr(hn:(L.map (·.1)).Nodup){i j:Nat}:toN L i=some j↔(i,j)∈L:=by
 constructor
 ·intro h;simp only[toN,Aw]at h;obtain⟨p,h1,h2⟩:=h;have h3:=List.find?_some h1;have h4:=CO h1;simp at h3;obtain⟨a,b⟩:=p;simp at h2 h3;subst h2 h3;exact h4
 ·intro h
  induction L with
  |nil=>simp at h
  |cons p L ih =>
   rw[At,Bm]at hn;rcases Am.1 h with rfl|h
   ·simp[toN]
   ·have hne:p.1≠i:=fun e=>hn.1 (by rw[e];exact AZ.2 ⟨_,h,rfl⟩);have:=ih hn.2 h;simp only[toN,Cy,hne,decide_false]at this ⊢;exact this
def frE(L:J1)(i j:Nat):Bool:=(toN L i).isNone&&(byN L j).isNone
def par(t:Tree)(j:Nat):Int:=((t.vis[j]?).map (·.parent)).getD (-1)
def kidsOf(t:Tree)(i:Nat):List Nat:=(List.range t.size).filter fun c=>decide (par t c=(i:Int))
def islice(l:List Nat):PVal:=if l=[]then .nilslice else .slice 1 l.length (l.map fun(i:Nat)=>.int .i64 i)
def kv2(t:Tree):PVal := .slice 1 t.size ((List.range t.size).map fun i=>islice (kidsOf t i))
def mB(a b:Tree)(kt kb:Nat):IBlk := .cells (pcells a.cells++(pcells b.cells++[.p (ival a), .p (ival b), .p (kv2 a), .p (kv2 b), .map kt, .map kb])) 16 0 false
theorem zabr(a b:Tree)(kt kb:Nat):mB a b kt kb = .cells [J4 a.kind, .p (.str a.name), .p (.str a.text), .p (aval a.attrs), .p (kval a.kids), J4 b.kind, .p (.str b.name), .p (.str b.text), .p (aval b.attrs), .p (kval b.kids), .p (ival a), .p (ival b), .p (kv2 a), .p (kv2 b), .map kt, .map kb] 16 0 false:=by
 rw[mB,Tree.zbq,Tree.zbq];rfl
structure MM(a b:Tree)(L:J1)(H:J2):Prop where
 to:H[0]? = some (imap (toE L))
 bye:H[1]? = some (imap (byE L))
 blk:H[2]? = some (mB a b 0 1)
theorem MM.lt(h:MM a b L H):2<H.length:=(Aa.1 h.blk).1
theorem MM.keep{H':J2}(h:MM a b L H)(hk:∀k,k<H.length->H'[k]? = H[k]?):MM a b L H':=by
 have:=h.lt;exact⟨by rw[hk 0 (by omega)];exact h.to,by rw[hk 1 (by omega)];exact h.bye,by rw[hk 2 (by omega)];exact h.blk⟩
abbrev mptr:IVal := J5 2 0 0
theorem MM.ld(h:MM a b L H):loadVal ⟨[],H⟩ none (J5 2 0 10)=some (.p (ival a))/\loadVal ⟨[],H⟩ none (J5 2 0 11)=some (.p (ival b))/\loadVal ⟨[],H⟩ none (J5 2 0 12)=some (.p (kv2 a))/\loadVal ⟨[],H⟩ none (J5 2 0 13)=some (.p (kv2 b))/\loadVal ⟨[],H⟩ none (J5 2 0 14)=some (.map 0)/\loadVal ⟨[],H⟩ none (J5 2 0 15)=some (.map 1):=by
 have hb:=h.blk;rw[zabr]at hb;exact⟨zab hb rfl,zab hb rfl,zab hb rfl,zab hb rfl,zab hb rfl,zab hb rfl⟩
theorem zaey(o:Option Nat):((o.map vI).getD (J4 0))=vI (o.getD 0):=by cases o<;>rfl
theorem zabs(h:MM a b L H)(i j:Nat):CW tr.look F_91 [mptr, J4 i, J4 j] H=some (.p (.bool (frE L i j)),H):=by
 obtain⟨_,_,_,_,l4,l5⟩:=h.ld;have g1:=zjw (k:=(i:Int)) h.to (J4 0);have g2:=zjw (k:=(j:Int)) h.bye (J4 0);rw[zra,zaey]at g1;rw[zajq,zaey]at g2
 obtain⟨r,H',e1,e2,e3⟩:=zah (args:=[mptr, J4 i, J4 j]) (H:=H) (Q:=fun r H'=>r = .p (.bool (frE L i j))/\H'=H) look_91 rfl rfl (by
  dsimp only[i_91,c_91];simp(disch:=omega) [l4,l5,g1,g2,vI]
  cases h1:toN L i<;>cases h2:byN L j<;>simp[frE,h1,h2])
 rw[e1,e2,e3]
theorem zbar(L:J1)(i j:Nat):toE (L++[(i,j)])=toE L++[((i:Int),vI j)]:=by simp[toE]
theorem zbas(L:J1)(i j:Nat):byE (L++[(i,j)])=byE L++[((j:Int),vI i)]:=by simp[byE]
theorem zrc(h:MM a b L H)(i j:Nat)(hf:frE L i j=true):∃H',CW tr.look F_88 [mptr, J4 i, J4 j] H=some (.tup [],H')/\MM a b (L++[(i,j)]) H'/\H'.length=H.length/\∀k,2<=k->H'[k]? = H[k]? := by
 obtain⟨_,_,_,_,l4,l5⟩:=h.ld;have hlt:=h.lt;simp only[frE,Aj,B8]at hf;have n1:mget (toE L) i=none:=(by rw[zra,hf.1];rfl);have n2:mget (byE L) j=none:=(by rw[zajq,hf.2];rfl);have g1:=zto h.to n1 (J4 0);obtain⟨H1,hH1⟩:∃H1,H.set 0 (imap (toE L++[((i:Int), J4 0)]))=H1:=⟨_,rfl⟩;rw[hH1]at g1;have a0:H1[0]? = some (imap (toE L++[((i:Int), J4 0)])):=(by rw[<- hH1];exact zap (by omega));have hl:((toE L++[((i:Int),IVal.p (.int .i64 0))]))[(toE L).length]? = some ((i:Int), J4 0):=(by rw[Ad (Ak _),A6];rfl);have g2:=zzh a0 hl (v:=vI j) rfl;have hset:(toE L++[((i:Int),IVal.p (.int .i64 0))]).set (toE L).length ((i:Int),vI j)=toE (L++[(i,j)]):=(by rw[zbar];simp);rw[hset]at g2;obtain⟨H2,hH2⟩:∃H2,H1.set 0 (imap (toE (L++[(i,j)])))=H2:=⟨_,rfl⟩;rw[hH2]at g2;have hl1:H1.length=H.length:=(by rw[<- hH1,AC]);have hl2:H2.length=H.length:=(by rw[<- hH2,AC,hl1]);have k1:∀k,k≠0->H1[k]? = H[k]? := fun k hk=>by rw[<- hH1,Ag (Ne.symm hk)]
 have k2:∀k,k≠0->H2[k]? = H[k]? := fun k hk=>by rw[<- hH2,Ag (Ne.symm hk),k1 k hk]
 have b0:H2[0]? = some (imap (toE (L++[(i,j)]))):=(by rw[<- hH2];exact zap (by omega));have b1:H2[1]? = some (imap (byE L)):=(by rw[k2 1 (by decide)];exact h.bye);have g3:=zto b1 n2 (J4 0);obtain⟨H3,hH3⟩:∃H3,H2.set 1 (imap (byE L++[((j:Int), J4 0)]))=H3:=⟨_,rfl⟩;rw[hH3]at g3;have c1:H3[1]? = some (imap (byE L++[((j:Int), J4 0)])):=(by rw[<- hH3];exact zap (by omega));have hlb:((byE L++[((j:Int),IVal.p (.int .i64 0))]))[(byE L).length]? = some ((j:Int), J4 0):=(by rw[Ad (Ak _),A6];rfl);have g4:=zzh c1 hlb (v:=vI i) rfl;have hset2:(byE L++[((j:Int),IVal.p (.int .i64 0))]).set (byE L).length ((j:Int),vI i)=byE (L++[(i,j)]):=(by rw[zbas];simp);rw[hset2]at g4;obtain⟨H4,hH4⟩:∃H4,H3.set 1 (imap (byE (L++[(i,j)])))=H4:=⟨_,rfl⟩;rw[hH4]at g4;have hl3:H3.length=H.length:=(by rw[<- hH3,AC,hl2]);have hl4:H4.length=H.length:=(by rw[<- hH4,AC,hl3]);have k3:∀k,k≠1->H3[k]? = H2[k]? := fun k hk=>by rw[<- hH3,Ag (Ne.symm hk)]
 have k4:∀k,k≠1->H4[k]? = H2[k]? := fun k hk=>by rw[<- hH4,Ag (Ne.symm hk),k3 k hk]
 have g2':entStF (.map 0) (J4 ((toE L).length:Nat)) (J4 (j:Nat)) H1=some (.tup [],H2):=g2;have g4':entStF (.map 1) (J4 ((byE L).length:Nat)) (J4 (i:Nat)) H3=some (.tup [],H4):=g4
 obtain⟨r,H',e1,e2,e3⟩:=zah (args:=[mptr, J4 i, J4 j]) (H:=H) (Q:=fun r H'=>r = .tup []/\H'=H4) look_88 rfl rfl (by
  dsimp only[i_88,c_88]
  simp(disch:=omega) [l4,l5,g1,g2',g3,g4'])
 subst e2 e3;refine⟨H',e1,⟨by rw[k4 0 (by decide)];exact b0,?_,by rw[k4 2 (by decide),k2 2 (by decide)];exact h.blk⟩,hl4,fun k hk=>by rw[k4 k (by omega),k2 k (by omega)]⟩;rw[<- hH4];exact zap (by omega)
end
theorem zrd(c0 c1 c2 c3 c4 k:Int)(n x:Bytes)(a z:PVal)(H:J2) :
 CW tr.look F_61 [.agg [J4 c0, J4 c1, J4 c2, J4 c3, J4 c4, J4 k, .p (.str n), .p (.str x), .p a, .p z]] H=some (.agg [J4 k, .p (.str n)],H):=by
 refine zaz look_61 rfl (by simp[plainArgs,plainArg,cellsPlain]) rfl ?_;dsimp only[i_61,c_61];simp(disch:=omega) [];rfl
theorem zfk{t:Tree}{j:Nat}(hj:j<t.size):∃v,t.vis[j]? = some v/\t.items[j]? = some (fullOf v)/\subT t j=v.t/\par t j=v.parent:=by
 obtain⟨v,hv⟩:∃v,t.vis[j]? = some v:=⟨_,Ae (by rw[zbi];exact hj)⟩;refine⟨v,hv,?_,zmx hv,by simp[par,hv]⟩;rw[Tree.items,zfh,Ap];have hv':(visT t 0 (-1) 0 0)[j]? = some v:=hv;rw[hv'];rfl
theorem zajs{t:Tree}{j:Nat}(hj:j<t.size):(j=0/\par t j = -1)\/(0<=par t j/\par t j<j):=by
 obtain⟨v,hv,_,_,hp⟩:=zfk hj;rw[hp];rcases zyz t 0 (-1) 0 0 j v hv with h|h
 ·exact .inl h
 ·exact .inr ⟨by omega,by omega⟩
def CB(E:List (Int×IVal))(B:Nat):Prop:=∀q:Int,∃c:Nat,(mget E q).getD (J4 0)=vI c/\c<=B
theorem CB.mono{E:List (Int×IVal)}{B C:Nat}(h:CB E B)(hb:B<=C):CB E C:=fun q=>by obtain⟨c,h1,h2⟩:=h q;exact⟨c,h1,by omega⟩
theorem zbat{H:J2}{m:Nat}{E:List (Int×IVal)}(hm:H[m]? = some (imap E))(k:Int){v:IVal}(hv:v.passOK=true):∃E',mapUpdF kI (.map m) (J4 k) v H=some (.tup [],H.set m (imap E'))/\∀q,mget E' q=if k=q then some v else mget E q:=by
 cases hk:mfind k E 0 with
 |none =>
  have h0:mget E k=none:=(by simp[mget,hk]);refine⟨_,zqy hm h0 hv,fun q=>?_⟩;rw[zabp];by_cases e:k=q
  ·subst e;rw[h0];try simp
  ·simp only[e,if_false]
   try (cases mget E q<;>rfl)
 |some p =>
  obtain⟨j,u⟩:=p;exact⟨_,zaew hm hk hv,fun q=>zaud hk q⟩
theorem zaez{a b:Tree}{L:J1}(i k:Nat)(kk B:Nat)(hB:B<100000)(_:b.size<1000000)(H0:J2)(hkk:2<kk)(j:Int)(hj : -1<=j/\j<b.size)(E0:List (Int×IVal))(hM0:MM a b L H0)(hE0:H0[kk]? = some (imap E0))(hC0:∀q:Int,∃c:Nat,(mget E0 q).getD (J4 0)=vI c/\c+(j+1).toNat<=B)(Q:J0)
 (hQ:∀E H,MM a b L H->H[kk]? = some (imap E)->CB E B->H.length=H0.length->(∀ x,x≠kk->H[x]? = H0[x]?)->Q .normal [(0, .v mptr),(1, .int .i64 i),(5, .v (.map kk)),(6, .int .i64 k)] ⟨[],H⟩) :
 wpLoop (CW tr.look) 61 m_131_0 l_131_0 (blkK 2 b_131_2 Q) [(0, .v mptr),(1, .int .i64 i),(5, .v (.map kk)),(6, .int .i64 k),(9, .int .i64 j)] ⟨[],H0⟩:=by
 refine zac (α:=Int×List (Int×IVal)×J2) (fun s=>[(0, .v mptr),(1, .int .i64 i),(5, .v (.map kk)),(6, .int .i64 k),(9, .int .i64 s.1)]) (fun s=>⟨[],s.2.2⟩)
  (fun s => -1<=s.1/\s.1<b.size/\MM a b L s.2.2/\s.2.2[kk]? = some (imap s.2.1)/\(∀ q:Int,∃c:Nat,(mget s.2.1 q).getD (J4 0)=vI c/\c+(s.1+1).toNat<=B)/\s.2.2.length=H0.length/\∀x,x≠kk->s.2.2[x]? = H0[x]?) (fun s=>(s.1+1).toNat) ?_ (j,E0,H0) ⟨hj.1,hj.2,hM0,hE0,hC0,rfl,fun _ _=>rfl⟩
 rintro⟨p,E,H⟩⟨h1,h2,hM,hE,hC,hl,hx⟩ R hR;dsimp only at h1 h2 hM hE hC hl hx hR ⊢;dsimp only[l_131_0];by_cases hp:0<=p
 ·obtain⟨n,rfl⟩:=Int.eq_ofNat_of_zero_le hp;have hn:n<b.size:=(by omega);obtain⟨v,hv,hit,_,hpar⟩:=zfk hn;have ix:=zbx hit;obtain⟨_,l1,_,_,_,_⟩:=hM.ld;obtain⟨c,hc,hcb⟩:=hC n;have g1:=znt (k:=(n:Int)) hE (J4 0);rw[hc]at g1;obtain⟨E',g2,g3⟩:=zbat hE (n:Int) (v := J4 ((c:Int)+1)) rfl;obtain⟨H',hH'⟩:∃H',H.set kk (imap E')=H':=⟨_,rfl⟩;rw[hH']at g2;have hkl:=(Aa.1 hE).1;have hx':∀x,x≠kk->H'[x]? = H[x]? := fun x hne=>by rw[<- hH',Ag (Ne.symm hne)]
  have hM':MM a b L H':=⟨by rw[hx' 0 (by omega)];exact hM.to,by rw[hx' 1 (by omega)];exact hM.bye,by rw[hx' 2 (by omega)];exact hM.blk⟩;obtain⟨_,l1',_,_,_,_⟩:=hM'.ld;have hpl:=zajs hn;rw[hpar]at hpl;have hpos:(0:Int)<=(n:Int):=(by omega);simp(disch:=omega) [l1',g1,g2,ix,zaa,vI,fullOf];refine hR (v.parent,E',H') ⟨by dsimp only;omega,by dsimp only;omega,hM',by rw[<- hH'];exact zap hkl,fun q=>?_,by rw[<- hH',AC];exact hl,fun x hne=>(hx' x hne).trans (hx x hne)⟩ (by dsimp only;omega);dsimp only;rw[g3 q];by_cases e:(n:Int)=q
  ·rw[if_pos e];exact⟨c+1,rfl,by omega⟩
  ·rw[if_neg e];obtain⟨c2,h3,h4⟩:=hC q;exact⟨c2,h3,by omega⟩
 ·have hp':p = -1:=(by omega);subst hp';simp(disch:=omega) [];exact hQ E H hM hE (fun q=>by obtain⟨c,h3,h4⟩:=hC q;exact⟨c,h3,by omega⟩) hl hx
def CommonQ(a b:Tree)(L:J1)(H:J2)(r:IVal)(H':J2):Prop:=∃E,r = .map H.length/\H'[H.length]? = some (imap E)/\CB E 3600/\MM a b L H'/\H'.length=H.length+1/\∀x,x<H.length->H'[x]? = H[x]?
theorem zapr{a b:Tree}{L:J1}{H:J2}(h:MM a b L H)(hL:∀p∈L,p.2<b.size)(sa:a.size<=60)(sb:b.size<=60)(i:Nat)(hi:i<a.size):∃r H',CW tr.look F_131 [mptr, J4 i] H=some (r,H')/\CommonQ a b L H r H':=by
 have hlt:=h.lt;obtain⟨v,hv,hit,hsub,hpar⟩:=zfk hi;have ix:=zbx hit
 have hend:i+v.t.size<=a.size:=by
  have:=zgc hi;rw[hsub]at this;exact this
 have hs1:=zad v.t;refine zah look_131 rfl rfl ?_;dsimp only[i_131,c_131];simp(disch:=omega) [zaa]
 refine zac (α:=Nat×List (Int×IVal)×J2) (fun s=>[(0, .v mptr),(1, .int .i64 i),(5, .v (.map H.length)),(6, .int .i64 s.1)]) (fun s=>⟨[],s.2.2⟩)
  (fun s=>i+1<=s.1/\s.1<=i+v.t.size/\MM a b L s.2.2/\s.2.2[H.length]? = some (imap s.2.1)/\CB s.2.1 (60*(s.1-(i+1)))/\s.2.2.length=H.length+1/\∀x,x<H.length->s.2.2[x]? = H[x]?) (fun s=>i+v.t.size-s.1) ?_ (i+1,[],H++[.map [] 0]) ?_
 ·rintro⟨k,E,K⟩⟨h1,h2,hM,hE,hC,hl,hx⟩ R hR;dsimp only at h1 h2 hM hE hC hl hx hR ⊢;dsimp only[l_131_1];obtain⟨l0,l1,_,_,l4,_⟩:=hM.ld;by_cases hk:k<i+v.t.size
  ·have hk':(k:Int)<(i:Int)+(v.t.size:Int):=(by omega);have g1:=zjw (k:=(k:Int)) hM.to (J4 0);rw[zra,zaey]at g1;cases ht:toN L k with
   |none =>
    rw[ht]at g1;simp(disch:=omega) [l0,l4,ix,g1,zaa,vI,fullOf];exact hR (k+1,E,K) ⟨by dsimp only;omega,by dsimp only;omega,hM,hE,hC.mono (by dsimp only;omega),hl,hx⟩ (by dsimp only;omega)
   |some j =>
    rw[ht]at g1
    have hj:j<b.size:=by
     simp only[toN,Aw]at ht;obtain⟨p,hp1,hp2⟩:=ht;have:=hL p (CO hp1);omega
    obtain⟨w,hw,hitw,_,hparw⟩:=zfk hj;have ixj:=zbx hitw;have hpl:=zajs hj;rw[hparw]at hpl;simp(disch:=omega) [l0,l1,l4,ix,ixj,g1,zaa,vI,fullOf];refine zaez i k H.length (60*(k-(i+1))+60) (by omega) (by omega) K (by omega) w.parent (by omega) E hM hE (fun q=>?_) _ fun E2 K2 g2 g3 g4 g5 g6=>?_
    ·obtain⟨c,h3,h4⟩:=hC q;exact⟨c,h3,by omega⟩
    ·simp(disch:=omega) [zaa];exact hR (k+1,E2,K2) ⟨by dsimp only;omega,by dsimp only;omega,g2,g3,g4.mono (by dsimp only;omega),by dsimp only;omega,fun x hx'=>by dsimp only;rw[g6 x (by omega)];exact hx x hx'⟩ (by dsimp only;omega)
  ·have hk':¬(k:Int)<(i:Int)+(v.t.size:Int):=(by omega);simp(disch:=omega) [l0,ix,zaa,fullOf];exact⟨E,rfl,hE,hC.mono (by omega),hM,hl,hx⟩
 ·refine⟨by dsimp only;omega,by dsimp only;omega,h.keep fun k hk=>Ac hk,by dsimp only;exact zbb,fun q=>⟨0,rfl,by omega⟩,by simp,fun x hx=>Ac hx⟩
theorem zaug{a b:Tree}{L:J1}{K:J2}(h:MM a b L K)(sa:a.size<=60)(sb:b.size<=60)(i h2 h3:Nat)(hi:i<a.size)(g2:K[h2]? = some (.cells [mptr] 1 0 false))(g3:K[h3]? = some (.cells [J4 i] 1 0 false))(j:Nat)(hj:j<b.size) :
 ∃S:Nat,S<=200/\CW tr.look F_132 [J4 j, J5 h2 0 0, J5 h3 0 0] K=some (J4 S,K):=by
 obtain⟨v,_,hitv,hsv,_⟩:=zfk hi;obtain⟨w,_,hitw,hsw,_⟩:=zfk hj;have ixv:=zbx hitv;have ixw:=zbx hitw;obtain⟨l0,l1,_,_,_,_⟩:=h.ld;have e1:loadVal ⟨[],K⟩ none (J5 h2 0 0)=some mptr:=zab g2 rfl;have e2:loadVal ⟨[],K⟩ none (J5 h3 0 0)=some (J4 i):=zab g3 rfl;have s1:=zad v.t;have s2:=zad w.t;have b1:=zgc hi;have b2:=zgc hj;rw[hsv]at b1;rw[hsw]at b2;refine⟨v.t.size+w.t.size-2,by omega,?_⟩;have e:((v.t.size+w.t.size-2:Nat):Int)=(v.t.size:Int)+(w.t.size:Int)-2:=(by omega);rw[e]
 obtain⟨r,H',q1,q2,q3⟩:=zah (args:=[J4 j, J5 h2 0 0, J5 h3 0 0]) (H:=K) (Q:=fun r H'=>r = J4 ((v.t.size:Int)+(w.t.size:Int)-2)/\H'=K) look_132 rfl rfl (by
  dsimp only[i_132,c_132]
  simp(disch:=omega) [e1,e2,l0,l1,ixv,ixw,zaa,fullOf])
 rw[q1,q2,q3]
def kinT(t u:Tree):Prop:=t.kind=u.kind/\t.name=u.name
instance (t u:Tree):Decidable (kinT t u):=by unfold kinT;infer_instance
def BestQ(a b:Tree)(L:J1)(i:Nat)(H:J2)(r:IVal)(H':J2):Prop:=MM a b L H'/\H.length<=H'.length/\(∀ x,x<H.length->H'[x]? = H[x]?) /\
 (r = J4 (-1)\/∃j:Nat,r = J4 j/\j<b.size/\frE L i j=true/\kinT (subT a i) (subT b j))
theorem zwn{t:Tree}{j:Nat}{v:Vis}(hit:t.items[j]? = some (fullOf v)):∃rest,idxS 10 (.p (ival t)) (J4 j)=some (.p (.ptr (.int .i64 v.parent :: .int .i64 v.t.size :: .int .i64 v.depth :: .int .i64 v.t.height :: .int .i64 v.place :: .int .i64 v.t.kind :: .str v.t.name :: .str v.t.text::aval v.t.attrs :: .nilslice::rest))):=⟨_,zbx hit⟩
theorem zbau{a b:Tree}{L:J1}{H:J2}(h:MM a b L H)(hL:∀p∈L,p.2<b.size)(sa:a.size<=60)(sb:b.size<=60)(i:Nat)(hi:i<a.size):∃r H',CW tr.look F_89 [mptr, J4 i] H=some (r,H')/\BestQ a b L i H r H':=by
 have hlt:=h.lt;obtain⟨H1,hH1⟩:∃H1,H++[IBlk.cells [mptr] 1 0 false]=H1:=⟨_,rfl⟩;have hl1:H1.length=H.length+1:=(by rw[<- hH1];simp);obtain⟨H2,hH2⟩:∃H2,H1++[IBlk.cells [J4 i] 1 0 false]=H2:=⟨_,rfl⟩;have hl2:H2.length=H.length+2:=(by rw[<- hH2];simp[hl1]);have k1:∀x,x<H.length->H1[x]? = H[x]? := fun x hx=>by rw[<- hH1,Ac hx]
 have k2:∀x,x<H.length->H2[x]? = H[x]? := fun x hx=>by rw[<- hH2,Ac (by omega),k1 x hx]
 have M2:MM a b L H2:=h.keep k2;have b0:H2[H.length]? = some (.cells [mptr] 1 0 false):=(by rw[<- hH2,Ac (by omega),<-hH1];exact zbb);have b1:H2[H.length+1]? = some (.cells [J4 i] 1 0 false):=(by rw[<- hl1,<-hH2];exact zbb);obtain⟨rc,K,c1,E,rfl,c2,c3,M3,c4,c5⟩:=zapr M2 hL sa sb i hi;have d0:K[H.length]? = some (.cells [mptr] 1 0 false):=(by rw[c5 _ (by omega)];exact b0);have d1:K[H.length+1]? = some (.cells [J4 i] 1 0 false):=(by rw[c5 _ (by omega)];exact b1);have e1:loadVal ⟨[],H2⟩ none (J5 H.length 0 0)=some mptr:=zab b0 rfl;have e2:loadVal ⟨[],H2⟩ none (J5 (H.length+1) 0 0)=some (J4 i):=zab b1 rfl;have f1:loadVal ⟨[],K⟩ none (J5 H.length 0 0)=some mptr:=zab d0 rfl;have f2:loadVal ⟨[],K⟩ none (J5 (H.length+1) 0 0)=some (J4 i):=zab d1 rfl;obtain⟨l0,l1,_,_,_,_⟩:=M3.ld;obtain⟨v,_,hitv,hsv,_⟩:=zfk hi;have ixv:=zbx hitv
 have hcnt:∃c:Nat->Nat,∀q:Nat,lookupF false (J4 0) kI (.map H2.length) (J4 q) K=some (J4 (c q))/\c q<=3600:=by
  have:∀q:Nat,∃c:Nat,lookupF false (J4 0) kI (.map H2.length) (J4 q) K=some (J4 c)/\c<=3600:=fun q=>by
   obtain⟨c,g1,g2⟩:=c3 q;have:=znt (k:=(q:Int)) c2 (J4 0);rw[g1]at this;exact⟨c,this,g2⟩
  exact⟨fun q=>(this q).choose,fun q=>(this q).choose_spec⟩
 obtain⟨c,hc⟩:=hcnt
 have hsum:∃S:Nat->Nat,∀j,j<b.size->S j<=200/\CW tr.look F_132 [J4 j, J5 H.length 0 0, J5 (H.length+1) 0 0] K=some (J4 (S j),K):=by
  have:∀j,∃S:Nat,j<b.size->S<=200/\CW tr.look F_132 [J4 j, J5 H.length 0 0, J5 (H.length+1) 0 0] K=some (J4 S,K):=fun j=>by
   by_cases hj:j<b.size
   ·obtain⟨S,g1,g2⟩:=zaug M3 sa sb i _ _ hi d0 d1 j hj;exact⟨S,fun _=>⟨g1,g2⟩⟩
   ·exact⟨0,fun h=>absurd h hj⟩
  exact⟨fun j=>(this j).choose,fun j=>(this j).choose_spec⟩
 obtain⟨S,hS⟩:=hsum;have kK:∀x,x<H.length->K[x]? = H[x]? := fun x hx=>(c5 x (by omega)).trans (k2 x hx);refine zah look_89 rfl rfl ?_;dsimp only[i_89,c_89];have hb1:(some mptr:Option IVal)=some mptr:=rfl;have c1':CW tr.look F_131 [J5 2 0 0, J4 i] H2=some (.map H2.length,K):=c1;simp(disch:=omega) [hH1,hH2,hl1,e1,e2,f1,c1',l1]
 refine zac (α:=Nat×Int) (fun s=>[(2, .v (J5 H.length 0 0)),(3, .v (J5 (H.length+1) 0 0)),(5, .v (.map H2.length)),(6, .v (.func F_132 [J5 H.length 0 0, J5 (H.length+1) 0 0])),(7, .int .i64 s.2),(17, .int .i64 b.size),(18, .int .i64 s.1)]) (fun _=>⟨[],K⟩)
  (fun s=>s.1<=b.size/\(s.2 = -1\/∃m:Nat,s.2=m/\m<b.size/\frE L i m=true/\kinT (subT a i) (subT b m))) (fun s=>b.size-s.1) ?_ (0, -1) ⟨A9 _, .inl rfl⟩
 rintro⟨j,r⟩⟨hj,hr⟩ R hR;dsimp only at hj hr hR ⊢;dsimp only[l_89_0];by_cases hjl:j<b.size
 ·have hlt:(j:Int)<(b.size:Int):=(by omega);obtain⟨w,_,hitw,hsw,_⟩:=zfk hjl;obtain⟨rw1,ixw⟩:=zwn hitw;obtain⟨rv1,ixv⟩:=zwn hitv;have g1:=(hc j).1;have gb:=(hc j).2;have fr:=zabs M3 i j;have fr':CW tr.look F_91 [J5 2 0 0, J4 i, J4 j] K=some (.p (.bool (frE L i j)),K):=fr;have hskip:=hR (j+1,r) ⟨by dsimp only;omega,hr⟩ (by dsimp only;omega);by_cases c0:c j=0
  ·rw[c0]at g1;have g1':lookupF false (J4 0) kI (.map H2.length) (J4 j) K=some (J4 0):=g1;simp(disch:=omega) [g1',zaa];exact hskip
  ·have c0':¬(c j:Int)=0:=(by omega);cases hf:frE L i j with
   |false =>
    rw[hf]at fr';simp(disch:=omega) [g1,f1,f2,fr',zaa];exact hskip
   |true =>
    rw[hf]at fr';by_cases hk:kinT v.t w.t
    ·obtain⟨hk1,hk2⟩:=hk;have hk1':(v.t.kind==w.t.kind)=true:=(by simp[hk1]);have hk2':(v.t.name==w.t.name)=true:=(by simp[hk2]);have hkin:kinT (subT a i) (subT b j):=(by rw[hsv,hsw];exact⟨hk1,hk2⟩);have htake:=hR (j+1,(j:Int)) ⟨by dsimp only;omega, .inr ⟨j,rfl,hjl,hf,hkin⟩⟩ (by dsimp only;omega);rcases hr with rfl|⟨m,rfl,hm,hmf,hmk⟩
     ·simp(disch:=omega) [g1,f1,f2,fr',l0,l1,ixv,ixw,zrd,eqVals,eqCls,clsEq,hk1',hk2',negIf,zaa];exact htake
     ·obtain⟨s1,s2⟩:=hS j hjl;obtain⟨s3,s4⟩:=hS m hm;have g2:=(hc m).1;have gb2:=(hc m).2;have hd:=zbaf (c j) (S j) (c m) (S m) (by omega) (by omega) (by omega) (by omega);have hm0:¬(m:Int)<0:=(by omega);by_cases hdp:0<dice (c j) (S j) (c m) (S m)
      ·simp(disch:=omega) [g1,g2,f1,f2,fr',l0,l1,ixv,ixw,zrd,eqVals,eqCls,clsEq,hk1',hk2',negIf,zaa,s2,s4,hd];exact htake
      ·simp(disch:=omega) [g1,g2,f1,f2,fr',l0,l1,ixv,ixw,zrd,eqVals,eqCls,clsEq,hk1',hk2',negIf,zaa,s2,s4,hd];exact hskip
    ·have hne:(decide (v.t.kind=w.t.kind)&&decide (v.t.name=w.t.name))=false:=by
      cases h:(decide (v.t.kind=w.t.kind)&&decide (v.t.name=w.t.name))
      ·rfl
      ·simp at h;exact absurd h hk
     have hex:¬(v.t.kind=w.t.kind/\v.t.name=w.t.name):=hk;by_cases hk1:v.t.kind=w.t.kind
     ·have hk1':(v.t.kind==w.t.kind)=true:=(by simp[hk1])
      have hk2':(v.t.name==w.t.name)=false:=by
       cases h:v.t.name==w.t.name with
       |false=>rfl
       |true=>exact absurd ⟨hk1,by simpa using h⟩ hk
      simp(disch:=omega) [g1,f1,f2,fr',l0,l1,ixv,ixw,zrd,eqVals,eqCls,clsEq,hk1',hk2',negIf,zaa];exact hskip
     ·have hk1':(v.t.kind==w.t.kind)=false:=(by simp[hk1]);simp(disch:=omega) [g1,f1,f2,fr',l0,l1,ixv,ixw,zrd,eqVals,eqCls,clsEq,hk1',negIf,zaa];exact hskip
 ·have hlt:¬(j:Int)<(b.size:Int):=(by omega);have hbase:MM a b L K/\H.length<=K.length/\∀x,x<H.length->K[x]? = H[x]? := ⟨M3,by rw[c4,hl2];omega,kK⟩;simp(disch:=omega) [];rcases hr with rfl|⟨m,rfl,hm,hmf,hmk⟩
  ·simp(disch:=omega) [];exact⟨hbase.1,hbase.2.1,hbase.2.2, .inl rfl⟩
  ·obtain⟨s3,s4⟩:=hS m hm;have g2:=(hc m).1;have gb2:=(hc m).2;have hm0:¬(m:Int)<0:=(by omega);have hh:=zbag (c m) (S m) (by omega) (by omega);cases hhv:half (c m) (S m)with
   |false =>
    rw[hhv]at hh;simp(disch:=omega) [hm0,g2,s4,hh];exact⟨hbase.1,hbase.2.1,hbase.2.2, .inl rfl⟩
   |true =>
    rw[hhv]at hh;simp(disch:=omega) [hm0,g2,s4,hh];exact⟨hbase.1,hbase.2.1,hbase.2.2, .inr ⟨m,rfl,hm,hmf,hmk⟩⟩
theorem zajt(s t:Tree):(pr (postT s 0) (postT t 0) 0 0 [s] [t]).Pairwise (Fit s t)/\∀p∈pr (postT s 0) (postT t 0) 0 0 [s] [t],p.1<s.size/\p.2<t.size/\cost (nd s p.1) (nd t p.2)<3:=by
 have e:pr (postT s 0) (postT t 0) 0 0 [s] [t]=prT [(s,0)] [(t,0)]:=zbgw s t 0 0 [(s,0)] [(t,0)] (RepT.root s) (RepT.root t);obtain⟨h1,h2,h3,h4⟩:=zbgx s t 0 0 [(s,0)] [(t,0)] (RepT.root s) (RepT.root t) (CZ _ _) (CZ _ _);rw[e];exact⟨h2,h3⟩
theorem zauh(s t:Tree):((pr (postT s 0) (postT t 0) 0 0 [s] [t]).map (·.1)).Nodup:=by
 refine List.pairwise_map.2 ((zajt s t).1.imp fun h=>?_);rcases h with h|h
 ·have:=h.1;omega
 ·have:=h.1;omega
theorem zaib{s t:Tree}{p:Nat×Nat}(h:p∈mapping s t):p.1<s.size/\p.2<t.size/\cost (nd s p.1) (nd t p.2)<3:=(zajt s t).2 p ((zbh _).mem_iff.1 h)
theorem zalv(s t:Tree)(hs:Fine s)(ht:Fine t)(h8:s.size<=8/\t.size<=8):∃pv,PV pv (mapping s t)/\∀H,CW tr.look F_136 [tagg s,tagg t] H=some (.tup [.p pv, J4 0],H):=by
 obtain⟨H1,k,a1,⟨ka,kb,km,ma,mb,b1,b2,b3,b4,b5,b6,b7,b8⟩,a3⟩:=zajg s t hs ht [];have hs1:=zat s;have ht1:=zat t;have m1:ka<ma:=(by obtain⟨_,_,_,_,_,_,_,h,_⟩:=b3.blk;exact h);have hP:Pair H1 k km s t:=⟨ka,kb,ma,mb,[],0,b1,b2,by simp[Memo],b3,b4,b5,b7,by omega⟩;obtain⟨H2,v,o,c1,c2,c3,c4,c5⟩:=zael s t hs ht _ H1 k km 0 0 [s] [t] hP (Rep.root s) (Rep.root t) (An _);have hlen:=zwl s t;rw[mapping,(zbh _).length_eq]at hlen;obtain⟨H3,d1,d2⟩:=zaia (g:=F_168) (by simp) v o _ (zauh s t) (by omega) H2 (by rw[<- zwk];exact c4);have z1:someF 0 ((s.size:Int)-1)=rng 0 (lsize [s]):=(by rw[<- zcr,zwa];congr 1;omega);have z2:someF 0 ((t.size:Int)-1)=rng 0 (lsize [t]):=(by rw[<- zcr,zwa];congr 1;omega);rw[z1,z2]at a1;have e1:decide (s.size<=8)=true:=decide_eq_true h8.1;have e2:decide (t.size<=8)=true:=decide_eq_true h8.2;rw[e1,e2]at a1;simp only[fv]at a1 c1;have hup:=c4.up;have hps:=c4.pass;have hne:v≠.undef:=(by rintro rfl;exact absurd hps (by decide));have hfr:=zmq d2
 obtain⟨pv,hpv,hfp⟩:∃pv,PV pv (mapping s t)/\freezeCell H3 100 v=some pv:=by
  refine⟨_,?_,hfr⟩;cases o with
  |none =>
   left;refine⟨rfl,?_⟩;have h1:=d2.2.1;exact Av.1 (by rw[mapping,(zbh _).length_eq];exact h1)
  |some k=>right;rw[mapping,(zbh _).length_eq]
 have hfo:freezeOne H3 v=some (.p pv):=by
  cases o with
  |none =>
   obtain⟨rfl,_,_⟩:=c4;have h1:freezeCell H3 100 (.p .nilslice)=some .nilslice:=rfl;rw[h1]at hfp;injection hfp with hfp;rw[<- hfp];rfl
  |some k2 =>
   obtain⟨ver,cs,op,rfl,_⟩:=c4;rw[zij,hfp];rfl
 refine⟨pv,hpv,fun H=>?_⟩;refine zaz look_136 rfl (by simp) rfl ?_;dsimp only[i_136,c_136];simp(disch:=omega) [zai,a1,c1,d1,hup,hps,hfo]
theorem zaic(s t:Tree)(hs:Fine s)(ht:Fine t)(H:J2)(h8:¬(s.size<=8/\t.size<=8)):CW tr.look F_136 [tagg s,tagg t] H=some (.tup [.p .nilslice, J4 2],H):=by
 refine zaz look_136 rfl (by simp) rfl ?_;obtain⟨H1,k,a1,_⟩:=zajg s t hs ht []
 have d1:(decide (s.size<=8)&&decide (t.size<=8))=false:=by
  cases h:(decide (s.size<=8)&&decide (t.size<=8))
  ·rfl
  ·simp at h;exact absurd h h8
 rw[d1]at a1;simp only[fv]at a1;dsimp only[i_136,c_136];simp(disch:=omega) [zai,a1]
section
variable {a b t:Tree}
structure PI(a b:Tree)(L:J1):Prop where
 nx:(L.map (·.1)).Nodup
 nz:(L.map (·.2)).Nodup
 ok:∀p∈L,p.1<a.size/\p.2<b.size/\kinT (subT a p.1) (subT b p.2)
theorem PI.add{L:J1}(h:PI a b L){i j:Nat}(hi:i<a.size)(hj:j<b.size)(hf:frE L i j=true)(hk:kinT (subT a i) (subT b j)):PI a b (L++[(i,j)]):=by
 simp only[frE,Aj,B8,zrb,zabq]at hf;refine⟨?_,?_,fun p hp=>?_⟩
 ·rw[AO,Bp];exact⟨h.nx,by simp,fun x hx y hy=>by simp at hy;subst hy;exact fun e=>hf.1 (e ▸ hx)⟩
 ·rw[AO,Bp];exact⟨h.nz,by simp,fun x hx y hy=>by simp at hy;subst hy;exact fun e=>hf.2 (e ▸ hx)⟩
 ·rcases AB.1 hp with hp|hp
  ·exact h.ok p hp
  ·simp at hp;subst hp;exact⟨hi,hj,hk⟩
def MStep(a b:Tree)(L:J1)(H':J2)(P:J1->Prop):Prop:=∃X,MM a b (L++X) H'/\PI a b (L++X)/\P X
theorem zaww(t:Tree){i:Nat}(hi:i<t.size):nd t i=subT t i:=by
 obtain⟨v,hv,_,hs,_⟩:=zfk hi;rw[hs];unfold nd;rw[hv]
theorem zaui{u:Tree}(h:cost t u<3):kinT t u:=by
 unfold cost at h;by_cases hk:kin t u
 ·exact hk
 ·simp[hk]at h
theorem zaid(s t:Tree)(hs:Fine s)(ht:Fine t):∃pv P e,PV pv P/\(∀ p∈P,p.1<s.size/\p.2<t.size/\kinT (subT s p.1) (subT t p.2))/\P.length<=s.size/\∀H,CW tr.look F_136 [tagg s,tagg t] H=some (.tup [.p pv, J4 e],H):=by
 by_cases h8:s.size<=8/\t.size<=8
 ·obtain⟨pv,h1,h2⟩:=zalv s t hs ht h8;refine⟨pv,_,0,h1,fun p hp=>?_,zwl s t,h2⟩;obtain⟨g1,g2,g3⟩:=zaib hp;rw[zaww s g1,zaww t g2]at g3;exact⟨g1,g2,zaui g3⟩
 ·exact⟨.nilslice,[],2, .inl ⟨rfl,rfl⟩,by simp,by simp,fun H=>zaic s t hs ht H h8⟩
theorem MM.trees{L:J1}{H:J2}(h:MM a b L H):loadVal ⟨[],H⟩ (some 5) (J5 2 0 0)=some (tagg a)/\loadVal ⟨[],H⟩ (some 5) (J5 2 0 5)=some (tagg b):=by
 have hb:=h.blk;rw[zabr]at hb;have e1:=zfg (bx:=[]) (n:=5) (off:=0) hb (by simp);have e2:=zfg (bx:=[]) (n:=5) (off:=5) hb (by simp);refine⟨?_,?_⟩
 ·rw[e1];simp[tagg,Tree.zbq,pcells]
 ·rw[e2];simp[tagg,Tree.zbq,pcells]
def SmallQ(a b:Tree)(L:J1)(r:IVal)(H':J2):Prop:=r = .tup []/\MStep a b L H' fun _=>True
theorem zaps(fa:Fine a)(fb:Fine b){L:J1}{H:J2}(h:MM a b L H)(hP:PI a b L)(sa:a.size<=60)(sb:b.size<=60)(i j:Nat)(hi:i<a.size)(hj:j<b.size):∃r H',CW tr.look F_90 [mptr, J4 i, J4 j] H=some (r,H')/\SmallQ a b L r H':=by
 obtain⟨t1,t2⟩:=h.trees;have u1:=zapb a (by omega) i hi;have u2:=zapb b (by omega) j hj;obtain⟨pv,P,e,hpv,hpm,hpl,hz⟩:=zaid (subT a i) (subT b j) (fa.sub hi) (fb.sub hj);have hup:=hpv.up;have hln:=hpv.len;have ea:=zgc hi;have eb:=zgc hj;refine zah look_90 rfl rfl ?_;dsimp only[i_90,c_90];simp(disch:=omega) [t1,t2,u1,u2,zai,hz,hup,hln]
 refine zac (α:=Nat×J1×J2) (fun s=>[(0, .v mptr),(1, .int .i64 i),(2, .int .i64 j),(38, .v (.p pv)),(39, .int .i64 P.length),(40, .int .i64 s.1)]) (fun s=>⟨[],s.2.2⟩)
  (fun s=>s.1<=P.length/\MM a b (L++s.2.1) s.2.2/\PI a b (L++s.2.1)) (fun s=>P.length-s.1) ?_ (0,[],H) ⟨A9 _,by rw[AX];exact h,by rw[AX];exact hP⟩
 rintro⟨k,X,K⟩⟨hk,hM,hI⟩ R hR;dsimp only at hk hM hI hR ⊢;dsimp only[l_90_0];by_cases hkl:k<P.length
 ·have hlt:(k:Int)<(P.length:Int):=(by omega);obtain⟨p,hp⟩:∃p,P[k]? = some p:=⟨_,Ae hkl⟩;have ix:=hpv.idx hp;obtain⟨g1,g2,g3⟩:=hpm p (Al hp);have fr:=zabs hM (i+p.1) (j+p.2)
  have fr':CW tr.look F_91 [J5 2 0 0, J4 ((i:Int)+p.1), J4 ((j:Int)+p.2)] K=some (.p (.bool (frE (L++X) (i+p.1) (j+p.2))),K):=by
   have:=fr;push_cast at this;exact this
  cases hf:frE (L++X) (i+p.1) (j+p.2)with
  |false =>
   rw[hf]at fr';simp(disch:=omega) [ix,fr',zaa];exact hR (k+1,X,K) ⟨by dsimp only;omega,hM,hI⟩ (by dsimp only;omega)
  |true =>
   rw[hf]at fr';obtain⟨K',q1,q2,q3,q4⟩:=zrc hM (i+p.1) (j+p.2) hf;push_cast at q1;have q1':CW tr.look F_88 [J5 2 0 0, J4 ((i:Int)+p.1), J4 ((j:Int)+p.2)] K=some (.tup [],K'):=q1;simp(disch:=omega) [ix,fr',q1',zaa];rw[Ax]at q2;refine hR (k+1,X++[(i+p.1,j+p.2)],K') ⟨by dsimp only;omega,q2,?_⟩ (by dsimp only;omega);dsimp only;rw[<- Ax];exact hI.add (by omega) (by omega) hf (by rw[sub_sub hi g1,sub_sub hj g2];exact g3)
 ·obtain rfl:k=P.length:=by omega
  simp(disch:=omega) [];exact⟨rfl,X,hM,hI,trivial⟩
theorem zsi{i c:Nat}:c∈kidsOf t i↔c<t.size/\par t c=i:=by simp[kidsOf]
theorem zapt{i:Nat}(hi:i<t.size):∃rest,idxS 1 (.p (kv2 t)) (J4 i)=some (.p (.ptr (islice (kidsOf t i)::rest))):=by
 refine⟨((List.range t.size).map fun i=>islice (kidsOf t i)).drop (i+1),?_⟩;rw[kv2,zdl hi,Cf,AF (by simpa using hi),BZ,List.getElem_range]
theorem zwo(l:List Nat):up (.p (islice l)) = .v (.p (islice l)):=by unfold islice;split<;>rfl
theorem zzi(l:List Nat):sliceLen (.p (islice l))=some l.length:=by
 unfold islice;split
 ·rename_i h;subst h;rfl
 ·rfl
theorem zzj{l:List Nat}{j:Nat}{c:Nat}(h:l[j]? = some c):∃rest,idxS 1 (.p (islice l)) (J4 j)=some (.p (.ptr (.int .i64 c::rest))):=by
 obtain⟨h1,h2⟩:=Aa.1 h;unfold islice;rw[if_neg (fun e=>by rw[e]at h1;simp at h1),zdl h1];refine⟨(l.map fun(i:Nat)=>PVal.int .i64 i).drop (j+1),?_⟩;rw[Cf,AF (by simpa using h1),BZ,h2]
end
@[simp] theorem zbkc{t:Tree}:up (.p (kv2 t)) = .v (.p (kv2 t)):=rfl
def Shut(a b:Tree)(L:J1)(c:Nat)(D:List Nat):Prop:=∀d∈D,¬(frE L c d=true/\kinT (subT a c) (subT b d))
theorem zbav{L X:J1}{c d:Nat}(h:frE (L++X) c d=true):frE L c d=true:=by
 simp only[frE,Aj,B8,zrb,zabq,AO,AB,not_or]at h ⊢;exact⟨h.1.1,h.2.1⟩
theorem Shut.app{a b:Tree}{L X:J1}{c:Nat}{D:List Nat}(h:Shut a b L c D):Shut a b (L++X) c D:=fun d hd hh=>h d hd ⟨zbav hh.1,hh.2⟩
theorem zaie(a b:Tree)(L X:J1)(c q:Nat)(D:List Nat):Shut a b (L++(c,q)::X) c D:=fun d _ hh=>by
 have:=hh.1;simp only[frE,Aj,B8,zrb]at this;exact this.1 (by simp)
theorem zalw{a b:Tree}(sb:b.size<=60){L:J1}{K:J2}(hM:MM a b L K)(hI:PI a b L)(j k:Nat)(hk:k<a.size)(sl:IVal)(sn sx:Nat)(Q:J0)
 (hQ:∀X K',MM a b (L++X) K'->PI a b (L++X)->Shut a b (L++X) k (kidsOf b j)->(∀ p∈X,p.1=k)->Q .normal [(0, .v mptr),(2, .int .i64 j),(17, .v sl),(18, .int .i64 sn),(19, .int .i64 sx)] ⟨[],K'⟩)(_:up sl = .v sl) :
 wpLoop (CW tr.look) 65 m_92_0 l_92_0 (blkK 2 b_92_2 Q) [(0, .v mptr),(2, .int .i64 j),(7, .int .i64 k),(17, .v sl),(18, .int .i64 sn),(19, .int .i64 sx),(30, .v (.p (islice (kidsOf b j)))),(31, .int .i64 (kidsOf b j).length),(32, .int .i64 0)] ⟨[],K⟩:=by
 have hup:=zwo (kidsOf b j);obtain⟨l0,l1,_,_,_,_⟩:=hM.ld;obtain⟨v,_,hitv,hsv,_⟩:=zfk hk;obtain⟨rv1,ixv⟩:=zwn hitv
 have hkl:(kidsOf b j).length<=b.size:=by
  have:=BU (fun c=>decide (par b c=(j:Int))) (List.range b.size)
  simpa[kidsOf]using this
 refine zac (α:=Nat) (fun n=>[(0, .v mptr),(2, .int .i64 j),(7, .int .i64 k),(17, .v sl),(18, .int .i64 sn),(19, .int .i64 sx),(30, .v (.p (islice (kidsOf b j)))),(31, .int .i64 (kidsOf b j).length),(32, .int .i64 n)]) (fun _=>⟨[],K⟩)
  (fun n=>n<=(kidsOf b j).length/\Shut a b L k ((kidsOf b j).take n)) (fun n=>(kidsOf b j).length-n) ?_ 0 ⟨A9 _,fun d hd=>by simp at hd⟩
 rintro n ⟨hn,hS⟩ R hR;dsimp only[l_92_0];by_cases hnl:n<(kidsOf b j).length
 ·have hlt:(n:Int)<((kidsOf b j).length:Int):=(by omega);obtain⟨q,hq⟩:∃q,(kidsOf b j)[n]? = some q:=⟨_,Ae hnl⟩;obtain⟨rest,ix⟩:=zzj hq;have hqm:=Al hq;have hqb:=(zsi.1 hqm).1;obtain⟨w,_,hitw,hsw,_⟩:=zfk hqb;obtain⟨rw1,ixw⟩:=zwn hitw;have fr:CW tr.look F_91 [J5 2 0 0, J4 k, J4 q] K=some (.p (.bool (frE L k q)),K):=zabs hM k q;have htk:(kidsOf b j).take (n+1)=(kidsOf b j).take n++[q]:=(by rw[A1,hq];rfl)
  have hnext:¬(frE L k q=true/\kinT (subT a k) (subT b q))->R [(0, .v mptr),(2, .int .i64 j),(7, .int .i64 k),(17, .v sl),(18, .int .i64 sn),(19, .int .i64 sx),(30, .v (.p (islice (kidsOf b j)))),(31, .int .i64 (kidsOf b j).length),(32, .int .i64 ((n+1:Nat)))] ⟨[],K⟩:=fun hne=>hR (n+1) ⟨by omega,fun d hd=>by
   rw[htk]at hd;rcases AB.1 hd with hd|hd
   ·exact hS d hd
   ·simp at hd;subst hd;exact hne⟩ (by omega)
  cases hf:frE L k q with
  |false =>
   rw[hf]at fr;have hr:=hnext (by rw[hf];simp);simp(disch:=omega) [ix,fr,zaa];exact hr
  |true =>
   rw[hf]at fr;by_cases hk1:v.t.kind=w.t.kind
   ·have hk1':(v.t.kind==w.t.kind)=true:=(by simp[hk1]);by_cases hk2:v.t.name=w.t.name
    ·have hk2':(v.t.name==w.t.name)=true:=(by simp[hk2]);have hkin:kinT (subT a k) (subT b q):=(by rw[hsv,hsw];exact⟨hk1,hk2⟩);obtain⟨K',q1,q2,q3,q4⟩:=zrc hM k q hf;have q1':CW tr.look F_88 [J5 2 0 0, J4 k, J4 q] K=some (.tup [],K'):=q1;simp(disch:=omega) [ix,fr,l0,l1,ixv,ixw,zrd,eqVals,eqCls,clsEq,hk1',hk2',negIf,q1'];exact hQ [(k,q)] K' q2 (hI.add hk hqb hf hkin) (zaie a b L [] k q _) (by simp)
    ·have hk2':(v.t.name==w.t.name)=false:=by
      cases h:v.t.name==w.t.name with
      |false=>rfl
      |true=>exact absurd (by simpa using h) hk2
     have hr:=hnext (fun h=>hk2 (by have:=h.2.2;rw[hsv,hsw]at this;exact this));simp(disch:=omega) [ix,fr,l0,l1,ixv,ixw,zrd,eqVals,eqCls,clsEq,hk1',hk2',negIf,zaa];exact hr
   ·have hk1':(v.t.kind==w.t.kind)=false:=(by simp[hk1]);have hr:=hnext (fun h=>hk1 (by have:=h.2.1;rw[hsv,hsw]at this;exact this));simp(disch:=omega) [ix,fr,l0,l1,ixv,ixw,zrd,eqVals,eqCls,clsEq,hk1',negIf,zaa];exact hr
 ·obtain rfl:n=(kidsOf b j).length:=by omega
  rw[Bk]at hS;simp(disch:=omega) [];have:=hQ [] K (by rw[AX];exact hM) (by rw[AX];exact hI) (by rw[AX];exact hS) (by simp);exact this
def DownQ(a b:Tree)(L:J1)(i j:Nat)(r:IVal)(H':J2):Prop:=r = .tup []/\∃X,MM a b (L++X) H'/\PI a b (L++X)/\(∀ c∈kidsOf a i,Shut a b (L++X) c (kidsOf b j))/\∀p∈X,p.1∈kidsOf a i
theorem zauj{a b:Tree}{L:J1}{H:J2}(h:MM a b L H)(hP:PI a b L)(sa:a.size<=60)(sb:b.size<=60)(i j:Nat)(hi:i<a.size)(hj:j<b.size):∃r H',CW tr.look F_92 [mptr, J4 i, J4 j] H=some (r,H')/\DownQ a b L i j r H':=by
 obtain⟨_,_,l2,_,_,_⟩:=h.ld;obtain⟨rk,ixk⟩:=zapt hi;obtain⟨rk2,ixk2⟩:=zapt hj;have hupa:=zwo (kidsOf a i);have hupb:=zwo (kidsOf b j);have hla:=zzi (kidsOf a i);have hlb:=zzi (kidsOf b j)
 have hkl:(kidsOf a i).length<=a.size:=by
  have:=BU (fun c=>decide (par a c=(i:Int))) (List.range a.size)
  simpa[kidsOf]using this
 refine zah look_92 rfl rfl ?_;dsimp only[i_92,c_92];simp(disch:=omega) [l2,ixk,hupa,hla]
 refine zac (α:=Nat×J1×J2) (fun s=>[(0, .v mptr),(2, .int .i64 j),(17, .v (.p (islice (kidsOf a i)))),(18, .int .i64 (kidsOf a i).length),(19, .int .i64 s.1)]) (fun s=>⟨[],s.2.2⟩)
  (fun s=>s.1<=(kidsOf a i).length/\MM a b (L++s.2.1) s.2.2/\PI a b (L++s.2.1)/\(∀ c∈(kidsOf a i).take s.1,Shut a b (L++s.2.1) c (kidsOf b j))/\∀p∈s.2.1,p.1∈kidsOf a i) (fun s=>(kidsOf a i).length-s.1) ?_ (0,[],H) ⟨A9 _,by rw[AX];exact h,by rw[AX];exact hP,fun c hc=>by simp at hc,by simp⟩
 rintro⟨n,X,K⟩⟨hn,hM,hI,hS,hX⟩ R hR;dsimp only at hn hM hI hS hX hR ⊢;dsimp only[l_92_1];by_cases hnl:n<(kidsOf a i).length
 ·have hlt:(n:Int)<((kidsOf a i).length:Int):=(by omega);obtain⟨k,hk⟩:∃k,(kidsOf a i)[n]? = some k:=⟨_,Ae hnl⟩;obtain⟨rest,ix⟩:=zzj hk;have hkm:=Al hk;have hka:=(zsi.1 hkm).1;obtain⟨_,_,_,l3,_,_⟩:=hM.ld;have htk:(kidsOf a i).take (n+1)=(kidsOf a i).take n++[k]:=(by rw[A1,hk];rfl);simp(disch:=omega) [ix,l3,ixk2,hupb,hlb];refine zalw sb hM hI j k hka _ _ _ _ (fun Y K' g1 g2 g3 g4=>?_) hupa;simp(disch:=omega) [zaa];rw[Ax]at g1 g2 g3;refine hR (n+1,X++Y,K') ⟨by dsimp only;omega,g1,g2,fun c hc=>?_,fun p hp=>?_⟩ (by dsimp only;omega)
  ·dsimp only at hc ⊢;rw[htk]at hc;rcases AB.1 hc with hc|hc
   ·rw[<- Ax];exact(hS c hc).app
   ·simp at hc;subst hc;exact g3
  ·dsimp only at hp;rcases AB.1 hp with hp|hp
   ·exact hX p hp
   ·rw[g4 p hp];exact hkm
 ·obtain rfl:n=(kidsOf a i).length:=by omega
  rw[Bk]at hS;simp(disch:=omega) [];exact⟨rfl,X,hM,hI,hS,hX⟩
end Go.Ideal
