/-
  IDEAL SEMANTICS: a map whose values are slices of numbers, each in a block of its own: m[k] = append(m[k], i).
-/
import Derived.Test.YtpcamifaefigaaaGreatW6
import Derived.Test.YtpcamifaefigaaaGreatW2
import Derived.Test.YtpcamifaefigaaaGreatW8
import Derived.Test.YtpcamifaefigaaaGreatW7
namespace Go.Ideal
open Go
set_option linter.unusedSectionVars false
variable [Tabs]
set_option maxHeartbeats 1000000
attribute [-simp] getElem?_pos
structure PEnt where
 key:Int×Int
 blk:Nat
 ids:List Nat
def keyI (k:Int×Int):List IVal:=[.p (.int .u64 k.1), .p (.int .u64 k.2)]
def idC (l:List Nat):List IVal:=l.map fun(i:Nat)=>.p (.int .i64 (i:Int))
theorem zzu (a b:Int×Int):eqVals ⟨true,[.int, .int]⟩ (.agg (keyI a)) (.agg (keyI b))=some (decide (a=b)):=by
 obtain⟨a1,a2⟩:=a
 obtain⟨b1,b2⟩:=b
 by_cases h1:a1=b1<;>by_cases h2:a2=b2<;>simp[keyI,eqVals,eqCls,clsEq,h1,h2]
theorem zuk (a:Int×Int):isKey ⟨true,[.int, .int]⟩ (.agg (keyI a))=true:=by rw[isKey,zzu]
def EOK (H:List IBlk):List PEnt→List (IVal×IVal×Nat)→Nat→Prop
 | [],es,_=>es=[]
 |e::E,es,j=>∃v r,es=(.agg (keyI e.key),v,j)::r∧HS H e.blk 1 e.ids.length v (idC e.ids)∧EOK H E r (j+1)
theorem EOK.length {H:List IBlk}:∀ {E:List PEnt} {es:List (IVal×IVal×Nat)} {j:Nat},EOK H E es j→es.length=E.length
 | [],es,j,h=>by simp only[EOK]at h;subst h;rfl
 |e::E,es,j,⟨v,r,h1,_,h2⟩=>by subst h1;simp[h2.length]
theorem EOK.keep {H H':List IBlk}:∀ {E:List PEnt} {es:List (IVal×IVal×Nat)} {j:Nat},EOK H E es j→(∀ e∈E,H'[e.blk]? = H[e.blk]?)→EOK H' E es j
 | [],es,j,h,_=>h
 |e::E,es,j,⟨v,r,h1,h2,h3⟩,hk=>⟨v,r,h1,h2.keep (hk e (by simp)),h3.keep fun x hx=>hk x (by simp[hx])⟩
theorem EOK.append {H:List IBlk} {x:PEnt} {v:IVal} (hv:HS H x.blk 1 x.ids.length v (idC x.ids)):∀ {E:List PEnt} {es:List (IVal×IVal×Nat)} {j:Nat},EOK H E es j→EOK H (E++[x]) (es++[(.agg (keyI x.key),v,j+E.length)]) j
 | [],es,j,h=>by simp only[EOK]at h;subst h;exact⟨v,[],by simp,hv,rfl⟩
 |e::E,es,j,⟨w,r,h1,h2,h3⟩=>by
  subst h1
  refine⟨w,_,rfl,h2,?_⟩
  have:=EOK.append hv h3
  rw[show j+1+E.length=j+(e::E).length by simp;omega]at this
  exact this
theorem EOK.find {H:List IBlk} {k:Int×Int}:∀ {E:List PEnt} {es:List (IVal×IVal×Nat)} {j:Nat} (i:Nat),EOK H E es j→(E.map (·.key)).Nodup →
 (k∉E.map (·.key)∧findEnt ⟨true,[.int, .int]⟩ (.agg (keyI k)) es i=some none) ∨
 ∃n e v,E[n]? = some e∧e.key=k∧findEnt ⟨true,[.int, .int]⟩ (.agg (keyI k)) es i=some (some (i+n,v))∧HS H e.blk 1 e.ids.length v (idC e.ids)∧es[n]? = some (.agg (keyI k),v,j+n)
 | [],es,j,i,h,_=>by simp only[EOK]at h;subst h;exact .inl ⟨by simp,rfl⟩
 |e::E,es,j,i,⟨v,r,h1,h2,h3⟩,hn=>by
  subst h1
  rw[List.map_cons,List.nodup_cons]at hn
  simp only[findEnt,zzu]
  by_cases hk:k=e.key
  ·subst hk
   exact .inr ⟨0,e,v,rfl,rfl,by simp,h2,rfl⟩
  ·simp only[hk,decide_false]
   rcases EOK.find (i+1) h3 hn.2 with⟨g1,g2⟩|⟨n,e',v',g1,g2,g3,g4,g5⟩
   ·exact .inl ⟨by simp only[List.map_cons,List.mem_cons,not_or];exact⟨hk,g1⟩,g2⟩
   ·refine .inr ⟨n+1,e',v',by simpa using g1,g2,?_,g4,?_⟩
    ·rw[g3];congr 3;omega
    ·rw[List.getElem?_cons_succ,g5];congr 3;omega
theorem EOK.born {H:List IBlk}:∀ {E:List PEnt} {es:List (IVal×IVal×Nat)} {j:Nat} (i n:Nat),EOK H E es j→n<E.length→findBorn ((j+n:Nat):Int) es i=some (i+n)
 | [],es,j,i,n,h,hn=>by simp at hn
 |e::E,es,j,i,n,⟨v,r,h1,h2,h3⟩,hn=>by
  subst h1
  simp only[findBorn]
  cases n with
  |zero=>simp
  |succ n =>
   rw[decide_eq_false (by omega)]
   have:=EOK.born (i+1) n h3 (by simpa using hn)
   rw[show(j+(n+1):Nat)=j+1+n by omega]
   dsimp only
   rw[this];congr 1;omega
theorem EOK.set {H H':List IBlk} {ids':List Nat} {v':IVal}:∀ {E:List PEnt} {es:List (IVal×IVal×Nat)} {j n:Nat} {e:PEnt},EOK H E es j→E[n]? = some e →
 HS H' e.blk 1 ids'.length v' (idC ids')→(∀ m x,m≠n→E[m]? = some x→H'[x.blk]? = H[x.blk]?)→EOK H' (E.set n ⟨e.key,e.blk,ids'⟩) (es.modify n fun x=>(x.1,v',x.2.2)) j
 | [],es,j,n,e,h,hn,_,_=>by simp at hn
 |x::E,es,j,0,e,⟨v,r,h1,h2,h3⟩,hn,hv,hk=>by
  subst h1
  cases hn
  refine⟨v',r,by simp,hv,h3.keep fun y hy=>?_⟩
  obtain⟨m,hm⟩:=List.mem_iff_getElem?.1 hy
  exact hk (m+1) y (by omega) (by simpa using hm)
 |x::E,es,j,n+1,e,⟨v,r,h1,h2,h3⟩,hn,hv,hk=>by
  subst h1
  refine⟨v,r.modify n fun x=>(x.1,v',x.2.2),by simp,h2.keep (hk 0 x (by omega) rfl),?_⟩
  exact EOK.set h3 (by simpa using hn) hv fun m y hm hy=>hk (m+1) y (by omega) (by simpa using hy)
def idsOf (f:Nat→Int×Int) (m:Nat) (k:Int×Int):List Nat:=(List.range m).filter fun i=>decide (0<i)&&decide (f i=k)
theorem zje (f:Nat→Int×Int) (m:Nat) (k:Int×Int):idsOf f (m+1) k=if 0<m∧f m=k then idsOf f m k++[m]else idsOf f m k:=by
 unfold idsOf
 rw[List.range_succ,List.filter_append]
 by_cases h1:0<m<;>by_cases h2:f m=k<;>simp[h1,h2]
structure PM (f:Nat→Int×Int) (m mp:Nat) (E:List PEnt) (H:List IBlk):Prop where
 mpe:∃es,H[mp]? = some (.map es E.length)∧EOK H E es 0
 ids:∀e∈E,e.ids=idsOf f m e.key
 all:∀i,0<i→i<m→f i∈E.map (·.key)
 ky:(E.map (·.key)).Nodup
 nd:(mp::E.map (·.blk)).Nodup
theorem PM.keep {f:Nat→Int×Int} {m mp:Nat} {E:List PEnt} {H H':List IBlk} (h:PM f m mp E H) (hk:∀x∈mp::E.map (·.blk),H'[x]? = H[x]?):PM f m mp E H':=by
 obtain⟨⟨es,h1,h2⟩,h3,h4,h5,h6⟩:=h
 exact⟨⟨es,by rw[hk _ (by simp)];exact h1,h2.keep fun e he=>hk _ (List.mem_cons_of_mem _ (List.mem_map_of_mem he))⟩,h3,h4,h5,h6⟩
theorem PM.look {f:Nat→Int×Int} {m mp:Nat} {E:List PEnt} {H:List IBlk} (h:PM f m mp E H) (k:Int×Int) {bx:List (Nat×IBlk)} {C:Oracle} {ρ:Opd→IVal} {x y:Opd} (hx:ρ x = .map mp) (hy:ρ y = .agg (keyI k)) :
 ∃v,evalOp C ρ ⟨bx,H⟩ (.lookup false (.p .nilslice) ⟨true,[.int, .int]⟩ x y)=some (v,⟨bx,H⟩)∧(v = .p .nilslice∧idsOf f m k=[]∨∃b∈E.map (·.blk),HS H b 1 (idsOf f m k).length v (idC (idsOf f m k))):=by
 obtain⟨⟨es,h1,h2⟩,h3,h4,h5,h6⟩:=h
 have hg:Mem.get ⟨bx,H⟩ (.heap mp)=some (.map es E.length):=h1
 simp only[evalOp,hx,hy,zuk,hg]
 rcases h2.find (k:=k) 0 h5 with⟨g1,g2⟩|⟨n,e,v,g1,g2,g3,g4,g5⟩
 ·refine⟨.p .nilslice,by rw[g2];rfl, .inl ⟨rfl,?_⟩⟩
  refine List.filter_eq_nil_iff.2 fun i hi=>?_
  simp only[Bool.and_eq_true,decide_eq_true_eq,not_and]
  intro hp he
  exact g1 (he ▸ h4 i hp (List.mem_range.1 hi))
 ·have he:=List.mem_of_getElem? g1
  refine⟨v,by rw[g3];rfl, .inr ⟨e.blk,List.mem_map_of_mem he,?_⟩⟩
  rw[h3 e he,g2]at g4
  exact g4
theorem zqa {α:Type}:∀(l:List α) (n:Nat) (f:α→α) (x:α),l[n]? = some x→f x=x→l.modify n f=l
 | [],n,f,x,h,_=>by simp at h
 |y::l,0,f,x,h,e=>by cases h;simp[e]
 |y::l,n+1,f,x,h,e=>by simp[zqa l n f x (by simpa using h) e]
theorem PM.step {f:Nat→Int×Int} {m mp:Nat} {E:List PEnt} {H:List IBlk} (h:PM f m mp E H) (hm:0<m) (hb:m<1000000) (hlt:∀x∈mp::E.map (·.blk),x<H.length) {bx:List (Nat×IBlk)} {C:Oracle} :
 ∃v s H1 v2 H2 H3 E',
  (∀ {ρ:Opd→IVal} {x y:Opd},ρ x = .map mp→ρ y = .agg (keyI (f m))→evalOp C ρ ⟨bx,H++[.cells (idC [m]) 1 0 false]⟩ (.mapEnt (.p .nilslice) ⟨true,[.int, .int]⟩ x y)=some (.tup [v, .p (.int .i64 s)],⟨bx,H1⟩)) ∧
  v.passOK=true∧evalAppend ⟨bx,H1⟩ 1 v (.slice H.length 0 0 1)=some (v2,⟨bx,H2⟩)∧v2.passOK=true∧(∃ a b c,v2 = .slice a b 0 c)∧(v = .p .nilslice∨∃a b c,v = .slice a b 0 c) ∧
  (∀ {ρ:Opd→IVal} {x y z:Opd},ρ x = .map mp→ρ y = .p (.int .i64 s)→ρ z=v2→evalOp C ρ ⟨bx,H2⟩ (.entSt x y z)=some (.tup [],⟨bx,H3⟩)) ∧
  PM f (m+1) mp E' H3∧H.length≤H3.length∧(∀ x,x<H.length→x∉mp::E.map (·.blk)→H3[x]? = H[x]?)∧(∀ x∈E'.map (·.blk),x∈E.map (·.blk)∨H.length≤x)∧(∀ x∈mp::E'.map (·.blk),x<H3.length):=by
 obtain⟨⟨es,h1,h2⟩,h3,h4,h5,h6⟩:=h
 have hmp:=hlt mp (by simp)
 obtain⟨B,hB⟩:∃B,B=IBlk.cells (idC [m]) 1 0 false:=⟨_,rfl⟩
 rw[← hB]
 have hg:Mem.get ⟨bx,H++[B]⟩ (.heap mp)=some (.map es E.length):=by
  show(H++[B])[mp]? = _
  rw[List.getElem?_append_left hmp];exact h1
 have hids:∀e∈E,e.ids.length≤m:=fun e he=>by rw[h3 e he];unfold idsOf;exact Nat.le_trans (List.length_filter_le _ _) (by simp)
 rcases h2.find (k:=f m) 0 h5 with⟨g1,g2⟩|⟨n,e,v,g1,g2,g3,g4,g5⟩
 ·
  have hE0:EOK (H++[B]) E es 0:=h2.keep fun e he=>by rw[List.getElem?_append_left (hlt _ (List.mem_cons_of_mem _ (List.mem_map_of_mem he)))]
  obtain⟨H1,hH1⟩:∃H1,(H++[B]).set mp (.map (es++[(.agg (keyI (f m)), .p .nilslice,E.length)]) (E.length+1))=H1:=⟨_,rfl⟩
  have hH1l:H1.length=H.length+1:=by rw[← hH1];simp
  have hsrc:srcCells ⟨bx,H1⟩ 1 (.slice H.length 0 0 1)=some (idC [m]):=by
   refine zcl (op:=false) ?_ ?_
   ·rw[← hH1,List.getElem?_set_ne (by omega),List.getElem?_append_right (by omega),Nat.sub_self,hB];rfl
   ·simp[idC]
  have happ:=append_nil (bx:=bx) (H:=H1) (esz:=1) (ny:=1) hsrc rfl (by omega) (by omega)
  have hget1:H1[mp]? = some (.map (es++[(.agg (keyI (f m)), .p .nilslice,E.length)]) (E.length+1)):=by rw[← hH1];exact zap (by simp;omega)
  obtain⟨H2,hH2⟩:∃H2,H1++[IBlk.cells (idC [m]) 1 0 true]=H2:=⟨_,rfl⟩
  have hget2:H2[mp]? = some (.map (es++[(.agg (keyI (f m)), .p .nilslice,E.length)]) (E.length+1)):=by rw[← hH2,List.getElem?_append_left (by omega)];exact hget1
  have hlen:=h2.length
  have hborn:findBorn ((E.length:Nat):Int) (es++[(.agg (keyI (f m)), .p .nilslice,E.length)]) 0=some E.length:=by
   have key:∀(E:List PEnt) (es:List (IVal×IVal×Nat)) (j i:Nat) (x:IVal×IVal×Nat),EOK H E es j→x.2.2=j+E.length→findBorn ((j+E.length:Nat):Int) (es++[x]) i=some (i+E.length):=by
    intro E
    induction E with
    |nil=>intro es j i x h hx;simp only[EOK]at h;subst h;obtain⟨x1,x2,x3⟩:=x;simp only[List.length_nil,Nat.add_zero]at hx;subst hx;simp[findBorn]
    |cons e E ih =>
     rintro es j i x ⟨v,r,e1,e2,e3⟩ hx
     subst e1
     rw[List.cons_append,findBorn,decide_eq_false (by simp;omega)]
     dsimp only
     have:=ih r (j+1) (i+1) x e3 (by rw[hx];simp;omega)
     rw[show j+(e::E).length=j+1+E.length by simp;omega,this]
     simp;omega
   have:=key E es 0 0 (.agg (keyI (f m)), .p .nilslice,E.length) h2 (by simp)
   simpa using this
  obtain⟨v2,hv2⟩:∃v2:IVal,v2 = .slice (H.length+1) 0 0 1:=⟨_,rfl⟩
  rw[hH1l,←hv2,hH2]at happ
  refine⟨.p .nilslice,E.length,H1,v2,H2,H2.set mp (.map (es++[(.agg (keyI (f m)),v2,E.length)]) (E.length+1)),E++[⟨f m,H.length+1,[m]⟩],?_,rfl,happ,by rw[hv2];rfl,⟨_,_,_,hv2⟩, .inl rfl,?_,?_,?_,?_,?_,?_⟩
  ·intro ρ x y hx hy
   simp only[evalOp,hx,hy,zuk,hg,g2,Mem.put,hH1]
  ·intro ρ x y z hx hy hz
   have hg2:Mem.get ⟨bx,H2⟩ (.heap mp)=some (.map (es++[(.agg (keyI (f m)), .p .nilslice,E.length)]) (E.length+1)):=hget2
   have hpo:v2.passOK=true:=by rw[hv2];rfl
   simp only[evalOp,hx,hy,hz,hpo,hg2,hborn,Mem.put]
   congr 4
   have key:∀(es:List (IVal×IVal×Nat)) (x:IVal×IVal×Nat) (n:Nat) (g:IVal×IVal×Nat→IVal×IVal×Nat),es.length=n→(es++[x]).modify n g=es++[g x]:=by
    intro es
    induction es with
    |nil=>intro x n g h;subst h;rfl
    |cons a es ih=>intro x n g h;subst h;simp[ih x es.length g rfl]
   rw[key es _ E.length _ hlen]
  ·obtain⟨H3,hH3⟩:∃H3,H2.set mp (.map (es++[(.agg (keyI (f m)),v2,E.length)]) (E.length+1))=H3:=⟨_,rfl⟩
   rw[hH3]
   have hH3x:∀x,x≠mp→H3[x]? = H2[x]? := fun x hx=>by rw[← hH3,List.getElem?_set_ne (Ne.symm hx)]
   have hold:∀x,x<H.length→x≠mp→H3[x]? = H[x]? := fun x hx hne=>by
    rw[hH3x x hne,←hH2,List.getElem?_append_left (by omega),←hH1,List.getElem?_set_ne (Ne.symm hne),List.getElem?_append_left hx]
   rw[List.nodup_cons]at h6
   refine⟨⟨_,by rw[← hH3];simp only[List.length_append,List.length_singleton];exact zap (by rw[← hH2];simp;omega),?_⟩,?_,?_,?_,?_⟩
   ·have hE3:EOK H3 E es 0:=h2.keep fun e he=>hold _ (hlt _ (List.mem_cons_of_mem _ (List.mem_map_of_mem he))) (fun e'=>h6.1 (e' ▸ List.mem_map_of_mem he))
    have:=EOK.append (x:=⟨f m,H.length+1,[m]⟩) (v:=v2) (H:=H3) ⟨0,idC [m],true,hv2,by
     dsimp only
     rw[hH3x _ (by omega),←hH2,List.getElem?_append_right (by omega),hH1l,Nat.sub_self];rfl,by simp[idC],by simp[idC]⟩ hE3
    simpa using this
   ·intro e he
    rcases List.mem_append.1 he with he|he
    ·rw[h3 e he,zje,if_neg (fun hc:0<m∧f m=e.key=>g1 (hc.2 ▸ List.mem_map_of_mem he))]
    ·rw[List.mem_singleton]at he
     subst he
     dsimp only
     rw[zje,if_pos ⟨hm,rfl⟩]
     have:idsOf f m (f m)=[]:=by
      refine List.filter_eq_nil_iff.2 fun i hi=>?_
      simp only[Bool.and_eq_true,decide_eq_true_eq,not_and]
      intro hp he
      exact g1 (he ▸ h4 i hp (List.mem_range.1 hi))
     rw[this];rfl
   ·intro i h0 hi
    rw[List.map_append,List.mem_append]
    rcases Nat.lt_or_ge i m with h'|h'
    ·exact .inl (h4 i h0 h')
    ·have:i=m:=by omega
     subst this;exact .inr (by simp)
   ·rw[List.map_append]
    refine List.nodup_append.2 ⟨h5,by simp,fun a ha b hb e=>?_⟩
    simp at hb;subst hb e
    exact g1 ha
   ·rw[List.map_append,List.nodup_cons,List.mem_append,not_or]
    refine⟨⟨h6.1,by simp;omega⟩,List.nodup_append.2 ⟨h6.2,by simp,fun a ha b hb e=>?_⟩⟩
    simp at hb;subst hb e
    have:=hlt _ (List.mem_cons_of_mem _ ha)
    omega
  ·rw[List.length_set,←hH2];simp;omega
  ·intro x hx hno
   rw[List.mem_cons,not_or]at hno
   rw[List.getElem?_set_ne (Ne.symm hno.1),←hH2,List.getElem?_append_left (by omega),←hH1,List.getElem?_set_ne (Ne.symm hno.1),List.getElem?_append_left hx]
  ·intro x hx
   rw[List.map_append,List.mem_append]at hx
   rcases hx with hx|hx
   ·exact .inl hx
   ·simp at hx;exact .inr (by omega)
  ·intro x hx
   rw[List.length_set,←hH2,List.length_append,hH1l]
   rw[List.mem_cons,List.map_append,List.mem_append]at hx
   rcases hx with rfl|hx|hx
   ·simp;omega
   ·have:=hlt _ (List.mem_cons_of_mem _ hx);simp;omega
   ·simp at hx;subst hx;simp
 ·
  have he:=List.mem_of_getElem? g1
  have hen:=(List.getElem?_eq_some_iff.1 g1).1
  have hebl:=hlt _ (List.mem_cons_of_mem _ (List.mem_map_of_mem he))
  have hids:=hids e he
  rw[List.nodup_cons]at h6
  have hne:e.blk≠mp:=fun e'=>h6.1 (e' ▸ List.mem_map_of_mem he)
  have hmod:es.modify n (fun x=>(IVal.agg (keyI (f m)),x.2.1,x.2.2))=es:=zqa _ _ _ _ g5 rfl
  have hsame:(H++[B]).set mp (.map es E.length)=H++[B]:=by
   apply List.ext_getElem?
   intro i
   by_cases hi:i=mp
   ·subst hi
    rw[zap (by simp;omega)];exact hg.symm
   ·rw[List.getElem?_set_ne (Ne.symm hi)]
  have hgk:HS (H++[B]) e.blk 1 e.ids.length v (idC e.ids):=g4.keep (List.getElem?_append_left hebl)
  obtain⟨ver,cs,op,rfl,hk1,hk2,hk3⟩:=hgk
  have hsrc:srcCells ⟨bx,H++[B]⟩ 1 (.slice H.length 0 0 1)=some (idC [m]):=by
   refine zcl (op:=false) ?_ ?_
   ·rw[List.getElem?_append_right (by omega),Nat.sub_self,hB];rfl
   ·simp[idC]
  have happ:=zbx (bx:=bx) hk1 hk2 hsrc rfl (by omega) (ny:=1) (by omega)
  have hnew:=zlm (H:=H++[B]) (ver:=ver) (op:=op) (ys:=idC [m]) (ny:=1) (k:=e.blk) (by simp;omega) hk2 (by simp[idC])
  rw[hk3]at hnew
  obtain⟨H2,hH2⟩:∃H2,(H++[B]).set e.blk (appBlk cs (idC [m]) 1 e.ids.length 1 ver op)=H2:=⟨_,rfl⟩
  rw[hH2]at happ hnew
  obtain⟨v2,hv2⟩:∃v2:IVal,v2 = .slice e.blk (appVer cs 1 e.ids.length 1 ver) 0 (e.ids.length+1):=⟨_,rfl⟩
  rw[← hv2]at happ hnew
  have hget2:Mem.get ⟨bx,H2⟩ (.heap mp)=some (.map es E.length):=by
   show H2[mp]? = _
   rw[← hH2,List.getElem?_set_ne hne];exact hg
  have hborn:=h2.born 0 n hen
  rw[Nat.zero_add]at hborn
  obtain⟨H3,hH3⟩:∃H3,H2.set mp (.map (es.modify n fun x=>(x.1,v2,x.2.2)) E.length)=H3:=⟨_,rfl⟩
  have hbornAt:bornAt es n=n:=by rw[bornAt,g5];simp
  have hH3x:∀x,x≠mp→H3[x]? = H2[x]? := fun x hx=>by rw[← hH3,List.getElem?_set_ne (Ne.symm hx)]
  have hold:∀x,x<H.length→x≠mp→x≠e.blk→H3[x]? = H[x]? := fun x hx h0 h1=>by
   rw[hH3x x h0,←hH2,List.getElem?_set_ne (Ne.symm h1),List.getElem?_append_left hx]
  have hmap:(E.set n ⟨e.key,e.blk,e.ids++[m]⟩).map (·.blk)=E.map (·.blk):=by
   rw[List.map_set]
   apply List.ext_getElem?
   intro i
   by_cases hi:i=n
   ·subst hi;rw[List.getElem?_set_self (by simpa using hen),List.getElem?_map,g1];rfl
   ·rw[List.getElem?_set_ne (Ne.symm hi)]
  have hmapk:(E.set n ⟨e.key,e.blk,e.ids++[m]⟩).map (·.key)=E.map (·.key):=by
   rw[List.map_set]
   apply List.ext_getElem?
   intro i
   by_cases hi:i=n
   ·subst hi;rw[List.getElem?_set_self (by simpa using hen),List.getElem?_map,g1];rfl
   ·rw[List.getElem?_set_ne (Ne.symm hi)]
  refine⟨.slice e.blk ver 0 e.ids.length,n,H++[B],v2,H2,H3,E.set n ⟨e.key,e.blk,e.ids++[m]⟩,?_,rfl,happ,by rw[hv2];rfl,⟨_,_,_,hv2⟩, .inr ⟨_,_,_,rfl⟩,?_,?_,?_,?_,?_,?_⟩
  ·intro ρ x y hx hy
   rw[Nat.zero_add]at g3
   simp only[evalOp,hx,hy,zuk,hg,g3,Mem.put,hmod,hsame,hbornAt]
  ·intro ρ x y z hx hy hz
   have hpo:v2.passOK=true:=by rw[hv2];rfl
   simp only[evalOp,hx,hy,hz,hpo,hget2,hborn,Mem.put,hH3]
  ·refine⟨⟨_,by rw[← hH3,List.length_set];exact zap (by rw[← hH2];simp;omega),?_⟩,?_,?_,by rw[hmapk];exact h5,by rw[hmap,List.nodup_cons];exact h6⟩
   ·have hH23:H3[e.blk]? = H2[e.blk]? := hH3x _ hne
    have hE3:=EOK.set (H':=H3) (ids':=e.ids++[m]) (v':=v2) h2 g1 (by
     have:idC (e.ids++[m])=idC e.ids++idC [m]:=by simp[idC]
     rw[this,List.length_append]
     exact hnew.keep hH23) (fun k x hk hx=>by
      have hx':=List.mem_of_getElem? hx
      refine hold _ (hlt _ (List.mem_cons_of_mem _ (List.mem_map_of_mem hx'))) (fun e'=>h6.1 (e' ▸ List.mem_map_of_mem hx')) (fun e'=>hk ?_)
      have a1:(E.map (·.blk))[k]? = some x.blk:=by rw[List.getElem?_map,hx];rfl
      have a2:(E.map (·.blk))[n]? = some e.blk:=by rw[List.getElem?_map,g1];rfl
      have hkl:k<(E.map (·.blk)).length:=(List.getElem?_eq_some_iff.1 a1).1
      exact(List.getElem?_inj hkl h6.2).1 (by rw[a1,a2,e']))
    exact hE3
   ·intro x hx
    rcases List.mem_iff_getElem?.1 hx with⟨k,hk⟩
    by_cases hkn:k=n
    ·subst hkn
     rw[List.getElem?_set_self hen]at hk
     cases hk
     dsimp only
     rw[h3 e he,g2,zje,if_pos ⟨hm,rfl⟩]
    ·rw[List.getElem?_set_ne (Ne.symm hkn)]at hk
     have hx':=List.mem_of_getElem? hk
     rw[h3 x hx',zje,if_neg]
     rintro⟨_,hc⟩
     have a1:(E.map (·.key))[k]? = some x.key:=by rw[List.getElem?_map,hk];rfl
     have a2:(E.map (·.key))[n]? = some e.key:=by rw[List.getElem?_map,g1];rfl
     have hkl:k<(E.map (·.key)).length:=(List.getElem?_eq_some_iff.1 a1).1
     exact hkn ((List.getElem?_inj hkl h5).1 (by rw[a1,a2,g2,hc]))
   ·intro i h0 hi
    rw[hmapk]
    rcases Nat.lt_or_ge i m with h'|h'
    ·exact h4 i h0 h'
    ·have:i=m:=by omega
     subst this;rw[← g2];exact List.mem_map_of_mem he
  ·rw[← hH3,List.length_set,←hH2];simp
  ·intro x hx hno
   rw[List.mem_cons,not_or]at hno
   exact hold x hx hno.1 (fun e'=>hno.2 (e' ▸ List.mem_map_of_mem he))
  ·intro x hx
   rw[hmap]at hx;exact .inl hx
  ·intro x hx
   rw[hmap]at hx
   have:=hlt x hx
   rw[← hH3,List.length_set,←hH2];simp;omega
def two (x y:IVal):Opd→IVal
 | .tmp 0=>x
 |_=>y
def three (x y z:IVal):Opd→IVal
 | .tmp 0=>x
 | .tmp 1=>y
 |_=>z
def mapEntF (z:IVal) (cls:KTy) (x k:IVal) (H:List IBlk):Option (IVal×List IBlk):=(evalOp noOracle (two x k) ⟨[],H⟩ (.mapEnt z cls (.tmp 0) (.tmp 1))).map fun p=>(p.1,p.2.heap)
def lookupF (ok:Bool) (z:IVal) (cls:KTy) (x k:IVal) (H:List IBlk):Option IVal:=(evalOp noOracle (two x k) ⟨[],H⟩ (.lookup ok z cls (.tmp 0) (.tmp 1))).map fun p=>p.1
def entStF (x s v:IVal) (H:List IBlk):Option (IVal×List IBlk):=(evalOp noOracle (three x s v) ⟨[],H⟩ (.entSt (.tmp 0) (.tmp 1) (.tmp 2))).map fun p=>(p.1,p.2.heap)
theorem zij {α β:Type} {o:Option α} {g:α→β} {Q:β→Prop}:gets (o.map g) Q↔gets o fun a=>Q (g a):=by
 cases o<;>simp[gets]
section
variable {C:Oracle} {ρ:Opd→SV} {M:KM} {k:SV→KM→Prop}
@[simp ↓ high] theorem zaoa {c:KTy} {z:IVal} {x y:Opd}:wpOp C ρ M (.mapEnt z c x y) k=gets (mapEntF z c (ρ x).den (ρ y).den M.H) (@hid _ ⟨fun p=>k (up p.1) ⟨M.B,p.2⟩⟩):=by
 have:wpOp C ρ M (.mapEnt z c x y) k=gets (evalOp C (fun o=>(ρ o).den) ⟨[],M.H⟩ (.mapEnt z c x y)) fun p=>k (up p.1) ⟨M.B,p.2.heap⟩:=rfl
 rw[this]
 unfold mapEntF
 apply propext
 refine Iff.trans ?_ zij.symm
 rfl
@[simp ↓ high] theorem zaob {c:KTy} {z:IVal} {o:Bool} {x y:Opd}:wpOp C ρ M (.lookup o z c x y) k=gets (lookupF o z c (ρ x).den (ρ y).den M.H) (@hid _ ⟨fun v=>k (up v) M⟩):=by
 have:wpOp C ρ M (.lookup o z c x y) k=gets (evalOp C (fun o=>(ρ o).den) ⟨[],M.H⟩ (.lookup o z c x y)) fun p=>k (up p.1) ⟨M.B,p.2.heap⟩:=rfl
 rw[this]
 unfold lookupF
 apply propext
 refine Iff.trans ?_ zij.symm
 have e:evalOp C (fun o=>(ρ o).den) ⟨[],M.H⟩ (.lookup o z c x y)=evalOp noOracle (two (ρ x).den (ρ y).den) ⟨[],M.H⟩ (.lookup o z c (.tmp 0) (.tmp 1)):=rfl
 rw[e]
 have hM:∀p,evalOp noOracle (two (ρ x).den (ρ y).den) ⟨[],M.H⟩ (.lookup o z c (.tmp 0) (.tmp 1))=some p→p.2.heap=M.H:=by
  intro p hp
  simp only[evalOp,lookRes]at hp
  repeat' (split at hp)
  all_goals first|(cases hp;done)|(injection hp with hp;subst hp;rfl)
 cases hq:evalOp noOracle (two (ρ x).den (ρ y).den) ⟨[],M.H⟩ (.lookup o z c (.tmp 0) (.tmp 1))with
 |none=>simp[]
 |some p =>
  have e2:=hM p hq
  rw[zex,zex,e2]
  rfl
@[simp ↓ high] theorem zart {x y z:Opd}:wpOp C ρ M (.entSt x y z) k=gets (entStF (ρ x).den (ρ y).den (ρ z).den M.H) (@hid _ ⟨fun p=>k (up p.1) ⟨M.B,p.2⟩⟩):=by
 have:wpOp C ρ M (.entSt x y z) k=gets (evalOp C (fun o=>(ρ o).den) ⟨[],M.H⟩ (.entSt x y z)) fun p=>k (up p.1) ⟨M.B,p.2.heap⟩:=rfl
 rw[this]
 unfold entStF
 apply propext
 refine Iff.trans ?_ zij.symm
 rfl
end
theorem PM.lookF {f:Nat→Int×Int} {m mp:Nat} {E:List PEnt} {H:List IBlk} (h:PM f m mp E H) (k:Int×Int) :
 ∃v,lookupF false (.p .nilslice) ⟨true,[.int, .int]⟩ (.map mp) (.agg (keyI k)) H=some v∧(v = .p .nilslice∧idsOf f m k=[]∨∃b∈E.map (·.blk),HS H b 1 (idsOf f m k).length v (idC (idsOf f m k))):=by
 obtain⟨v,h1,h2⟩:=h.look k (bx:=[]) (C:=noOracle) (ρ:=two (.map mp) (.agg (keyI k))) (x := .tmp 0) (y := .tmp 1) rfl rfl
 exact⟨v,by unfold lookupF;rw[h1];rfl,h2⟩
theorem PM.stepF {f:Nat→Int×Int} {m mp:Nat} {E:List PEnt} {H:List IBlk} (h:PM f m mp E H) (hm:0<m) (hb:m<1000000) (hlt:∀x∈mp::E.map (·.blk),x<H.length) :
 ∃v s H1 v2 H2 H3 E',
  mapEntF (.p .nilslice) ⟨true,[.int, .int]⟩ (.map mp) (.agg (keyI (f m))) (H++[.cells (idC [m]) 1 0 false])=some (.tup [v, .p (.int .i64 s)],H1) ∧
  v.passOK=true∧evalAppend ⟨[],H1⟩ 1 v (.slice H.length 0 0 1)=some (v2,⟨[],H2⟩)∧v2.passOK=true∧(∃ a b c,v2 = .slice a b 0 c)∧(v = .p .nilslice∨∃a b c,v = .slice a b 0 c) ∧
  entStF (.map mp) (.p (.int .i64 s)) v2 H2=some (.tup [],H3) ∧
  PM f (m+1) mp E' H3∧H.length≤H3.length∧(∀ x,x<H.length→x∉mp::E.map (·.blk)→H3[x]? = H[x]?)∧(∀ x∈E'.map (·.blk),x∈E.map (·.blk)∨H.length≤x)∧(∀ x∈mp::E'.map (·.blk),x<H3.length):=by
 obtain⟨v,s,H1,v2,H2,H3,E',h1,h2,h3,h4,h5,h6,h7,h8⟩:=h.step hm hb hlt (bx:=[]) (C:=noOracle)
 refine⟨v,s,H1,v2,H2,H3,E',?_,h2,h3,h4,h5,h6,?_,h8⟩
 ·unfold mapEntF;rw[h1 (ρ:=two (.map mp) (.agg (keyI (f m)))) (x := .tmp 0) (y := .tmp 1) rfl rfl];rfl
 ·unfold entStF;rw[h7 (ρ:=three (.map mp) (.p (.int .i64 s)) v2) (x := .tmp 0) (y := .tmp 1) (z := .tmp 2) rfl rfl rfl];rfl
end Go.Ideal

namespace Go.Ideal
open Go
set_option maxHeartbeats 4000000
set_option maxRecDepth 20000
attribute [-simp] getElem?_pos
noncomputable def kp (t:Tree):Int×Int:=(hashT t,szU t)
noncomputable def kf (b:Tree) (j:Nat):Int×Int:=kp (subT b j)
@[simp] theorem zaxy (k:Int×Int):SV.dens (ups (keyI k))=keyI k:=rfl
theorem zzv {b:Tree} {j:Nat} {v:Vis} (h:b.vis[j]? = some v):keyC v=keyI (kf b j):=by
 rw[kf,zii h];rfl
theorem zahe {l:List Vis}:∀ {j:Nat} {v:Vis},l[j]? = some v→((l.flatMap keyC).drop (j*2)).take 2=keyC v:=by
 induction l with
 |nil=>intro j v h;simp at h
 |cons x l ih =>
  intro j v h
  cases j with
  |zero=>cases h;rfl
  |succ j =>
   rw[List.getElem?_cons_succ]at h
   have:=ih h
   rw[← this,List.flatMap_cons,show(j+1)*2=(keyC x).length+j*2 by show _=2+j*2;omega,List.drop_append,List.drop_of_length_le (Nat.le_add_right _ _),List.nil_append,Nat.add_sub_cancel_left]
theorem znv {t:Tree} {k0 kl il:Nat} {bs:List Bool} {H:List IBlk} (h:SideOK t k0 kl il bs H) {j:Nat} (hj:j<t.size) :
 ∃kv ver,loadVal ⟨[],H⟩ none (.ptr (.heap k0) 0 6)=some kv∧up kv = .v kv∧idxS 2 kv (.p (.int .i64 j))=some (.ptr (.heap kl) ver (j*2))∧loadVal ⟨[],H⟩ (some 2) (.ptr (.heap kl) ver (j*2))=some (.agg (keyI (kf t j))):=by
 obtain⟨kv,iv,h1,h2,h3⟩:=h
 have l6:loadVal ⟨[],H⟩ none (.ptr (.heap k0) 0 6)=some kv:=zab h1 rfl
 obtain⟨v,hv⟩:∃v,t.vis[j]? = some v:=⟨_,List.getElem?_eq_getElem (by rw[zaz];exact hj)⟩
 obtain⟨ver,e1,e2⟩:=h2.load (bx:=[]) hj
 rw[zahe hv,zzv hv]at e2
 obtain⟨_,_,_,rfl,_⟩:=h2
 exact⟨_,ver,l6,rfl,e1,e2⟩
theorem znw {t:Tree} {k0 kl il:Nat} {bs:List Bool} {H:List IBlk} (h:SideOK t k0 kl il bs H):loadVal ⟨[],H⟩ none (.ptr (.heap k0) 0 5)=some (.p (ival t)):=by
 obtain⟨kv,iv,h1,h2,h3⟩:=h
 exact zab h1 rfl
theorem zzw (a b:Tree) (p:AP) (hfz:p.fz=[]) (hb:b.size<1000000) (v2 v7 v9 v10:SV) (bx bz:List Bool) (ps:List (Nat×Nat)) (H0:List IBlk) (hA:AS a b p bx bz ps H0) (mp:Nat) (hmp:H0[mp]? = some (.map [] 0)) (hm0:mp∉p.all)
 (hlb:∀lv,H0[p.lb]? = some (.cells [lv] 1 0 false)→lv = .p .nilslice) (Q:IExit→Env→KM→Prop)
 (hQ:∀H E,AS a b { p with fz:=mp::E.map (·.blk) } bx bz ps H→PM (kf b) b.size mp E H→(∀ x∈mp::E.map (·.blk),x<H.length)→(∀ x,x<H0.length→x≠mp→H[x]? = H0[x]?)→H0.length≤H.length→Q .normal [(2,v2),(7,v7),(8, .v (.ptr (.heap p.yb) 0 0)),(9,v9),(10,v10),(11, .v (.map mp))] ⟨[],H⟩) :
 wpLoop (CW tr.look) 167 m_Q87_0 l_Q87_0 (blkK 0 b_Q87_0 Q) [(2,v2),(7,v7),(8, .v (.ptr (.heap p.yb) 0 0)),(9,v9),(10,v10),(11, .v (.map mp)),(12, .int .i64 1)] ⟨[],H0⟩:=by
 have hsz:=zaf b
 have hmlt:=(List.getElem?_eq_some_iff.1 hmp).1
 have hall0:=hA.lt (by rw[hfz];simp)
 refine zac (α:=Nat×List PEnt×List IBlk) (fun s=>[(2,v2),(7,v7),(8, .v (.ptr (.heap p.yb) 0 0)),(9,v9),(10,v10),(11, .v (.map mp)),(12, .int .i64 s.1)]) (fun s=>⟨[],s.2.2⟩)
  (fun s=>0<s.1∧s.1≤b.size∧PM (kf b) s.1 mp s.2.1 s.2.2∧H0.length≤s.2.2.length∧(∀ x,x<H0.length→x≠mp→s.2.2[x]? = H0[x]?)∧(∀ x∈s.2.1.map (·.blk),H0.length≤x)∧(∀ x∈mp::s.2.1.map (·.blk),x<s.2.2.length)) (fun s=>b.size-s.1) ?_ (1,[],H0) ⟨by simp,hsz,⟨⟨[],hmp,rfl⟩,by simp,fun i h0 h1=>by omega,by simp,by simp⟩,Nat.le_refl _,fun _ _ _=>rfl,by simp,by simp;exact hmlt⟩
 rintro⟨m,E,H⟩ ⟨h0,hm,hPM,hle,hkeep,hnew,hlt⟩ L hL
 dsimp only at h0 hm hPM hle hkeep hnew hlt hL ⊢
 dsimp only[l_Q87_0]
 have hne:∀x∈p.all,x≠mp:=fun x hx e=>hm0 (e ▸ hx)
 have hyb:p.yb∈p.all:=by simp[AP.all]
 have hy:SideOK b p.y0 p.yk p.yi bz H:=by
  have m1:p.y0∈p.all∧p.yk∈p.all∧p.yi∈p.all:=by simp[AP.all]
  exact hA.sy.keep (hkeep _ (hall0 _ m1.1) (hne _ m1.1)) (hkeep _ (hall0 _ m1.2.1) (hne _ m1.2.1)) (hkeep _ (hall0 _ m1.2.2) (hne _ m1.2.2))
 have ly:loadVal ⟨[],H⟩ none (.ptr (.heap p.yb) 0 0)=some (.ptr (.heap p.y0) 0 0):=zab ((hkeep _ (hall0 _ hyb) (hne _ hyb)).trans hA.yb) rfl
 have l5:=znw hy
 by_cases hml:m<b.size
 ·have hlt':(m:Int)<(b.size:Int):=by omega
  obtain⟨kv,ver,g1,g2,g3,g4⟩:=znv hy hml
  obtain⟨v,s,H1,v2',H2,H3,E',r1,r2,r3,r4,r5,r6,r7,r8,r9,r10,r11,r12⟩:=hPM.stepF h0 (by omega) hlt
  obtain⟨w1,w2,w3,rfl⟩:=r5
  have hcell:[IVal.p (.int .i64 (m:Int))]=idC [m]:=rfl
  rcases r6 with rfl|⟨u1,u2,u3,rfl⟩
  ·simp(disch:=omega) [zaa,ly,l5,g1,g2,g3,g4,hcell,r1,r3,r7]
   refine hL (m+1,E',H3) ⟨by dsimp only;omega,by dsimp only;omega,r8,by dsimp only;omega,fun x hx hxm=>?_,fun x hx=>?_,r12⟩ (by dsimp only;omega)
   ·dsimp only
    rw[r10 x (by omega) (by rw[List.mem_cons,not_or];exact⟨hxm,fun e=>by have:=hnew x e;omega⟩)]
    exact hkeep x hx hxm
   ·rcases r11 x hx with h|h
    ·exact hnew x h
    ·omega
  ·simp(disch:=omega) [zaa,ly,l5,g1,g2,g3,g4,hcell,r1,r3,r7]
   refine hL (m+1,E',H3) ⟨by dsimp only;omega,by dsimp only;omega,r8,by dsimp only;omega,fun x hx hxm=>?_,fun x hx=>?_,r12⟩ (by dsimp only;omega)
   ·dsimp only
    rw[r10 x (by omega) (by rw[List.mem_cons,not_or];exact⟨hxm,fun e=>by have:=hnew x e;omega⟩)]
    exact hkeep x hx hxm
   ·rcases r11 x hx with h|h
    ·exact hnew x h
    ·omega
 ·obtain rfl:m=b.size:=by omega
  simp(disch:=omega) [ly,l5]
  refine hQ H E ?_ hPM hlt hkeep hle
  have hk:∀x∈p.all,H[x]? = H0[x]? := fun x hx=>hkeep x (hall0 x hx) (hne x hx)
  have mem:p.xb∈p.all∧p.x0∈p.all∧p.xk∈p.all∧p.xi∈p.all∧p.lb∈p.all:=by simp[AP.all]
  obtain⟨m1,m2,m3,m4,m5⟩:=mem
  have hndn:(mp::E.map (·.blk)).Nodup:=hPM.nd
  refine⟨?_,(hk _ m1).trans hA.xb,(hk _ hyb).trans hA.yb,hA.lx,hA.lz,hA.sx.keep (hk _ m2) (hk _ m3) (hk _ m4),hy,?_⟩
  ·have hnd:=hA.nd
   unfold AP.all at hnd hall0 hm0 hne ⊢
   rw[hfz,List.append_nil]at hnd hm0 hall0
   refine List.nodup_append.2 ⟨hnd,hndn,fun x hx y hy e=>?_⟩
   subst e
   rcases List.mem_cons.1 hy with rfl|hy
   ·exact hm0 hx
   ·have:=hall0 x hx
    have:=hnew x hy
    omega
  ·obtain⟨lv,e1,e2⟩:=hA.l
   have:=hlb lv e1
   subst this
   refine⟨_,(hk _ m5).trans e1, .inl ⟨rfl,?_⟩⟩
   rcases e2 with⟨_,h⟩|⟨ll,_,h,_⟩
   ·exact h
   ·obtain⟨_,_,_,h,_⟩:=h;cases h
end Go.Ideal

namespace Go.Ideal
open Go
set_option maxHeartbeats 4000000
set_option maxRecDepth 20000
attribute [-simp] getElem?_pos
theorem zgg:∀(n:Nat) (l:List Nat),l.Nodup→(∀ x∈l,x<n)→l.length≤n
 |0,l,_,h=>by
  cases l with
  |nil=>simp
  |cons x l=>have:=h x (by simp);omega
 |n+1,l,hn,h=>by
  by_cases hm:n∈l
  ·have h1:=List.length_erase_of_mem hm
   have h2:=zgg n (l.erase n) (hn.erase n) (fun x hx=>by
    have:=h x (List.mem_of_mem_erase hx)
    have:x≠n:=fun e=>by subst e;exact(hn.mem_erase_iff.1 hx).1 rfl
    omega)
   have:=List.length_pos_of_mem hm
   omega
  ·have:=zgg n l hn (fun x hx=>by
    have:=h x hx
    have:x≠n:=fun e=>hm (e ▸ hx)
    omega)
   omega
theorem AInv.len {a b:Tree} {h:Nat} {s:ASt} {bl:List (Nat×Nat)} (H:AInv a b h s bl):s.ps.length≤a.size:=by
 have:=zgg a.size _ H.nx (fun x hx=>by
  obtain⟨p,hp,rfl⟩:=List.mem_map.1 hx
  exact(H.pairs.ok p hp).1)
 simpa using this
theorem zxd {t:Tree} {k0 kl il:Nat} {bs:List Bool} {H:List IBlk} (h:SideOK t k0 kl il bs H) (hl:bs.length=t.size) {j:Nat} (hj:j<t.size) :
 ∃iv ver,loadVal ⟨[],H⟩ none (.ptr (.heap k0) 0 7)=some iv∧up iv = .v iv∧idxS 1 iv (.p (.int .i64 j))=some (.ptr (.heap il) ver j)∧loadVal ⟨[],H⟩ none (.ptr (.heap il) ver j)=some (.p (.bool (bs.getD j false))):=by
 obtain⟨kv,iv,h1,h2,h3⟩:=h
 have l7:loadVal ⟨[],H⟩ none (.ptr (.heap k0) 0 7)=some iv:=zab h1 rfl
 obtain⟨ver,cs,op,rfl,h4⟩:=h3
 have h3':HS H il 1 t.size (.slice il ver 0 t.size) (bs.map fun b=>.p (.bool b)):=⟨ver,cs,op,rfl,h4⟩
 have hx:(bs.map fun b=>IVal.p (.bool b))[j]? = some (.p (.bool (bs.getD j false))):=by
  rw[List.getElem?_map,List.getD_eq_getElem?_getD,List.getElem?_eq_getElem (by omega)];rfl
 have:=zau (e:=1) (k:=il) (v:=ver) (o:=0) (n:=t.size) (j:=j) hj
 exact⟨_,ver,l7,rfl,by simpa using this,h3'.field hx⟩
structure AM (a b:Tree) (p:AP) (mp:Nat) (E:List PEnt) (s:ASt) (H:List IBlk):Prop where
 st:AS a b p s.bx s.bz s.ps H
 pm:PM (kf b) b.size mp E H
 fz:p.fz=mp::E.map (·.blk)
 lt:∀x∈p.fz,x<H.length
theorem zals (a b:Tree) (bz:List Bool) (i:Nat) (hi:i<a.size):findJ a b bz i=(idsOf (kf b) b.size (kf a i)).find? fun j=>!(bz.getD j false)&&decide (SameT (subT a i) (subT b j)):=by
 unfold findJ idsOf
 rw[List.find?_filter]
 have key:∀l:List Nat,(∀ j∈l,j<b.size)→l.find? (okJ a b bz i)=l.find? fun j=>decide ((decide (0<j)&&decide (kf b j=kf a i))=true∧(!(bz.getD j false)&&decide (SameT (subT a i) (subT b j)))=true):=by
  intro l
  induction l with
  |nil=>intro _;rfl
  |cons x l ih =>
   intro hl
   have hx:=hl x (by simp)
   have e:okJ a b bz i x=decide ((decide (0<x)&&decide (kf b x=kf a i))=true∧(!(bz.getD x false)&&decide (SameT (subT a i) (subT b x)))=true):=by
    unfold okJ
    by_cases h1:SameT (subT a i) (subT b x)
    ·obtain⟨v,hv⟩:∃v,a.vis[i]? = some v:=⟨_,List.getElem?_eq_getElem (by rw[zaz];exact hi)⟩
     obtain⟨w,hw⟩:∃w,b.vis[x]? = some w:=⟨_,List.getElem?_eq_getElem (by rw[zaz];exact hx)⟩
     have hk:=zalr (v:=v) (w:=w) (by rw[← zii hv,←zii hw];exact h1)
     rw[zzv hv,zzv hw]at hk
     have hk':kf b x=kf a i:=by
      simp only[keyI,List.cons.injEq,IVal.p.injEq,PVal.int.injEq,and_true,true_and]at hk
      exact Prod.ext hk.1.symm hk.2.symm
     simp only[h1,hk',decide_true,Bool.and_true]
     by_cases h0:0<x<;>cases bz.getD x false<;>simp[h0]
    ·simp only[h1,decide_false,Bool.and_false]
     simp
   rw[List.find?_cons,List.find?_cons,e,ih fun j hj=>hl j (by simp[hj])]
 exact key _ fun j hj=>List.mem_range.1 hj
def pfn (p:AP):IVal := .func F_Q127 [.ptr (.heap p.xb) 0 0, .ptr (.heap p.lb) 0 0, .ptr (.heap p.yb) 0 0]
theorem zahf (a b:Tree) (fa:Fine a) (fb:Fine b) (p:AP) (mp:Nat) (E:List PEnt) (least:Int) (s:ASt) (h i:Nat) (h0:0<i) (hi:i<a.size) (hbx:s.bx.getD i false=false) (hh:(subT a i).height=h) (hps:∀j,findJ a b s.bz i=some j→s.ps.length+(subT a i).size<1000000) (H:List IBlk) (hM:AM a b p mp E s H)
 (lv:IVal) (hlv:lv = .p .nilslice∧idsOf (kf b) b.size (kf a i)=[]∨∃k∈E.map (·.blk),HS H k 1 (idsOf (kf b) b.size (kf a i)).length lv (idC (idsOf (kf b) b.size (kf a i)))) (Q:IExit→Env→KM→Prop)
 (hQ:∀H',AM a b p mp E (stepI a b h i s) H'→Q .normal [(2, .int .i64 least),(7, .v (.ptr (.heap p.xb) 0 0)),(8, .v (.ptr (.heap p.yb) 0 0)),(9, .v (.ptr (.heap p.lb) 0 0)),(10, .v (pfn p)),(11, .v (.map mp)),(13, .int .i64 h),(14, .int .i64 i)] ⟨[],H'⟩) :
 wpLoop (CW tr.look) 167 m_Q87_1 l_Q87_1 (blkK 6 b_Q87_6 Q) [(2, .int .i64 least),(7, .v (.ptr (.heap p.xb) 0 0)),(8, .v (.ptr (.heap p.yb) 0 0)),(9, .v (.ptr (.heap p.lb) 0 0)),(10, .v (pfn p)),(11, .v (.map mp)),(13, .int .i64 h),(14, .int .i64 i),(15, .box 15 0),(121, .v lv),(122, .int .i64 (idsOf (kf b) b.size (kf a i)).length),(123, .int .i64 0)] ⟨[(15,some ⟨[.int .i64 (subT a i).kind, .str (subT a i).name, .str (subT a i).text, .v (.p (aval (subT a i).attrs)), .v (.p (kval (subT a i).kids))],5⟩)],H⟩:=by
 have hf:=zals a b s.bz i hi
 have hstep:stepI a b h i s=match findJ a b s.bz i with
  |none=>s
  |some j=>⟨markN s.bx i (subT a i).size,markN s.bz j (subT a i).size,s.ps++pairsN i j (subT a i).size⟩:=by
  unfold stepI
  refine if_neg ?_
  rintro(e|e|e)
  ·omega
  ·rw[hbx]at e;cases e
  ·exact e hh
 have hid:∀j∈idsOf (kf b) b.size (kf a i),0<j∧j<b.size∧kf b j=kf a i:=by
  intro j hj
  unfold idsOf at hj
  rw[List.mem_filter]at hj
  obtain⟨h1,h2⟩:=hj
  simp only[Bool.and_eq_true,decide_eq_true_eq]at h2
  exact⟨h2.1,List.mem_range.1 h1,h2.2⟩
 have hidl:(idsOf (kf b) b.size (kf a i)).length≤b.size:=by
  unfold idsOf
  exact Nat.le_trans (List.length_filter_le _ _) (by simp)
 have hb6:=fb.1
 have hke:∀k:Int×Int,eqCls [Cls.int,Cls.int] (keyI k) (keyI k)=some true:=fun k=>by
  have:=zzu k k
  simpa[eqVals]using this
 generalize idsOf (kf b) b.size (kf a i)=ids at *
 refine zac (α:=Nat) (fun n=>[(2, .int .i64 least),(7, .v (.ptr (.heap p.xb) 0 0)),(8, .v (.ptr (.heap p.yb) 0 0)),(9, .v (.ptr (.heap p.lb) 0 0)),(10, .v (pfn p)),(11, .v (.map mp)),(13, .int .i64 h),(14, .int .i64 i),(15, .box 15 0),(121, .v lv),(122, .int .i64 ids.length),(123, .int .i64 n)]) (fun _=>⟨[(15,some ⟨[.int .i64 (subT a i).kind, .str (subT a i).name, .str (subT a i).text, .v (.p (aval (subT a i).attrs)), .v (.p (kval (subT a i).kids))],5⟩)],H⟩)
  (fun n=>n≤ids.length∧findJ a b s.bz i=(ids.drop n).find? fun j=>!(s.bz.getD j false)&&decide (SameT (subT a i) (subT b j))) (fun n=>ids.length-n) ?_ 0 ⟨Nat.zero_le _,by rw[hf];rfl⟩
 rintro n ⟨hn,hfn⟩ L hL
 try dsimp only at hn hfn hL ⊢
 dsimp only[l_Q87_1]
 by_cases hnl:n<ids.length
 ·obtain⟨k,hk,hlist⟩:∃k∈E.map (·.blk),HS H k 1 ids.length lv (idC ids):=by
   rcases hlv with⟨_,e⟩|e
   ·rw[e]at hnl;simp at hnl
   ·exact e
  have hlt:(n:Int)<(ids.length:Int):=by omega
  obtain⟨j1,j2,j3⟩:=hid ids[n] (List.getElem_mem hnl)
  have hlx:loadVal ⟨[],H⟩ none (.ptr (.heap k) 0 0)=loadVal ⟨[],H⟩ none (.ptr (.heap k) 0 0):=rfl
  obtain⟨ver,cs,op,rfl,hl2⟩:=hlist
  have hlist':HS H k 1 ids.length (.slice k ver 0 ids.length) (idC ids):=⟨ver,cs,op,rfl,hl2⟩
  have li:idxS 1 (.slice k ver 0 ids.length) (.p (.int .i64 n))=some (.ptr (.heap k) ver n):=by
   have:=zau (e:=1) (k:=k) (v:=ver) (o:=0) (n:=ids.length) (j:=n) hnl
   simpa using this
  have ll:loadVal ⟨[],H⟩ none (.ptr (.heap k) ver n)=some (.p (.int .i64 (ids[n]:Nat))):=by
   refine hlist'.field ?_
   rw[idC,List.getElem?_map,List.getElem?_eq_getElem hnl];rfl
  have lx:=zab (bx:=[]) (off:=0) hM.st.xb rfl
  have ly:=zab (bx:=[]) (off:=0) hM.st.yb rfl
  obtain⟨iv,vr,m1,m2,m3,m4⟩:=zxd hM.st.sy hM.st.lz j2
  obtain⟨kv,vk,k1,k2,k3,k4⟩:=znv hM.st.sy j2
  obtain⟨kw,vw,w1,w2,w3,w4⟩:=znv hM.st.sx hi
  have hsub:=zpz b fb.1 hM.st.sy ids[n] j2
  have hdrop:ids.drop n=ids[n]::ids.drop (n+1):=List.drop_eq_getElem_cons hnl
  rw[j3]at k4
  have hfa:Fine (subT a i):=fa.sub hi
  have hsame:=zud _ (subT a i) (subT b ids[n]) (Nat.lt_succ_self _) hfa
  generalize hjj:ids[n]=j at *
  rw[hdrop,List.find?_cons]at hfn
  by_cases hb:s.bz.getD j false=true
  ·rw[hb]at m4 hfn
   simp(disch:=omega) [li,ll,ly,m1,m2,m3,m4,zaa]
   refine hL (n+1) ⟨by omega,by simpa using hfn⟩ (by omega)
  ·have hb':s.bz.getD j false=false:=by simpa using hb
   rw[hb']at m4 hfn
   by_cases hs:SameT (subT a i) (subT b j)
   ·rw[decide_eq_true hs]at hsame hfn
    obtain⟨v,hv⟩:∃v,a.vis[i]? = some v:=⟨_,List.getElem?_eq_getElem (by rw[zaz];exact hi)⟩
    have hvt:=zii hv
    have e2:=zdm j2
    have e3:=hs.size
    obtain⟨H',p1,p2,p3,p4⟩:=zahc a b p i j v hv (by rw[← hvt];omega) ⟨fa.1,fb.1⟩ s.bx s.bz s.ps (by rw[← hvt];exact hps j (by rw[hfn];rfl)) H hM.lt hM.st
    simp(disch:=omega) [li,ll,lx,ly,m1,m2,m3,m4,k1,k2,k3,k4,w1,w2,w3,w4,hsub,zad,hsame,hke,pfn,p1]
    have hfin:=hQ H' ?_
    ·simpa[pfn]using hfin
    ·rw[hstep,hfn]
     simp only[Bool.not_false,Bool.true_and]
     rw[hvt]
     exact⟨p2,hM.pm.keep fun x hx=>p4 x (by rw[hM.fz];exact hx),hM.fz,fun x hx=>by have:=hM.lt x hx;omega⟩
   ·rw[decide_eq_false hs]at hsame hfn
    simp(disch:=omega) [li,ll,lx,ly,m1,m2,m3,m4,k1,k2,k3,k4,w1,w2,w3,w4,hsub,zad,hsame,hke,zaa]
    refine hL (n+1) ⟨by omega,by simpa using hfn⟩ (by omega)
 ·obtain rfl:n=ids.length:=by omega
  simp(disch:=omega) []
  have hnone:findJ a b s.bz i=none:=by rw[hfn,List.drop_of_length_le (Nat.le_refl _)];rfl
  refine hQ H ?_
  rw[hstep,hnone]
  exact hM
end Go.Ideal

namespace Go.Ideal
open Go
set_option maxHeartbeats 4000000
set_option maxRecDepth 20000
attribute [-simp] getElem?_pos
theorem zadn (a b:Tree) (fa:Fine a) (fb:Fine b) (p:AP) (mp:Nat) (E:List PEnt) (least:Int) (s:ASt) (bl:List (Nat×Nat)) (h:Nat) (hI:AInv a b h s bl) (H:List IBlk) (hM:AM a b p mp E s H) (Q:IExit→Env→KM→Prop)
 (hQ:∀H',AM a b p mp E (runI a b h a.size s) H'→Q .normal [(2, .int .i64 least),(7, .v (.ptr (.heap p.xb) 0 0)),(8, .v (.ptr (.heap p.yb) 0 0)),(9, .v (.ptr (.heap p.lb) 0 0)),(10, .v (pfn p)),(11, .v (.map mp)),(13, .int .i64 h)] ⟨[],H'⟩) :
 wpLoop (CW tr.look) 167 m_Q87_2 l_Q87_2 (blkK 4 b_Q87_4 Q) [(2, .int .i64 least),(7, .v (.ptr (.heap p.xb) 0 0)),(8, .v (.ptr (.heap p.yb) 0 0)),(9, .v (.ptr (.heap p.lb) 0 0)),(10, .v (pfn p)),(11, .v (.map mp)),(13, .int .i64 h),(14, .int .i64 1)] ⟨[],H⟩:=by
 have one:=zaf a
 have ha6:=fa.1
 refine zac (α:=Nat×List IBlk) (fun x=>[(2, .int .i64 least),(7, .v (.ptr (.heap p.xb) 0 0)),(8, .v (.ptr (.heap p.yb) 0 0)),(9, .v (.ptr (.heap p.lb) 0 0)),(10, .v (pfn p)),(11, .v (.map mp)),(13, .int .i64 h),(14, .int .i64 x.1)]) (fun x=>⟨[],x.2⟩)
  (fun x=>0<x.1∧x.1≤a.size∧AM a b p mp E (runI a b h x.1 s) x.2) (fun x=>a.size-x.1) ?_ (1,H) ⟨by simp,one,by
   have:runI a b h 1 s=s:=by simp[runI,stepI]
   dsimp only
   rw[this];exact hM⟩
 rintro⟨i,K⟩ ⟨h0,hi,hA⟩ L hL
 dsimp only at h0 hi hA hL ⊢
 dsimp only[l_Q87_2]
 have lx:=zab (bx:=[]) (off:=0) hA.st.xb rfl
 have ly:=zab (bx:=[]) (off:=0) hA.st.yb rfl
 have l5:=znw hA.st.sx
 by_cases hil:i<a.size
 ·have hlt:(i:Int)<(a.size:Int):=by omega
  obtain⟨bl2,hI2⟩:=znt hI (i:=i) hi
  obtain⟨bl3,hI3⟩:=zxa hI2 hil
  obtain⟨iv,vr,m1,m2,m3,m4⟩:=zxd hA.st.sx hA.st.lx hil
  obtain⟨v,hv⟩:∃v,a.vis[i]? = some v:=⟨_,List.getElem?_eq_getElem (by rw[zaz];exact hil)⟩
  have hit:a.items[i]? = some (fullOf v):=by rw[Tree.items,zdd,List.getElem?_map];rw[show visT a 0 (-1) 0 0=a.vis from rfl,hv];rfl
  have ix:=zbc hit
  have hvt:=zii hv
  by_cases hb:(runI a b h i s).bx.getD i false=true
  ·rw[hb]at m4
   simp(disch:=omega) [lx,l5,m1,m2,m3,m4,zaa]
   refine hL (i+1,K) ⟨by dsimp only;omega,by dsimp only;omega,?_⟩ (by dsimp only;omega)
   dsimp only
   rw[runI,stepI,if_pos (.inr (.inl hb))]
   exact hA
  ·have hb':(runI a b h i s).bx.getD i false=false:=by simpa using hb
   rw[hb']at m4
   by_cases hh:(subT a i).height=h
   ·have hh':v.t.height=h:=by rw[← hvt];exact hh
    obtain⟨kv,vk,k1,k2,k3,k4⟩:=znv hA.st.sx hil
    have hsub:=zpz a fa.1 hA.st.sx i hil
    obtain⟨lv,q1,q2⟩:=hA.pm.lookF (kf a i)
    have hup:up lv = .v lv:=by
     rcases q2 with⟨rfl,_⟩|⟨k,_,_,_,_,rfl,_⟩<;>rfl
    have hln:sliceLen lv=some (idsOf (kf b) b.size (kf a i)).length:=by
     rcases q2 with⟨rfl,e⟩|⟨k,_,hs⟩
     ·rw[e];rfl
     ·exact hs.len
    simp(disch:=omega) [lx,l5,m1,m2,m3,m4,ix,fullOf,hh',hsub,k1,k2,k3,k4,q1,hup,hln]
    refine zahf a b fa fb p mp E least _ h i h0 hil hb' hh (fun j hj=>?_) K hA lv q2 _ fun H' hH'=>?_
    ·have:=hI3.len
     rw[stepI,if_neg (by rintro(e|e|e);omega;exact hb e;exact e hh),hj]at this
     dsimp only at this
     rw[List.length_append,zcw]at this
     omega
    ·simp(disch:=omega) [zaa]
     exact hL (i+1,H') ⟨by dsimp only;omega,by dsimp only;omega,hH'⟩ (by dsimp only;omega)
   ·have hh':¬(v.t.height:Int)=(h:Int):=by rw[← hvt];omega
    simp(disch:=omega) [lx,l5,m1,m2,m3,m4,ix,fullOf,zaa]
    refine hL (i+1,K) ⟨by dsimp only;omega,by dsimp only;omega,?_⟩ (by dsimp only;omega)
    dsimp only
    rw[runI,stepI,if_pos (.inr (.inr hh))]
    exact hA
 ·obtain rfl:i=a.size:=by omega
  simp(disch:=omega) [lx,l5]
  exact hQ K hA
theorem zahg (x y:Int):evalExt x true [.p (.int .i64 y)]=some (max x y):=by
 show some (if y>x then y else x)=_
 congr 1
 split<;>omega
theorem zaru (x y:Int):evalExt x false [.p (.int .i64 y)]=some (min x y):=by
 show some (if y<x then y else x)=_
 congr 1
 split<;>omega
theorem zzx (a b:Tree) (fa:Fine a) (fb:Fine b) (p:AP) (mp:Nat) (E:List PEnt) (least:Int) (Q:IExit→Env→KM→Prop):∀(n:Nat) (s:ASt) (bl:List (Nat×Nat)) (h:Nat) (_:AInv a b h s bl) (H:List IBlk) (_:AM a b p mp E s H) (_:h<1000000) (_:(n:Int)=max 0 ((h:Int)+1-max 1 least))
 (_:∀H',AM a b p mp E (runH a b n h s) H'→Q .normal [(9, .v (.ptr (.heap p.lb) 0 0))] ⟨[],H'⟩),
 wpLoop (CW tr.look) 167 m_Q87_3 l_Q87_3 (blkK 2 b_Q87_2 Q) [(2, .int .i64 least),(7, .v (.ptr (.heap p.xb) 0 0)),(8, .v (.ptr (.heap p.yb) 0 0)),(9, .v (.ptr (.heap p.lb) 0 0)),(10, .v (pfn p)),(11, .v (.map mp)),(13, .int .i64 h)] ⟨[],H⟩:=by
 intro n
 induction n with
 |zero =>
  intro s bl h hI H hM h6 hn hQ
  refine zcg ?_
  dsimp only[l_Q87_3]
  have hlt:¬(max 1 least:Int)≤(h:Int):=by omega
  simp(disch:=omega) [zahg]
  exact hQ H hM
 |succ n ih =>
  intro s bl h hI H hM h6 hn hQ
  refine zcg ?_
  dsimp only[l_Q87_3]
  have hlt:(max 1 least:Int)≤(h:Int):=by omega
  simp(disch:=omega) [zahg]
  refine zadn a b fa fb p mp E least s bl h hI H hM _ fun H' hH'=>?_
  obtain⟨bl',hI'⟩:=znt hI (Nat.le_refl a.size)
  have hc:(h:Int)-1=((h-1:Nat):Int):=by omega
  simp(disch:=omega) [zaa,hc]
  refine ih _ bl' (h-1) (hI'.mono (Nat.sub_le h 1)) H' hH' (by omega) (by omega) fun H2 hH2=>hQ H2 ?_
  exact hH2
end Go.Ideal

namespace Go.Ideal
open Go
set_option maxHeartbeats 4000000
set_option maxRecDepth 20000
attribute [-simp] getElem?_pos
def PV (v:PVal) (L:List (Nat×Nat)):Prop:=(v = .nilslice∧L=[])∨v = .slice 2 L.length (prc L)
theorem zarv (L:List (Nat×Nat)):L.flatMap pc=pcells (prc L):=by
 simp[pcells,prc,List.map_flatMap]
 rfl
theorem zahh:∀L:List (Nat×Nat),(prc L).length=L.length*2
 | []=>rfl
 |p::L=>by
  have:=zahh L
  unfold prc at this ⊢
  rw[List.flatMap_cons,List.length_append,this]
  simp
  omega
theorem znx (L:List (Nat×Nat)):(pcells (prc L)).length=L.length*2:=by rw[pcells,List.length_map,zahh]
theorem zaxz {p:AP} {ps:List (Nat×Nat)} {H:List IBlk} (h:LOK p ps H) (hn:(ps.map (·.1)).Nodup) (hb:ps.length<1000000):∃lv H',H[p.lb]? = some (.cells [lv] 1 0 false)∧up lv = .v lv∧lv.passOK=true ∧
 CW tr.look F_Q93 [lv, .p (.func F_Q130)] H=some (.tup [],H')∧H'[p.lb]? = some (.cells [lv] 1 0 false)∧(lv = .p .nilslice∧sortP ps=[]∨∃ll,HS H' ll 2 (sortP ps).length lv (pcells (prc (sortP ps)))):=by
 obtain⟨lv,e1,e2⟩:=h
 have hlb:p.lb∈p.all:=by simp[AP.all]
 have hset:∀ {v:IVal} {H:List IBlk} {r:IVal×List IBlk},sortSpec pairKit F_Q130 [v, .p (.func F_Q130)] H=some r→seatBase.b F_Q93 [v, .p (.func F_Q130)] H=some r:=fun h=>zge (by simp) h
 have hlen:(sortP ps).length=ps.length:=(zas ps).length_eq
 rcases e2 with⟨rfl,rfl⟩|⟨ll,hll,⟨ver,cs,op,rfl,hk,hl,hx⟩,h0⟩
 ·refine⟨_,H,e1,rfl,rfl,zka none_Q93 ?_,e1, .inl ⟨rfl,by simp[sortP]⟩⟩
  exact hset (zhx _ _ _)
 ·have hsz:(ps.map toI).toArray.size=ps.length:=by simp
  have hs:=zhy pairKit F_Q130 (H:=H) (i:=ll) (ver:=ver) (off:=0) (ps.map toI).toArray hk (by omega) (by omega) (by rw[hsz];show 0+ps.length*2≤_;omega) (by
   rw[hsz,zml,←zarv,List.drop_zero];exact hx)
  rw[hsz,zhz hn,zml]at hs
  refine⟨_,_,e1,rfl,rfl,zka none_Q93 (hset hs),?_, .inr ⟨ll,ver,_,op,by rw[hlen],zap (List.getElem?_eq_some_iff.1 hk).1,?_,?_⟩⟩
  ·rw[List.getElem?_set_ne (fun e:ll=p.lb=>hll (by rw[e];exact hlb))];exact e1
  ·have:(pcells (prc (sortP ps))).length=ps.length*2:=by rw[znx,hlen]
   simp only[splice,List.length_append,List.length_take,List.length_drop,hlen];omega
  ·have:(pcells (prc (sortP ps))).length=(sortP ps).length*2:=by rw[znx]
   simp only[splice,List.take_zero,List.nil_append]
   rw[List.take_append_of_le_length (by omega),List.take_of_length_le (by omega)]
theorem zzy (a b:Tree) (ha:Fine a) (hb:Fine b) (sa:StrT a) (sb:StrT b) (least:Int) (ca:checkB a=true) (cb:checkB b=true) (hs:¬SameT a b):∃r,CW tr.look F_Q87 [tagg a,tagg b, .p (.int .i64 least)] []=some (r,[])∧∃pv,r = .p pv∧PV pv (sortP (alikeN a b least)):=by
 have h1:=zde a ha.1
 have h2:=zde b hb.1
 rw[ca]at h1
 rw[cb]at h2
 obtain⟨B0,hB0⟩:∃B0,B0=IBlk.cells [IVal.p .nilptr] 1 0 false:=⟨_,rfl⟩
 obtain⟨H1,kl,il,o1,o2,o3,o4,o5,o6⟩:=zuj a ha sa [B0,B0]
 obtain⟨H2,kl2,il2,q1,q2,q3,q4,q5,q6⟩:=zuj b hb sb H1
 have hsm:=zud _ a b (Nat.lt_succ_self _) ha
 rw[decide_eq_false hs]at hsm
 have k0:H2[0]? = some B0:=by rw[q2.2 0 (by have:=o2.1;simp at this;omega) (by simp),o2.2 0 (by simp) (by simp)];rfl
 have k1:H2[1]? = some B0:=by rw[q2.2 1 (by have:=o2.1;simp at this;omega) (by simp),o2.2 1 (by simp) (by simp)];rfl
 have k0l:=(List.getElem?_eq_some_iff.1 k0).1
 have k1l:=(List.getElem?_eq_some_iff.1 k1).1
 have j0:H1[0]? = some B0:=by rw[o2.2 0 (by simp) (by simp)];rfl
 have j1:H1[1]? = some B0:=by rw[o2.2 1 (by simp) (by simp)];rfl
 rw[hB0]at k0 k1 o1 j0 j1
 have w1:=zan (bx:=[]) (off:=0) (new:=[.ptr (.heap 2) 0 0]) k0 (by simp)
 have k1':(H2.set 0 (.cells [.ptr (.heap 2) 0 0] 1 0 false))[1]? = some (.cells [.p .nilptr] 1 0 false):=by rw[List.getElem?_set_ne (by omega)];exact k1
 have w2:=zan (bx:=[]) (off:=0) (new:=[.ptr (.heap H1.length) 0 0]) k1' (by simp)
 have sp:∀x:IVal,splice [IVal.p .nilptr] 0 [x]=[x]:=fun _=>rfl
 rw[sp]at w1 w2
 refine zgd look_Q87 rfl (zbi (by simp)) rfl ?_
 dsimp only[i_Q87,c_Q87]
 simp only[List.length_cons,List.length_nil]at o1
 have o3':2<kl:=by simpa using o3
 have o4':2<il:=by simpa using o4
 have l1:2<H1.length:=by have:=o6;obtain⟨kv,iv,e1,_⟩:=this;simpa using(List.getElem?_eq_some_iff.1 e1).1
 have l1k:kl<H1.length:=by obtain⟨kv,iv,e1,e2,e3⟩:=o6;exact e2.lt
 have l1i:il<H1.length:=by obtain⟨kv,iv,e1,e2,e3⟩:=o6;exact e3.lt
 have l2:H1.length<H2.length∧kl2<H2.length∧il2<H2.length:=by obtain⟨kv,iv,e1,e2,e3⟩:=q6;exact⟨(List.getElem?_eq_some_iff.1 e1).1,e2.lt,e3.lt⟩
 obtain⟨K,hK⟩:∃K,(H2.set 0 (IBlk.cells [IVal.ptr (Key.heap 2) 0 0] 1 0 false)).set 1 (IBlk.cells [IVal.ptr (Key.heap H1.length) 0 0] 1 0 false)++[IBlk.cells [IVal.p PVal.nilslice] 1 0 false]=K:=⟨_,rfl⟩
 have hKx:∀x,1<x→x<H2.length→K[x]? = H2[x]? := fun x h1 h2=>by
  rw[← hK,List.getElem?_append_left (by simp;omega),List.getElem?_set_ne (by omega),List.getElem?_set_ne (by omega)]
 obtain⟨p0,hp0⟩:∃p0:AP,p0=⟨0,1,H2.length,2,H1.length,kl,il,kl2,il2,[]⟩:=⟨_,rfl⟩
 have hAS:AS a b p0 (List.replicate a.size false) (List.replicate b.size false) [] K:=by
  subst hp0
  refine⟨?_,?_,?_,by simp,by simp,?_,?_,?_⟩
  ·simp[AP.all];omega
  ·rw[← hK,List.getElem?_append_left (by simp;omega),List.getElem?_set_ne (show(1:Nat)≠0 by omega)];exact zap k0l
  ·rw[← hK,List.getElem?_append_left (by simp;omega)];exact zap (by simpa using k1l)
  ·have:SideOK a 2 kl il (List.replicate a.size false) H1:=o6
   exact this.keep (by rw[hKx 2 (by omega) (by omega),q2.2 2 l1 (by simp)]) (by rw[hKx kl (by omega) (by omega),q2.2 kl l1k (by simp)]) (by rw[hKx il (by omega) (by omega),q2.2 il l1i (by simp)])
  ·exact q6.keep (hKx _ (by omega) (by omega)) (hKx _ (by omega) (by omega)) (hKx _ (by omega) (by omega))
  ·refine⟨.p .nilslice,?_, .inl ⟨rfl,rfl⟩⟩
   rw[← hK,List.getElem?_append_right (by simp)];simp;rfl
 have hb0:∀x∈p0.fz,x<K.length:=by rw[hp0];simp
 have hall:=hAS.lt hb0
 have hfz0:p0.fz=[]:=by rw[hp0]
 have exb:p0.xb=0:=by rw[hp0]
 have eyb:p0.yb=1:=by rw[hp0]
 have elb:p0.lb=H2.length:=by rw[hp0]
 have hKlb:∀lv,K[p0.lb]? = some (.cells [lv] 1 0 false)→lv = .p .nilslice:=by
  intro lv h
  rw[elb,←hK,List.getElem?_append_right (by simp)]at h
  rw[show H2.length-((H2.set 0 (IBlk.cells [IVal.ptr (Key.heap 2) 0 0] 1 0 false)).set 1 (IBlk.cells [IVal.ptr (Key.heap H1.length) 0 0] 1 0 false)).length=0 by simp,List.getElem?_cons_zero]at h
  cases h
  rfl
 have hAS1:AS a b p0 (List.replicate a.size false) (List.replicate b.size false) [] (K++[.map [] 0]):=by
  have hk:∀x∈p0.all,(K++[IBlk.map [] 0])[x]? = K[x]? := fun x hx=>List.getElem?_append_left (hall x hx)
  have mem:p0.xb∈p0.all∧p0.yb∈p0.all∧p0.lb∈p0.all∧p0.x0∈p0.all∧p0.y0∈p0.all∧p0.xk∈p0.all∧p0.xi∈p0.all∧p0.yk∈p0.all∧p0.yi∈p0.all:=by simp[AP.all]
  obtain⟨m1,m2,m3,m4,m5,m6,m7,m8,m9⟩:=mem
  exact⟨hAS.nd,(hk _ m1).trans hAS.xb,(hk _ m2).trans hAS.yb,hAS.lx,hAS.lz,hAS.sx.keep (hk _ m4) (hk _ m6) (hk _ m7),hAS.sy.keep (hk _ m5) (hk _ m8) (hk _ m9),
   hAS.l.keep (hk _ m3) fun x _ hx=>List.getElem?_append_left hx⟩
 simp(disch:=omega) [zad,h1,h2,o1,q1,w1,w2,hsm,j0,j1,k0,k1,hK]
 subst hp0
 refine zzw a b _ hfz0 hb.1 _ _ _ _ _ _ _ _ hAS1 K.length (by rw[List.getElem?_append_right (Nat.le_refl _),Nat.sub_self];rfl) (fun h=>by have:=hall _ h;omega) (fun lv h=>hKlb lv (by rw[List.getElem?_append_left (hall _ (by simp[AP.all]))]at h;exact h)) _ fun H E hA hPM hlt hkp hle=>?_
 have lx:=zab (bx:=[]) (off:=0) hA.xb rfl
 have ly:=zab (bx:=[]) (off:=0) hA.yb rfl
 have l5x:=znw hA.sx
 have l5y:=znw hA.sy
 have one:=zaf a
 have oneb:=zaf b
 have hv0:∀t:Tree,t.items[0]? = some (fullOf ⟨t, -1,0,0⟩):=fun t=>by
  rw[Tree.items,zdd,List.getElem?_map,show visT t 0 (-1) 0 0=t.vis from rfl,show t.vis=visT t 0 (-1) 0 0 from rfl,zbp];rfl
 have ixa:idxS 10 (.p (ival a)) (.p (.int .i64 0))=_:=zbc (hv0 a)
 have ixb:idxS 10 (.p (ival b)) (.p (.int .i64 0))=_:=zbc (hv0 b)
 simp(disch:=omega) [lx,ly,l5x,l5y,ixa,ixb,fullOf,zaru]
 have hca:=zre a
 have ha6:=ha.1
 have hc:min (a.height:Int) (b.height:Int)=((min a.height b.height:Nat):Int):=by omega
 rw[hc]
 refine zzx a b ha hb { xb:=0,yb:=1,lb:=H2.length,x0:=2,y0:=H1.length,xk:=kl,xi:=il,yk:=kl2,yi:=il2,fz:=K.length::E.map (·.blk) } K.length E least _ (((min a.height b.height:Nat):Int)+1-max 1 least).toNat (ASt.start a b) [] (min a.height b.height) (zpw a b _) H ⟨hA,hPM,rfl,hlt⟩ (by omega) (by omega) fun H' hM'=>?_
 obtain⟨h',bl',hI⟩:=zue (n:=(((min a.height b.height:Nat):Int)+1-max 1 least).toNat) (zpw a b (min a.height b.height))
 have heq:alikeN a b least=(runH a b (((min a.height b.height:Nat):Int)+1-max 1 least).toNat (min a.height b.height) (ASt.start a b)).ps:=by
  rw[alikeN,if_neg hs]
 obtain⟨lv,H5,s1,s2,s3,s4,s5,s6⟩:=zaxz hM'.st.l hI.nx (by have:=hI.len;omega)
 rw[← heq]at s6
 dsimp only at s1 s4 s5 s6
 have z1:=zab (bx:=[]) (off:=0) s1 rfl
 have z2:=zab (bx:=[]) (off:=0) s5 rfl
 have hden:(up lv).den=lv:=by rw[s2];rfl
 simp(disch:=omega) [z1,z2,s2,s3,s4]
 rcases s6 with⟨rfl,s6⟩|⟨ll,s6⟩
 ·exact⟨.p .nilslice,rfl, .nilslice,rfl, .inl ⟨rfl,s6⟩⟩
 ·have hz:=zdx s6
  obtain⟨ver,cs,op,rfl,_⟩:=s6
  rw[zez]
  refine⟨_,by simp only[freezeOne,hz],_,rfl, .inr rfl⟩
theorem zul {l:List (Nat×Nat)} (h:l.Pairwise fun p q=>p.1≤q.1):sortP l=l:=List.mergeSort_of_pairwise (h.imp fun h=>by simpa using h)
theorem zgw (i j:Nat) (k:Nat):(pairsN i j k).Pairwise fun p q=>p.1≤q.1:=by
 have h:((pairsN i j k).map (·.1)).Pairwise (· < ·):=by rw[zer];exact List.pairwise_lt_range'
 rw[List.pairwise_map]at h
 exact h.imp fun h=>by omega
theorem zalt (a b:Tree) (ha:Fine a) (hb:Fine b) (sa:StrT a) (sb:StrT b) (least:Int) (ca:checkB a=true) (cb:checkB b=true):∃pv,PV pv (sortP (alikeN a b least))∧∀H,CW tr.look F_Q87 [tagg a,tagg b, .p (.int .i64 least)] H=some (.p pv,H):=by
 by_cases hs:SameT a b
 ·refine⟨_, .inr ?_,zadm a b ha hb sa sb least ca cb hs⟩
  rw[alikeN,if_pos hs,zul (zgw _ _ _),zcw]
  rfl
 ·obtain⟨r,h1,pv,rfl,h2⟩:=zzy a b ha hb sa sb least ca cb hs
  exact⟨pv,h2,fun H=>zzs look_Q87 rfl (by simp) h1⟩
end Go.Ideal

namespace Go.Ideal
open Go
set_option maxHeartbeats 4000000
set_option maxRecDepth 20000
attribute [-simp] getElem?_pos
theorem zqb:∀L:List (Nat×Nat),prcells L=prc L
 | []=>rfl
 |p::L=>by
  have:=zqb L
  simp only[prcells,prc,List.flatMap_cons]at this ⊢
theorem zzz {g:FuncId} (hg:g∈[F_Q130,F_Q168,F_Q94]) (v:IVal) (o:Option Nat) (L:List (Nat×Nat)) (hn:(L.map (·.1)).Nodup) (hs:L.length<1000000) (H:List IBlk) (h:VS H o 2 L.length v (pcells (prc L))) :
 ∃H',CW tr.look F_Q93 [v, .p (.func g)] H=some (.tup [],H')∧VS H' o 2 L.length v (pcells (prc (sortP L))):=by
 have hlen:(sortP L).length=L.length:=(zas L).length_eq
 cases o with
 |none =>
  obtain⟨rfl,h1,h2⟩:=h
  have hL:L=[]:=List.length_eq_zero_iff.1 h1
  subst hL
  exact⟨H,zka none_Q93 (zge hg (zhx _ _ _)),rfl,rfl,by simp[sortP,prc,pcells]⟩
 |some k =>
  obtain⟨ver,cs,op,rfl,hk,hl,hx⟩:=h
  have hsz:(L.map toI).toArray.size=L.length:=by simp
  by_cases h0:L.length=0
  ·obtain rfl:L=[]:=List.length_eq_zero_iff.1 h0
   exact⟨H,zka none_Q93 (zge hg (zrc _ _ _ _ _ _)),ver,cs,op,rfl,hk,by omega,by simpa[sortP]using hx⟩
  ·have hs:=zhy pairKit g (H:=H) (i:=k) (ver:=ver) (off:=0) (L.map toI).toArray hk (by omega) (by omega) (by rw[hsz];show 0+L.length*2≤_;omega) (by
    rw[hsz,zml,List.drop_zero];exact hx)
   rw[hsz,zhz hn,zml]at hs
   refine⟨_,zka none_Q93 (zge hg hs),ver,_,op,rfl,zap (List.getElem?_eq_some_iff.1 hk).1,?_,?_⟩
   ·have:(pcells (prc (sortP L))).length=L.length*2:=by rw[znx,hlen]
    simp only[splice,List.length_append,List.length_take,List.length_drop];omega
   ·have:(pcells (prc (sortP L))).length=L.length*2:=by rw[znx,hlen]
    simp only[splice,List.take_zero,List.nil_append]
    rw[List.take_append_of_le_length (by omega),List.take_of_length_le (by omega)]
def mapping (s t:Tree):List (Nat×Nat):=sortP (pr (postT s 0) (postT t 0) 0 0 [s] [t])
theorem zqc (s t:Tree):(mapping s t).length≤s.size:=by
 have:=zagj (postT s 0) (postT t 0) 0 0 [s] [t]
 rw[zpq]at this
 rw[mapping,(zas _).length_eq]
 exact this
end Go.Ideal

/-
  IDEAL SEMANTICS: MAPS WHOSE KEYS ARE NUMBERS: entries in the order in which they came, their stamps their places.
-/
namespace Go.Ideal
open Go
set_option linter.unusedSectionVars false
variable [Tabs]
attribute [-simp] getElem?_pos
abbrev kI:KTy:=⟨false,[.int]⟩
def ME0:Nat→List (Int×IVal)→List (IVal×IVal×Nat)
 |_,[]=>[]
 |n,(k,v)::r=>(.p (.int .i64 k),v,n)::ME0 (n+1) r
def imap (E:List (Int×IVal)):IBlk := .map (ME0 0 E) E.length
def mfind (k:Int):List (Int×IVal)→Nat→Option (Nat×IVal)
 | [],_=>none
 |(a,v)::r,j=>if a=k then some (j,v)else mfind k r (j+1)
def mget (E:List (Int×IVal)) (k:Int):Option IVal:=(mfind k E 0).map (·.2)
theorem kI_eq (a b:Int):eqVals kI (.p (.int .i64 a)) (.p (.int .i64 b))=some (decide (a=b)):=by
 by_cases h:a=b<;>simp[eqVals,clsEq,h]
theorem zxe (a:Int):isKey kI (.p (.int .i64 a))=true:=by rw[isKey,kI_eq]
theorem zmq (k:Int):∀(E:List (Int×IVal)) (n j:Nat),findEnt kI (.p (.int .i64 k)) (ME0 n E) j=some (mfind k E j)
 | [],n,j=>rfl
 |(a,v)::r,n,j=>by
  simp only[ME0,findEnt,kI_eq,mfind]
  by_cases h:a=k
  ·subst h
   simp only[decide_true,if_true]
  ·have h':¬k=a:=fun e=>h e.symm
   simp only[h,h',decide_false,if_false]
   exact zmq k r (n+1) (j+1)
theorem zahi:∀(E:List (Int×IVal)) (n:Nat),(ME0 n E).length=E.length
 | [],_=>rfl
 |(a,v)::r,n=>by simp[ME0,zahi r]
theorem zahj:∀(E:List (Int×IVal)) (n:Nat) (k:Int) (v:IVal),ME0 n (E++[(k,v)])=ME0 n E++[(.p (.int .i64 k),v,n+E.length)]
 | [],n,k,v=>rfl
 |(a,w)::r,n,k,v=>by simp[ME0,zahj r (n+1)];omega
theorem zqd {k:Int}:∀ {E:List (Int×IVal)} {n j:Nat} {v:IVal},mfind k E n=some (j,v)→n≤j∧E[j-n]? = some (k,v)
 | [],n,j,v,h=>by simp[mfind]at h
 |(a,w)::r,n,j,v,h=>by
  simp only[mfind]at h
  split at h
  ·rename_i e
   injection h with h
   injection h with h1 h2
   subst h1 h2 e
   exact⟨Nat.le_refl _,by rw[Nat.sub_self];rfl⟩
  ·obtain⟨h1,h2⟩:=zqd h
   refine⟨by omega,?_⟩
   rw[show j-n=(j-(n+1))+1 by omega,List.getElem?_cons_succ]
   exact h2
theorem zxf {k a:Int} {v:IVal}:∀ {E:List (Int×IVal)} {n:Nat},mfind k (E++[(a,v)]) n=match mfind k E n with|some p=>some p|none=>if a=k then some (n+E.length,v)else none
 | [],n=>by simp[mfind]
 |(b,w)::r,n=>by
  simp only[List.cons_append,mfind]
  split
  ·rfl
  ·rw[zxf]
   simp only[List.length_cons]
   rw[show n+1+r.length=n+(r.length+1)by omega]
theorem zabr {k a:Int} {v:IVal} {E:List (Int×IVal)}:mget (E++[(a,v)]) k=match mget E k with|some p=>some p|none=>if a=k then some v else none:=by
 unfold mget
 rw[zxf]
 cases mfind k E 0 with
 |some p=>rfl
 |none =>
  simp only[Option.map_none]
  split<;>rfl
theorem zxg {k:Int}:∀ {E:List (Int×IVal)} {n j:Nat} {v w:IVal} (l:Int),mfind k E n=some (j,v)→mfind l (E.set (j-n) (k,w)) n=if k=l then some (j,w)else mfind l E n
 | [],n,j,v,w,l,h=>by simp[mfind]at h
 |(a,u)::r,n,j,v,w,l,h=>by
  simp only[mfind]at h
  split at h
  ·rename_i e
   injection h with h
   injection h with h1 h2
   subst h1 h2 e
   simp only[Nat.sub_self,List.set_cons_zero,mfind]
   split<;>rfl
  ·rename_i hne
   have h0:=(zqd h).1
   rw[show j-n=(j-(n+1))+1 by omega,List.set_cons_succ]
   simp only[mfind]
   split
   ·rename_i e
    subst e
    rw[if_neg (fun e=>hne e.symm)]
   ·exact zxg l h
theorem zalu {k:Int} {E:List (Int×IVal)} {j:Nat} {v w:IVal} (h:mfind k E 0=some (j,v)) (l:Int):mget (E.set j (k,w)) l=if k=l then some w else mget E l:=by
 have:=zxg (w:=w) l h
 rw[Nat.sub_zero]at this
 unfold mget
 rw[this]
 split<;>rfl
theorem zahk:∀(E:List (Int×IVal)) (n j:Nat) (f:IVal×IVal×Nat→IVal×IVal×Nat) (k:Int) (w:IVal),(∀ p,E[j]? = some p→f (.p (.int .i64 p.1),p.2,n+j)=(.p (.int .i64 k),w,n+j))→(ME0 n E).modify j f=ME0 n (E.set j (k,w))
 | [],n,j,f,k,w,h=>by simp[ME0]
 |(a,v)::r,n,0,f,k,w,h=>by
  have:=h (a,v) rfl
  simp only[ME0,List.modify_zero_cons,List.set_cons_zero]
  rw[Nat.add_zero]at this
  rw[this]
 |(a,v)::r,n,j+1,f,k,w,h=>by
  simp only[ME0,List.modify_succ_cons,List.set_cons_succ]
  rw[zahk r (n+1) j f k w (fun p hp=>by
   have:=h p (by simpa using hp)
   rw[show n+1+j=n+(j+1)by omega];exact this)]
theorem zahl:∀(E:List (Int×IVal)) (n j b:Nat),n≤b→b<n+E.length→findBorn (b:Int) (ME0 n E) j=some (j+(b-n))
 | [],n,j,b,h1,h2=>by simp at h2;omega
 |(a,v)::r,n,j,b,h1,h2=>by
  simp only[ME0,findBorn]
  by_cases e:n=b
  ·subst e;simp
  ·have e':¬(n:Int)=(b:Int):=by omega
   have:=zahl r (n+1) (j+1) b (by omega) (by simp at h2;omega)
   rw[decide_eq_false e']
   simp only
   rw[this]
   congr 1;omega
def mapUpdF (cls:KTy) (x k v:IVal) (H:List IBlk):Option (IVal×List IBlk):=(evalOp noOracle (three x k v) ⟨[],H⟩ (.mapUpd cls (.tmp 0) (.tmp 1) (.tmp 2))).map fun p=>(p.1,p.2.heap)
section
variable {C:Oracle} {ρ:Opd→SV} {M:KM} {k:SV→KM→Prop}
@[simp ↓ high] theorem zaoc {c:KTy} {x y z:Opd}:wpOp C ρ M (.mapUpd c x y z) k=gets (mapUpdF c (ρ x).den (ρ y).den (ρ z).den M.H) (@hid _ ⟨fun p=>k (up p.1) ⟨M.B,p.2⟩⟩):=by
 have:wpOp C ρ M (.mapUpd c x y z) k=gets (evalOp C (fun o=>(ρ o).den) ⟨[],M.H⟩ (.mapUpd c x y z)) fun p=>k (up p.1) ⟨M.B,p.2.heap⟩:=rfl
 rw[this]
 unfold mapUpdF
 apply propext
 refine Iff.trans ?_ zij.symm
 rfl
end
section
variable {H:List IBlk} {m:Nat} {E:List (Int×IVal)} {k:Int}
theorem zfe (hm:H[m]? = some (imap E)) (z:IVal):lookupF true z kI (.map m) (.p (.int .i64 k)) H=some (.tup [(mget E k).getD z, .p (.bool (mget E k).isSome)]):=by
 simp only[lookupF,evalOp,two,zxe,Mem.get,hm,imap,zmq,mget]
 cases mfind k E 0<;>rfl
theorem zjf (hm:H[m]? = some (imap E)) (z:IVal):lookupF false z kI (.map m) (.p (.int .i64 k)) H=some ((mget E k).getD z):=by
 simp only[lookupF,evalOp,two,zxe,Mem.get,hm,imap,zmq,mget]
 cases mfind k E 0<;>rfl
theorem zny (hm:H[m]? = some (imap E)) (hk:mget E k=none) {v:IVal} (hv:v.passOK=true):mapUpdF kI (.map m) (.p (.int .i64 k)) v H=some (.tup [],H.set m (imap (E++[(k,v)]))):=by
 have h0:mfind k E 0=none:=by
  unfold mget at hk
  cases h:mfind k E 0 with
  |none=>rfl
  |some p=>rw[h]at hk;cases hk
 simp only[mapUpdF,evalOp,three,zxe,Mem.get,hm,imap,zmq,hv,h0,Mem.put,Option.map_some,zahj,List.length_append,List.length_singleton,Nat.zero_add]
theorem zxh (hm:H[m]? = some (imap E)) {j:Nat} {u:IVal} (hk:mfind k E 0=some (j,u)) {v:IVal} (hv:v.passOK=true):mapUpdF kI (.map m) (.p (.int .i64 k)) v H=some (.tup [],H.set m (imap (E.set j (k,v)))):=by
 have hj:=(zqd hk).2
 rw[Nat.sub_zero]at hj
 simp only[mapUpdF,evalOp,three,zxe,Mem.get,hm,imap,zmq,hv,hk,Mem.put,Option.map_some,List.length_set]
 rw[zahk E 0 j _ k v (fun p hp=>rfl)]
theorem znk (hm:H[m]? = some (imap E)) (hk:mget E k=none) (z:IVal):mapEntF z kI (.map m) (.p (.int .i64 k)) H=some (.tup [z, .p (.int .i64 (E.length:Nat))],H.set m (imap (E++[(k,z)]))):=by
 have h0:mfind k E 0=none:=by
  unfold mget at hk
  cases h:mfind k E 0 with
  |none=>rfl
  |some p=>rw[h]at hk;cases hk
 simp only[mapEntF,evalOp,two,zxe,Mem.get,hm,imap,zmq,h0,Mem.put,Option.map_some,zahj,List.length_append,List.length_singleton,Nat.zero_add]
theorem zsi (hm:H[m]? = some (imap E)) {b:Nat} {p:Int×IVal} (hb:E[b]? = some p) {v:IVal} (hv:v.passOK=true):entStF (.map m) (.p (.int .i64 (b:Nat))) v H=some (.tup [],H.set m (imap (E.set b (p.1,v)))):=by
 have hl:=(List.getElem?_eq_some_iff.1 hb).1
 simp only[entStF,evalOp,three,Mem.get,hm,imap,hv,Mem.put,List.length_set]
 rw[zahl E 0 0 b (by omega) (by omega)]
 simp only[Nat.sub_zero,Nat.zero_add,Option.map_some]
 rw[zahk E 0 b _ p.1 v (fun q hq=>by rw[hb]at hq;injection hq with hq;subst hq;rfl)]
end
end Go.Ideal

/-
  IDEAL SEMANTICS: VALUES IN THE HEAP THAT STAND FOR PLAIN DATA, AND WHERE THEY LIE.
-/
namespace Go.Ideal
open Go
set_option linter.unusedSectionVars false
variable [Tabs]
attribute [-simp] getElem?_pos
def All2 (R:IVal→PVal→Prop):List IVal→List PVal→Prop
 | [],l=>l=[]
 |v::vs,l=>∃p ps,l=p::ps∧R v p∧All2 R vs ps
def frzP (P:Nat→Prop) (H:List IBlk):Nat→IVal→PVal→Prop
 |0,_,_=>False
 |n+1,v,p=>match v with
  | .p w=>w=p
  | .slice k ver off len=>P k∧∃cs e op,H[k]? = some (.cells cs e ver op)∧off+len*e≤cs.length∧∃l,p = .slice e len l∧All2 (frzP P H n) ((cs.drop off).take (len*e)) l
  |_=>False
theorem All2.imp {R S:IVal→PVal→Prop} (h:∀v p,R v p→S v p):∀ {l:List IVal} {m:List PVal},All2 R l m→All2 S l m
 | [],_,e=>e
 |v::_,_,⟨p,ps,e,h1,h2⟩=>⟨p,ps,e,h v p h1,All2.imp h h2⟩
theorem All2.append {R:IVal→PVal→Prop}:∀ {l:List IVal} {m:List PVal} {l':List IVal} {m':List PVal},All2 R l m→All2 R l' m'→All2 R (l++l') (m++m')
 | [],m,l',m',e,h=>by simp only[All2]at e;subst e;exact h
 |v::vs,m,l',m',⟨p,ps,e,h1,h2⟩,h=>by subst e;exact⟨p,ps++m',rfl,h1,h2.append h⟩
theorem All2.plain {P:Nat→Prop} {H:List IBlk} {n:Nat}:∀(l:List PVal),All2 (frzP P H (n+1)) (pcells l) l
 | []=>rfl
 |p::l=>⟨p,l,rfl,rfl,All2.plain l⟩
theorem zxi {P:Nat→Prop} {H:List IBlk}:∀ {n:Nat} {v:IVal} {p:PVal},frzP P H n v p→frzP P H (n+1) v p
 |0,v,p,h=>h.elim
 |n+1,v,p,h=>by
  unfold frzP at h ⊢
  cases v with
  |p w=>exact h
  |slice k ver off len =>
   obtain⟨h1,cs,e,op,h2,h3,l,h4,h5⟩:=h
   exact⟨h1,cs,e,op,h2,h3,l,h4,h5.imp fun v p h=>zxi h⟩
  |_=>exact h
theorem zahm {P:Nat→Prop} {H:List IBlk} {n m:Nat} (hnm:n≤m) {v:IVal} {p:PVal} (h:frzP P H n v p):frzP P H m v p:=by
 induction hnm with
 |refl=>exact h
 |step _ ih=>exact zxi ih
theorem zik {P:Nat→Prop} {H:List IBlk} {n:Nat} (hp:∀ {v:IVal} {p:PVal},frzP P H n v p→freezeCell H n v=some p):∀ {l:List IVal} {m:List PVal},All2 (frzP P H n) l m→freezeList (freezeCell H n) l=some m
 | [],m,e=>by simp only[All2]at e;subst e;rfl
 |v::vs,m,⟨p,ps,e,h1,h2⟩=>by
  subst e
  simp only[freezeList,hp h1,zik hp h2]
theorem zqe {P:Nat→Prop} {H:List IBlk}:∀ {n:Nat} {v:IVal} {p:PVal},frzP P H n v p→freezeCell H n v=some p
 |0,v,p,h=>h.elim
 |n+1,v,p,h=>by
  unfold frzP at h
  unfold freezeCell
  cases v with
  |p w=>simp only at h ⊢;rw[h]
  |slice k ver off len =>
   obtain⟨h1,cs,e,op,h2,h3,l,h4,h5⟩:=h
   have hb:(Nat.beq ver ver&&Nat.ble (off+len*e) cs.length)=true:=by
    rw[Nat.beq_refl,Bool.true_and];exact Nat.ble_eq_true_of_le h3
   simp only[h2,hb,zik (fun h=>zqe h) h5,h4]
  |_=>exact h.elim
theorem HS.frz {P:Nat→Prop} {H:List IBlk} {n:Nat} {k e len:Nat} {v:IVal} {X:List IVal} {l:List PVal} (h:HS H k e len v X) (hP:P k) (hX:All2 (frzP P H n) X l):frzP P H (n+1) v (.slice e len l):=by
 obtain⟨ver,cs,op,rfl,h1,h2,h3⟩:=h
 exact⟨hP,cs,e,op,h1,by omega,l,rfl,by rw[List.drop_zero,h3];exact hX⟩
end Go.Ideal

/-
  IDEAL SEMANTICS: parts of strings, numbers cut to some bits: as functions of what they are handed.
-/
namespace Go.Ideal
open Go
set_option linter.unusedSectionVars false
variable [Tabs]
attribute [-simp] getElem?_pos
def bLo (h:Nat):Option IVal→Option Nat
 |none=>some 0
 |some v=>asBound h v
def bHi (n:Nat):Option IVal→Option Nat
 |none=>some n
 |some v=>asBound n v
def sliceStrF (x:IVal) (lo hi:Option IVal):Option IVal :=
 match x with
 | .p (.str s)=>(bHi s.length hi).bind fun h=>(bLo h lo).map fun l=>.p (.str ((s.drop l).take (h-l)))
 |_=>none
section
variable {C:Oracle} {ρ:Opd→SV} {M:KM} {k:SV→KM→Prop}
@[simp ↓ high] theorem zait {x:Opd} {l h:Option Opd}:wpOp C ρ M (.sliceStr x l h) k=gets (sliceStrF (ρ x).den (l.map fun o=>(ρ o).den) (h.map fun o=>(ρ o).den)) (@hid _ ⟨fun v=>k (up v) M⟩):=by
 have:wpOp C ρ M (.sliceStr x l h) k=gets (evalOp C (fun o=>(ρ o).den) ⟨[],M.H⟩ (.sliceStr x l h)) fun p=>k (up p.1) ⟨M.B,p.2.heap⟩:=rfl
 rw[this]
 apply propext
 have e:evalOp C (fun o=>(ρ o).den) ⟨[],M.H⟩ (.sliceStr x l h)=(sliceStrF (ρ x).den (l.map fun o=>(ρ o).den) (h.map fun o=>(ρ o).den)).map fun v=>(v,⟨[],M.H⟩):=by
  simp only[evalOp,sliceStrF]
  generalize (ρ x).den=u
  cases u with
  |p v =>
   cases v with
   |str s =>
    have h1:∀n,boundHi (fun o=>(ρ o).den) n h=bHi n (h.map fun o=>(ρ o).den):=fun n=>by cases h<;>rfl
    have h2:∀n,boundLo (fun o=>(ρ o).den) n l=bLo n (l.map fun o=>(ρ o).den):=fun n=>by cases l<;>rfl
    simp only[h1,h2]
    cases bHi s.length (h.map fun o=>(ρ o).den)with
    |none=>rfl
    |some hh =>
     simp only[Option.bind_some]
     cases bLo hh (l.map fun o=>(ρ o).den)<;>rfl
   |_=>rfl
  |_=>rfl
 rw[e]
 exact zij
end
def IV (v:PVal) (L:List Int):Prop:=v = .nilslice∧L=[]∨v = .slice 1 L.length (L.map (.int .i64))
theorem IV.len {v:PVal} {L:List Int} (h:IV v L):sliceLen (.p v)=some L.length:=by
 rcases h with⟨rfl,rfl⟩|rfl<;>rfl
theorem IV.up {v:PVal} {L:List Int} (h:IV v L):up (.p v) = .v (.p v):=by
 rcases h with⟨rfl,rfl⟩|rfl<;>rfl
theorem IV.idx {v:PVal} {L:List Int} (h:IV v L) {j:Nat} (hj:j<L.length):∃r,idxS 1 (.p v) (.p (.int .i64 j))=some (.p (.ptr (.int .i64 L[j]::r))):=by
 rcases h with⟨rfl,rfl⟩|rfl
 ·simp at hj
 ·rw[zcb hj]
  refine⟨(L.map (PVal.int .i64)).drop (j+1),?_⟩
  rw[Nat.mul_one,List.drop_eq_getElem_cons (by simpa using hj),List.getElem_map]
end Go.Ideal

namespace Go.Ideal
open Go
set_option maxHeartbeats 4000000
set_option maxRecDepth 20000
attribute [-simp] getElem?_pos
theorem zalv {L:List (Nat×Nat)} {i:Nat} {p:Nat×Nat} (h:L[i]? = some p):(prc L).drop (i*2) = .int .i64 p.1 :: .int .i64 p.2::(prc L).drop (i*2+2):=by
 induction L generalizing i with
 |nil=>simp at h
 |cons q L ih =>
  cases i with
  |zero =>
   rw[List.getElem?_cons_zero]at h
   injection h with h
   subst h
   simp[prc]
  |succ i =>
   rw[List.getElem?_cons_succ]at h
   have:=ih h
   simp only[prc,List.flatMap_cons]at this ⊢
   rw[show(i+1)*2=i*2+1+1 by omega,List.cons_append,List.cons_append,List.nil_append,List.drop_succ_cons,List.drop_succ_cons,this]
   rw[show i*2+1+1+2=i*2+2+1+1 by omega,List.drop_succ_cons,List.drop_succ_cons]
theorem PV.len {v:PVal} {L:List (Nat×Nat)} (h:PV v L):sliceLen (.p v)=some L.length:=by
 rcases h with⟨rfl,rfl⟩|rfl<;>rfl
theorem PV.up {v:PVal} {L:List (Nat×Nat)} (h:PV v L):up (.p v) = .v (.p v):=by
 rcases h with⟨rfl,rfl⟩|rfl<;>rfl
theorem PV.idx {v:PVal} {L:List (Nat×Nat)} (h:PV v L) {i:Nat} {p:Nat×Nat} (hi:L[i]? = some p):idxS 2 (.p v) (.p (.int .i64 i))=some (.p (.ptr (.int .i64 p.1 :: .int .i64 p.2::(prc L).drop (i*2+2)))):=by
 have hlt:=(List.getElem?_eq_some_iff.1 hi).1
 rcases h with⟨rfl,rfl⟩|rfl
 ·simp at hlt
 ·rw[zcb hlt,zalv hi]
theorem zado {t:Tree} (h:∀u∈t.nodes,NodeStr u):StrT t:=by
 intro k v hv
 refine h _ ?_
 have:(visT t 0 (-1) 0 0).map (·.t)=t.nodes:=zbj t 0 (-1) 0 0
 rw[← this]
 exact List.mem_map_of_mem (List.mem_of_getElem? hv)
end Go.Ideal

namespace Go.Ideal
open Go
set_option maxHeartbeats 4000000
set_option maxRecDepth 20000
attribute [-simp] getElem?_pos
def vI (n:Nat):IVal := .p (.int .i64 n)
def toE (L:List (Nat×Nat)):List (Int×IVal):=L.map fun p=>((p.1:Int),vI p.2)
def byE (L:List (Nat×Nat)):List (Int×IVal):=L.map fun p=>((p.2:Int),vI p.1)
def toN (L:List (Nat×Nat)) (i:Nat):Option Nat:=(L.find? fun p=>decide (p.1=i)).map (·.2)
def byN (L:List (Nat×Nat)) (j:Nat):Option Nat:=(L.find? fun p=>decide (p.2=j)).map (·.1)
theorem zlu (i:Nat):∀L:List (Nat×Nat),mget (toE L) i=(toN L i).map vI:=by
 have key:∀(L:List (Nat×Nat)) (j:Nat),(mfind (i:Int) (toE L) j).map (·.2)=(toN L i).map vI:=by
  intro L
  induction L with
  |nil=>intro j;rfl
  |cons p L ih =>
   intro j
   simp only[toE,List.map_cons,mfind,toN,List.find?_cons]
   by_cases h:p.1=i
   ·subst h;simp
   ·have h':¬(p.1:Int)=i:=by omega
    simp only[h',h,if_false,decide_false]
    exact ih _
 exact fun L=>key L 0
theorem zabs (i:Nat):∀L:List (Nat×Nat),mget (byE L) i=(byN L i).map vI:=by
 have key:∀(L:List (Nat×Nat)) (j:Nat),(mfind (i:Int) (byE L) j).map (·.2)=(byN L i).map vI:=by
  intro L
  induction L with
  |nil=>intro j;rfl
  |cons p L ih =>
   intro j
   simp only[byE,List.map_cons,mfind,byN,List.find?_cons]
   by_cases h:p.2=i
   ·subst h;simp
   ·have h':¬(p.2:Int)=i:=by omega
    simp only[h',h,if_false,decide_false]
    exact ih _
 exact fun L=>key L 0
theorem zlv {L:List (Nat×Nat)} {i:Nat}:toN L i=none↔i∉L.map (·.1):=by
 simp only[toN,Option.map_eq_none_iff,List.find?_eq_none,decide_eq_true_eq,List.mem_map,not_exists,not_and]
theorem zum {L:List (Nat×Nat)} {i:Nat}:byN L i=none↔i∉L.map (·.2):=by
 simp only[byN,Option.map_eq_none_iff,List.find?_eq_none,decide_eq_true_eq,List.mem_map,not_exists,not_and]
theorem zabt {L:List (Nat×Nat)} (hn:(L.map (·.1)).Nodup) {i j:Nat}:toN L i=some j↔(i,j)∈L:=by
 constructor
 ·intro h
  simp only[toN,Option.map_eq_some_iff]at h
  obtain⟨p,h1,h2⟩:=h
  have h3:=List.find?_some h1
  have h4:=List.mem_of_find?_eq_some h1
  simp at h3
  obtain⟨a,b⟩:=p
  simp at h2 h3
  subst h2 h3
  exact h4
 ·intro h
  induction L with
  |nil=>simp at h
  |cons p L ih =>
   rw[List.map_cons,List.nodup_cons]at hn
   rcases List.mem_cons.1 h with rfl|h
   ·simp[toN]
   ·have hne:p.1≠i:=fun e=>hn.1 (by rw[e];exact List.mem_map.2 ⟨_,h,rfl⟩)
    have:=ih hn.2 h
    simp only[toN,List.find?_cons,hne,decide_false]at this ⊢
    exact this
def frE (L:List (Nat×Nat)) (i j:Nat):Bool:=(toN L i).isNone&&(byN L j).isNone
def par (t:Tree) (j:Nat):Int:=((t.vis[j]?).map (·.parent)).getD (-1)
def kidsOf (t:Tree) (i:Nat):List Nat:=(List.range t.size).filter fun c=>decide (par t c=(i:Int))
def islice (l:List Nat):PVal:=if l=[]then .nilslice else .slice 1 l.length (l.map fun(i:Nat)=>.int .i64 i)
def kv2 (t:Tree):PVal := .slice 1 t.size ((List.range t.size).map fun i=>islice (kidsOf t i))
def mB (a b:Tree) (kt kb:Nat):IBlk := .cells (pcells a.cells++(pcells b.cells++[.p (ival a), .p (ival b), .p (kv2 a), .p (kv2 b), .map kt, .map kb])) 16 0 false
theorem zun (a b:Tree) (kt kb:Nat):mB a b kt kb = .cells [.p (.int .i64 a.kind), .p (.str a.name), .p (.str a.text), .p (aval a.attrs), .p (kval a.kids), .p (.int .i64 b.kind), .p (.str b.name), .p (.str b.text), .p (aval b.attrs), .p (kval b.kids), .p (ival a), .p (ival b), .p (kv2 a), .p (kv2 b), .map kt, .map kb] 16 0 false:=by
 rw[mB,Tree.zav,Tree.zav];rfl
structure MM (a b:Tree) (L:List (Nat×Nat)) (H:List IBlk):Prop where
 to:H[0]? = some (imap (toE L))
 bye:H[1]? = some (imap (byE L))
 blk:H[2]? = some (mB a b 0 1)
theorem MM.lt {a b:Tree} {L:List (Nat×Nat)} {H:List IBlk} (h:MM a b L H):2<H.length:=(List.getElem?_eq_some_iff.1 h.blk).1
theorem MM.keep {a b:Tree} {L:List (Nat×Nat)} {H H':List IBlk} (h:MM a b L H) (hk:∀k,k<H.length→H'[k]? = H[k]?):MM a b L H':=by
 have:=h.lt
 exact⟨by rw[hk 0 (by omega)];exact h.to,by rw[hk 1 (by omega)];exact h.bye,by rw[hk 2 (by omega)];exact h.blk⟩
abbrev mptr:IVal := .ptr (.heap 2) 0 0
theorem MM.ld {a b:Tree} {L:List (Nat×Nat)} {H:List IBlk} (h:MM a b L H):loadVal ⟨[],H⟩ none (.ptr (.heap 2) 0 10)=some (.p (ival a))∧loadVal ⟨[],H⟩ none (.ptr (.heap 2) 0 11)=some (.p (ival b))∧loadVal ⟨[],H⟩ none (.ptr (.heap 2) 0 12)=some (.p (kv2 a))∧loadVal ⟨[],H⟩ none (.ptr (.heap 2) 0 13)=some (.p (kv2 b))∧loadVal ⟨[],H⟩ none (.ptr (.heap 2) 0 14)=some (.map 0)∧loadVal ⟨[],H⟩ none (.ptr (.heap 2) 0 15)=some (.map 1):=by
 have hb:=h.blk
 rw[zun]at hb
 exact⟨zab hb rfl,zab hb rfl,zab hb rfl,zab hb rfl,zab hb rfl,zab hb rfl⟩
theorem zxj (o:Option Nat):((o.map vI).getD (.p (.int .i64 0)))=vI (o.getD 0):=by cases o<;>rfl
theorem zuo {a b:Tree} {L:List (Nat×Nat)} {H:List IBlk} (h:MM a b L H) (i j:Nat):CW tr.look F_Q91 [mptr, .p (.int .i64 i), .p (.int .i64 j)] H=some (.p (.bool (frE L i j)),H):=by
 obtain⟨_,_,_,_,l4,l5⟩:=h.ld
 have g1:=zfe (k:=(i:Int)) h.to (.p (.int .i64 0))
 have g2:=zfe (k:=(j:Int)) h.bye (.p (.int .i64 0))
 rw[zlu,zxj]at g1
 rw[zabs,zxj]at g2
 obtain⟨r,H',e1,e2,e3⟩:=zaw (args:=[mptr, .p (.int .i64 i), .p (.int .i64 j)]) (H:=H) (Q:=fun r H'=>r = .p (.bool (frE L i j))∧H'=H) look_Q91 rfl rfl (by
  dsimp only[i_Q91,c_Q91]
  simp(disch:=omega) [l4,l5,g1,g2,vI]
  cases h1:toN L i<;>cases h2:byN L j<;>simp[frE,h1,h2])
 rw[e1,e2,e3]
theorem zarw (L:List (Nat×Nat)) (i j:Nat):toE (L++[(i,j)])=toE L++[((i:Int),vI j)]:=by simp[toE]
theorem zarx (L:List (Nat×Nat)) (i j:Nat):byE (L++[(i,j)])=byE L++[((j:Int),vI i)]:=by simp[byE]
theorem zlw {a b:Tree} {L:List (Nat×Nat)} {H:List IBlk} (h:MM a b L H) (i j:Nat) (hf:frE L i j=true):∃H',CW tr.look F_Q88 [mptr, .p (.int .i64 i), .p (.int .i64 j)] H=some (.tup [],H')∧MM a b (L++[(i,j)]) H'∧H'.length=H.length∧∀k,2≤k→H'[k]? = H[k]? := by
 obtain⟨_,_,_,_,l4,l5⟩:=h.ld
 have hlt:=h.lt
 simp only[frE,Bool.and_eq_true,Option.isNone_iff_eq_none]at hf
 have n1:mget (toE L) i=none:=by rw[zlu,hf.1];rfl
 have n2:mget (byE L) j=none:=by rw[zabs,hf.2];rfl
 have g1:=znk h.to n1 (.p (.int .i64 0))
 obtain⟨H1,hH1⟩:∃H1,H.set 0 (imap (toE L++[((i:Int), .p (.int .i64 0))]))=H1:=⟨_,rfl⟩
 rw[hH1]at g1
 have a0:H1[0]? = some (imap (toE L++[((i:Int), .p (.int .i64 0))])):=by rw[← hH1];exact zap (by omega)
 have hl:((toE L++[((i:Int),IVal.p (.int .i64 0))]))[(toE L).length]? = some ((i:Int), .p (.int .i64 0)):=by rw[List.getElem?_append_right (Nat.le_refl _),Nat.sub_self];rfl
 have g2:=zsi a0 hl (v:=vI j) rfl
 have hset:(toE L++[((i:Int),IVal.p (.int .i64 0))]).set (toE L).length ((i:Int),vI j)=toE (L++[(i,j)]):=by rw[zarw];simp
 rw[hset]at g2
 obtain⟨H2,hH2⟩:∃H2,H1.set 0 (imap (toE (L++[(i,j)])))=H2:=⟨_,rfl⟩
 rw[hH2]at g2
 have hl1:H1.length=H.length:=by rw[← hH1,List.length_set]
 have hl2:H2.length=H.length:=by rw[← hH2,List.length_set,hl1]
 have k1:∀k,k≠0→H1[k]? = H[k]? := fun k hk=>by rw[← hH1,List.getElem?_set_ne (Ne.symm hk)]
 have k2:∀k,k≠0→H2[k]? = H[k]? := fun k hk=>by rw[← hH2,List.getElem?_set_ne (Ne.symm hk),k1 k hk]
 have b0:H2[0]? = some (imap (toE (L++[(i,j)]))):=by rw[← hH2];exact zap (by omega)
 have b1:H2[1]? = some (imap (byE L)):=by rw[k2 1 (by decide)];exact h.bye
 have g3:=znk b1 n2 (.p (.int .i64 0))
 obtain⟨H3,hH3⟩:∃H3,H2.set 1 (imap (byE L++[((j:Int), .p (.int .i64 0))]))=H3:=⟨_,rfl⟩
 rw[hH3]at g3
 have c1:H3[1]? = some (imap (byE L++[((j:Int), .p (.int .i64 0))])):=by rw[← hH3];exact zap (by omega)
 have hlb:((byE L++[((j:Int),IVal.p (.int .i64 0))]))[(byE L).length]? = some ((j:Int), .p (.int .i64 0)):=by rw[List.getElem?_append_right (Nat.le_refl _),Nat.sub_self];rfl
 have g4:=zsi c1 hlb (v:=vI i) rfl
 have hset2:(byE L++[((j:Int),IVal.p (.int .i64 0))]).set (byE L).length ((j:Int),vI i)=byE (L++[(i,j)]):=by rw[zarx];simp
 rw[hset2]at g4
 obtain⟨H4,hH4⟩:∃H4,H3.set 1 (imap (byE (L++[(i,j)])))=H4:=⟨_,rfl⟩
 rw[hH4]at g4
 have hl3:H3.length=H.length:=by rw[← hH3,List.length_set,hl2]
 have hl4:H4.length=H.length:=by rw[← hH4,List.length_set,hl3]
 have k3:∀k,k≠1→H3[k]? = H2[k]? := fun k hk=>by rw[← hH3,List.getElem?_set_ne (Ne.symm hk)]
 have k4:∀k,k≠1→H4[k]? = H2[k]? := fun k hk=>by rw[← hH4,List.getElem?_set_ne (Ne.symm hk),k3 k hk]
 have g2':entStF (.map 0) (.p (.int .i64 ((toE L).length:Nat))) (.p (.int .i64 (j:Nat))) H1=some (.tup [],H2):=g2
 have g4':entStF (.map 1) (.p (.int .i64 ((byE L).length:Nat))) (.p (.int .i64 (i:Nat))) H3=some (.tup [],H4):=g4
 obtain⟨r,H',e1,e2,e3⟩:=zaw (args:=[mptr, .p (.int .i64 i), .p (.int .i64 j)]) (H:=H) (Q:=fun r H'=>r = .tup []∧H'=H4) look_Q88 rfl rfl (by
  dsimp only[i_Q88,c_Q88]
  simp(disch:=omega) [l4,l5,g1,g2',g3,g4'])
 subst e2 e3
 refine⟨H',e1,⟨by rw[k4 0 (by decide)];exact b0,?_,by rw[k4 2 (by decide),k2 2 (by decide)];exact h.blk⟩,hl4,fun k hk=>by rw[k4 k (by omega),k2 k (by omega)]⟩
 rw[← hH4];exact zap (by omega)
end Go.Ideal

namespace Go.Ideal
open Go
set_option maxHeartbeats 4000000
set_option maxRecDepth 20000
attribute [-simp] getElem?_pos
theorem zlx (c0 c1 c2 c3 c4 k:Int) (n x:Bytes) (a z:PVal) (H:List IBlk) :
 CW tr.look F_Q61 [.agg [.p (.int .i64 c0), .p (.int .i64 c1), .p (.int .i64 c2), .p (.int .i64 c3), .p (.int .i64 c4), .p (.int .i64 k), .p (.str n), .p (.str x), .p a, .p z]] H=some (.agg [.p (.int .i64 k), .p (.str n)],H):=by
 refine zai look_Q61 rfl (by simp[plainArgs,plainArg,cellsPlain]) rfl ?_
 dsimp only[i_Q61,c_Q61]
 simp(disch:=omega) []
 rfl
theorem zdg {t:Tree} {j:Nat} (hj:j<t.size):∃v,t.vis[j]? = some v∧t.items[j]? = some (fullOf v)∧subT t j=v.t∧par t j=v.parent:=by
 obtain⟨v,hv⟩:∃v,t.vis[j]? = some v:=⟨_,List.getElem?_eq_getElem (by rw[zaz];exact hj)⟩
 refine⟨v,hv,?_,zii hv,by simp[par,hv]⟩
 rw[Tree.items,zdd,List.getElem?_map]
 have hv':(visT t 0 (-1) 0 0)[j]? = some v:=hv
 rw[hv'];rfl
theorem zabu {t:Tree} {j:Nat} (hj:j<t.size):(j=0∧par t j = -1)∨(0≤par t j∧par t j<j):=by
 obtain⟨v,hv,_,_,hp⟩:=zdg hj
 rw[hp]
 rcases zsb t 0 (-1) 0 0 j v hv with h|h
 ·exact .inl h
 ·exact .inr ⟨by omega,by omega⟩
def CB (E:List (Int×IVal)) (B:Nat):Prop:=∀q:Int,∃c:Nat,(mget E q).getD (.p (.int .i64 0))=vI c∧c≤B
theorem CB.mono {E:List (Int×IVal)} {B C:Nat} (h:CB E B) (hb:B≤C):CB E C:=fun q=>by obtain⟨c,h1,h2⟩:=h q;exact⟨c,h1,by omega⟩
theorem zary {H:List IBlk} {m:Nat} {E:List (Int×IVal)} (hm:H[m]? = some (imap E)) (k:Int) {v:IVal} (hv:v.passOK=true):∃E',mapUpdF kI (.map m) (.p (.int .i64 k)) v H=some (.tup [],H.set m (imap E'))∧∀q,mget E' q=if k=q then some v else mget E q:=by
 cases hk:mfind k E 0 with
 |none =>
  have h0:mget E k=none:=by simp[mget,hk]
  refine⟨_,zny hm h0 hv,fun q=>?_⟩
  rw[zabr]
  by_cases e:k=q
  ·subst e;rw[h0];try simp
  ·simp only[e,if_false]
   try (cases mget E q<;>rfl)
 |some p =>
  obtain⟨j,u⟩:=p
  exact⟨_,zxh hm hk hv,fun q=>zalu hk q⟩
theorem zxk {a b:Tree} {L:List (Nat×Nat)} (i k:Nat) (kk B:Nat) (hB:B<100000) (_:b.size<1000000) (H0:List IBlk) (hkk:2<kk) (j:Int) (hj : -1≤j∧j<b.size) (E0:List (Int×IVal)) (hM0:MM a b L H0) (hE0:H0[kk]? = some (imap E0)) (hC0:∀q:Int,∃c:Nat,(mget E0 q).getD (.p (.int .i64 0))=vI c∧c+(j+1).toNat≤B) (Q:IExit→Env→KM→Prop)
 (hQ:∀E H,MM a b L H→H[kk]? = some (imap E)→CB E B→H.length=H0.length→(∀ x,x≠kk→H[x]? = H0[x]?)→Q .normal [(0, .v mptr),(1, .int .i64 i),(5, .v (.map kk)),(6, .int .i64 k)] ⟨[],H⟩) :
 wpLoop (CW tr.look) 61 m_Q131_0 l_Q131_0 (blkK 2 b_Q131_2 Q) [(0, .v mptr),(1, .int .i64 i),(5, .v (.map kk)),(6, .int .i64 k),(9, .int .i64 j)] ⟨[],H0⟩:=by
 refine zac (α:=Int×List (Int×IVal)×List IBlk) (fun s=>[(0, .v mptr),(1, .int .i64 i),(5, .v (.map kk)),(6, .int .i64 k),(9, .int .i64 s.1)]) (fun s=>⟨[],s.2.2⟩)
  (fun s => -1≤s.1∧s.1<b.size∧MM a b L s.2.2∧s.2.2[kk]? = some (imap s.2.1)∧(∀ q:Int,∃c:Nat,(mget s.2.1 q).getD (.p (.int .i64 0))=vI c∧c+(s.1+1).toNat≤B)∧s.2.2.length=H0.length∧∀x,x≠kk→s.2.2[x]? = H0[x]?) (fun s=>(s.1+1).toNat) ?_ (j,E0,H0) ⟨hj.1,hj.2,hM0,hE0,hC0,rfl,fun _ _=>rfl⟩
 rintro⟨p,E,H⟩ ⟨h1,h2,hM,hE,hC,hl,hx⟩ R hR
 dsimp only at h1 h2 hM hE hC hl hx hR ⊢
 dsimp only[l_Q131_0]
 by_cases hp:0≤p
 ·obtain⟨n,rfl⟩:=Int.eq_ofNat_of_zero_le hp
  have hn:n<b.size:=by omega
  obtain⟨v,hv,hit,_,hpar⟩:=zdg hn
  have ix:=zbc hit
  obtain⟨_,l1,_,_,_,_⟩:=hM.ld
  obtain⟨c,hc,hcb⟩:=hC n
  have g1:=zjf (k:=(n:Int)) hE (.p (.int .i64 0))
  rw[hc]at g1
  obtain⟨E',g2,g3⟩:=zary hE (n:Int) (v := .p (.int .i64 ((c:Int)+1))) rfl
  obtain⟨H',hH'⟩:∃H',H.set kk (imap E')=H':=⟨_,rfl⟩
  rw[hH']at g2
  have hkl:=(List.getElem?_eq_some_iff.1 hE).1
  have hx':∀x,x≠kk→H'[x]? = H[x]? := fun x hne=>by rw[← hH',List.getElem?_set_ne (Ne.symm hne)]
  have hM':MM a b L H':=⟨by rw[hx' 0 (by omega)];exact hM.to,by rw[hx' 1 (by omega)];exact hM.bye,by rw[hx' 2 (by omega)];exact hM.blk⟩
  obtain⟨_,l1',_,_,_,_⟩:=hM'.ld
  have hpl:=zabu hn
  rw[hpar]at hpl
  have hpos:(0:Int)≤(n:Int):=by omega
  simp(disch:=omega) [l1',g1,g2,ix,zaa,vI,fullOf]
  refine hR (v.parent,E',H') ⟨by dsimp only;omega,by dsimp only;omega,hM',by rw[← hH'];exact zap hkl,fun q=>?_,by rw[← hH',List.length_set];exact hl,fun x hne=>(hx' x hne).trans (hx x hne)⟩ (by dsimp only;omega)
  dsimp only
  rw[g3 q]
  by_cases e:(n:Int)=q
  ·rw[if_pos e]
   exact⟨c+1,rfl,by omega⟩
  ·rw[if_neg e]
   obtain⟨c2,h3,h4⟩:=hC q
   exact⟨c2,h3,by omega⟩
 ·have hp':p = -1:=by omega
  subst hp'
  simp(disch:=omega) []
  exact hQ E H hM hE (fun q=>by obtain⟨c,h3,h4⟩:=hC q;exact⟨c,h3,by omega⟩) hl hx
def CommonQ (a b:Tree) (L:List (Nat×Nat)) (H:List IBlk) (r:IVal) (H':List IBlk):Prop:=∃E,r = .map H.length∧H'[H.length]? = some (imap E)∧CB E 3600∧MM a b L H'∧H'.length=H.length+1∧∀x,x<H.length→H'[x]? = H[x]?
theorem zahn {a b:Tree} {L:List (Nat×Nat)} {H:List IBlk} (h:MM a b L H) (hL:∀p∈L,p.2<b.size) (sa:a.size≤60) (sb:b.size≤60) (i:Nat) (hi:i<a.size):∃r H',CW tr.look F_Q131 [mptr, .p (.int .i64 i)] H=some (r,H')∧CommonQ a b L H r H':=by
 have hlt:=h.lt
 obtain⟨v,hv,hit,hsub,hpar⟩:=zdg hi
 have ix:=zbc hit
 have hend:i+v.t.size≤a.size:=by
  have:=zdm hi
  rw[hsub]at this;exact this
 have hs1:=zaf v.t
 refine zaw look_Q131 rfl rfl ?_
 dsimp only[i_Q131,c_Q131]
 simp(disch:=omega) [zaa]
 refine zac (α:=Nat×List (Int×IVal)×List IBlk) (fun s=>[(0, .v mptr),(1, .int .i64 i),(5, .v (.map H.length)),(6, .int .i64 s.1)]) (fun s=>⟨[],s.2.2⟩)
  (fun s=>i+1≤s.1∧s.1≤i+v.t.size∧MM a b L s.2.2∧s.2.2[H.length]? = some (imap s.2.1)∧CB s.2.1 (60*(s.1-(i+1)))∧s.2.2.length=H.length+1∧∀x,x<H.length→s.2.2[x]? = H[x]?) (fun s=>i+v.t.size-s.1) ?_ (i+1,[],H++[.map [] 0]) ?_
 ·rintro⟨k,E,K⟩ ⟨h1,h2,hM,hE,hC,hl,hx⟩ R hR
  dsimp only at h1 h2 hM hE hC hl hx hR ⊢
  dsimp only[l_Q131_1]
  obtain⟨l0,l1,_,_,l4,_⟩:=hM.ld
  by_cases hk:k<i+v.t.size
  ·have hk':(k:Int)<(i:Int)+(v.t.size:Int):=by omega
   have g1:=zfe (k:=(k:Int)) hM.to (.p (.int .i64 0))
   rw[zlu,zxj]at g1
   cases ht:toN L k with
   |none =>
    rw[ht]at g1
    simp(disch:=omega) [l0,l4,ix,g1,zaa,vI,fullOf]
    exact hR (k+1,E,K) ⟨by dsimp only;omega,by dsimp only;omega,hM,hE,hC.mono (by dsimp only;omega),hl,hx⟩ (by dsimp only;omega)
   |some j =>
    rw[ht]at g1
    have hj:j<b.size:=by
     simp only[toN,Option.map_eq_some_iff]at ht
     obtain⟨p,hp1,hp2⟩:=ht
     have:=hL p (List.mem_of_find?_eq_some hp1)
     omega
    obtain⟨w,hw,hitw,_,hparw⟩:=zdg hj
    have ixj:=zbc hitw
    have hpl:=zabu hj
    rw[hparw]at hpl
    simp(disch:=omega) [l0,l1,l4,ix,ixj,g1,zaa,vI,fullOf]
    refine zxk i k H.length (60*(k-(i+1))+60) (by omega) (by omega) K (by omega) w.parent (by omega) E hM hE (fun q=>?_) _ fun E2 K2 g2 g3 g4 g5 g6=>?_
    ·obtain⟨c,h3,h4⟩:=hC q
     exact⟨c,h3,by omega⟩
    ·simp(disch:=omega) [zaa]
     exact hR (k+1,E2,K2) ⟨by dsimp only;omega,by dsimp only;omega,g2,g3,g4.mono (by dsimp only;omega),by dsimp only;omega,fun x hx'=>by dsimp only;rw[g6 x (by omega)];exact hx x hx'⟩ (by dsimp only;omega)
  ·have hk':¬(k:Int)<(i:Int)+(v.t.size:Int):=by omega
   simp(disch:=omega) [l0,ix,zaa,fullOf]
   exact⟨E,rfl,hE,hC.mono (by omega),hM,hl,hx⟩
 ·refine⟨by dsimp only;omega,by dsimp only;omega,h.keep fun k hk=>List.getElem?_append_left hk,by dsimp only;exact zbh,fun q=>⟨0,rfl,by omega⟩,by simp,fun x hx=>List.getElem?_append_left hx⟩
end Go.Ideal

namespace Go.Ideal
open Go
set_option maxHeartbeats 4000000
set_option maxRecDepth 20000
attribute [-simp] getElem?_pos
theorem zalw {a b:Tree} {L:List (Nat×Nat)} {K:List IBlk} (h:MM a b L K) (sa:a.size≤60) (sb:b.size≤60) (i h2 h3:Nat) (hi:i<a.size) (g2:K[h2]? = some (.cells [mptr] 1 0 false)) (g3:K[h3]? = some (.cells [.p (.int .i64 i)] 1 0 false)) (j:Nat) (hj:j<b.size) :
 ∃S:Nat,S≤200∧CW tr.look F_Q132 [.p (.int .i64 j), .ptr (.heap h2) 0 0, .ptr (.heap h3) 0 0] K=some (.p (.int .i64 S),K):=by
 obtain⟨v,_,hitv,hsv,_⟩:=zdg hi
 obtain⟨w,_,hitw,hsw,_⟩:=zdg hj
 have ixv:=zbc hitv
 have ixw:=zbc hitw
 obtain⟨l0,l1,_,_,_,_⟩:=h.ld
 have e1:loadVal ⟨[],K⟩ none (.ptr (.heap h2) 0 0)=some mptr:=zab g2 rfl
 have e2:loadVal ⟨[],K⟩ none (.ptr (.heap h3) 0 0)=some (.p (.int .i64 i)):=zab g3 rfl
 have s1:=zaf v.t
 have s2:=zaf w.t
 have b1:=zdm hi
 have b2:=zdm hj
 rw[hsv]at b1
 rw[hsw]at b2
 refine⟨v.t.size+w.t.size-2,by omega,?_⟩
 have e:((v.t.size+w.t.size-2:Nat):Int)=(v.t.size:Int)+(w.t.size:Int)-2:=by omega
 rw[e]
 obtain⟨r,H',q1,q2,q3⟩:=zaw (args:=[.p (.int .i64 j), .ptr (.heap h2) 0 0, .ptr (.heap h3) 0 0]) (H:=K) (Q:=fun r H'=>r = .p (.int .i64 ((v.t.size:Int)+(w.t.size:Int)-2))∧H'=K) look_Q132 rfl rfl (by
  dsimp only[i_Q132,c_Q132]
  simp(disch:=omega) [e1,e2,l0,l1,ixv,ixw,zaa,fullOf])
 rw[q1,q2,q3]
def kinT (t u:Tree):Prop:=t.kind=u.kind∧t.name=u.name
instance (t u:Tree):Decidable (kinT t u):=by unfold kinT;infer_instance
def BestQ (a b:Tree) (L:List (Nat×Nat)) (i:Nat) (H:List IBlk) (r:IVal) (H':List IBlk):Prop:=MM a b L H'∧H.length≤H'.length∧(∀ x,x<H.length→H'[x]? = H[x]?) ∧
 (r = .p (.int .i64 (-1))∨∃j:Nat,r = .p (.int .i64 j)∧j<b.size∧frE L i j=true∧kinT (subT a i) (subT b j))
theorem zqf {t:Tree} {j:Nat} {v:Vis} (hit:t.items[j]? = some (fullOf v)):∃rest,idxS 10 (.p (ival t)) (.p (.int .i64 j))=some (.p (.ptr (.int .i64 v.parent :: .int .i64 v.t.size :: .int .i64 v.depth :: .int .i64 v.t.height :: .int .i64 v.place :: .int .i64 v.t.kind :: .str v.t.name :: .str v.t.text::aval v.t.attrs :: .nilslice::rest))):=⟨_,zbc hit⟩
theorem zarz {a b:Tree} {L:List (Nat×Nat)} {H:List IBlk} (h:MM a b L H) (hL:∀p∈L,p.2<b.size) (sa:a.size≤60) (sb:b.size≤60) (i:Nat) (hi:i<a.size):∃r H',CW tr.look F_Q89 [mptr, .p (.int .i64 i)] H=some (r,H')∧BestQ a b L i H r H':=by
 have hlt:=h.lt
 obtain⟨H1,hH1⟩:∃H1,H++[IBlk.cells [mptr] 1 0 false]=H1:=⟨_,rfl⟩
 have hl1:H1.length=H.length+1:=by rw[← hH1];simp
 obtain⟨H2,hH2⟩:∃H2,H1++[IBlk.cells [.p (.int .i64 i)] 1 0 false]=H2:=⟨_,rfl⟩
 have hl2:H2.length=H.length+2:=by rw[← hH2];simp[hl1]
 have k1:∀x,x<H.length→H1[x]? = H[x]? := fun x hx=>by rw[← hH1,List.getElem?_append_left hx]
 have k2:∀x,x<H.length→H2[x]? = H[x]? := fun x hx=>by rw[← hH2,List.getElem?_append_left (by omega),k1 x hx]
 have M2:MM a b L H2:=h.keep k2
 have b0:H2[H.length]? = some (.cells [mptr] 1 0 false):=by rw[← hH2,List.getElem?_append_left (by omega),←hH1];exact zbh
 have b1:H2[H.length+1]? = some (.cells [.p (.int .i64 i)] 1 0 false):=by rw[← hl1,←hH2];exact zbh
 obtain⟨rc,K,c1,E,rfl,c2,c3,M3,c4,c5⟩:=zahn M2 hL sa sb i hi
 have d0:K[H.length]? = some (.cells [mptr] 1 0 false):=by rw[c5 _ (by omega)];exact b0
 have d1:K[H.length+1]? = some (.cells [.p (.int .i64 i)] 1 0 false):=by rw[c5 _ (by omega)];exact b1
 have e1:loadVal ⟨[],H2⟩ none (.ptr (.heap H.length) 0 0)=some mptr:=zab b0 rfl
 have e2:loadVal ⟨[],H2⟩ none (.ptr (.heap (H.length+1)) 0 0)=some (.p (.int .i64 i)):=zab b1 rfl
 have f1:loadVal ⟨[],K⟩ none (.ptr (.heap H.length) 0 0)=some mptr:=zab d0 rfl
 have f2:loadVal ⟨[],K⟩ none (.ptr (.heap (H.length+1)) 0 0)=some (.p (.int .i64 i)):=zab d1 rfl
 obtain⟨l0,l1,_,_,_,_⟩:=M3.ld
 obtain⟨v,_,hitv,hsv,_⟩:=zdg hi
 have ixv:=zbc hitv
 have hcnt:∃c:Nat→Nat,∀q:Nat,lookupF false (.p (.int .i64 0)) kI (.map H2.length) (.p (.int .i64 q)) K=some (.p (.int .i64 (c q)))∧c q≤3600:=by
  have:∀q:Nat,∃c:Nat,lookupF false (.p (.int .i64 0)) kI (.map H2.length) (.p (.int .i64 q)) K=some (.p (.int .i64 c))∧c≤3600:=fun q=>by
   obtain⟨c,g1,g2⟩:=c3 q
   have:=zjf (k:=(q:Int)) c2 (.p (.int .i64 0))
   rw[g1]at this
   exact⟨c,this,g2⟩
  exact⟨fun q=>(this q).choose,fun q=>(this q).choose_spec⟩
 obtain⟨c,hc⟩:=hcnt
 have hsum:∃S:Nat→Nat,∀j,j<b.size→S j≤200∧CW tr.look F_Q132 [.p (.int .i64 j), .ptr (.heap H.length) 0 0, .ptr (.heap (H.length+1)) 0 0] K=some (.p (.int .i64 (S j)),K):=by
  have:∀j,∃S:Nat,j<b.size→S≤200∧CW tr.look F_Q132 [.p (.int .i64 j), .ptr (.heap H.length) 0 0, .ptr (.heap (H.length+1)) 0 0] K=some (.p (.int .i64 S),K):=fun j=>by
   by_cases hj:j<b.size
   ·obtain⟨S,g1,g2⟩:=zalw M3 sa sb i _ _ hi d0 d1 j hj
    exact⟨S,fun _=>⟨g1,g2⟩⟩
   ·exact⟨0,fun h=>absurd h hj⟩
  exact⟨fun j=>(this j).choose,fun j=>(this j).choose_spec⟩
 obtain⟨S,hS⟩:=hsum
 have kK:∀x,x<H.length→K[x]? = H[x]? := fun x hx=>(c5 x (by omega)).trans (k2 x hx)
 refine zaw look_Q89 rfl rfl ?_
 dsimp only[i_Q89,c_Q89]
 have hb1:(some mptr:Option IVal)=some mptr:=rfl
 have c1':CW tr.look F_Q131 [.ptr (.heap 2) 0 0, .p (.int .i64 i)] H2=some (.map H2.length,K):=c1
 simp(disch:=omega) [hH1,hH2,hl1,e1,e2,f1,c1',l1]
 refine zac (α:=Nat×Int) (fun s=>[(2, .v (.ptr (.heap H.length) 0 0)),(3, .v (.ptr (.heap (H.length+1)) 0 0)),(5, .v (.map H2.length)),(6, .v (.func F_Q132 [.ptr (.heap H.length) 0 0, .ptr (.heap (H.length+1)) 0 0])),(7, .int .i64 s.2),(17, .int .i64 b.size),(18, .int .i64 s.1)]) (fun _=>⟨[],K⟩)
  (fun s=>s.1≤b.size∧(s.2 = -1∨∃m:Nat,s.2=m∧m<b.size∧frE L i m=true∧kinT (subT a i) (subT b m))) (fun s=>b.size-s.1) ?_ (0, -1) ⟨Nat.zero_le _, .inl rfl⟩
 rintro⟨j,r⟩ ⟨hj,hr⟩ R hR
 dsimp only at hj hr hR ⊢
 dsimp only[l_Q89_0]
 by_cases hjl:j<b.size
 ·have hlt:(j:Int)<(b.size:Int):=by omega
  obtain⟨w,_,hitw,hsw,_⟩:=zdg hjl
  obtain⟨rw1,ixw⟩:=zqf hitw
  obtain⟨rv1,ixv⟩:=zqf hitv
  have g1:=(hc j).1
  have gb:=(hc j).2
  have fr:=zuo M3 i j
  have fr':CW tr.look F_Q91 [.ptr (.heap 2) 0 0, .p (.int .i64 i), .p (.int .i64 j)] K=some (.p (.bool (frE L i j)),K):=fr
  have hskip:=hR (j+1,r) ⟨by dsimp only;omega,hr⟩ (by dsimp only;omega)
  by_cases c0:c j=0
  ·rw[c0]at g1
   have g1':lookupF false (.p (.int .i64 0)) kI (.map H2.length) (.p (.int .i64 j)) K=some (.p (.int .i64 0)):=g1
   simp(disch:=omega) [g1',zaa]
   exact hskip
  ·have c0':¬(c j:Int)=0:=by omega
   cases hf:frE L i j with
   |false =>
    rw[hf]at fr'
    simp(disch:=omega) [g1,f1,f2,fr',zaa]
    exact hskip
   |true =>
    rw[hf]at fr'
    by_cases hk:kinT v.t w.t
    ·obtain⟨hk1,hk2⟩:=hk
     have hk1':(v.t.kind==w.t.kind)=true:=by simp[hk1]
     have hk2':(v.t.name==w.t.name)=true:=by simp[hk2]
     have hkin:kinT (subT a i) (subT b j):=by rw[hsv,hsw];exact⟨hk1,hk2⟩
     have htake:=hR (j+1,(j:Int)) ⟨by dsimp only;omega, .inr ⟨j,rfl,hjl,hf,hkin⟩⟩ (by dsimp only;omega)
     rcases hr with rfl|⟨m,rfl,hm,hmf,hmk⟩
     ·simp(disch:=omega) [g1,f1,f2,fr',l0,l1,ixv,ixw,zlx,eqVals,eqCls,clsEq,hk1',hk2',negIf,zaa]
      exact htake
     ·obtain⟨s1,s2⟩:=hS j hjl
      obtain⟨s3,s4⟩:=hS m hm
      have g2:=(hc m).1
      have gb2:=(hc m).2
      have hd:=zarj (c j) (S j) (c m) (S m) (by omega) (by omega) (by omega) (by omega)
      have hm0:¬(m:Int)<0:=by omega
      by_cases hdp:0<dice (c j) (S j) (c m) (S m)
      ·simp(disch:=omega) [g1,g2,f1,f2,fr',l0,l1,ixv,ixw,zlx,eqVals,eqCls,clsEq,hk1',hk2',negIf,zaa,s2,s4,hd]
       exact htake
      ·simp(disch:=omega) [g1,g2,f1,f2,fr',l0,l1,ixv,ixw,zlx,eqVals,eqCls,clsEq,hk1',hk2',negIf,zaa,s2,s4,hd]
       exact hskip
    ·have hne:(decide (v.t.kind=w.t.kind)&&decide (v.t.name=w.t.name))=false:=by
      cases h:(decide (v.t.kind=w.t.kind)&&decide (v.t.name=w.t.name))
      ·rfl
      ·simp at h;exact absurd h hk
     have hex:¬(v.t.kind=w.t.kind∧v.t.name=w.t.name):=hk
     by_cases hk1:v.t.kind=w.t.kind
     ·have hk1':(v.t.kind==w.t.kind)=true:=by simp[hk1]
      have hk2':(v.t.name==w.t.name)=false:=by
       cases h:v.t.name==w.t.name with
       |false=>rfl
       |true=>exact absurd ⟨hk1,by simpa using h⟩ hk
      simp(disch:=omega) [g1,f1,f2,fr',l0,l1,ixv,ixw,zlx,eqVals,eqCls,clsEq,hk1',hk2',negIf,zaa]
      exact hskip
     ·have hk1':(v.t.kind==w.t.kind)=false:=by simp[hk1]
      simp(disch:=omega) [g1,f1,f2,fr',l0,l1,ixv,ixw,zlx,eqVals,eqCls,clsEq,hk1',negIf,zaa]
      exact hskip
 ·have hlt:¬(j:Int)<(b.size:Int):=by omega
  have hbase:MM a b L K∧H.length≤K.length∧∀x,x<H.length→K[x]? = H[x]? := ⟨M3,by rw[c4,hl2];omega,kK⟩
  simp(disch:=omega) []
  rcases hr with rfl|⟨m,rfl,hm,hmf,hmk⟩
  ·simp(disch:=omega) []
   exact⟨hbase.1,hbase.2.1,hbase.2.2, .inl rfl⟩
  ·obtain⟨s3,s4⟩:=hS m hm
   have g2:=(hc m).1
   have gb2:=(hc m).2
   have hm0:¬(m:Int)<0:=by omega
   have hh:=zark (c m) (S m) (by omega) (by omega)
   cases hhv:half (c m) (S m)with
   |false =>
    rw[hhv]at hh
    simp(disch:=omega) [hm0,g2,s4,hh]
    exact⟨hbase.1,hbase.2.1,hbase.2.2, .inl rfl⟩
   |true =>
    rw[hhv]at hh
    simp(disch:=omega) [hm0,g2,s4,hh]
    exact⟨hbase.1,hbase.2.1,hbase.2.2, .inr ⟨m,rfl,hm,hmf,hmk⟩⟩
end Go.Ideal

namespace Go.Ideal
open Go
set_option maxHeartbeats 4000000
set_option maxRecDepth 20000
attribute [-simp] getElem?_pos
theorem zabv (s t:Tree):(pr (postT s 0) (postT t 0) 0 0 [s] [t]).Pairwise (Fit s t)∧∀p∈pr (postT s 0) (postT t 0) 0 0 [s] [t],p.1<s.size∧p.2<t.size∧cost (nd s p.1) (nd t p.2)<3:=by
 have e:pr (postT s 0) (postT t 0) 0 0 [s] [t]=prT [(s,0)] [(t,0)]:=zaxt s t 0 0 [(s,0)] [(t,0)] (RepT.root s) (RepT.root t)
 obtain⟨h1,h2,h3,h4⟩:=zaxu s t 0 0 [(s,0)] [(t,0)] (RepT.root s) (RepT.root t) (List.pairwise_singleton _ _) (List.pairwise_singleton _ _)
 rw[e]
 exact⟨h2,h3⟩
theorem zalx (s t:Tree):((pr (postT s 0) (postT t 0) 0 0 [s] [t]).map (·.1)).Nodup:=by
 refine List.pairwise_map.2 ((zabv s t).1.imp fun h=>?_)
 rcases h with h|h
 ·have:=h.1;omega
 ·have:=h.1;omega
theorem zaaa {s t:Tree} {p:Nat×Nat} (h:p∈mapping s t):p.1<s.size∧p.2<t.size∧cost (nd s p.1) (nd t p.2)<3:=(zabv s t).2 p ((zas _).mem_iff.1 h)
theorem zadp (s t:Tree) (hs:Fine s) (ht:Fine t) (h8:s.size≤8∧t.size≤8):∃pv,PV pv (mapping s t)∧∀H,CW tr.look F_Q136 [tagg s,tagg t] H=some (.tup [.p pv, .p (.int .i64 0)],H):=by
 obtain⟨H1,k,a1,⟨ka,kb,km,ma,mb,b1,b2,b3,b4,b5,b6,b7,b8⟩,a3⟩:=zabf s t hs ht []
 have hs1:=zak s
 have ht1:=zak t
 have m1:ka<ma:=by obtain⟨_,_,_,_,_,_,_,h,_⟩:=b3.blk;exact h
 have hP:Pair H1 k km s t:=⟨ka,kb,ma,mb,[],0,b1,b2,by simp[Memo],b3,b4,b5,b7,by omega⟩
 obtain⟨H2,v,o,c1,c2,c3,c4,c5⟩:=zwt s t hs ht _ H1 k km 0 0 [s] [t] hP (Rep.root s) (Rep.root t) (Nat.lt_succ_self _)
 have hlen:=zqc s t
 rw[mapping,(zas _).length_eq]at hlen
 obtain⟨H3,d1,d2⟩:=zzz (g:=F_Q168) (by simp) v o _ (zalx s t) (by omega) H2 (by rw[← zqb];exact c4)
 have z1:someF 0 ((s.size:Int)-1)=rng 0 (lsize [s]):=by rw[← zbo,zpq];congr 1;omega
 have z2:someF 0 ((t.size:Int)-1)=rng 0 (lsize [t]):=by rw[← zbo,zpq];congr 1;omega
 rw[z1,z2]at a1
 have e1:decide (s.size≤8)=true:=decide_eq_true h8.1
 have e2:decide (t.size≤8)=true:=decide_eq_true h8.2
 rw[e1,e2]at a1
 simp only[fv]at a1 c1
 have hup:=c4.up
 have hps:=c4.pass
 have hne:v≠.undef:=by rintro rfl;exact absurd hps (by decide)
 have hfr:=zia d2
 obtain⟨pv,hpv,hfp⟩:∃pv,PV pv (mapping s t)∧freezeCell H3 100 v=some pv:=by
  refine⟨_,?_,hfr⟩
  cases o with
  |none =>
   left
   refine⟨rfl,?_⟩
   have h1:=d2.2.1
   exact List.length_eq_zero_iff.1 (by rw[mapping,(zas _).length_eq];exact h1)
  |some k=>right;rw[mapping,(zas _).length_eq]
 have hfo:freezeOne H3 v=some (.p pv):=by
  cases o with
  |none =>
   obtain⟨rfl,_,_⟩:=c4
   have h1:freezeCell H3 100 (.p .nilslice)=some .nilslice:=rfl
   rw[h1]at hfp
   injection hfp with hfp
   rw[← hfp];rfl
  |some k2 =>
   obtain⟨ver,cs,op,rfl,_⟩:=c4
   rw[zfa,hfp];rfl
 refine⟨pv,hpv,fun H=>?_⟩
 refine zai look_Q136 rfl (by simp) rfl ?_
 dsimp only[i_Q136,c_Q136]
 simp(disch:=omega) [zad,a1,c1,d1,hup,hps,hfo]
theorem zaab (s t:Tree) (hs:Fine s) (ht:Fine t) (H:List IBlk) (h8:¬(s.size≤8∧t.size≤8)):CW tr.look F_Q136 [tagg s,tagg t] H=some (.tup [.p .nilslice, .p (.int .i64 2)],H):=by
 refine zai look_Q136 rfl (by simp) rfl ?_
 obtain⟨H1,k,a1,_⟩:=zabf s t hs ht []
 have d1:(decide (s.size≤8)&&decide (t.size≤8))=false:=by
  cases h:(decide (s.size≤8)&&decide (t.size≤8))
  ·rfl
  ·simp at h;exact absurd h h8
 rw[d1]at a1
 simp only[fv]at a1
 dsimp only[i_Q136,c_Q136]
 simp(disch:=omega) [zad,a1]
end Go.Ideal

namespace Go.Ideal
open Go
set_option maxHeartbeats 4000000
set_option maxRecDepth 20000
attribute [-simp] getElem?_pos
structure PI (a b:Tree) (L:List (Nat×Nat)):Prop where
 nx:(L.map (·.1)).Nodup
 nz:(L.map (·.2)).Nodup
 ok:∀p∈L,p.1<a.size∧p.2<b.size∧kinT (subT a p.1) (subT b p.2)
theorem PI.add {a b:Tree} {L:List (Nat×Nat)} (h:PI a b L) {i j:Nat} (hi:i<a.size) (hj:j<b.size) (hf:frE L i j=true) (hk:kinT (subT a i) (subT b j)):PI a b (L++[(i,j)]):=by
 simp only[frE,Bool.and_eq_true,Option.isNone_iff_eq_none,zlv,zum]at hf
 refine⟨?_,?_,fun p hp=>?_⟩
 ·rw[List.map_append,List.nodup_append]
  exact⟨h.nx,by simp,fun x hx y hy=>by simp at hy;subst hy;exact fun e=>hf.1 (e ▸ hx)⟩
 ·rw[List.map_append,List.nodup_append]
  exact⟨h.nz,by simp,fun x hx y hy=>by simp at hy;subst hy;exact fun e=>hf.2 (e ▸ hx)⟩
 ·rcases List.mem_append.1 hp with hp|hp
  ·exact h.ok p hp
  ·simp at hp;subst hp;exact⟨hi,hj,hk⟩
def MStep (a b:Tree) (L:List (Nat×Nat)) (H':List IBlk) (P:List (Nat×Nat)→Prop):Prop:=∃X,MM a b (L++X) H'∧PI a b (L++X)∧P X
theorem zaod (t:Tree) {i:Nat} (hi:i<t.size):nd t i=subT t i:=by
 obtain⟨v,hv,_,hs,_⟩:=zdg hi
 rw[hs];unfold nd;rw[hv]
theorem zaly {t u:Tree} (h:cost t u<3):kinT t u:=by
 unfold cost at h
 by_cases hk:kin t u
 ·exact hk
 ·simp[hk]at h
theorem zaac (s t:Tree) (hs:Fine s) (ht:Fine t):∃pv P e,PV pv P∧(∀ p∈P,p.1<s.size∧p.2<t.size∧kinT (subT s p.1) (subT t p.2))∧P.length≤s.size∧∀H,CW tr.look F_Q136 [tagg s,tagg t] H=some (.tup [.p pv, .p (.int .i64 e)],H):=by
 by_cases h8:s.size≤8∧t.size≤8
 ·obtain⟨pv,h1,h2⟩:=zadp s t hs ht h8
  refine⟨pv,_,0,h1,fun p hp=>?_,zqc s t,h2⟩
  obtain⟨g1,g2,g3⟩:=zaaa hp
  rw[zaod s g1,zaod t g2]at g3
  exact⟨g1,g2,zaly g3⟩
 ·exact⟨.nilslice,[],2, .inl ⟨rfl,rfl⟩,by simp,by simp,fun H=>zaab s t hs ht H h8⟩
theorem MM.trees {a b:Tree} {L:List (Nat×Nat)} {H:List IBlk} (h:MM a b L H):loadVal ⟨[],H⟩ (some 5) (.ptr (.heap 2) 0 0)=some (tagg a)∧loadVal ⟨[],H⟩ (some 5) (.ptr (.heap 2) 0 5)=some (tagg b):=by
 have hb:=h.blk
 rw[zun]at hb
 have e1:=zdc (bx:=[]) (n:=5) (off:=0) hb (by simp)
 have e2:=zdc (bx:=[]) (n:=5) (off:=5) hb (by simp)
 refine⟨?_,?_⟩
 ·rw[e1];simp[tagg,Tree.zav,pcells]
 ·rw[e2];simp[tagg,Tree.zav,pcells]
def SmallQ (a b:Tree) (L:List (Nat×Nat)) (r:IVal) (H':List IBlk):Prop:=r = .tup []∧MStep a b L H' fun _=>True
theorem zaho {a b:Tree} (fa:Fine a) (fb:Fine b) {L:List (Nat×Nat)} {H:List IBlk} (h:MM a b L H) (hP:PI a b L) (sa:a.size≤60) (sb:b.size≤60) (i j:Nat) (hi:i<a.size) (hj:j<b.size):∃r H',CW tr.look F_Q90 [mptr, .p (.int .i64 i), .p (.int .i64 j)] H=some (r,H')∧SmallQ a b L r H':=by
 obtain⟨t1,t2⟩:=h.trees
 have u1:=zagv a (by omega) i hi
 have u2:=zagv b (by omega) j hj
 obtain⟨pv,P,e,hpv,hpm,hpl,hz⟩:=zaac (subT a i) (subT b j) (fa.sub hi) (fb.sub hj)
 have hup:=hpv.up
 have hln:=hpv.len
 have ea:=zdm hi
 have eb:=zdm hj
 refine zaw look_Q90 rfl rfl ?_
 dsimp only[i_Q90,c_Q90]
 simp(disch:=omega) [t1,t2,u1,u2,zad,hz,hup,hln]
 refine zac (α:=Nat×List (Nat×Nat)×List IBlk) (fun s=>[(0, .v mptr),(1, .int .i64 i),(2, .int .i64 j),(38, .v (.p pv)),(39, .int .i64 P.length),(40, .int .i64 s.1)]) (fun s=>⟨[],s.2.2⟩)
  (fun s=>s.1≤P.length∧MM a b (L++s.2.1) s.2.2∧PI a b (L++s.2.1)) (fun s=>P.length-s.1) ?_ (0,[],H) ⟨Nat.zero_le _,by rw[List.append_nil];exact h,by rw[List.append_nil];exact hP⟩
 rintro⟨k,X,K⟩ ⟨hk,hM,hI⟩ R hR
 dsimp only at hk hM hI hR ⊢
 dsimp only[l_Q90_0]
 by_cases hkl:k<P.length
 ·have hlt:(k:Int)<(P.length:Int):=by omega
  obtain⟨p,hp⟩:∃p,P[k]? = some p:=⟨_,List.getElem?_eq_getElem hkl⟩
  have ix:=hpv.idx hp
  obtain⟨g1,g2,g3⟩:=hpm p (List.mem_of_getElem? hp)
  have fr:=zuo hM (i+p.1) (j+p.2)
  have fr':CW tr.look F_Q91 [.ptr (.heap 2) 0 0, .p (.int .i64 ((i:Int)+p.1)), .p (.int .i64 ((j:Int)+p.2))] K=some (.p (.bool (frE (L++X) (i+p.1) (j+p.2))),K):=by
   have:=fr
   push_cast at this
   exact this
  cases hf:frE (L++X) (i+p.1) (j+p.2)with
  |false =>
   rw[hf]at fr'
   simp(disch:=omega) [ix,fr',zaa]
   exact hR (k+1,X,K) ⟨by dsimp only;omega,hM,hI⟩ (by dsimp only;omega)
  |true =>
   rw[hf]at fr'
   obtain⟨K',q1,q2,q3,q4⟩:=zlw hM (i+p.1) (j+p.2) hf
   push_cast at q1
   have q1':CW tr.look F_Q88 [.ptr (.heap 2) 0 0, .p (.int .i64 ((i:Int)+p.1)), .p (.int .i64 ((j:Int)+p.2))] K=some (.tup [],K'):=q1
   simp(disch:=omega) [ix,fr',q1',zaa]
   rw[List.append_assoc]at q2
   refine hR (k+1,X++[(i+p.1,j+p.2)],K') ⟨by dsimp only;omega,q2,?_⟩ (by dsimp only;omega)
   dsimp only
   rw[← List.append_assoc]
   exact hI.add (by omega) (by omega) hf (by rw[sub_sub hi g1,sub_sub hj g2];exact g3)
 ·obtain rfl:k=P.length:=by omega
  simp(disch:=omega) []
  exact⟨rfl,X,hM,hI,trivial⟩
theorem zmr {t:Tree} {i c:Nat}:c∈kidsOf t i↔c<t.size∧par t c=i:=by simp[kidsOf]
theorem zahp {t:Tree} {i:Nat} (hi:i<t.size):∃rest,idxS 1 (.p (kv2 t)) (.p (.int .i64 i))=some (.p (.ptr (islice (kidsOf t i)::rest))):=by
 refine⟨((List.range t.size).map fun i=>islice (kidsOf t i)).drop (i+1),?_⟩
 rw[kv2,zcb hi,Nat.mul_one,List.drop_eq_getElem_cons (by simpa using hi),List.getElem_map,List.getElem_range]
theorem zqg (l:List Nat):up (.p (islice l)) = .v (.p (islice l)):=by unfold islice;split<;>rfl
theorem zsj (l:List Nat):sliceLen (.p (islice l))=some l.length:=by
 unfold islice;split
 ·rename_i h;subst h;rfl
 ·rfl
theorem zsk {l:List Nat} {j:Nat} {c:Nat} (h:l[j]? = some c):∃rest,idxS 1 (.p (islice l)) (.p (.int .i64 j))=some (.p (.ptr (.int .i64 c::rest))):=by
 obtain⟨h1,h2⟩:=List.getElem?_eq_some_iff.1 h
 unfold islice
 rw[if_neg (fun e=>by rw[e]at h1;simp at h1),zcb h1]
 refine⟨(l.map fun(i:Nat)=>PVal.int .i64 i).drop (j+1),?_⟩
 rw[Nat.mul_one,List.drop_eq_getElem_cons (by simpa using h1),List.getElem_map,h2]
end Go.Ideal
