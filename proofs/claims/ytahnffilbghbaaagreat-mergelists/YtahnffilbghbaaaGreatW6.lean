/- MergeLists returns true for every input and leaves its arguments as they are; no condition. -/
import Derived.Test.YtahnffilbghbaaaGreatW5
import Derived.Test.YtahnffilbghbaaaGreatW2
import Derived.Test.YtahnffilbghbaaaGreatW4
import Derived.Test.YtahnffilbghbaaaGreatW3
import Derived.Test.YtahnffilbghbaaaGreatRows
import Derived.WalkKit
import Derived.ProofKit
import Derived.OpenShut
namespace Go.Ideal
open Go
set_option maxHeartbeats 4000000
set_option maxRecDepth 20000
attribute [-simp] getElem?_pos
theorem zaak (po pa pb:PVal) (O B:List Int) (ho:IV po O) (hb:IV pb B) (sO:small O) (sB:small B) (Q:IExit→Env→KM→Prop)
 (hQ0:(∀ x∈B,x∈O)→Q .normal [(0, .v (.p po)),(1, .v (.p pa)),(2, .v (.p pb))] ⟨[],[]⟩) (hQ1:∀(T:Env),(∃ x∈B,x∉O)→Q .ret ((7, .bool false)::(6, .v (.p .nilslice))::T) ⟨[],[]⟩) :
 ∀(n i:Nat),i+n=B.length→(∀ x∈B.take i,x∈O) →
 wpLoop (CW tr.look) 53 m_Q29_0 l_Q29_0 (blkK 0 b_Q29_0 Q) [(0, .v (.p po)),(1, .v (.p pa)),(2, .v (.p pb)),(8, .int .i64 i)] ⟨[],[]⟩:=by
 intro n
 induction n with
 |zero =>
  intro i hi hG
  have hi:i=B.length:=by omega
  subst hi
  refine zaa ?_
  dsimp only[l_Q29_0]
  rw[List.take_length]at hG
  have hl:=hb.len
  have hup:=hb.up
  simp(disch:=omega) [hl]
  exact hQ0 hG
 |succ n ih =>
  intro i hi hG
  have hil:i<B.length:=by omega
  have hbd:=sB.1
  have hl:=hb.len
  have hup:=hb.up
  have hupo:=ho.up
  obtain⟨r,hx⟩:=hb.idx hil
  have hO:=zmr ho sO B[i] []
  refine zaa ?_
  dsimp only[l_Q29_0]
  by_cases he:B[i]∈O
  ·simp only[he,decide_true]at hO
   simp(disch:=omega) [hl,hx,hO,zab]
   refine ih (i+1) (by omega) fun x h=>?_
   rcases(zdz hil).1 h with h|h
   ·exact hG x h
   ·rw[h];exact he
  ·simp only[he,decide_false]at hO
   simp(disch:=omega) [hl,hx,hO]
   exact hQ1 _ ⟨_,List.getElem_mem hil,he⟩
theorem zaal (po pa pb:PVal) (O A B:List Int) (ho:IV po O) (ha:IV pa A) (hb:IV pb B) (sO:small O) (sA:small A) (sB:small B) (Q:IExit→Env→KM→Prop)
 (hQ:∀v G,GS 0 G v (A.filter fun x=>!decide (x∈O)||decide (x∈B))→Q .normal [(9, .v v)] ⟨[],G⟩) :
 ∀(n i:Nat) (v:IVal) (G:List IBlk),i+n=A.length→GS 0 G v ((A.take i).filter fun x=>!decide (x∈O)||decide (x∈B)) →
 wpLoop (CW tr.look) 53 m_Q29_1 l_Q29_1 (blkK 2 b_Q29_2 Q) [(0, .v (.p po)),(1, .v (.p pa)),(2, .v (.p pb)),(9, .v v),(10, .int .i64 i)] ⟨[],G⟩:=by
 intro n
 induction n with
 |zero =>
  intro i v G hi hG
  have hi:i=A.length:=by omega
  subst hi
  refine zaa ?_
  dsimp only[l_Q29_1]
  rw[List.take_length]at hG
  have hl:=ha.len
  have hup:=ha.up
  simp(disch:=omega) [hl]
  exact hQ v G hG
 |succ n ih =>
  intro i v G hi hG
  have hil:i<A.length:=by omega
  have hbd:=sA.1
  obtain⟨r,hx⟩:=ha.idx hil
  have hl:=ha.len
  have hup0:=ha.up
  have hupa:=ho.up
  have hupb:=hb.up
  have hO:=zmr ho sO A[i] G
  have hB:=zmr hb sB A[i] G
  have et:(A.take (i+1)).filter (fun x=>!decide (x∈O)||decide (x∈B))=(A.take i).filter (fun x=>!decide (x∈O)||decide (x∈B))++(if(!decide (A[i]∈O)||decide (A[i]∈B))=true then[A[i]]else[]):=by
   rw[List.take_add_one,List.getElem?_eq_getElem hil,List.filter_append,Option.toList_some,List.filter_cons,List.filter_nil]
  have hflen:((A.take i).filter (fun x=>!decide (x∈O)||decide (x∈B))).length≤100:=by
   have h1:=List.length_filter_le (fun x=>!decide (x∈O)||decide (x∈B)) (A.take i)
   have h2:=List.length_take_le i A
   omega
  have hup:=hG.up
  have hne:=hG.ne
  refine zaa ?_
  dsimp only[l_Q29_1]
  by_cases hc:(!decide (A[i]∈O)||decide (A[i]∈B))=true
  ·obtain⟨v',G2,f1,f2,f3,_⟩:=hG.app (Nat.zero_le _) (by omega) A[i]
   rw[if_pos hc]at et
   rw[← et]at f2
   have hup2:=f2.up
   have hne2:=f2.ne
   by_cases h1:A[i]∈O
   ·have h2:A[i]∈B:=by simpa[h1]using hc
    simp only[h1,h2,decide_true]at hO hB
    simp(disch:=omega) [hl,hx,hO,hB,zab,f1,hup2]
    exact ih (i+1) v' G2 (by omega) f2
   ·simp only[h1,decide_false]at hO
    simp(disch:=omega) [hl,hx,hO,zab,f1,hup2]
    exact ih (i+1) v' G2 (by omega) f2
  ·rw[if_neg hc,List.append_nil]at et
   rw[← et]at hG
   simp only[Bool.or_eq_true,Bool.not_eq_true',decide_eq_false_iff_not,decide_eq_true_eq,not_or,Classical.not_not]at hc
   obtain⟨h1,h2⟩:=hc
   simp only[h1,h2,decide_true,decide_false]at hO hB
   simp(disch:=omega) [hl,hx,hO,hB,zab]
   exact ih (i+1) v G (by omega) hG
theorem zafw {po pa pb:PVal} {O A B:List Int} (ho:IV po O) (ha:IV pa A) (hb:IV pb B) (sO:small O) (sA:small A) (sB:small B) (H:List IBlk) :
 ∃pv',IV pv' ((aloneL A B O B).getD [])∧CW tr.look F_Q29 [.p po, .p pa, .p pb] H=some (.tup [.p pv', .p (.bool (aloneL A B O B).isSome)],H):=by
 obtain⟨r,h1,pv',rfl,h2⟩:=zbe (Γ:=tr.look) (args:=[.p po, .p pa, .p pb]) (H:=H) (Q:=fun r=>∃pv',r = .tup [.p pv', .p (.bool (aloneL A B O B).isSome)]∧IV pv' ((aloneL A B O B).getD [])) look_Q29 rfl (show freezeAll H [.p po, .p pa, .p pb]=some [.p po, .p pa, .p pb]from rfl) rfl (by
  dsimp only[i_Q29,c_Q29]
  have hup:=ho.up
  have hupa:=ha.up
  have hupb:=hb.up
  simp(disch:=omega) [hup,hupa,hupb]
  refine zaak po pa pb O B ho hb sO sB _ (fun h=>?_) (fun T h=>?_) B.length 0 (by omega) (by simp)
  ·have ea:aloneL A B O B=some (A.filter fun x=>!decide (x∈O)||decide (x∈B)):=by
    unfold aloneL
    rw[any_none fun x hx=>by simp[h x hx],if_neg (by simp)]
   rw[ea]
   simp(disch:=omega) []
   refine zaal po pa pb O A B ho ha hb sO sA sB _ (fun v G hG=>?_) A.length 0 (.p .nilslice) [] (by omega) GS.nil
   obtain⟨pv',g1,g2⟩:=hG.one
   have hup:=hG.up
   have hne:=hG.ne
   have hp:=hG.pass
   simp(disch:=omega) [g2,hp]
   exact g1
  ·have ea:aloneL A B O B=none:=by
    unfold aloneL
    rw[if_pos]
    obtain⟨x,hx,h⟩:=h
    exact List.any_eq_true.2 ⟨x,hx,by simp[h]⟩
   rw[ea]
   simp(disch:=omega) []
   exact .inl ⟨rfl,rfl⟩)
 exact⟨pv',h2,h1⟩
end Go.Ideal

namespace Go.Ideal
open Go
set_option maxHeartbeats 4000000
set_option maxRecDepth 20000
attribute [-simp] getElem?_pos
def rstep (O K:List Int) (x:Int) (s:List Int×Bool) (n:Int):List Int×Bool:=if n∈K then(s.1,decide (n=x))else if s.2=true∧n∉O then(s.1++[n],s.2)else s
def rfold (O K:List Int) (x:Int) (L:List Int):List Int×Bool:=L.foldl (rstep O K x) ([],decide (x = -1))
theorem zoj (O K:List Int) (x:Int) {L:List Int} {i:Nat} (h:i<L.length):rfold O K x (L.take (i+1))=rstep O K x (rfold O K x (L.take i)) L[i]:=by
 unfold rfold
 rw[List.take_add_one,List.getElem?_eq_getElem h,List.foldl_append];rfl
theorem zjo (O K:List Int) (x:Int) {L:List Int}:∀i,i≤L.length→(rfold O K x (L.take i)).1.length≤i
 |0,_=>by simp[rfold]
 |i+1,h=>by
  have ih:=zjo O K x i (L:=L) (by omega)
  rw[zoj O K x (by omega)]
  unfold rstep
  split
  ·show(rfold O K x (L.take i)).1.length≤_;omega
  ·split
   ·simp;omega
   ·omega
theorem zaee (pv po pk:PVal) (L O K:List Int) (x:Int) (hv:IV pv L) (ho:IV po O) (hk:IV pk K) (sL:small L) (sO:small O) (sK:small K) (Q:IExit→Env→KM→Prop)
 (hQ:∀v G,GS 0 G v (rfold O K x L).1→Q .normal [(9, .v v)] ⟨[],G⟩) :
 ∀(n i:Nat) (v:IVal) (G:List IBlk),i+n=L.length→GS 0 G v (rfold O K x (L.take i)).1 →
 wpLoop (CW tr.look) 52 m_Q41_0 l_Q41_0 (blkK 0 b_Q41_0 Q) [(0, .v (.p pv)),(1, .v (.p po)),(2, .v (.p pk)),(3, .int .i64 x),(9, .v v),(10, .bool (rfold O K x (L.take i)).2),(11, .int .i64 i)] ⟨[],G⟩:=by
 intro n
 induction n with
 |zero =>
  intro i v G hi hG
  have hi:i=L.length:=by omega
  subst hi
  refine zaa ?_
  dsimp only[l_Q41_0]
  rw[List.take_length]at hG ⊢
  have hl:=hv.len
  have hup:=hv.up
  simp(disch:=omega) [hl]
  exact hQ v G hG
 |succ n ih =>
  intro i v G hi hG
  have hil:i<L.length:=by omega
  have hbd:=sL.1
  obtain⟨r,hx⟩:=hv.idx hil
  have hl:=hv.len
  have hup0:=hv.up
  have hupa:=ho.up
  have hupb:=hk.up
  have hO:=zmr ho sO L[i] G
  have hK:=zmr hk sK L[i] G
  have et:=zoj O K x hil
  have hflen:=zjo O K x (L:=L) i (by omega)
  have ihn:=ih (i+1)
  rw[et]at ihn
  have hup:=hG.up
  have hne:=hG.ne
  generalize rfold O K x (L.take i)=s at *
  obtain⟨m,on⟩:=s
  simp only at hG hflen ⊢
  refine zaa ?_
  dsimp only[l_Q41_0]
  by_cases h1:L[i]∈K
  ·have es:rstep O K x (m,on) L[i]=(m,decide (L[i]=x)):=by unfold rstep;rw[if_pos h1]
   rw[es]at ihn
   simp only[h1,decide_true]at hK
   simp(disch:=omega) [hl,hx,hK,zab]
   exact ihn v G (by omega) hG
  ·simp only[h1,decide_false]at hK
   by_cases h2:on=true∧L[i]∉O
   ·have es:rstep O K x (m,on) L[i]=(m++[L[i]],on):=by unfold rstep;rw[if_neg h1,if_pos h2]
    rw[es]at ihn
    obtain⟨h2,h3⟩:=h2
    subst h2
    simp only[h3,decide_false]at hO
    obtain⟨v',G2,f1,f2,f3,_⟩:=hG.app (Nat.zero_le _) (by omega) L[i]
    have hup2:=f2.up
    have hne2:=f2.ne
    simp(disch:=omega) [hl,hx,hK,hO,zab,f1,hup2]
    exact ihn v' G2 (by omega) f2
   ·have es:rstep O K x (m,on) L[i]=(m,on):=by unfold rstep;rw[if_neg h1,if_neg h2]
    rw[es]at ihn
    cases on with
    |false =>
     simp(disch:=omega) [hl,hx,hK,zab]
     exact ihn v G (by omega) hG
    |true =>
     have h3:L[i]∈O:=by simpa using h2
     simp only[h3,decide_true]at hO
     simp(disch:=omega) [hl,hx,hK,hO,zab]
     exact ihn v G (by omega) hG
theorem zafx {pv po pk:PVal} {L O K:List Int} (hv:IV pv L) (ho:IV po O) (hk:IV pk K) (sL:small L) (sO:small O) (sK:small K) (x:Int) (H:List IBlk) :
 ∃pv',IV pv' (rfold O K x L).1∧CW tr.look F_Q41 [.p pv, .p po, .p pk, .p (.int .i64 x)] H=some (.p pv',H):=by
 obtain⟨r,h1,pv',rfl,h2⟩:=zbe (Γ:=tr.look) (args:=[.p pv, .p po, .p pk, .p (.int .i64 x)]) (H:=H) (Q:=fun r=>∃pv',r = .p pv'∧IV pv' (rfold O K x L).1) look_Q41 rfl (show freezeAll H [.p pv, .p po, .p pk, .p (.int .i64 x)]=some [.p pv, .p po, .p pk, .p (.int .i64 x)]from rfl) rfl (by
  dsimp only[i_Q41,c_Q41]
  have hup:=hv.up
  have hupa:=ho.up
  have hupb:=hk.up
  simp(disch:=omega) [hup,hupa,hupb]
  refine zaee pv po pk L O K x hv ho hk sL sO sK _ (fun v G hG=>?_) L.length 0 (.p .nilslice) [] (by omega) GS.nil
  obtain⟨pv',g1,g2,g3⟩:=hG.freeze
  have hup:=hG.up
  have hne:=hG.ne
  have hp:=hG.pass
  simp(disch:=omega) [g2,hp]
  exact g1)
 exact⟨pv',h2,h1⟩
end Go.Ideal

namespace Go.Ideal
open Go
set_option maxHeartbeats 4000000
set_option maxRecDepth 20000
attribute [-simp] getElem?_pos
def PV2 (v:PVal) (L:List (Int×Int)):Prop:=v = .nilslice∧L=[]∨v = .slice 2 L.length (L.flatMap pairEnc)
theorem PV2.len {v:PVal} {L:List (Int×Int)} (h:PV2 v L):sliceLen (.p v)=some L.length:=by
 rcases h with⟨rfl,rfl⟩|rfl<;>rfl
theorem PV2.up {v:PVal} {L:List (Int×Int)} (h:PV2 v L):up (.p v) = .v (.p v):=by
 rcases h with⟨rfl,rfl⟩|rfl<;>rfl
theorem zjp:∀ {L:List (Int×Int)} {j:Nat} (h:j<L.length),(L.flatMap pairEnc).drop (j*2) = .int .i64 L[j].1 :: .int .i64 L[j].2::(L.drop (j+1)).flatMap pairEnc
 |a::L,0,_=>rfl
 |a::L,j+1,h=>by
  rw[List.flatMap_cons,show(j+1)*2=(j*2)+1+1 by omega]
  exact zjp (L:=L) (j:=j) (by simpa using h)
theorem PV2.idx {v:PVal} {L:List (Int×Int)} (h:PV2 v L) {j:Nat} (hj:j<L.length):∃r,idxS 2 (.p v) (.p (.int .i64 j))=some (.p (.ptr (.int .i64 L[j].1 :: .int .i64 L[j].2::r))):=by
 rcases h with⟨rfl,rfl⟩|rfl
 ·simp at hj
 ·rw[zrk hj,zjp hj];exact⟨_,rfl⟩
theorem zaef (pv:PVal) (L:List (Int×Int)) (hv:PV2 pv L) (hs:L.length≤100) (a:Int×Int) (Q:IExit→Env→KM→Prop)
 (hQ0:a∉L→Q .normal [] ⟨[],[]⟩) (hQ1:∀(T:Env),a∈L→Q .ret ((4, .bool true)::T) ⟨[(3,some ⟨[.int .i64 a.1, .int .i64 a.2],2⟩)],[]⟩) :
 ∀(n i:Nat),i+n=L.length→a∉L.take i →
 wpLoop (CW tr.look) 18 m_Q63_0 l_Q63_0 (blkK 0 b_Q63_0 Q) [(0, .v (.p pv)),(3, .box 3 0),(5, .int .i64 i)] ⟨[(3,some ⟨[.int .i64 a.1, .int .i64 a.2],2⟩)],[]⟩:=by
 intro n
 induction n with
 |zero =>
  intro i hi hG
  have hi:i=L.length:=by omega
  subst hi
  refine zaa ?_
  dsimp only[l_Q63_0]
  rw[List.take_length]at hG
  have hl:=hv.len
  have hup:=hv.up
  simp(disch:=omega) [hl]
  exact hQ0 hG
 |succ n ih =>
  intro i hi hG
  have hil:i<L.length:=by omega
  have hl:=hv.len
  have hup:=hv.up
  obtain⟨r,hx⟩:=hv.idx hil
  have hnot:L[i]≠a→a∉L.take (i+1):=fun he=>by
   rw[List.take_add_one,List.getElem?_eq_getElem hil,List.mem_append,Option.toList_some,List.mem_singleton]
   rintro(h|h)
   ·exact hG h
   ·exact he h.symm
  refine zaa ?_
  dsimp only[l_Q63_0]
  by_cases h1:L[i].1=a.1
  ·by_cases h2:L[i].2=a.2
   ·have he:L[i]=a:=Prod.ext h1 h2
    simp(disch:=omega) [hl,hx,h1,h2]
    exact hQ1 _ (he ▸ List.getElem_mem hil)
   ·have e2:(L[i].2==a.2)=false:=by simp[h2]
    simp(disch:=omega) [hl,hx,zab,h1,e2]
    exact ih (i+1) (by omega) (hnot (fun e=>h2 (by rw[e])))
  ·have e1:(L[i].1==a.1)=false:=by simp[h1]
   simp(disch:=omega) [hl,hx,zab,e1]
   exact ih (i+1) (by omega) (hnot (fun e=>h1 (by rw[e])))
theorem zapq {pv:PVal} {L:List (Int×Int)} (hv:PV2 pv L) (hs:L.length≤100) (a:Int×Int) (H:List IBlk):CW tr.look F_Q63 [.p pv, .agg [.p (.int .i64 a.1), .p (.int .i64 a.2)]] H=some (.p (.bool (decide (a∈L))),H):=by
 refine zbt look_Q63 rfl rfl rfl ?_
 dsimp only[i_Q63,c_Q63]
 have hup:=hv.up
 simp(disch:=omega) [hup]
 refine zaef pv L hv hs a _ (fun h=>?_) (fun T h=>?_) L.length 0 (by omega) (by simp)
 ·simp(disch:=omega) [h]
 ·simp(disch:=omega) [h]
end Go.Ideal

namespace Go.Ideal
open Go
set_option maxHeartbeats 4000000
set_option maxRecDepth 20000
attribute [-simp] getElem?_pos
def inR (S:List (Int×Int)) (a b:Int):Bool:=decide ((a,b)∈S)
theorem zsj (pv pw ps:PVal) (L M:List Int) (S:List (Int×Int)) (hv:IV pv L) (hw:IV pw M) (hS:PV2 ps S) (hs:small L) (ht:small M) (hSl:S.length≤100) (hlen:L.length=M.length) (Q:IExit→Env→KM→Prop)
 (hQ0:(∀ j,j<L.length→one1 (inR S) (L.getD j 0) (M.getD j 0)=true)→Q .normal [] ⟨[],[]⟩) (hQ1:∀(T:Env),(∃ j,j<L.length∧one1 (inR S) (L.getD j 0) (M.getD j 0)=false)→Q .ret ((6, .bool false)::T) ⟨[],[]⟩) :
 ∀(n i:Nat),i+n=L.length→(∀ j,j<i→one1 (inR S) (L.getD j 0) (M.getD j 0)=true) →
 wpLoop (CW tr.look) 64 m_Q42_0 l_Q42_0 (blkK 0 b_Q42_0 Q) [(0, .v (.p pv)),(1, .v (.p pw)),(2, .v (.p ps)),(7, .int .i64 i)] ⟨[],[]⟩:=by
 intro n
 induction n with
 |zero =>
  intro i hi hG
  have hi:i=L.length:=by omega
  subst hi
  refine zaa ?_
  dsimp only[l_Q42_0]
  have hl:=hv.len
  have hup:=hv.up
  simp(disch:=omega) [hl]
  exact hQ0 hG
 |succ n ih =>
  intro i hi hG
  have hil:i<L.length:=by omega
  have him:i<M.length:=by omega
  have hb:=hs.1
  have hl:=hv.len
  have hup:=hv.up
  have hup2:=hw.up
  have hup3:=hS.up
  obtain⟨r,hx⟩:=hv.idx hil
  obtain⟨q,hy⟩:=hw.idx him
  have hin:=hs.2 L[i] (List.getElem_mem hil)
  have hin2:=ht.2 M[i] (List.getElem_mem him)
  have hI:=zapq hS hSl (L[i],M[i]+1048576) []
  have eo:one1 (inR S) (L.getD i 0) (M.getD i 0)=one1 (inR S) L[i] M[i]:=by rw[zcg hil,zcg him]
  have ihn:=fun(h:one1 (inR S) L[i] M[i]=true)=>ih (i+1) (by omega) (fun j hj=>by
   by_cases e:j=i
   ·subst e;rw[eo];exact h
   ·exact hG j (by omega))
  have hq:=fun T (h:one1 (inR S) L[i] M[i]=false)=>hQ1 T ⟨i,hil,by rw[eo];exact h⟩
  unfold one1 inR at ihn hq
  refine zaa ?_
  dsimp only[l_Q42_0]
  by_cases h0:0≤L[i]
  ·rw[if_pos h0]at ihn hq
   have h0':¬L[i]<0:=by omega
   by_cases he:L[i]=M[i]
   ·have h0m:0≤M[i]:=by omega
    have h0m':¬M[i]<0:=by omega
    simp(disch:=omega) [hl,hx,hy,zab,he]
    exact ihn (by simp[he])
   ·simp(disch:=omega) [hl,hx,hy]
    exact hq _ (by simp[he])
  ·rw[if_neg h0]at ihn hq
   have h0':L[i]<0:=by omega
   by_cases h1:M[i]<0
   ·by_cases h2:(L[i],M[i]+1048576)∈S
    ·simp only[h2,decide_true]at hI
     simp(disch:=omega) [hl,hx,hy,zab,hI]
     exact ihn (by simp[h1,h2])
    ·simp only[h2,decide_false]at hI
     simp(disch:=omega) [hl,hx,hy,zab,hI]
     exact hq _ (by simp[h2])
   ·simp(disch:=omega) [hl,hx,hy]
    exact hq _ (by simp[h1])
theorem zxc {pv pw ps:PVal} {L M:List Int} {S:List (Int×Int)} (hv:IV pv L) (hw:IV pw M) (hS:PV2 ps S) (hs:small L) (ht:small M) (hSl:S.length≤100) (H:List IBlk):CW tr.look F_Q42 [.p pv, .p pw, .p ps] H=some (.p (.bool (oneL (inR S) L M)),H):=by
 refine zbt look_Q42 rfl (by simp) rfl ?_
 dsimp only[i_Q42,c_Q42]
 have hl:=hv.len
 have hl2:=hw.len
 have hup:=hv.up
 have hup2:=hw.up
 have hup3:=hS.up
 have hb:=hs.1
 have hb2:=ht.1
 by_cases hlen:L.length=M.length
 ·simp(disch:=omega) [hl,hl2,hup,hup2,hup3,hlen]
  refine zsj pv pw ps L M S hv hw hS hs ht hSl hlen _ (fun h=>?_) (fun T h=>?_) L.length 0 (by omega) (fun j hj=>by omega)
  ·have e:oneL (inR S) L M=true:=by
    unfold oneL
    simp only[hlen,decide_true,Bool.true_and,List.all_eq_true,List.mem_range]
    intro j hj
    exact h j (by omega)
   simp(disch:=omega) [e]
  ·have e:oneL (inR S) L M=false:=by
    obtain⟨j,hj,h⟩:=h
    unfold oneL
    simp only[hlen,decide_true,Bool.true_and,List.all_eq_false,List.mem_range]
    exact⟨j,by omega,by rw[h];simp⟩
   simp(disch:=omega) [e]
 ·have e:oneL (inR S) L M=false:=by unfold oneL;simp[hlen]
  simp(disch:=omega) [hl,hl2,hup,hup2,hup3,hlen,e]
end Go.Ideal

namespace Go.Ideal
open Go
set_option maxHeartbeats 4000000
set_option maxRecDepth 20000
attribute [-simp] getElem?_pos
theorem zaam (O K:List Int) (x:Int) (L:List Int):∀y∈(rfold O K x L).1,y∈L:=by
 have key:∀(M:List Int) (s:List Int×Bool),∀y∈(M.foldl (rstep O K x) s).1,y∈s.1∨y∈M:=by
  intro M
  induction M with
  |nil=>intro s y h;exact .inl h
  |cons a M ih =>
   intro s y h
   rw[List.foldl_cons]at h
   rcases ih _ y h with h|h
   ·unfold rstep at h
    split at h
    ·exact .inl h
    ·split at h
     ·rcases List.mem_append.1 h with h|h
      ·exact .inl h
      ·exact .inr (by rw[List.mem_singleton.1 h];simp)
     ·exact .inl h
   ·exact .inr (List.mem_cons_of_mem _ h)
 intro y h
 rcases key L _ y h with h|h
 ·simp at h
 ·exact h
theorem zbw {O K:List Int} {x:Int} {L:List Int} (h:small L):small (rfold O K x L).1:=⟨by
 have:=zjo O K x (L:=L) L.length (Nat.le_refl _)
 rw[List.take_length]at this
 have:=h.1
 omega,fun i hi=>h.2 i (zaam O K x L i hi)⟩
def kth (K:List Int) (i:Nat):Int:=if i=0 then -1 else K.getD (i-1) 0
def gapN (R:Int→Int→Bool) (O K A B:List Int):Nat→Option (List Int)
 |0=>some []
 |i+1=>match gapN R O K A B i with
  |none=>none
  |some m=>match jpick R (rfold O K (kth K i) A).1 (rfold O K (kth K i) B).1 with
   |none=>none
   |some p=>some ((m++(if i=0 then[]else[kth K i]))++p)
theorem zmt {R:Int→Int→Bool} {O K A B:List Int} {i:Nat} (h:gapN R O K A B i=none):∀n,i≤n→gapN R O K A B n=none
 |0,hn=>by have:i=0:=by omega
           subst this;exact h
 |n+1,hn=>by
  by_cases e:i=n+1
  ·subst e;exact h
  ·unfold gapN
   rw[zmt h n (by omega)]
theorem zvv {R:Int→Int→Bool} {O K A B:List Int} (hA:small A) (hB:small B):∀(i:Nat) (m:List Int),gapN R O K A B i=some m→m.length≤i*200
 |0,m,h=>by injection h with h;subst h;simp
 |i+1,m,h=>by
  unfold gapN at h
  split at h
  ·cases h
  ·rename_i m0 h0
   have:=zvv hA hB i m0 h0
   split at h
   ·cases h
   ·rename_i p hp
    injection h with h
    subst h
    have h1:=(zbw (O:=O) (K:=K) (x:=kth K i) hA).1
    have h2:=(zbw (O:=O) (K:=K) (x:=kth K i) hB).1
    have hpl:p.length≤100:=zsh hp h1 h2
    have:(if i=0 then[]else[kth K i]).length≤1:=by split<;>simp
    simp only[List.length_append]
    omega
end Go.Ideal

namespace Go.Ideal
open Go
set_option maxHeartbeats 4000000
set_option maxRecDepth 20000
attribute [-simp] getElem?_pos
theorem GS.appIV {h0:Nat} {G:List IBlk} {v:IVal} {pw:PVal} {L M:List Int} (h:GS h0 G v L) (g:IV pw M) (hG:h0≤G.length) (hb:L.length+M.length<1000000) :
 ∃v' G2,evalAppend ⟨[],G⟩ 1 v (.p pw)=some (v',⟨[],G2⟩)∧GS h0 G2 v' (L++M)∧G.length≤G2.length∧∀y,y<h0→G2[y]? = G[y]? := by
 obtain⟨o,h,ho⟩:=h
 have hsrc:srcCells ⟨[],G⟩ 1 (.p pw)=some (pcells (pints M))∧srcLen (.p pw)=some M.length:=by
  rcases g with⟨rfl,rfl⟩|rfl
  ·exact⟨rfl,rfl⟩
  ·exact⟨rfl,rfl⟩
 have hpl:(pcells (pints M)).length=M.length:=by rw[zgq];simp[pints]
 have hap0:pcells (pints (L++M))=pcells (pints L)++pcells (pints M):=by rw[pints,List.map_append,zdy];rfl
 by_cases hm:M.length=0
 ·have hM:M=[]:=List.length_eq_zero_iff.1 hm
  subst hM
  cases o with
  |none =>
   obtain⟨rfl,h2,_⟩:=h
   rw[List.length_eq_zero_iff.1 h2]
   refine⟨.p .nilslice,G,?_,GS.nil,Nat.le_refl _,fun _ _=>rfl⟩
   simp only[evalAppend,evalAppend0,hsrc.1,hsrc.2,sliceLen]
   try rfl
  |some k =>
   have hh:=h
   obtain⟨ver,cs,op,rfl,hk,hn,hx⟩:=h
   refine⟨.slice k ver 0 L.length,G,?_,by rw[List.append_nil];exact⟨some k,hh,ho⟩,Nat.le_refl _,fun _ _=>rfl⟩
   have hble:Nat.ble (L.length+0) maxAppend=true:=Nat.ble_eq_true_of_le (by unfold maxAppend;omega)
   have h2:(Nat.beq ver ver&&Nat.beq 1 1&&Nat.ble (0+L.length*1) cs.length)=true:=by
    rw[Nat.beq_refl,Nat.beq_refl,Nat.zero_add,Bool.true_and,Bool.true_and]
    exact Nat.ble_eq_true_of_le (by omega)
   simp only[evalAppend,evalAppend0,hsrc.1,hsrc.2,sliceLen,List.length_nil,hble,Mem.get,hk,h2]
   try rfl
 ·cases o with
  |none =>
   obtain⟨rfl,h2,_⟩:=h
   have hL:=List.length_eq_zero_iff.1 h2
   subst hL
   refine⟨_,_,append_nil hsrc.1 hsrc.2 (by omega) (by omega),⟨some G.length,⟨0,_,true,rfl,zml,by rw[hpl];simp,?_⟩,fun k e=>by injection e with e;omega⟩,by simp,fun y hy=>List.getElem?_append_left (by omega)⟩
   rw[List.nil_append,Nat.mul_one,List.take_of_length_le (by omega)]
  |some k =>
   obtain⟨ver,cs,op,rfl,hk,hn,hx⟩:=h
   have hkl:=(List.getElem?_eq_some_iff.1 hk).1
   have happ:=zep (bx:=[]) hk hn hsrc.1 hsrc.2 (by omega) (by omega)
   have hnew:=zvp (H:=G) (ver:=ver) (op:=op) (ys:=pcells (pints M)) (ny:=M.length) (k:=k) hkl hn (by rw[hpl];omega)
   rw[hx]at hnew
   have hk0:=ho k rfl
   exact⟨_,_,happ,⟨some k,by rw[List.length_append,hap0];exact hnew,ho⟩,by simp,fun y hy=>List.getElem?_set_ne (by omega)⟩
theorem IV.pos {pv:PVal} {L:List Int} (_:IV pv L) (h:0<L.length):¬(0:Int)=(L.length:Int)∧¬(L.length:Int)=0:=⟨by omega,by omega⟩
theorem zur (po pa pb pk ps:PVal) (O A B K:List Int) (S:List (Int×Int)) (ho:IV po O) (ha:IV pa A) (hb:IV pb B) (hk:IV pk K) (hS:PV2 ps S) (sO:small O) (sA:small A) (sB:small B) (sK:small K) (hSl:S.length≤100) (Q:IExit→Env→KM→Prop)
 (hQ0:∀v G m,gapN (inR S) O K A B (K.length+1)=some m→GS 0 G v m→Q .normal [(12, .v v)] ⟨[],G⟩)
 (hQ1:∀(T:Env) G,gapN (inR S) O K A B (K.length+1)=none→Q .ret ((11, .bool false)::(10, .v (.p .nilslice))::T) ⟨[],G⟩) :
 ∀(n i:Nat) (z:Int) (v:IVal) (G:List IBlk) (m:List Int),i+n=K.length+1→z=(i:Int)-1→gapN (inR S) O K A B i=some m→GS 0 G v m →
 wpLoop (CW tr.look) 66 m_Q28_0 l_Q28_0 (blkK 0 b_Q28_0 Q) [(0, .v (.p po)),(1, .v (.p pa)),(2, .v (.p pb)),(3, .v (.p pk)),(4, .v (.p ps)),(12, .v v),(13, .int .i64 z)] ⟨[],G⟩:=by
 intro n
 induction n with
 |zero =>
  intro i z v G m hi hz hm hG
  have hi:i=K.length+1:=by omega
  have hz:z=(K.length:Int):=by omega
  subst hi hz
  refine zaa ?_
  dsimp only[l_Q28_0]
  have hl:=hk.len
  have hup:=hk.up
  simp(disch:=omega) [hl]
  exact hQ0 v G m hm hG
 |succ n ih =>
  intro i z v G m hi hz hm hG
  have hml:=zvv sA sB i m hm
  have hKl:=sK.1
  have hl:=hk.len
  have uo:=ho.up
  have ua:=ha.up
  have ub:=hb.up
  have uk:=hk.up
  have us:=hS.up
  have vup:=hG.up
  have vne:=hG.ne
  have hfin:∀(m0:List Int) (v0:IVal) (G0:List IBlk),GS 0 G0 v0 m0→m0=m++(if i=0 then[]else[kth K i])→m0.length<500000→∃pA pB:PVal,
   IV pA (rfold O K (kth K i) A).1∧IV pB (rfold O K (kth K i) B).1∧CW tr.look F_Q41 [.p pa, .p po, .p pk, .p (.int .i64 (kth K i))] G0=some (.p pA,G0)∧CW tr.look F_Q41 [.p pb, .p po, .p pk, .p (.int .i64 (kth K i))] G0=some (.p pB,G0) ∧
   CW tr.look F_Q42 [.p pA, .p pB, .p ps] G0=some (.p (.bool (oneL (inR S) (rfold O K (kth K i) A).1 (rfold O K (kth K i) B).1)),G0):=by
   intro m0 v0 G0 _ _ _
   obtain⟨pA,a1,a2⟩:=zafx ha ho hk sA sO sK (kth K i) G0
   obtain⟨pB,b1,b2⟩:=zafx hb ho hk sB sO sK (kth K i) G0
   exact⟨pA,pB,a1,b1,a2,b2,zxc a1 b1 hS (zbw sA) (zbw sB) hSl G0⟩
  have hgs:gapN (inR S) O K A B (i+1)=match jpick (inR S) (rfold O K (kth K i) A).1 (rfold O K (kth K i) B).1 with
   |none=>none
   |some p=>some ((m++(if i=0 then[]else[kth K i]))++p):=by
   simp only[gapN,hm]
   all_goals (cases jpick (inR S) (rfold O K (kth K i) A).1 (rfold O K (kth K i) B).1<;>rfl)
  have sGA:=zbw (O:=O) (K:=K) (x:=kth K i) sA
  have sGB:=zbw (O:=O) (K:=K) (x:=kth K i) sB
  refine zaa ?_
  dsimp only[l_Q28_0]
  cases i with
  |zero =>
   have hz:z = -1:=by omega
   subst hz
   have e0:kth K 0 = -1:=rfl
   rw[e0]at hfin hgs sGA sGB
   obtain⟨pA,pB,a1,b1,a2,b2,c⟩:=hfin m v G hG (by simp) (by omega)
   generalize hX:(rfold O K (-1) A).1=X at *
   generalize hY:(rfold O K (-1) B).1=Y at *
   rw[if_pos rfl,List.append_nil]at hgs
   have sX:=sGA.1
   have sY:=sGB.1
   have xl:=a1.len
   have yl:=b1.len
   have xu:=a1.up
   have yu:=b1.up
   by_cases x0:X.length=0
   ·have ej:jpick (inR S) X Y=some Y:=by unfold jpick;rw[if_pos x0]
    rw[ej]at hgs
    obtain⟨v2,G2,f1,f2,f3,f4⟩:=hG.appIV b1 (Nat.zero_le _) (by omega)
    have v2u:=f2.up
    have v2n:=f2.ne
    simp(disch:=omega) [hl,uo,ua,ub,uk,us,vup,a2,b2,xl,yl,xu,yu,x0,f1,v2u,zab]
    exact ih 1 0 v2 G2 _ (by omega) (by omega) hgs f2
   ·by_cases y0:Y.length=0
    ·have ej:jpick (inR S) X Y=some X:=by unfold jpick;rw[if_neg x0,if_neg (by omega)]
     rw[ej]at hgs
     obtain⟨v2,G2,f1,f2,f3,f4⟩:=hG.appIV a1 (Nat.zero_le _) (by omega)
     have v2u:=f2.up
     have v2n:=f2.ne
     simp(disch:=omega) [hl,uo,ua,ub,uk,us,vup,a2,b2,xl,yl,xu,yu,y0,f1,v2u,zab]
     exact ih 1 0 v2 G2 _ (by omega) (by omega) hgs f2
    ·cases ho1:oneL (inR S) X Y with
     |true =>
      rw[ho1]at c
      have ej:jpick (inR S) X Y=some X:=by unfold jpick;rw[if_neg x0,if_neg (by rw[ho1];simp)]
      rw[ej]at hgs
      obtain⟨v2,G2,f1,f2,f3,f4⟩:=hG.appIV a1 (Nat.zero_le _) (by omega)
      have v2u:=f2.up
      have v2n:=f2.ne
      simp(disch:=omega) [hl,uo,ua,ub,uk,us,vup,a2,b2,xl,yl,xu,yu,c,f1,v2u,zab]
      exact ih 1 0 v2 G2 _ (by omega) (by omega) hgs f2
     |false =>
      rw[ho1]at c
      have ej:jpick (inR S) X Y=none:=by unfold jpick;rw[if_neg x0,if_pos ⟨by omega,ho1⟩]
      rw[ej]at hgs
      simp(disch:=omega) [hl,uo,ua,ub,uk,us,vup,a2,b2,xl,yl,xu,yu,c,zab]
      exact hQ1 _ _ (zmt hgs _ (by omega))
  |succ j =>
   have hz:z=(j:Int):=by omega
   subst hz
   have hjl:j<K.length:=by omega
   obtain⟨rk,hx⟩:=hk.idx hjl
   have e0:kth K (j+1)=K[j]:=by unfold kth;rw[if_neg (by omega)];exact zcg hjl
   rw[e0]at hfin hgs sGA sGB
   rw[if_neg (by omega)]at hgs
   obtain⟨v1,G1,q1,q2,q3,_⟩:=hG.app (Nat.zero_le _) (by omega) K[j]
   have v1u:=q2.up
   have v1n:=q2.ne
   obtain⟨pA,pB,a1,b1,a2,b2,c⟩:=hfin _ v1 G1 q2 (by simp) (by simp;omega)
   generalize hX:(rfold O K K[j] A).1=X at *
   generalize hY:(rfold O K K[j] B).1=Y at *
   have sX:=sGA.1
   have sY:=sGB.1
   have xl:=a1.len
   have yl:=b1.len
   have xu:=a1.up
   have yu:=b1.up
   have hm1:(m++[K[j]]).length<500000:=by simp;omega
   by_cases x0:X.length=0
   ·have ej:jpick (inR S) X Y=some Y:=by unfold jpick;rw[if_pos x0]
    rw[ej]at hgs
    obtain⟨v2,G2,f1,f2,f3,f4⟩:=q2.appIV b1 (Nat.zero_le _) (by omega)
    have v2u:=f2.up
    have v2n:=f2.ne
    simp(disch:=omega) [hl,uo,ua,ub,uk,us,vup,hx,q1,v1u,a2,b2,xl,yl,xu,yu,x0,f1,v2u,zab]
    exact ih (j+2) (j+1) v2 G2 _ (by omega) (by omega) hgs f2
   ·by_cases y0:Y.length=0
    ·have ej:jpick (inR S) X Y=some X:=by unfold jpick;rw[if_neg x0,if_neg (by omega)]
     rw[ej]at hgs
     obtain⟨v2,G2,f1,f2,f3,f4⟩:=q2.appIV a1 (Nat.zero_le _) (by omega)
     have v2u:=f2.up
     have v2n:=f2.ne
     simp(disch:=omega) [hl,uo,ua,ub,uk,us,vup,hx,q1,v1u,a2,b2,xl,yl,xu,yu,y0,f1,v2u,zab]
     exact ih (j+2) (j+1) v2 G2 _ (by omega) (by omega) hgs f2
    ·cases ho1:oneL (inR S) X Y with
     |true =>
      rw[ho1]at c
      have ej:jpick (inR S) X Y=some X:=by unfold jpick;rw[if_neg x0,if_neg (by rw[ho1];simp)]
      rw[ej]at hgs
      obtain⟨v2,G2,f1,f2,f3,f4⟩:=q2.appIV a1 (Nat.zero_le _) (by omega)
      have v2u:=f2.up
      have v2n:=f2.ne
      simp(disch:=omega) [hl,uo,ua,ub,uk,us,vup,hx,q1,v1u,a2,b2,xl,yl,xu,yu,c,f1,v2u,zab]
      exact ih (j+2) (j+1) v2 G2 _ (by omega) (by omega) hgs f2
     |false =>
      rw[ho1]at c
      have ej:jpick (inR S) X Y=none:=by unfold jpick;rw[if_neg x0,if_pos ⟨by omega,ho1⟩]
      rw[ej]at hgs
      simp(disch:=omega) [hl,uo,ua,ub,uk,us,vup,hx,q1,v1u,a2,b2,xl,yl,xu,yu,c,zab]
      exact hQ1 _ _ (zmt hgs _ (by omega))
theorem GS.freshOne {G:List IBlk} {v:IVal} {L:List Int} (h:GS 0 G v L):Ideal.freshOne G v=true:=by
 obtain⟨_,_,_,h3⟩:=h.freeze
 obtain⟨o,h,_⟩:=h
 cases o with
 |none=>obtain⟨rfl,_,_⟩:=h;rfl
 |some k=>obtain⟨_,_,_,rfl,_⟩:=h;exact h3
theorem zaan {po pa pb pk ps:PVal} {w:IVal} {O A B K:List Int} {S:List (Int×Int)} (ho:IV po O) (ha:IV pa A) (hb:IV pb B) (hk:IV pk K) (hS:PV2 ps S) (sO:small O) (sA:small A) (sB:small B) (sK:small K) (hSl:S.length≤100) {H:List IBlk} (hw:freezeOne H w=some (.p ps)) :
 ∃pv',IV pv' ((gapN (inR S) O K A B (K.length+1)).getD [])∧CW tr.look F_Q28 [.p po, .p pa, .p pb, .p pk,w] H=some (.tup [.p pv', .p (.bool (gapN (inR S) O K A B (K.length+1)).isSome)],H):=by
 obtain⟨r,h1,pv',rfl,h2⟩:=zbe (Γ:=tr.look) (args:=[.p po, .p pa, .p pb, .p pk,w]) (H:=H) (Q:=fun r=>∃pv',r = .tup [.p pv', .p (.bool (gapN (inR S) O K A B (K.length+1)).isSome)]∧IV pv' ((gapN (inR S) O K A B (K.length+1)).getD [])) look_Q28 rfl (show freezeAll H [.p po, .p pa, .p pb, .p pk,w]=some [.p po, .p pa, .p pb, .p pk, .p ps]by simp only[freezeAll,hw];rfl) rfl (by
  dsimp only[i_Q28,c_Q28]
  have uo:=ho.up
  have ua:=ha.up
  have ub:=hb.up
  have uk:=hk.up
  have us:=hS.up
  simp(disch:=omega) [uo,ua,ub,uk,us]
  refine zur po pa pb pk ps O A B K S ho ha hb hk hS sO sA sB sK hSl _ (fun v G m hm hG=>?_) (fun T G hm=>?_) (K.length+1) 0 (-1) (.p .nilslice) [] [] (by omega) (by omega) rfl GS.nil
  ·rw[hm]
   obtain⟨pv',g1,g2⟩:=hG.one
   have g3:=hG.freshOne
   have hup:=hG.up
   have hne:=hG.ne
   have hp:=hG.pass
   have g4:freshRes G (.tup [v, .p (.bool true)])=true:=by
    show freshCells (freshOne G) [v, .p (.bool true)]=true
    simp only[freshCells,g3];rfl
   simp(disch:=omega) [g2,hp,g4]
   exact g1
  ·rw[hm]
   have g4:freshRes G (.tup [.p .nilslice, .p (.bool false)])=true:=rfl
   simp(disch:=omega) [g4]
   exact .inl ⟨rfl,rfl⟩)
 exact⟨pv',h2,h1⟩
end Go.Ideal

namespace Go.Ideal
open Go
set_option maxHeartbeats 4000000
set_option maxRecDepth 20000
attribute [-simp] getElem?_pos
theorem zqa (K:List Int) (j:Nat):kth K (j+1)=K.getD j 0:=by unfold kth;rw[if_neg (by omega),Nat.add_sub_cancel]
structure GapI (O K:List Int) (P:Int→Bool) (T:List Int):Prop where
 len:(gfold P (fun x=>!decide (x∈O)) T).1.length=(T.filter P).length
 after:∀j,(T.filter P).length<j→j≤K.length→rfold O K (kth K j) T=([],false)
 at':rfold O K (kth K (T.filter P).length) T=((gfold P (fun x=>!decide (x∈O)) T).2,true)
 before:∀j,j<(T.filter P).length→(rfold O K (kth K j) T).1=(gfold P (fun x=>!decide (x∈O)) T).1.getD j []∧(rfold O K (kth K j) T).2=false
theorem zok (O K:List Int) (x:Int) (T:List Int) (n:Int):rfold O K x (T++[n])=rstep O K x (rfold O K x T) n:=by
 unfold rfold
 rw[List.foldl_append];rfl
theorem zol (A N:Int→Bool) (T:List Int) (n:Int):gfold A N (T++[n])=gstep A N (gfold A N T) n:=by
 unfold gfold
 rw[List.foldl_append];rfl
theorem zsk {α:Type} {L:List α} {x d:α} {n:Nat} (h:L.length=n):(L++[x]).getD n d=x:=by subst h;exact zaaj
theorem gapI {O K:List Int} {P:Int→Bool} (hK0:∀x∈K,0≤x) (hnd:K.Nodup):∀(T R:List Int),(T++R).filter P=K→(∀ x∈T++R,(P x=true↔x∈K))→GapI O K P T:=by
 have hne1:∀x∈K,x ≠ -1:=fun x hx=>by have:=hK0 x hx;omega
 intro T
 suffices h:∀(n:Nat) (T R:List Int),T.length=n→(T++R).filter P=K→(∀ x∈T++R,(P x=true↔x∈K))→GapI O K P T from fun R=>h T.length T R rfl
 intro n
 induction n with
 |zero =>
  intro T R hT _ _
  have:=List.length_eq_zero_iff.1 hT
  subst this
  refine⟨rfl,fun j hj hjl=>?_,rfl,fun j hj=>by simp at hj⟩
  cases j with
  |zero=>simp at hj
  |succ j =>
   have hx:kth K (j+1)∈K:=by rw[zqa,zcg (by omega)];exact List.getElem_mem _
   have:=hne1 _ hx
   simp[rfold,this]
 |succ n ih =>
  intro T R hT hf hP
  obtain⟨T0,a,rfl⟩:∃T0 a,T=T0++[a]:=by
   have:T≠[]:=fun e=>by subst e;simp at hT
   exact⟨T.dropLast,T.getLast this,(List.dropLast_concat_getLast this).symm⟩
  have hT0:T0.length=n:=by simpa using hT
  have hf0:(T0++(a::R)).filter P=K:=by simpa using hf
  have hP0:∀x∈T0++(a::R),(P x=true↔x∈K):=by simpa using hP
  obtain⟨i1,i2,i3,i4⟩:=ih T0 (a::R) hT0 hf0 hP0
  have hPa:=hP0 a (by simp)
  have hfs:(T0++[a]).filter P=T0.filter P++(if P a=true then[a]else[]):=by
   rw[List.filter_append]
   congr 1
   by_cases h:P a=true<;>simp[h]
  generalize hc:(T0.filter P).length=c at *
  by_cases ha:P a=true
  ·have haK:=hPa.1 ha
   have hcl:((T0++[a]).filter P).length=c+1:=by rw[hfs,if_pos ha];simp[hc]
   have hKc:K.getD c 0=a∧c<K.length:=by
    rw[← hf0,List.filter_append,List.filter_cons_of_pos ha]
    constructor
    ·simp only[List.getD]
     rw[List.getElem?_append_right (by omega),hc,Nat.sub_self];rfl
    ·simp;omega
   have hax:∀j,j≤K.length→(a=kth K j↔j=c+1):=by
    intro j hj
    cases j with
    |zero=>constructor
           ·intro e;exact absurd e (hne1 a haK)
           ·intro e;omega
    |succ j =>
     rw[zqa]
     constructor
     ·intro e
      have h1:=hKc.1
      rw[zcg hKc.2]at h1
      rw[zcg (show j<K.length by omega)]at e
      have:=(List.getElem_inj (h₀:=hKc.2) (h₁:=show j<K.length by omega) hnd).1 (by rw[h1];exact e)
      omega
     ·intro e
      have:j=c:=by omega
      subst this
      exact hKc.1.symm
   have hst:∀x,rfold O K x (T0++[a])=((rfold O K x T0).1,decide (a=x)):=fun x=>by rw[zok];unfold rstep;rw[if_pos haK]
   have hgs:gfold P (fun x=>!decide (x∈O)) (T0++[a])=((gfold P (fun x=>!decide (x∈O)) T0).1++[(gfold P (fun x=>!decide (x∈O)) T0).2],[]):=by rw[zol];unfold gstep;rw[if_pos ha]
   refine⟨by rw[hgs,hcl];simp[i1],?_,?_,?_⟩
   ·rw[hcl]
    intro j hj hjl
    rw[hst,i2 j (by omega) hjl]
    have:¬a=kth K j:=fun e=>by have:=(hax j hjl).1 e;omega
    simp[this]
   ·rw[hcl,hst,i2 (c+1) (by omega) (by omega),hgs]
    simp[(hax (c+1) (by omega)).2 rfl]
   ·rw[hcl]
    intro j hj
    rw[hst,hgs]
    have:¬a=kth K j:=fun e=>by have:=(hax j (by omega)).1 e;omega
    refine⟨?_,by simp[this]⟩
    by_cases e:j=c
    ·subst e
     rw[i3]
     exact(zsk i1).symm
    ·rw[(i4 j (by omega)).1]
     exact(zsi (by omega)).symm
  ·have haK:a∉K:=fun h=>ha (hPa.2 h)
   have hcl:((T0++[a]).filter P).length=c:=by rw[hfs,if_neg ha,List.append_nil];exact hc
   have hst:∀x,rfold O K x (T0++[a])=if(rfold O K x T0).2=true∧a∉O then((rfold O K x T0).1++[a],(rfold O K x T0).2)else rfold O K x T0:=fun x=>by rw[zok];unfold rstep;rw[if_neg haK]
   have hgs:gfold P (fun x=>!decide (x∈O)) (T0++[a])=if(!decide (a∈O))=true then((gfold P (fun x=>!decide (x∈O)) T0).1,(gfold P (fun x=>!decide (x∈O)) T0).2++[a])else gfold P (fun x=>!decide (x∈O)) T0:=by rw[zol];unfold gstep;rw[if_neg ha]
   have hg1:(gfold P (fun x=>!decide (x∈O)) (T0++[a])).1=(gfold P (fun x=>!decide (x∈O)) T0).1:=by rw[hgs];split<;>rfl
   refine⟨by rw[hg1,hcl];exact i1,?_,?_,?_⟩
   ·rw[hcl]
    intro j hj hjl
    rw[hst,i2 j hj hjl];simp
   ·rw[hcl,hst,i3,hgs]
    by_cases h:a∈O<;>simp[h]
   ·rw[hcl]
    intro j hj
    obtain⟨b1,b2⟩:=i4 j hj
    rw[hst,b2,hg1]
    simp[b1,b2]
theorem zom {O K L:List Int} {P:Int→Bool} (hK0:∀x∈K,0≤x) (hnd:K.Nodup) (hf:L.filter P=K) (hP:∀x∈L,(P x=true↔x∈K)) {j:Nat} (hj:j≤K.length) :
 (gapsL P (fun x=>!decide (x∈O)) L).getD j []=(rfold O K (kth K j) L).1:=by
 obtain⟨i1,_,i3,i4⟩:=gapI (O:=O) hK0 hnd L [] (by rw[List.append_nil];exact hf) (by rw[List.append_nil];exact hP)
 rw[hf]at i1 i3 i4
 unfold gapsL
 by_cases e:j=K.length
 ·subst e
  rw[i3]
  exact zsk i1
 ·rw[(i4 j (by omega)).1]
  exact zsi (by omega)
theorem zvw {R:Int→Int→Bool} {O K A B:List Int} {GA GB:List (List Int)}:∀(i:Nat),i≤K.length+1→(∀ j,j<i→GA.getD j []=(rfold O K (kth K j) A).1∧GB.getD j []=(rfold O K (kth K j) B).1) →
 joinN R K GA GB i=(gapN R O K A B i).map fun m=>m++(if 0<i∧i≤K.length then[kth K i]else[])
 |0,_,_=>rfl
 |i+1,hi,h=>by
  have ih:=zvw (R:=R) i (by omega) fun j hj=>h j (by omega)
  obtain⟨h1,h2⟩:=h i (by omega)
  simp only[joinN,gapN,ih,h1,h2]
  cases hg:gapN R O K A B i with
  |none=>rfl
  |some m =>
   simp only[Option.map_some]
   cases hp:jpick R (rfold O K (kth K i) A).1 (rfold O K (kth K i) B).1 with
   |none=>rfl
   |some p =>
    simp only[Option.map_some]
    congr 1
    have e1:(if 0<i∧i≤K.length then[kth K i]else[])=(if i=0 then[]else[kth K i]):=by
     by_cases e:i=0
     ·simp[e]
     ·rw[if_pos ⟨by omega,by omega⟩,if_neg e]
    have e2:(if i<K.length then[K.getD i 0]else[])=(if 0<i+1∧i+1≤K.length then[kth K (i+1)]else[]):=by
     rw[zqa]
     by_cases e:i<K.length
     ·rw[if_pos e,if_pos ⟨by omega,by omega⟩]
     ·rw[if_neg e,if_neg (by omega)]
    rw[e1,e2]
theorem zaao (A N:Int→Bool) (L:List Int):(gapsL A N L).length=(L.filter A).length+1:=by
 have key:∀(L:List Int) (s:List (List Int)×List Int),(L.foldl (gstep A N) s).1.length=s.1.length+(L.filter A).length:=by
  intro L
  induction L with
  |nil=>intro s;simp
  |cons x L ih =>
   intro s
   rw[List.foldl_cons,ih]
   unfold gstep
   by_cases hx:A x=true
   ·rw[if_pos hx,List.filter_cons_of_pos hx];simp;omega
   ·rw[if_neg hx,List.filter_cons_of_neg hx]
    split<;>simp
 unfold gapsL gfold
 rw[List.length_append,key]
 simp
def listsR (R:Int→Int→Bool) (O A B C:List Int):Option (List Int) :=
 let ka:=A.filter fun x=>decide (x∈O)&&decide (x∈B)
 let kb:=B.filter fun x=>decide (x∈O)&&decide (x∈A)
 let ko:=O.filter fun x=>decide (x∈A)&&decide (x∈B)
 if ka=kb then gapN R O ka A C (ka.length+1)else if ka≠ko∧kb≠ko then none else if kb=ko then aloneL A C O C else aloneL C A O A
theorem zaeg {B:List Int} {x:Int} (h:0≤x):x∈B.map far1↔x∈B:=by
 rw[List.mem_map]
 constructor
 ·rintro⟨y,hy,e⟩
  unfold far1 at e
  split at e
  ·omega
  ·rw[← e];exact hy
 ·intro hx
  exact⟨x,hx,by unfold far1;rw[if_neg (by omega)]⟩
theorem zaap {R:Int→Int→Bool} {O A B:List Int} (hO:∀x∈O,0≤x) (nA:A.Nodup):listsL R O A (B.map far1)=listsR R O A B (B.map far1):=by
 have hm:∀x∈O,(x∈B.map far1↔x∈B):=fun x hx=>zaeg (hO x hx)
 have eP:∀x,allP O A (B.map far1) x=(decide (x∈O)&&(decide (x∈A)&&decide (x∈B))):=by
  intro x
  unfold allP
  by_cases h:x∈O
  ·have:=hm x h
   by_cases h2:x∈B<;>simp[h,this,h2]
  ·simp[h]
 have ea:A.filter (allP O A (B.map far1))=A.filter fun x=>decide (x∈O)&&decide (x∈B):=by
  refine List.filter_congr fun x hx=>?_
  rw[eP];simp[hx]
 have eo:O.filter (allP O A (B.map far1))=O.filter fun x=>decide (x∈A)&&decide (x∈B):=by
  refine List.filter_congr fun x hx=>?_
  rw[eP];simp[hx]
 have eb:(B.map far1).filter (allP O A (B.map far1))=B.filter fun x=>decide (x∈O)&&decide (x∈A):=by
  have:∀L:List Int,(∀ x∈L,x∈B)→(L.map far1).filter (allP O A (B.map far1))=L.filter fun x=>decide (x∈O)&&decide (x∈A):=by
   intro L
   induction L with
   |nil=>intro _;rfl
   |cons x L ih =>
    intro hL
    rw[List.map_cons,List.filter_cons,List.filter_cons,ih fun y hy=>hL y (List.mem_cons_of_mem _ hy),eP]
    have hx:=hL x (by simp)
    by_cases h0:0≤x
    ·have e:far1 x=x:=by unfold far1;rw[if_neg (by omega)]
     rw[e]
     simp[hx]
    ·have e:far1 x∉O:=fun h=>by have:=hO _ h;unfold far1 at this;rw[if_pos (by omega)]at this;omega
     have e2:x∉O:=fun h=>h0 (hO _ h)
     simp[e,e2]
  exact this B fun _ h=>h
 unfold listsL listsR
 simp only
 rw[ea,eo,eb]
 by_cases h1:(A.filter fun x=>decide (x∈O)&&decide (x∈B))=B.filter fun x=>decide (x∈O)&&decide (x∈A)
 ·rw[if_pos h1,if_pos h1]
  generalize hKd:(A.filter fun x=>decide (x∈O)&&decide (x∈B))=K at *
  have hK0:∀x∈K,0≤x:=fun x hx=>by
   rw[← hKd]at hx
   have:=(List.mem_filter.1 hx).2
   rw[Bool.and_eq_true]at this
   exact hO x (by simpa using this.1)
  have hnd:K.Nodup:=by rw[← hKd];exact nA.filter _
  have hmK:∀x,allP O A (B.map far1) x=true↔x∈K:=by
   intro x
   rw[eP,←hKd,List.mem_filter]
   simp only[Bool.and_eq_true,decide_eq_true_eq]
   constructor
   ·rintro⟨a,b,c⟩;exact⟨b,a,c⟩
   ·rintro⟨b,a,c⟩;exact⟨a,b,c⟩
  have hgl:(gapsL (allP O A (B.map far1)) (fun x=>!decide (x∈O)) A).length=K.length+1:=by rw[zaao,ea]
  rw[hgl,zvw (O:=O) (A:=A) (B:=B.map far1) _ (Nat.le_refl _) fun j hj=>⟨zom hK0 hnd ea (fun x _=>hmK x) (by omega),zom hK0 hnd (by rw[eb];exact h1.symm) (fun x _=>hmK x) (by omega)⟩]
  rw[if_neg (by omega)]
  simp
 ·rw[if_neg h1,if_neg h1]
  by_cases h2:(B.filter fun x=>decide (x∈O)&&decide (x∈A))=O.filter fun x=>decide (x∈A)&&decide (x∈B)
  ·rw[if_pos h2,if_neg (by simp[h2]),if_pos h2]
  ·rw[if_neg h2]
   by_cases h3:(A.filter fun x=>decide (x∈O)&&decide (x∈B))=O.filter fun x=>decide (x∈A)&&decide (x∈B)
   ·rw[if_pos h3,if_neg (by simp[h3]),if_neg h2]
   ·rw[if_neg h3,if_pos ⟨h3,h2⟩]
theorem zaaq {po pa pb ps:PVal} {w:IVal} {O A B:List Int} {S:List (Int×Int)} (ho:IV po O) (ha:IV pa A) (hb:IV pb B) (hS:PV2 ps S) (sO:small O) (sA:small A) (sB:small B) (sC:small (B.map far1)) (hSl:S.length≤100) {H:List IBlk} (hw:freezeOne H w=some (.p ps)) (wu:up w = .v w) (wne:w≠.undef) (wp:w.passOK=true) :
 ∃pv',IV pv' ((listsR (inR S) O A B (B.map far1)).getD [])∧CW tr.look F_Q12 [.p po, .p pa, .p pb,w] H=some (.tup [.p pv', .p (.bool (listsR (inR S) O A B (B.map far1)).isSome)],H):=by
 obtain⟨pc,hc,e1⟩:=zapp hb sB H
 obtain⟨pka,hka,e2⟩:=zuo ha ho hb sA sO sB H
 obtain⟨pkb,hkb,e3⟩:=zuo hb ho ha sB sO sA H
 obtain⟨pko,hko,e4⟩:=zuo ho ha hb sO sA sB H
 have ska:=zaf sA fun x=>decide (x∈O)&&decide (x∈B)
 have skb:=zaf sB fun x=>decide (x∈O)&&decide (x∈A)
 have sko:=zaf sO fun x=>decide (x∈A)&&decide (x∈B)
 obtain⟨r,G',h1,rfl,pv',rfl,h2⟩:=zdh (Γ:=tr.look) (args:=[.p po, .p pa, .p pb,w]) (H:=H) (Q:=fun r G=>G=H∧∃pv',r = .tup [.p pv', .p (.bool (listsR (inR S) O A B (B.map far1)).isSome)]∧IV pv' ((listsR (inR S) O A B (B.map far1)).getD [])) look_Q12 rfl rfl (by
  dsimp only[i_Q12,c_Q12]
  generalize B.map far1=C at hc sC ⊢
  unfold listsR
  simp only
  generalize (A.filter fun x=>decide (x∈O)&&decide (x∈B))=KA at hka ska ⊢
  generalize (B.filter fun x=>decide (x∈O)&&decide (x∈A))=KB at hkb skb ⊢
  generalize (O.filter fun x=>decide (x∈A)&&decide (x∈B))=KO at hko sko ⊢
  have uo:=ho.up
  have ua:=ha.up
  have ub:=hb.up
  have us:=wu
  have uc:=hc.up
  have uka:=hka.up
  have ukb:=hkb.up
  have uko:=hko.up
  have s1:=zms hka hko ska sko H
  have s2:=zms hkb hko skb sko H
  have s3:=zms hka hkb ska skb H
  by_cases t1:KA=KB
  ·obtain⟨pg,hg,eg⟩:=zaan ho ha hc hka hS sO sA sC ska hSl hw
   have ug:=hg.up
   have et:decide (KA=KB)=true:=by simp[t1]
   rw[et]at s3
   rw[if_pos t1]
   simp(disch:=omega) [uo,ua,ub,us,uc,uka,ukb,uko,wp,e1,e2,e3,e4,s1,s2,s3,eg,ug]
   exact hg
  ·have et:decide (KA=KB)=false:=by simp[t1]
   rw[et]at s3
   rw[if_neg t1]
   by_cases t2:KB=KO
   ·obtain⟨pl,hl,el⟩:=zafw ho ha hc sO sA sC H
    have ul:=hl.up
    have et2:decide (KB=KO)=true:=by simp[t2]
    rw[et2]at s2
    rw[if_neg (by simp[t2]),if_pos t2]
    by_cases t3:KA=KO
    ·have et3:decide (KA=KO)=true:=by simp[t3]
     rw[et3]at s1
     simp(disch:=omega) [uo,ua,ub,us,uc,uka,ukb,uko,wp,e1,e2,e3,e4,s1,s2,s3,el,ul]
     exact hl
    ·have et3:decide (KA=KO)=false:=by simp[t3]
     rw[et3]at s1
     simp(disch:=omega) [uo,ua,ub,us,uc,uka,ukb,uko,wp,e1,e2,e3,e4,s1,s2,s3,el,ul]
     exact hl
   ·have et2:decide (KB=KO)=false:=by simp[t2]
    rw[et2]at s2
    by_cases t3:KA=KO
    ·obtain⟨pl,hl,el⟩:=zafw ho hc ha sO sC sA H
     have ul:=hl.up
     have et3:decide (KA=KO)=true:=by simp[t3]
     rw[et3]at s1
     rw[if_neg (by simp[t3]),if_neg t2]
     simp(disch:=omega) [uo,ua,ub,us,uc,uka,ukb,uko,wp,e1,e2,e3,e4,s1,s2,s3,el,ul]
     exact hl
    ·have et3:decide (KA=KO)=false:=by simp[t3]
     rw[et3]at s1
     rw[if_pos ⟨t3,t2⟩]
     simp(disch:=omega) [uo,ua,ub,us,uc,uka,ukb,uko,wp,e1,e2,e3,e4,s1,s2,s3]
     exact .inl ⟨rfl,rfl⟩)
 exact⟨pv',h2,h1⟩
end Go.Ideal

namespace Go.Ideal
open Go
set_option maxHeartbeats 4000000
set_option maxRecDepth 20000
attribute [-simp] getElem?_pos
def pmap (p:Int×Int):Int×Int:=(-2-p.1 % 6, -2-p.2 % 6)
theorem zaar {L:List (Int×Int)} {j:Nat} (h:j<L.length):(pcells (L.flatMap pairEnc))[j*2]? = some (.p (.int .i64 L[j].1))∧(pcells (L.flatMap pairEnc))[j*2+1]? = some (.p (.int .i64 L[j].2)):=by
 have h0:=zjp h
 have e1:(L.flatMap pairEnc)[j*2]? = some (.int .i64 L[j].1):=by
  have:=congrArg (fun l:List PVal=>l[0]?) h0
  rw[List.getElem?_drop,Nat.add_zero]at this
  exact this.trans rfl
 have e2:(L.flatMap pairEnc)[j*2+1]? = some (.int .i64 L[j].2):=by
  have:=congrArg (fun l:List PVal=>l[1]?) h0
  rw[List.getElem?_drop]at this
  exact this.trans rfl
 unfold pcells
 rw[List.getElem?_map,List.getElem?_map,e1,e2]
 exact⟨rfl,rfl⟩
structure PRef (h0:Nat) (G:List IBlk) (a:Nat) (L:List (Int×Int)):Prop where
 ok:∃v o,a<h0∧G[a]? = some (.cells [v] 1 0 false)∧VS G o 2 L.length v (pcells (L.flatMap pairEnc))∧∀k,o=some k→k<h0∧k≠a
theorem PRef.keep {h0:Nat} {G K:List IBlk} {a:Nat} {L:List (Int×Int)} (h:PRef h0 G a L) (hk:∀y,y<h0→K[y]? = G[y]?):PRef h0 K a L:=by
 obtain⟨v,o,h1,h2,h3,h4⟩:=h.ok
 refine⟨v,o,h1,by rw[hk a h1];exact h2,?_,h4⟩
 cases o with
 |none=>exact h3
 |some k=>exact HS.keep h3 (hk k (h4 k rfl).1)
theorem VS.idx2 {H:List IBlk} {o:Option Nat} {L:List (Int×Int)} {v:IVal} (h:VS H o 2 L.length v (pcells (L.flatMap pairEnc))) {j:Nat} (hj:j<L.length) :
 ∃k ver,o=some k∧idxS 2 v (.p (.int .i64 j))=some (.ptr (.heap k) ver (j*2))∧loadVal ⟨[],H⟩ (some 2) (.ptr (.heap k) ver (j*2))=some (.agg [.p (.int .i64 L[j].1), .p (.int .i64 L[j].2)]):=by
 cases o with
 |none=>obtain⟨_,h2,_⟩:=h;omega
 |some k =>
  have hx:=HS.xlen h
  obtain⟨ver,cs,op,rfl,hkk,hnn,hxs⟩:=h
  refine⟨k,ver,rfl,by rw[zfr hj];simp,?_⟩
  have h2:(Nat.beq ver ver&&Nat.ble (j*2+2) cs.length)=true:=by
   rw[Nat.beq_refl,Bool.true_and]
   exact Nat.ble_eq_true_of_le (by omega)
  simp only[loadVal,readCells,Mem.get,hkk,h2]
  obtain⟨e1,e2⟩:=zaar hj
  rw[← hxs]at e1 e2
  rw[List.getElem?_take_of_lt (by omega)]at e1 e2
  have hd:(cs.drop (j*2)).take 2=[.p (.int .i64 L[j].1), .p (.int .i64 L[j].2)]:=by
   refine List.ext_getElem? fun i=>?_
   rw[List.getElem?_take]
   match i with
   |0=>rw[if_pos (by omega),List.getElem?_drop,Nat.add_zero,e1];rfl
   |1=>rw[if_pos (by omega),List.getElem?_drop,e2];rfl
   |i+2=>rw[if_neg (by omega)];rfl
  rw[hd]
theorem zxd (a:Nat) (x z:Int) (L:List (Int×Int)) (hL:L.length≤100) (h0:Nat) (G:List IBlk) (hp:PRef h0 G a L) (Q:IExit→Env→KM→Prop)
 (hQ0:(x,z)∉L→Q .normal [] ⟨[],G⟩) (hQ1:∀T:Env,(x,z)∈L→Q .ret ((5, .bool true)::T) ⟨[],G⟩) :
 ∀(n i:Nat),i+n=L.length→(x,z)∉L.take i →
 wpLoop (CW tr.look) 21 m_Q11_0 l_Q11_0 (blkK 0 b_Q11_0 Q) [(0, .int .i64 x),(1, .int .i64 z),(2, .v (.ptr (.heap a) 0 0)),(6, .int .i64 i)] ⟨[],G⟩:=by
 obtain⟨v,o,q1,q2,q3,q4⟩:=hp.ok
 have hld:loadVal ⟨[],G⟩ none (.ptr (.heap a) 0 0)=some v:=zap q2 rfl
 have hl:=q3.len
 have hup:=q3.up
 intro n
 induction n with
 |zero =>
  intro i hi hG
  have hi:i=L.length:=by omega
  subst hi
  refine zaa ?_
  dsimp only[l_Q11_0]
  rw[List.take_length]at hG
  simp(disch:=omega) [hld,hl,hup]
  exact hQ0 hG
 |succ n ih =>
  intro i hi hG
  have hil:i<L.length:=by omega
  obtain⟨k,ver,_,a1,a2⟩:=q3.idx2 hil
  have hnot:L[i]≠(x,z)→(x,z)∉L.take (i+1):=fun he=>by
   rw[List.take_add_one,List.getElem?_eq_getElem hil,List.mem_append,Option.toList_some,List.mem_singleton]
   rintro(h|h)
   ·exact hG h
   ·exact he h.symm
  refine zaa ?_
  dsimp only[l_Q11_0]
  by_cases h1:L[i].1=x
  ·by_cases h2:L[i].2=z
   ·have he:L[i]=(x,z):=Prod.ext h1 h2
    simp(disch:=omega) [hld,hl,hup,a1,a2,h1,h2]
    exact hQ1 _ (he ▸ List.getElem_mem hil)
   ·have e2:(L[i].2==z)=false:=by simp[h2]
    simp(disch:=omega) [hld,hl,hup,a1,a2,zab,h1,e2]
    exact ih (i+1) (by omega) (hnot (fun e=>h2 (by rw[e])))
  ·have e1:(L[i].1==x)=false:=by simp[h1]
   simp(disch:=omega) [hld,hl,hup,a1,a2,zab,e1]
   exact ih (i+1) (by omega) (hnot (fun e=>h1 (by rw[e])))
theorem zaeh {h0:Nat} {G:List IBlk} {a:Nat} {L:List (Int×Int)} (hp:PRef h0 G a L) (hL:L.length≤100) (x z:Int):CW tr.look F_Q11 [.p (.int .i64 x), .p (.int .i64 z), .ptr (.heap a) 0 0] G=some (.p (.bool (inR L x z)),G):=by
 obtain⟨r,G',h1,rfl,rfl⟩:=zdh (Γ:=tr.look) (args:=[.p (.int .i64 x), .p (.int .i64 z), .ptr (.heap a) 0 0]) (H:=G) (Q:=fun r K=>r = .p (.bool (inR L x z))∧K=G) look_Q11 rfl rfl (by
  dsimp only[i_Q11,c_Q11]
  simp(disch:=omega) []
  refine zxd a x z L hL h0 G hp _ (fun h=>?_) (fun T h=>?_) L.length 0 (by omega) (by simp)
  ·simp(disch:=omega) [inR,h]
  ·simp(disch:=omega) [inR,h])
 exact h1
theorem zaas {G:List IBlk} {a:Nat} {L:List (Int×Int)} (hp:PRef G.length G a L) (hL:L.length≤100):Dec2 G.length G (.func F_Q11 [.ptr (.heap a) 0 0]) (inR L) :=
 ⟨F_Q11,[.ptr (.heap a) 0 0], .inl rfl,fun _ hk _ x z _ _=>zaeh (hp.keep hk) hL x z⟩
theorem zajs (ps:PVal) (S:List (Int×Int)) (hS:PV2 ps S) (hin:∀p∈S,(-9223372036854775808≤p.1∧p.1<9223372036854775808)∧(-9223372036854775808≤p.2∧p.2<9223372036854775808)) (hSl:S.length≤30) (v9 v10 v11:IVal) (Q:IExit→Env→KM→Prop) (u9:up v9 = .v v9) (u10:up v10 = .v v10) (u11:up v11 = .v v11)
 (hQ:∀G,PRef G.length G 0 (S.map pmap)→Q .normal [(9, .v v9),(10, .v v10),(11, .v v11),(12, .v (.ptr (.heap 0) 0 0))] ⟨[],G⟩) :
 ∀(n i:Nat) (G:List IBlk),i+n=S.length→PRef G.length G 0 ((S.take i).map pmap) →
 wpLoop (CW tr.look) 83 m_Q3_0 l_Q3_0 (blkK 0 b_Q3_0 Q) [(3, .v (.p ps)),(9, .v v9),(10, .v v10),(11, .v v11),(12, .v (.ptr (.heap 0) 0 0)),(13, .int .i64 i)] ⟨[],G⟩:=by
 intro n
 have hl:=hS.len
 have hup:=hS.up
 induction n with
 |zero =>
  intro i G hi hG
  have hi:i=S.length:=by omega
  subst hi
  refine zaa ?_
  dsimp only[l_Q3_0]
  rw[List.take_length]at hG
  simp(disch:=omega) [hl]
  exact hQ G hG
 |succ n ih =>
  intro i G hi hG
  have hil:i<S.length:=by omega
  obtain⟨r,hx⟩:=hS.idx hil
  have hin1:=hin _ (List.getElem_mem hil)
  have p1:=zpz S[i].1 6 (by decide) (by decide) hin1.1 G
  have p2:=zpz S[i].2 6 (by decide) (by decide) hin1.2 G
  have hcast:((6:Nat):Int)=6:=rfl
  rw[hcast]at p1 p2
  have m10:=Int.emod_nonneg S[i].1 (show(6:Int)≠0 by decide)
  have m11:=Int.emod_lt_of_pos S[i].1 (show(0:Int)<6 by decide)
  have m20:=Int.emod_nonneg S[i].2 (show(6:Int)≠0 by decide)
  have m21:=Int.emod_lt_of_pos S[i].2 (show(0:Int)<6 by decide)
  obtain⟨v,o,q1,q2,q3,q4⟩:=hG.ok
  have hml:((S.take i).map pmap).length<1000000000:=by simp;omega
  obtain⟨v',G2,o',f1,f2,f3,f4,f5,f6⟩:=q3.append1 (ys:=[.p (.int .i64 (pmap S[i]).1), .p (.int .i64 (pmap S[i]).2)]) rfl hml
  have et:(S.take (i+1)).map pmap=(S.take i).map pmap++[pmap S[i]]:=by
   rw[List.take_add_one,List.getElem?_eq_getElem hil,List.map_append];rfl
  have ec:pcells ((((S.take i).map pmap++[pmap S[i]])).flatMap pairEnc)=pcells (((S.take i).map pmap).flatMap pairEnc)++[.p (.int .i64 (pmap S[i]).1), .p (.int .i64 (pmap S[i]).2)]:=by
   rw[List.flatMap_append,zdy];rfl
  have g2a:G2[0]? = some (.cells [v] 1 0 false):=by
   rw[f3.2 0 q1 (fun e=>(q4 0 e).2 rfl)];exact q2
  have l0:loadVal ⟨[],G⟩ none (.ptr (.heap 0) 0 0)=some v:=zap q2 rfl
  have l1:∀b,loadVal ⟨[],G++[b]⟩ none (.ptr (.heap 0) 0 0)=some v:=fun b=>zap (by rw[List.getElem?_append_left q1];exact q2) rfl
  have l2:loadVal ⟨[],G2⟩ none (.ptr (.heap 0) 0 0)=some v:=zap g2a rfl
  obtain⟨G3,w1,w2,w3,w4⟩:=wr1 (u:=v') g2a
  have vup:=q3.up
  have vup2:=f2.up
  have vc2:=f2.cells
  have vne:v≠.undef:=fun e=>by rw[e]at vup;have:=q3.len;rw[e]at this;cases this
  have vne2:v'≠.undef:=fun e=>by have:=f2.len;rw[e]at this;cases this
  have hnext:PRef G3.length G3 0 ((S.take (i+1)).map pmap):=by
   refine⟨v',o',by omega,w2,?_,?_⟩
   ·rw[et,ec,List.length_append,List.length_singleton]
    obtain⟨k,rfl⟩:=f6
    have hk0:k≠0:=by
     rcases f5 with h|⟨k',h,hk'⟩
     ·exact(q4 k h.symm).2
     ·injection h with h;omega
    exact HS.keep f2 (w4 k hk0)
   ·intro k hk
    subst hk
    have hk2:=VS.lt f2
    rcases f5 with h|⟨k',h,hk'⟩
    ·exact⟨by omega,(q4 k h.symm).2⟩
    ·injection h with h;exact⟨by omega,by omega⟩
  have e1:(pmap S[i]).1 = -2-S[i].1 % 6:=rfl
  have e2:(pmap S[i]).2 = -2-S[i].2 % 6:=rfl
  rw[e1,e2]at f1
  refine zaa ?_
  dsimp only[l_Q3_0]
  simp(disch:=omega) [hl,hx,p1,p2,l0,l1,l2,vup,f1,vup2,w1,zab,zsg vc2 vup2,vne]
  exact ih (i+1) G3 (by omega) hnext
end Go.Ideal

/-
  WHAT THE LIBRARY's SORT AND THE MATCH SAY, RECKONED; ALL CALLS OF THIS SEAT, RECKONED.
-/
namespace Go.Ideal
open Go
set_option maxHeartbeats 4000000
set_option maxRecDepth 20000
attribute [-simp] getElem?_pos
noncomputable def rdPairs (n:Nat) (cs:List IVal):Option (List (Nat×Nat)) :=
 Nat.rec (motive:=fun _=>List IVal→Option (List (Nat×Nat))) (fun _=>some []) (fun _ ih cs=>match cs with
  | .p (.int .i64 (.ofNat a)) :: .p (.int .i64 (.ofNat b))::r=>match ih r with
    |some l=>some ((a,b)::l)
    |none=>none
  |_=>none) n cs
theorem zon:∀(n:Nat) (cs:List IVal) (L:List (Nat×Nat)),rdPairs n cs=some L→L.length=n∧n*2≤cs.length∧cs.take (n*2)=pcells (prc L)
 |0,cs,L,h=>by injection h with h;subst h;simp[prc,pcells]
 |n+1,cs,L,h=>by
  unfold rdPairs at h
  dsimp only at h
  split at h
  ·rename_i a b r
   change (match rdPairs n r with|some l=>some ((a,b)::l)|none=>none)=some L at h
   split at h
   ·rename_i l hl
    injection h with h
    subst h
    obtain⟨h1,h2,h3⟩:=zon n r l hl
    refine⟨by simp[h1],by simp;omega,?_⟩
    rw[show(n+1)*2=n*2+1+1 by omega,List.take_succ_cons,List.take_succ_cons,h3]
    simp[prc,pcells]
   ·cases h
  ·cases h
noncomputable def memN (a:Nat) (l:List (Nat×Nat)):Bool:=List.rec (motive:=fun _=>Bool) false (fun p _ ih=>Bool.rec ih true (Nat.beq p.1 a)) l
noncomputable def nodupN (l:List (Nat×Nat)):Bool:=List.rec (motive:=fun _=>Bool) true (fun p t ih=>Bool.rec ih false (memN p.1 t)) l
theorem zvx (a:Nat):∀l,memN a l=false→a∉l.map (·.1)
 | [],_,h=>by simp at h
 |p::l,e,h=>by
  have e:(Bool.rec (memN a l) true (Nat.beq p.1 a):Bool)=false:=e
  cases hb:Nat.beq p.1 a with
  |true=>rw[hb]at e;cases e
  |false =>
   rw[hb]at e
   rcases List.mem_cons.1 h with rfl|h
   ·rw[Nat.beq_refl]at hb;cases hb
   ·exact zvx a l e h
theorem zmu:∀l,nodupN l=true→(l.map (·.1)).Nodup
 | [],_=>by simp
 |p::l,e=>by
  have e:(Bool.rec (nodupN l) false (memN p.1 l):Bool)=true:=e
  cases hb:memN p.1 l with
  |true=>rw[hb]at e;cases e
  |false =>
   rw[hb]at e
   rw[List.map_cons,List.nodup_cons]
   exact⟨zvx _ _ hb,zmu l e⟩
noncomputable def fcells (l:List (Nat×Nat)):List IVal:=List.rec (motive:=fun _=>List IVal) [] (fun p _ ih=>Prod.rec (fun a b=>.p (.int .i64 (.ofNat a)) :: .p (.int .i64 (.ofNat b))::ih) p) l
theorem zsl:∀l,fcells l=pcells (prc l)
 | []=>rfl
 |(a,b)::l=>by
  show IVal.p (.int .i64 (.ofNat a)) :: .p (.int .i64 (.ofNat b))::fcells l=_
  rw[zsl l]
  rfl
noncomputable def insN (p:Nat×Nat) (l:List (Nat×Nat)):List (Nat×Nat):=List.rec (motive:=fun _=>List (Nat×Nat)) [p] (fun q t ih=>Bool.rec (q::ih) (p::q::t) (Nat.ble p.1 q.1)) l
noncomputable def sortN (l:List (Nat×Nat)):List (Nat×Nat):=List.rec (motive:=fun _=>List (Nat×Nat)) [] (fun p _ ih=>insN p ih) l
theorem zmv (p:Nat×Nat):∀l,(insN p l).Perm (p::l)
 | []=>List.Perm.refl _
 |q::t=>by
  show(Bool.rec (q::insN p t) (p::q::t) (Nat.ble p.1 q.1):List (Nat×Nat)).Perm _
  cases Nat.ble p.1 q.1 with
  |true=>exact List.Perm.refl _
  |false=>exact((zmv p t).cons q).trans (List.Perm.swap _ _ _)
theorem zmw (p:Nat×Nat):∀l:List (Nat×Nat),(l.Pairwise fun p q=>p.1≤q.1)→(insN p l).Pairwise fun p q=>p.1≤q.1
 | [],_=>by show[p].Pairwise _;simp
 |q::t,h=>by
  show(Bool.rec (q::insN p t) (p::q::t) (Nat.ble p.1 q.1):List (Nat×Nat)).Pairwise _
  rw[List.pairwise_cons]at h
  cases hb:Nat.ble p.1 q.1 with
  |true =>
   have hle:=Nat.le_of_ble_eq_true hb
   refine List.pairwise_cons.2 ⟨fun x hx=>?_,List.pairwise_cons.2 h⟩
   rcases List.mem_cons.1 hx with rfl|hx
   ·exact hle
   ·exact Nat.le_trans hle (h.1 x hx)
  |false =>
   have hle:q.1≤p.1:=by
    rcases Nat.lt_or_ge q.1 p.1 with h'|h'
    ·omega
    ·rw[Nat.ble_eq_true_of_le h']at hb;cases hb
   refine List.pairwise_cons.2 ⟨fun x hx=>?_,zmw p t h.2⟩
   rcases List.mem_cons.1 ((zmv p t).mem_iff.1 hx)with rfl|hx
   ·exact hle
   ·exact h.1 x hx
theorem zoo:∀l,(sortN l).Perm l
 | []=>List.Perm.refl _
 |p::l=>(zmv p (sortN l)).trans ((zoo l).cons p)
theorem zki:∀l,(sortN l).Pairwise fun p q=>p.1≤q.1
 | []=>List.Pairwise.nil
 |p::l=>zmw p _ (zki l)
theorem zvy {l:List (Nat×Nat)} (h:(l.map (·.1)).Nodup):sortN l=sortP l:=zfv h (zoo l) (zki l)
noncomputable def isCmp (g:Nat):Bool:=Bool.rec (Bool.rec (Nat.beq g F_Q77) true (Nat.beq g F_Q59)) true (Nat.beq g F_Q101)
theorem zaei {g:Nat} (h:isCmp g=true):g∈[F_Q101,F_Q59,F_Q77]:=by
 unfold isCmp at h
 cases h1:Nat.beq g F_Q101 with
 |true=>simp[Nat.eq_of_beq_eq_true h1]
 |false =>
  rw[h1]at h
  cases h2:Nat.beq g F_Q59 with
  |true=>simp[Nat.eq_of_beq_eq_true h2]
  |false =>
   rw[h2]at h
   simp[Nat.eq_of_beq_eq_true h]
noncomputable def sortE (args:List IVal) (H:List IBlk):Option (IVal×List IBlk) :=
 match args with
 | [v, .p (.func g)]=>match isCmp g with
   |true=>match v with
    | .p .nilslice=>some (.tup [],H)
    | .slice k ver off n=>match Nat.beq off 0,lget H k with
      |true,some (.cells cs e w op)=>match Nat.beq ver w&&Nat.beq e 2,rdPairs n cs with
       |true,some L=>match nodupN L&&(Nat.ble (n+1) 1000000&&!(Nat.beq n 0))with
        |true=>lall (gsplice cs 0 (fcells (sortN L))) fun cs'=>lall (lset H k (.cells cs' 2 w op)) fun H'=>some (.tup [],H')
        |false=>none
       |_,_=>none
      |_,_=>none
    |_=>none
   |false=>none
 |_=>none
theorem zaej {args:List IVal} {H:List IBlk} {r:IVal×List IBlk} (h:sortE args H=some r):CW tr.look F_Q58 args H=some r:=by
 unfold sortE at h
 split at h
 ·rename_i v g
  split at h
  ·rename_i hg
   have hg:=zaei hg
   split at h
   ·injection h with h
    subst h
    exact zjb none_Q58 (zfw hg (zkd _ _ _))
   ·rename_i k ver off n
    split at h
    ·rename_i cs e w op h1 h2
     split at h
     ·rename_i L h3 h4
      split at h
      ·rename_i h5
       rw[zaq,zaq,zgk,zsl,ztt]at h
       injection h with h
       subst h
       rw[zft]at h2
       have ho:=Nat.eq_of_beq_eq_true h1
       rw[Bool.and_eq_true]at h3
       have hv:=Nat.eq_of_beq_eq_true h3.1
       have he:=Nat.eq_of_beq_eq_true h3.2
       subst ho hv he
       rw[Bool.and_eq_true,Bool.and_eq_true]at h5
       have hn:=zmu L h5.1
       rw[zvy hn]
       have hlt:=Nat.le_of_ble_eq_true h5.2.1
       have h0:n≠0:=fun e=>by rw[e]at h5;simp at h5
       obtain⟨g1,g2,g3⟩:=zon n cs L h4
       have hsz:(L.map toI).toArray.size=L.length:=by simp
       have hs:=zke pairKit g (H:=H) (i:=k) (ver:=ver) (off:=0) (L.map toI).toArray h2 (by omega) (by omega) (by rw[hsz];show 0+L.length*2≤_;omega) (by
        rw[hsz,zpt,List.drop_zero,g1];exact g3)
       rw[hsz,zkg hn,zpt,g1]at hs
       exact zjb none_Q58 (zfw hg hs)
      ·cases h
     ·cases h
    ·cases h
   ·cases h
  ·cases h
 ·cases h
end Go.Ideal

/-
  THE MATCH, RECKONED; ALL CALLS OF THIS SEAT, RECKONED.
-/
namespace Go.Ideal
open Go
set_option maxHeartbeats 4000000
set_option maxRecDepth 20000
attribute [-simp] getElem?_pos
noncomputable def rdEnts (es:List Ent) (n:Nat):Option (List (Nat×Nat)) :=
 List.rec (motive:=fun _=>Nat→Option (List (Nat×Nat))) (fun _=>some []) (fun e _ ih n=>match e with
  |(.p (.int .i64 (.ofNat a)), .p (.int .i64 (.ofNat b)),s)=>match Nat.beq s n with
   |true=>match ih (n+1)with
    |some l=>some ((a,b)::l)
    |none=>none
   |false=>none
  |_=>none) es n
theorem zsm:∀(es:List Ent) (n:Nat) (L:List (Nat×Nat)),rdEnts es n=some L→es=ME0 n (toE L)
 | [],n,L,h=>by injection h with h;subst h;rfl
 |e::es,n,L,h=>by
  unfold rdEnts at h
  dsimp only at h
  split at h
  ·rename_i a b s
   split at h
   ·rename_i hs
    have hs:=Nat.eq_of_beq_eq_true hs
    subst hs
    change (match rdEnts es (s+1)with|some l=>some ((a,b)::l)|none=>none)=some L at h
    split at h
    ·rename_i l hl
     injection h with h
     subst h
     rw[zsm es (s+1) l hl]
     rfl
    ·cases h
   ·cases h
  ·cases h
noncomputable def matchE (C:Oracle) (L:Nat) (args:List IVal) (H:List IBlk):Option (IVal×List IBlk) :=
 match freezeAll H args with
 |none=>none
 |some az=>match Nat.beq (llen az) 2 with
  |false=>none
  |true=>match fcode i_Q49.cut.pre C L i_Q49.nt skipped (fargs az 0) ⟨[],[]⟩with
   | .go .normal D E M=>match fget i_Q49.nt D 127 E,fget i_Q49.nt D 16 E with
     | .map 0, .p .nilslice=>match lget M.heap 0 with
       |some (.map es ck)=>match rdEnts es 0 with
        |some l=>match(nodupN l&&Nat.beq ck (llen es))&&(Nat.ble (llen l+1) 1000000&&!(Nat.beq (llen l) 0))with
         |true=>some (.p (.slice 2 (llen l) (prc (sortN l))),H)
         |false=>none
        |none=>none
       |_=>none
     |_,_=>none
   |_=>none
theorem zaat (l:List (Nat×Nat)):(toE l).length=l.length:=by simp[toE]
theorem zaau {C:Oracle} (hC:C.Le (CW tr.look)) {L:Nat} {args:List IVal} {H:List IBlk} {r:IVal×List IBlk} (h:matchE C L args H=some r):CW tr.look F_Q49 args H=some r:=by
 unfold matchE at h
 split at h
 ·cases h
 ·rename_i az haz
  split at h
  ·cases h
  ·rename_i hlen
   rw[zam]at hlen
   have hlen:=Nat.eq_of_beq_eq_true hlen
   split at h
   ·rename_i D E M hrun0
    split at h
    ·rename_i g127 g16
     split at h
     ·rename_i es ck hmap
      split at h
      ·rename_i l hl
       split at h
       ·rename_i hchk
        injection h with h
        subst h
        rw[zft]at hmap
        simp only[zam,Bool.and_eq_true]at hchk
        have hn:=zmu l hchk.1.1
        have hck:=Nat.eq_of_beq_eq_true hchk.1.2
        have hlt:=Nat.le_of_ble_eq_true hchk.2.1
        have h0:l≠[]:=fun e=>by rw[e]at hchk;simp at hchk
        have hes:=zsm es 0 l hl
        have hek:es.length=l.length:=by rw[hes,zafs,zaat]
        rw[zam,zvy hn]
        obtain⟨T,q1,q0,_⟩:=zax i_Q49.cut.pre _ _ _ _ _ _ _ hrun0 (fun _=>rfl) _ (zry (by rw[hlen];decide))
        have q2:=q0.len
        have q3:=(q0.at' 127).symm.trans g127
        have q4:=(q0.at' 16).symm.trans g16
        have hW:=zad hC (znw (n:=L)) q1
        refine zage none_Q49 ⟨rfl,rfl,az,haz,hlen, .normal,_,hW,0,es,ck,?_,hmap,?_,fun n σ hσ=>?_⟩
        ·exact q3
        ·rw[hes,hck,hek,←zaat l]
         exact zpx (toE l)
        ·have hmem:∀e∈σ,∃p:Nat×Nat,∃s,e=(vI p.1,vI p.2,s):=fun e he=>by
          have he:=hσ.mem_iff.1 he
          rw[hes]at he
          obtain⟨p,_,s,hs⟩:=zvr l 0 e he
          exact⟨p,s,hs⟩
         have hmapp:(σ.map entP).Perm l:=by
          have:=hσ.map entP
          rw[hes,zvs]at this
          exact this
         have hsl:σ.length=l.length:=by rw[hσ.length_eq,hek]
         have hrel:RelE 143 [(128, .v (.opq n)),(16, .v (.p .nilslice))] (T.set 128 (.opq n)):=by
          refine⟨by rw[List.length_set];exact q2,fun i=>?_⟩
          rw[zlu,znz,znz,zyo]
          by_cases h1:128=i
          ·subst h1
           rw[if_pos rfl,if_pos ⟨rfl,by rw[q2];decide⟩]
           exact .inr rfl
          ·have h3:¬(128=i∧128<T.length):=fun x=>h1 x.1
           rw[if_neg h1,if_neg h3]
           by_cases h2:16=i
           ·subst h2
            rw[if_pos rfl,q4]
            exact .inr rfl
           ·rw[if_neg h2]
            exact .inl rfl
         have hrm:RelM ⟨[],M.heap⟩ M:=⟨fun s b hb=>(by cases hb),rfl⟩
         refine zob (F:=i_Q49) (by decide) (by decide) (zse n (.map es ck) _ σ [] (.p .nilslice) none M.heap _ [] hmem (by simp only[List.length_nil,hsl];omega) rfl rfl hmap ⟨rfl,rfl,rfl⟩ (by simp) fun K' lv' o' g1 g2=>?_) hrel hrm
         rw[List.nil_append]at g2
         have hnd:((σ.map entP).map (·.1)).Nodup:=(hmapp.map _).nodup_iff.2 hn
         obtain⟨K2,p1,p2⟩:=zajp (g:=F_Q77) (by simp) lv' o' _ hnd (by rw[hmapp.length_eq];omega) K' g2
         have hun:sortP (σ.map entP)=sortP l:=by
          symm
          refine zfv hnd ((zdx l).trans hmapp.symm) (zkf l)
         have hlen2:(sortP l).length=l.length:=(zdx l).length_eq
         have hne:sortP l≠[]:=fun e=>h0 (List.length_eq_zero_iff.1 (by rw[← hlen2,e];rfl))
         rw[hun,hmapp.length_eq,←hlen2]at p2
         exact⟨K2,p1,by rw[← hlen2];exact zsf p2 hne,zug p2⟩
       ·cases h
      ·cases h
     ·cases h
    ·cases h
   ·cases h
noncomputable def dorc (L:Nat) (C:Oracle):Oracle:=fun f args H =>
 Bool.rec (Bool.rec (Bool.rec none (insSpec args H) (Nat.beq f F_Q166)) (sortE args H) (Nat.beq f F_Q58)) (matchE C L args H) (Nat.beq f F_Q49)
theorem zajt (L:Nat) (C:Oracle) (hC:C.Le (CW tr.look)):(dorc L C).Le (CW tr.look):=fun f args H r e=>by
 unfold dorc at e
 cases h1:Nat.beq f F_Q49 with
 |true =>
  rw[h1]at e
  rw[Nat.eq_of_beq_eq_true h1]
  exact zaau hC e
 |false =>
  rw[h1]at e
  cases h2:Nat.beq f F_Q58 with
  |true =>
   rw[h2]at e
   rw[Nat.eq_of_beq_eq_true h2]
   exact zaej e
  |false =>
   rw[h2]at e
   cases h3:Nat.beq f F_Q166 with
   |true =>
    rw[h3]at e
    rw[Nat.eq_of_beq_eq_true h3]
    exact zjb none_Q166 (zadh e)
   |false=>rw[h3]at e;cases e
noncomputable def call0 (n:Nat):Oracle:=fcallD tr.look (dorc 1000000) 1000000 n
theorem zaek (n:Nat):(call0 n).Le (CW tr.look):=zmi (zajt 1000000) n
end Go.Ideal

/-
  MERGE: THE FIRST SENTENCE OF EACH LAW, RECKONED.
-/
namespace Go.Ideal
open Go
set_option maxRecDepth 1000000
theorem awake0:call0 60 F_Q5 [] []=some (.p (.bool true),[]):=by kernel_rfl
end Go.Ideal

namespace Go.Ideal
open Go
set_option maxHeartbeats 4000000
set_option maxRecDepth 20000
attribute [-simp] getElem?_pos
theorem zvz (H:List IBlk):CW tr.look F_Q5 [] H=some (.p (.bool true),H):=by
 have h:=zaek 60 _ _ _ _ awake0
 exact zuj (al:=[]) look_Q5 rfl rfl rfl rfl h
theorem zhu (L:List Int):∀i,(onceN L i).Nodup
 |0=>by simp[onceN]
 |i+1=>by
  unfold onceN
  split
  ·exact zhu L i
  ·rename_i h
   rw[List.nodup_append]
   refine⟨zhu L i,by simp,fun x hx y hy e=>?_⟩
   rw[List.mem_singleton.1 hy]at e
   subst e;exact h hx
theorem PRef.two {h0 h1:Nat} {G:List IBlk} {a:Nat} {L:List (Int×Int)} (h:PRef h0 G a L) (hle:h0≤h1):PRef h1 G a L:=by
 obtain⟨v,o,q1,q2,q3,q4⟩:=h.ok
 exact⟨v,o,by omega,q2,q3,fun k hk=>⟨by have:=(q4 k hk).1;omega,(q4 k hk).2⟩⟩
theorem zqb {G:List IBlk} {o:Option Nat} {L:List (Int×Int)} {v:IVal} (h:VS G o 2 L.length v (pcells (L.flatMap pairEnc))):∃pv,PV2 pv L∧freezeOne G v=some (.p pv):=by
 have h1:=ziv h
 cases o with
 |none =>
  obtain⟨rfl,h2,_⟩:=h
  exact⟨.nilslice, .inl ⟨rfl,List.length_eq_zero_iff.1 h2⟩,rfl⟩
 |some k =>
  simp only at h1
  obtain⟨ver,cs,op,rfl,g1,g2,g3⟩:=h
  exact⟨_, .inr rfl,by simp only[freezeOne,h1]⟩
theorem zxe {R:Int→Int→Bool} {O A B:List Int} (sA:small A) (sB:small B):((listsL R O A B).getD []).length≤1000000:=by
 have f1:=fun P=>(zaf sA P).1
 have f2:=fun P=>(zaf sB P).1
 have hal:∀(L M O B:List Int),L.length≤100→((aloneL L M O B).getD []).length≤1000000:=by
  intro L M O B h
  unfold aloneL
  split
  ·simp
  ·have:=List.length_filter_le (fun x=>!decide (x∈O)||decide (x∈B)) L
   simp only[Option.getD_some];omega
 unfold listsL
 split
 ·have g1:=zeq (allP O A B) (fun x=>!decide (x∈O)) sA
  have g2:=zeq (allP O A B) (fun x=>!decide (x∈O)) sB
  cases hj:joinN R (A.filter (allP O A B)) (gapsL (allP O A B) (fun x=>!decide (x∈O)) A) (gapsL (allP O A B) (fun x=>!decide (x∈O)) B) (gapsL (allP O A B) (fun x=>!decide (x∈O)) A).length with
  |none=>simp
  |some l =>
   have:=zmp (fun i=>(g1.2 i).1) (fun i=>(g2.2 i).1) _ l hj
   have h3:=g1.1
   simp only[Option.getD_some]
   omega
 ·split
  ·exact hal _ _ _ _ sA.1
  ·split
   ·exact hal _ _ _ _ sB.1
   ·simp
theorem zxf {p0 p1 p2 ps:PVal} {L0 L1 L2:List Int} {S:List (Int×Int)} (h0:IV p0 L0) (h1:IV p1 L1) (h2:IV p2 L2) (hS:PV2 ps S) (i0:∀x∈L0, -9223372036854775808≤x∧x<9223372036854775808) (i1:∀x∈L1, -9223372036854775808≤x∧x<9223372036854775808) (i2:∀x∈L2, -9223372036854775808≤x∧x<9223372036854775808)
 (iS:∀p∈S,(-9223372036854775808≤p.1∧p.1<9223372036854775808)∧(-9223372036854775808≤p.2∧p.2<9223372036854775808)) (H:List IBlk) :
 CW tr.look F_Q3 [.p p0, .p p1, .p p2, .p ps] H=some (.p (.bool true),H):=by
 have s0:=zht L0
 have s1:=zht L1
 have s2:=zht L2
 have nd:(onceL L1).Nodup:=zhu _ _
 have b2:=fun x=>zkq L2 (min L2.length 14) x
 have sX:small ((onceL L0).filter fun x=>decide (0≤x)):=zaf s0 _
 have pX:∀x∈(onceL L0).filter fun x=>decide (0≤x),0≤x:=fun x hx=>by simpa using(List.mem_filter.1 hx).2
 have sZ':small ((onceL L2).map far1):=⟨by rw[List.length_map];exact s2.1,fun x hx=>by
  obtain⟨y,hy,rfl⟩:=List.mem_map.1 hx
  have:=b2 y hy
  unfold far1
  split<;>omega⟩
 refine zbt look_Q3 rfl (by simp) rfl ?_
 dsimp only[i_Q3,c_Q3]
 have u0:=h0.up
 have u1:=h1.up
 have u2:=h2.up
 have us:=hS.up
 have hl:=hS.len
 by_cases hbig:30<S.length
 ·have f3:=zvz []
  simp(disch:=omega) [u0,u1,u2,us,hl,f3]
 ·obtain⟨q0,g0,e0⟩:=zum h0 i0 []
  obtain⟨px,gx,ex⟩:=zapo g0 s0 []
  obtain⟨py,gy,ey⟩:=zum h1 i1 []
  obtain⟨pz,gz,ez⟩:=zum h2 i2 []
  generalize (onceL L0).filter (fun x=>decide (0≤x))=X at gx sX pX
  generalize onceL L1=Y at gy s1 nd
  generalize onceL L2=Z at gz s2 sZ'
  have uq:=g0.up
  have ux:=gx.up
  have uy:=gy.up
  have uz:=gz.up
  simp(disch:=omega) [u0,u1,u2,us,hl,uq,ux,uy,uz,e0,ex,ey,ez]
  refine zajs ps S hS iS (by omega) (.p px) (.p py) (.p pz) _ ux uy uz (fun G hG=>?_) S.length 0 [.cells [.p .nilslice] 1 0 false] (by omega) ⟨.p .nilslice,none,by simp,rfl,VS.nil,fun k e=>by cases e⟩
  have hml:(S.map pmap).length≤100:=by simp;omega
  obtain⟨rx,kx,dx⟩:=zun gx sX G
  obtain⟨ry,ky,dy⟩:=zun gy s1 G
  obtain⟨rz,kz,dz⟩:=zun gz s2 G
  have uix:=kx.up
  have uiy:=ky.up
  have uiz:=kz.up
  obtain⟨v1,G1,a1,a2,a3,a4⟩:=zady kx ky kz sX s1 s2 sZ' (zaas hG hml)
  have hG1:=(hG.keep a4).two a3
  obtain⟨vs,o,c1,c2,c3,c4⟩:=hG1.ok
  have ld1:loadVal ⟨[],G1⟩ none (.ptr (.heap 0) 0 0)=some vs:=zap c2 rfl
  obtain⟨pps,w1,w2⟩:=zqb c3
  have vsu:=c3.up
  have vsp:=c3.pass
  have wu:=w1.up
  have vne:vs≠.undef:=fun e=>by have:=c3.len;rw[e]at this;cases this
  obtain⟨pr,r1,r2⟩:=zaaq gx gy gz w1 sX s1 s2 sZ' hml w2 vsu vne vsp
  rw[← zaap pX nd]at r1 r2
  have hrs:=zxe (R:=inR (S.map pmap)) (O:=X) s1 sZ'
  have pru:=r1.up
  have sm:=zaah a2 r1 hrs hrs
  have aw:=zvz G1
  have v1u:=a2.up
  have v1n:=a2.ne
  have v1p:=a2.pass
  simp only[decide_true]at sm
  simp(disch:=omega) [dx,dy,dz,uix,uiy,uiz,ux,uy,uz,a1,v1u,v1p,v1n,ld1,vsu,vne,vsp,r2,pru,sm,aw]
end Go.Ideal

/-
  IDEAL SEMANTICS: THE ARGUMENTS OF A CALL FROM OUTSIDE: slices of numbers.
-/
namespace Go.Ideal
open Go Go.ChangeShapes Go.WideShapes Go.RowKit
set_option linter.unusedSectionVars false
variable [Tabs]
def isl (o:Option (List Int)):PVal:=slval 1 (fun i:Int=>[.int .i64 i]) o
section
variable {H:Type} {enc:TypeId×Value→H} {P:Program} {W W':World}
end
end Go.Ideal

/-
  SEAT MERGE's LISTS: WHAT THE ENTRY OF A LAW NEEDS.
-/
namespace Go.Ideal
open Go Go.Proofs Go.ChangeShapes Go.WideShapes Go.RowKit
theorem laidOut:laidOutB Tryz.prog=true:=by kernel_rfl
theorem own:ownKnob Tryz.prog.godebug=none:=by kernel_rfl
theorem readableIs:Tryz.prog.readableRec 22=true∧22<Tryz.prog.types.size:=⟨by kernel_rfl,of_decide_eq_true (by kernel_rfl)⟩
theorem boolT:Tryz.prog.underlying 4=some .bool:=Tryz.underlying4
theorem intT:Tryz.prog.underlying 3=some (.int .i64):=Tryz.underlying3
theorem intsT:Tryz.prog.underlying 22=some (.slice 3):=by kernel_rfl
theorem intC:Tryz.prog.cellsOf 3=1:=by kernel_rfl
theorem tz0 (z:Cells):TabZ z:=fun _ _ h=>by cases h
theorem wf_i64 {a:Int} (h:(Lit.int .i64 a).wf=true) : -9223372036854775808≤a∧a<9223372036854775808:=by
 simp[Lit.wf,IntKind.min,IntKind.max,IntKind.signed,IntKind.bits]at h
 omega
theorem zus (o:Option (List Int)):IV (isl o) (o.getD []):=by
 cases o with
 |none=>exact .inl ⟨rfl,rfl⟩
 |some l =>
  refine .inr ?_
  have:∀l:List Int,(l.flatMap fun i:Int=>[PVal.int .i64 i])=l.map (.int .i64):=by
   intro l
   induction l with
   |nil=>rfl
   |cons x l ih=>rw[List.flatMap_cons,ih];rfl
  simp only[isl,slval,this,Option.getD_some]
section
variable {H:Type} {enc:TypeId×Value→H} {P:Program} {W W':World}
theorem zfy {t u:TypeId} (ht:P.underlying t=some (.slice u)) (hu:P.underlying u=some (.int .i64)) (hc:P.cellsOf u=1) {v:Value} {base:Nat} {d:DataW H} {ps:List MemPlace}
 (hv:Value.okWide P W .any base t v) (h:DataW.Trod enc P W 0 (fun _=>true) true t v d ps):∃o:Option (List Int),(∀ x∈o.getD [], -9223372036854775808≤x∧x<9223372036854775808)∧Stands W (.p (isl o)) v:=by
 obtain⟨o,ho⟩:=zkb (e:=fun i:{ i:Int // (Lit.int .i64 i).wf=true }=>[.int .i64 i.1]) ht (fun _=>hc.symm) (by omega) (fun n=>zts hu) hv h
 refine⟨o.map (·.map Subtype.val),fun x hx=>?_,?_⟩
 ·cases o with
  |none=>simp at hx
  |some l =>
   obtain⟨y,_,rfl⟩:=List.mem_map.1 (show x∈l.map Subtype.val from hx)
   exact wf_i64 y.2
 have:isl (o.map (·.map Subtype.val))=slval (P.cellsOf u) (fun i:{ i:Int // (Lit.int .i64 i).wf=true }=>[.int .i64 i.1]) o:=by
  rw[hc]
  cases o with
  |none=>rfl
  |some l =>
   have:∀l:List { i:Int // (Lit.int .i64 i).wf=true },((l.map Subtype.val).flatMap fun i:Int=>[PVal.int .i64 i])=l.flatMap fun i=>[PVal.int .i64 i.1]:=by
    intro l
    induction l with
    |nil=>rfl
    |cons x l ih=>rw[List.map_cons,List.flatMap_cons,ih];rfl
   simp only[isl,Option.map_some,slval,List.length_map,this]
 rw[this];exact ho
end
theorem readablePs:Tryz.prog.readableRec 23=true∧23<Tryz.prog.types.size:=⟨by kernel_rfl,of_decide_eq_true (by kernel_rfl)⟩
theorem pairsT:Tryz.prog.underlying 23=some (.slice 28):=by kernel_rfl
theorem pairC:Tryz.prog.cellsOf 28=2:=by kernel_rfl
set_option maxRecDepth 100000
def psl (o:Option (List (Int×Int))):PVal:=slval 2 pairEnc o
section
variable {H:Type} {enc:TypeId×Value→H} {W:World}
abbrev I64:={ i:Int // (Lit.int .i64 i).wf=true }
theorem zael (n:Nat):Opn enc Tryz.prog W n 28 (fun p:I64×I64=>pairEnc (p.1.1,p.2.1)):=by
 intro cs x hx
 cases n with
 |zero=>simp[DataW.trod]at hx
 |succ n =>
  have hu:=Tryz.underlying28
  have hl:=zadc hu hx
  rw[pairC]at hl
  obtain⟨a,ha⟩:=zrn (i:=0) (off:=0) (u:=3) hu rfl (zts intT) hx
  obtain⟨b,hb⟩:=zrn (i:=1) (off:=1) (u:=3) hu rfl (zts intT) hx
  rw[intC]at ha hb
  exact⟨(a,b),crel2 hl ha hb⟩
theorem zsn {v:Value} {base:Nat} {d:DataW H} {ps:List MemPlace} (hv:Value.okWide Tryz.prog W .any base 23 v) (h:DataW.Trod enc Tryz.prog W 0 (fun _=>true) true 23 v d ps):∃o:Option (List (Int×Int)),(∀ p∈o.getD [],(-9223372036854775808≤p.1∧p.1<9223372036854775808)∧(-9223372036854775808≤p.2∧p.2<9223372036854775808))∧Stands W (.p (psl o)) v:=by
 have hc:=pairC
 obtain⟨o,ho⟩:=zkb (u:=28) (e:=fun p:I64×I64=>pairEnc (p.1.1,p.2.1)) pairsT (fun _=>hc.symm) (by rw[hc];omega) zael hv h
 refine⟨o.map (·.map fun p=>(p.1.1,p.2.1)),fun x hx=>?_,?_⟩
 ·cases o with
  |none=>simp at hx
  |some l =>
   obtain⟨y,_,rfl⟩:=List.mem_map.1 (show x∈l.map (fun p:I64×I64=>(p.1.1,p.2.1))from hx)
   exact⟨wf_i64 y.1.2,wf_i64 y.2.2⟩
 have:psl (o.map (·.map fun p=>(p.1.1,p.2.1)))=slval (Tryz.prog.cellsOf 28) (fun p:I64×I64=>pairEnc (p.1.1,p.2.1)) o:=by
  rw[hc]
  cases o with
  |none=>rfl
  |some l =>
   have:∀l:List (I64×I64),((l.map fun p=>(p.1.1,p.2.1)).flatMap pairEnc)=l.flatMap fun p=>pairEnc (p.1.1,p.2.1):=by
    intro l
    induction l with
    |nil=>rfl
    |cons x l ih=>rw[List.map_cons,List.flatMap_cons,ih];rfl
   simp only[psl,Option.map_some,slval,List.length_map,this]
 rw[this];exact ho
end
theorem zaju (o:Option (List (Int×Int))):PV2 (psl o) (o.getD []):=by
 cases o with
 |none=>exact .inl ⟨rfl,rfl⟩
 |some l=>exact .inr rfl
theorem zaav (a:Option (List Int)) (wa:∀x∈a.getD [], -9223372036854775808≤x∧x<9223372036854775808) (b:Option (List Int)) (wb:∀x∈b.getD [], -9223372036854775808≤x∧x<9223372036854775808) (c:Option (List Int)) (wc:∀x∈c.getD [], -9223372036854775808≤x∧x<9223372036854775808)
 (d:Option (List (Int×Int))) (wd:∀p∈d.getD [],(-9223372036854775808≤p.1∧p.1<9223372036854775808)∧(-9223372036854775808≤p.2∧p.2<9223372036854775808)) (H:List IBlk):CW tr.look F_Q3 [.p (isl a), .p (isl b), .p (isl c), .p (psl d)] H=some (.p (.bool true),H) :=
 zxf (zus a) (zus b) (zus c) (zaju d) wa wb wc wd H
end Go.Ideal

/- MergeLists returns true for every input and leaves its arguments as they are; no condition. -/
namespace Go.Proofs.YtahnffilbghbaaaGreat.mergeLists
open Go.Ideal Go.ChangeShapes Go.WideShapes Go.ChangeAt Go.RowKit
set_option maxRecDepth 100000 in
theorem lifted (os:Os) (started:os.Started) (H:Type) (enc:TypeId×Value→H) :
 ReturnsInHanded {} Tryz.checked os 3 .any (Rows.mergeListsSpec.pre6 enc Tryz.prog Tryz.f3 Rows.mergeListsRow.domain false) (Rows.mergeListsSpec.post enc Tryz.prog Tryz.f3 false true false false):=by
 refine returnsInHanded_of_change (C:=Tryz.checked) own started (by kernel_rfl) Tryz.func3
  (ChangeSpec.witness6 (enc:=enc) (C:=Tryz.checked) false ⟨#[],#[.slice none 0 0, .slice none 0 0, .slice none 0 0, .slice none 0 0],[]⟩ 3 (by kernel_rfl) (by kernel_rfl) (by kernel_rfl) (by kernel_rfl)) ?_
 intro W base args ds gs before hval0 hW hcnd _
 have hval:∀(j:Nat) t v,Tryz.f3.params[j]? = some t→args[j]? = some v→Value.okWide Tryz.prog W .any base t v:=hval0
 have hW':=hW
 obtain⟨p,q,hA0,hV,rfl,hfz,hnd⟩:=hW
 have hA:DataW.TrodAll enc Tryz.prog W 0 (fun _=>true) true Tryz.f3.params.toList args.toList ds p:=hA0
 have hA1:=hA
 rw[Tryz.params3]at hA hval
 obtain⟨v0,vs0,d0,ds0,p0,q0,hargs,rfl,rfl,h0,r0⟩:=trodAll_cons hA
 obtain⟨v1,vs1,d1,ds1,p1,q1,rfl,rfl,rfl,h1,r1⟩:=trodAll_cons r0
 obtain⟨v2,vs2,d2,ds2,p2,q2,rfl,rfl,rfl,h2,r2⟩:=trodAll_cons r1
 obtain⟨v3,vs3,d3,ds3,p3,q3,rfl,rfl,rfl,h3,r3⟩:=trodAll_cons r2
 obtain⟨rfl,rfl,rfl⟩:=trodAll_nil r3
 obtain rfl:args = #[v0,v1,v2,v3]:=by cases args;simp_all
 obtain⟨rfl,rfl⟩:=trodVars_none hV
 obtain⟨a,w0,s0⟩:=zfy intsT intT intC (hval 0 _ v0 rfl rfl) h0
 obtain⟨b,w1,s1⟩:=zfy intsT intT intC (hval 1 _ v1 rfl rfl) h1
 obtain⟨c,w2,s2⟩:=zfy intsT intT intC (hval 2 _ v2 rfl rfl) h2
 obtain⟨d,w3,s3⟩:=zsn (hval 3 _ v3 rfl rfl) h3
 have hlt:=fun x hx=>hW'.lt x hx
 clear hA0 hval0
 simp only[List.append_nil]at hW' hlt
 refine(zys tr_mixed tr_prog zajm (zaav a w0 b w1 c w2 d w3 []) (tz0 _) (rs:=[v0,v1,v2,v3]) ⟨_,_,rfl,s0.1,s0.2 (tz0 _),_,_,rfl,s1.1,s1.2 (tz0 _),_,_,rfl,s2.1,s2.2 (tz0 _),_,_,rfl,s3.1,s3.2 (tz0 _),rfl⟩).mono fun e W' ⟨he,hg⟩=>?_
 subst he
 refine⟨_,rfl,zpk (pa:=p0++(p1++(p2++(p3++[])))) (pv:=[]) hW' (fun _ _ _=>(trodAll_cons_mk (shut_bool boolT _) trodAll_mk0)) (fun sp hsp=>?_) (fun _ _=>rfl) (by simp)
  (hg.frame _) hg.2.1 (ok_one (by kernel_rfl) rfl (okWide_bool_mk boolT _))⟩
 exact zio laidOut (fun t ht=>by rw[Tryz.params3]at ht;simp at ht;rcases ht with rfl|rfl|rfl|rfl<;>first|exact readableIs|exact readablePs) hA1 (fun x hx=>zwq hg (by simpa using hlt x (by simpa using hx))) (fun x hx=>hsp x (by simpa using hx))
theorem over:Rows.mergeListsRow.holds Tryz.pinned (OpenSpec.ofChange Rows.mergeListsSpec) :=
 OpenClaim.holds_of_wide 3 Tryz.f3 rfl rfl rfl rfl rfl rfl rfl ⟨rfl,rfl,rfl,rfl,rfl⟩ rfl rfl rfl rfl rfl (by kernel_rfl) Tryz.func3 (by kernel_rfl)
  (of_decide_eq_true (by kernel_rfl)) (by unfold Func.isWrapper;first|(rw[if_pos (by decide +kernel)];kernel_rfl)|(rw[if_neg (by decide +kernel)];exact⟨rfl,rfl⟩))
  (fun os started H enc _=>lifted os started H enc)
theorem proved:Rows.MergeListsSaid :=
 over
#print axioms proved
end Go.Proofs.YtahnffilbghbaaaGreat.mergeLists
