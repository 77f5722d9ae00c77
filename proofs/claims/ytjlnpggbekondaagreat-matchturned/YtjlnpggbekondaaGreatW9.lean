/- MatchTurned returns true for every input and leaves its arguments as they are; no condition. -/
import Derived.Test.YtjlnpggbekondaaGreatW8
import Derived.Test.YtjlnpggbekondaaGreatW6
import Derived.Test.YtjlnpggbekondaaGreatW7
import Derived.Test.YtjlnpggbekondaaGreatW2
import Derived.Test.YtjlnpggbekondaaGreatW3
import Derived.Test.YtjlnpggbekondaaGreatChecked
import Derived.Shelf.SlSortCmp.NoneTotal
import Derived.Test.YtjlnpggbekondaaGreatRows
import Derived.WalkKit
import Derived.ProofKit
import Derived.OpenShut
namespace Go.Ideal
open Go
set_option maxHeartbeats 4000000
set_option maxRecDepth 20000
attribute [-simp] getElem?_pos
section
variable {A B:List Nat} {H:J2} {a b k:Nat} {o1 o2 o3:Option Nat} {t:Tree}
def rp (A B:List Nat):Nat->Nat->List Tree->List Tree->J1
 |_,_,[],_=>[]
 |_,_,_::_,[]=>[]
 |a,b,t::F,u::G =>
  if fd (t::F) (u::G)=fd (kidsR t) (kidsR u)+fd F G+cost t u then(A.getD (a+lsize F+t.size-1) 0,B.getD (b+lsize G+u.size-1) 0)::(rp A B (a+lsize F) (b+lsize G) (kidsR t) (kidsR u)++rp A B a b F G)
  else if fd (t::F) (u::G)=fd (kidsR t++F) (u::G)+1 then rp A B a b (kidsR t++F) (u::G)else rp A B a b (t::F) (kidsR u++G)
termination_by _ _ F G=>lsize F+lsize G
decreasing_by
 all_goals
  have h1:=zai t
  have h2:=zai u
  simp only[lsize,zah]
  omega
theorem zaqn {G:List Tree}:rp A B a b [] G=[]:=by rw[rp]
theorem zajy {F:List Tree}:rp A B a b F []=[]:=by
 cases F with
 |nil=>rw[rp]
 |cons t F=>rw[rp]
theorem zajz {u:Tree} {F G:List Tree}:rp A B a b (t::F) (u::G)=if fd (t::F) (u::G)=fd (kidsR t) (kidsR u)+fd F G+cost t u then(A.getD (a+lsize F+t.size-1) 0,B.getD (b+lsize G+u.size-1) 0)::(rp A B (a+lsize F) (b+lsize G) (kidsR t) (kidsR u)++rp A B a b F G)
 else if fd (t::F) (u::G)=fd (kidsR t++F) (u::G)+1 then rp A B a b (kidsR t++F) (u::G)else rp A B a b (t::F) (kidsR u++G):=by rw[rp]
theorem zabf (A B:List Nat) (a b:Nat) (F G:List Tree):(rp A B a b F G).Perm (pr A B a b F G):=by
 have key:∀(n:Nat) (a b:Nat) (F G:List Tree),lsize F+lsize G<n->(rp A B a b F G).Perm (pr A B a b F G):=by
  intro n
  induction n with
  |zero=>intro a b F G h;omega
  |succ n ih =>
   intro a b F G h
   cases F with
   |nil=>rw[zaqn,zacf]
   |cons t F =>
    cases G with
    |nil=>rw[zajy,zug]
    |cons u G =>
     have h1:=zai t
     have h2:=zai u
     simp only[lsize]at h
     rw[zajz,zuh]
     split
     ·have a1:=ih (a+lsize F) (b+lsize G) (kidsR t) (kidsR u) (by omega)
      have a2:=ih a b F G (by omega)
      exact((a1.append a2).cons _).trans (List.perm_append_singleton _ _).symm
     ·split
      ·exact ih a b (kidsR t++F) (u::G) (by simp only[lsize,zah];omega)
      ·exact ih a b (t::F) (kidsR u++G) (by simp only[lsize,zah];omega)
 exact key _ a b F G (Al _)
def Dis (o3:Option Nat) (k:Nat) (o1 o2:Option Nat):Prop:=o3≠some k/\∀j,o3=some j->o1≠some j/\o2≠some j
theorem ZG.slice {o1' o2':Option Nat} {H':J2} {e n:Nat} {v:IVal} {xs:J3} (h:ZG k o1 o2 H o1' o2' H') (hV:VS H o3 e n v xs) (hd:Dis o3 k o1 o2):VS H' o3 e n v xs/\Dis o3 k o1' o2':=by
 refine⟨hV.keep h.keep fun j hj e=>?_,hd.1,fun j hj=>?_⟩
 ·obtain⟨d1,d2⟩:=hd.2 j hj
  rcases e with e|e|e
  ·exact hd.1 (by rw[hj,e])
  ·exact d1 e
  ·exact d2 e
 ·obtain⟨d1,d2⟩:=hd.2 j hj
  subst hj
  have hl:=hV.lt
  constructor
  ·rcases h.b1 with e|⟨i,e,hi⟩
   ·rw[e];exact d1
   ·rw[e];intro e2;injection e2 with e2;omega
  ·rcases h.b2 with e|⟨i,e,hi⟩
   ·rw[e];exact d2
   ·rw[e];intro e2;injection e2 with e2;omega
theorem ZAt.later {H':J2} {s:Tree} {M:Memo2} (h:ZAt H k o1 o2 s t M) (hk:Keep (fun x=>o3=some x) H H') (hd:Dis o3 k o1 o2):ZAt H' k o1 o2 s t M:=by
 obtain⟨kv,dv,h1,h2,h3,h4,h5,h6⟩:=h.blk
 refine⟨⟨kv,dv,?_,h2.keep hk (fun j hj e=>(hd.2 j e).1 hj),h3.keep hk (fun j hj e=>(hd.2 j e).2 hj),h4,h5,h6⟩,h.memo⟩
 rw[hk.2 k (Aa.1 h1).1 (fun e=>hd.1 e)];exact h1
theorem Dis.later {o3':Option Nat} {s:Tree} {M:Memo2} (h:ZAt H k o1 o2 s t M) (hd:Dis o3 k o1 o2) (hb:o3'=o3\/∃j,o3'=some j/\H.length<=j):Dis o3' k o1 o2:=by
 rcases hb with rfl|⟨j,rfl,hj⟩
 ·exact hd
 ·obtain⟨kv,dv,h1,h2,h3,h4,h5,h6⟩:=h.blk
  have hl:=(Aa.1 h1).1
  refine⟨fun e=>by injection e with e;omega,fun i hi=>⟨fun e=>?_,fun e=>?_⟩⟩
  ·injection hi with hi;subst e;have:=h2.lt;omega
  ·injection hi with hi;subst e;have:=h3.lt;omega
theorem pow3b {x y m:Nat} (h:x+y+2<=m):5*(3 ^ x+3 ^ y)<=3*3 ^ m/\3 ^ x+3 ^ y+5*3 ^ (m-1)<=3*3 ^ m:=by
 have h1:=pow3 h
 obtain⟨n,rfl⟩:∃n,m=n+1:=⟨m-1,by omega⟩
 have e1:(3:Nat) ^ (n+1)=3*3 ^ n:=by rw[Nat.pow_succ,Nat.mul_comm]
 simp only[Nat.add_sub_cancel]at h1 ⊢
 rw[e1]at h1 ⊢
 omega
def ZMap (s t:Tree) (n:Nat):Prop:=∀(H:J2) (k:Nat) (o1 o2 o3:Option Nat) (M:Memo2) (a b:Nat) (F G:List Tree) (lv:IVal) (L:List PP),ZAt H k o1 o2 s t M->Rep s a F->Rep t b G->VS H o3 2 L.length lv (pcells (prcells L))->Dis o3 k o1 o2->lsize F+lsize G<n ->
 M.length+4*3 ^ (lsize F+lsize G)<=900000000->L.length+lsize F<=1000000 ->
 ∃H' o1' o2' o3' M' lv',CW tr.look F_Q103 [J5 k 0 0,lv,rg a (lsize F),rg b (lsize G)] H=some (lv',H')/\ZAt H' k o1' o2' s t M' /\
  VS H' o3' 2 (L++rp (postT s 0) (postT t 0) a b F G).length lv' (pcells (prcells (L++rp (postT s 0) (postT t 0) a b F G)))/\Dis o3' k o1' o2'/\M'.length<=M.length+4*3 ^ (lsize F+lsize G)
theorem zaun (s t:Tree) (hs:Fine s) (ht:Fine t) (n:Nat) (ih:ZMap s t n):ZMap s t (n+1):=by
 intro H k o1 o2 o3 M a b F G lv L hZ hF hG hV hD hn hM hL
 have hs1:=hs.1
 have ht1:=ht.1
 have lF:=hF.le
 have lG:=hG.le
 have hup:=hV.up
 have hps:=hV.pass
 have hne:lv≠.undef:=by rintro rfl;exact absurd hps (by decide)
 have hki:=fun s=>hV.kill (s:=s)
 cases F with
 |nil =>
  obtain⟨r,H',h1,rfl,h2⟩:=zar (args:=[J5 k 0 0,lv,rg a (lsize []),rg b (lsize G)]) (H:=H) (Q:=fun r H'=>r=lv/\H'=H) look_Q103 rfl rfl (by
   dsimp only[i_Q103,c_Q103]
   simp only[lsize]at lG ⊢
   simp(disch:=omega) [rg,hup,hps,hki])
  subst h2
  rw[zaqn,AH]
  exact⟨_,o1,o2,o3,M,_,h1,hZ,hV,hD,B5 _ _⟩
 |cons w F =>
  have hkw:=zai w
  have e1:lsize (w::F)=w.size+lsize F:=rfl
  have na:(a:Int)≠((a+lsize (w::F):Nat):Int):=by omega
  cases G with
  |nil =>
   obtain⟨r,H',h1,rfl,h2⟩:=zar (args:=[J5 k 0 0,lv,rg a (lsize (w::F)),rg b (lsize [])]) (H:=H) (Q:=fun r H'=>r=lv/\H'=H) look_Q103 rfl rfl (by
    dsimp only[i_Q103,c_Q103]
    have e0:lsize []=0:=rfl
    simp(disch:=omega) [-Int.natCast_add,rg,e0,hup,hps,hki])
   subst h2
   rw[zajy,AH]
   exact⟨_,o1,o2,o3,M,_,h1,hZ,hV,hD,B5 _ _⟩
  |cons u G =>
   have hku:=zai u
   have e2:lsize (u::G)=u.size+lsize G:=rfl
   have nb:(b:Int)≠((b+lsize (u::G):Nat):Int):=by omega
   obtain⟨hpb1,hpb2⟩:=pow3b (x:=lsize (kidsR w)+lsize (kidsR u)) (y:=lsize F+lsize G) (m:=lsize (w::F)+lsize (u::G)) (by omega)
   have v0:1<=3 ^ (lsize (w::F)+lsize (u::G)):=B9 _ _ (by omega)
   have v1:1<=3 ^ (lsize (kidsR w)+lsize (kidsR u)):=B9 _ _ (by omega)
   have v2:1<=3 ^ (lsize F+lsize G):=B9 _ _ (by omega)
   have v3:1<=3 ^ (lsize (w::F)+lsize (u::G)-1):=B9 _ _ (by omega)
   have q1:lsize (kidsR w++F)+lsize (u::G)=lsize (w::F)+lsize (u::G)-1:=by rw[zah];omega
   have q2:lsize (w::F)+lsize (kidsR u++G)=lsize (w::F)+lsize (u::G)-1:=by rw[zah];omega
   obtain⟨H1,a1,a2,M1,c1,Z1,G1,L1⟩:=zfv s t hs ht _ H k o1 o2 M a b (w::F) (u::G) hZ hF hG (Al _) (by omega)
   obtain⟨V1,D1⟩:=G1.slice hV hD
   have hp:=zadh Z1 hs1 ht1 hF hG
   obtain⟨H2,b1,b2,M2,c2,Z2,G2,L2⟩:=zfv s t hs ht _ H1 k a1 a2 M1 _ _ (kidsR w) (kidsR u) Z1 hF.kids hG.kids (Al _) (by omega)
   obtain⟨V2,D2⟩:=G2.slice V1 D1
   obtain⟨H3,d1,d2,M3,c3,Z3,G3,L3⟩:=zfv s t hs ht _ H2 k b1 b2 M2 a b F G Z2 hF.rest hG.rest (Al _) (by omega)
   obtain⟨V3,D3⟩:=G3.slice V2 D2
   have hcost:=zadi Z3 hs ht hF hG
   have x1:((a+lsize (w::F):Nat):Int)-1=((a+lsize (kidsR w++F):Nat):Int):=by rw[zah];omega
   have x2:((b+lsize (u::G):Nat):Int)-1=((b+lsize (kidsR u++G):Nat):Int):=by rw[zah];omega
   have y1:=fd_le (kidsR w) (kidsR u)
   have y2:=fd_le F G
   have y3:=fd_le (kidsR w++F) (u::G)
   have y4:=fd_le (w::F) (kidsR u++G)
   have y5:=fd_le (w::F) (u::G)
   have hc3:=zahy w u
   rw[zah]at y3 y4
   simp only[rg]at hp c1 c2 c3 hcost
   rw[zajz]
   by_cases hm:fd (w::F) (u::G)=fd (kidsR w) (kidsR u)+fd F G+cost w u
   ·rw[if_pos hm]
    have hcl:=znh hm
    have hmi:((fd (kidsR w) (kidsR u):Nat):Int)+(fd F G:Nat)+(cost w u:Nat)=(fd (w::F) (u::G):Nat):=by omega
    obtain⟨f0,f1,f2,f3,f4,f5⟩:=Z3.fields
    have g1:((a+lsize (w::F):Nat):Int)-1=((a+lsize F+w.size-1:Nat):Int):=by omega
    have g2:((b+lsize (u::G):Nat):Int)-1=((b+lsize G+u.size-1:Nat):Int):=by omega
    obtain⟨i,hi⟩:∃i,(postT s 0)[a+lsize F+w.size-1]? = some i:=⟨_,Ac (by rw[zal];omega)⟩
    obtain⟨j,hj⟩:∃i,(postT t 0)[b+lsize G+u.size-1]? = some i:=⟨_,Ac (by rw[zal];omega)⟩
    have gA:(postT s 0).getD (a+lsize F+w.size-1) 0=i:=by rw[Ai,hi];rfl
    have gB:(postT t 0).getD (b+lsize G+u.size-1) 0=j:=by rw[Ai,hj];rfl
    rw[gA,gB]
    have i1:=zeb hi
    have i2:=zeb hj
    obtain⟨lv4,H4,o4,c4,V4,K4,l4,N4,_⟩:=V3.append1 (ys:=[J4 i, J4 j]) rfl (by omega)
    have Z4:=Z3.later K4 D3
    have D4:=Dis.later Z3 D3 N4
    have V4':VS H4 o4 2 (L++[(i,j)]).length lv4 (pcells (prcells (L++[(i,j)]))):=by
     rw[zky,zdi,Af]
     exact V4
    have hLl:(L++[(i,j)]).length=L.length+1:=by simp
    obtain⟨H5,p1,p2,o5,M5,lv5,c5,Z5,V5,D5,L5⟩:=ih H4 k d1 d2 o4 M3 _ _ (kidsR w) (kidsR u) lv4 (L++[(i,j)]) Z4 hF.kids hG.kids V4' D4 (by omega) (by omega) (by omega)
    have hrl:(rp (postT s 0) (postT t 0) (a+lsize F) (b+lsize G) (kidsR w) (kidsR u)).length<=lsize (kidsR w):=by rw[(zabf _ _ _ _ _ _).length_eq];exact zxj _ _ _ _ _ _
    obtain⟨H6,r1,r2,o6,M6,lv6,c6,Z6,V6,D6,L6⟩:=ih H5 k p1 p2 o5 M5 _ _ F G lv5 _ Z5 hF.rest hG.rest V5 D5 (by omega) (by omega) (by rw[Af];omega)
    have u3:=V3.up
    have u4:=V4.up
    have n4:lv4≠.undef:=by rintro rfl;exact absurd V4.pass (by decide)
    have u5:=V5.up
    have n5:lv5≠.undef:=by rintro rfl;exact absurd V5.pass (by decide)
    have u6:=V6.up
    have n6:lv6≠.undef:=by rintro rfl;exact absurd V6.pass (by decide)
    have s4:=V4.pass
    have s5:=V5.pass
    have s6:=V6.pass
    simp only[rg]at c5 c6
    obtain⟨r,H',h1,rfl,h2⟩:=zar (args:=[J5 k 0 0,lv,rg a (lsize (w::F)),rg b (lsize (u::G))]) (H:=H) (Q:=fun r H'=>r=lv6/\H'=H6) look_Q103 rfl rfl (by
     dsimp only[i_Q103,c_Q103]
     simp(disch:=omega) [-Int.natCast_add,rg,hup,hki,c1,hp,c2,c3,hcost,hmi,f2,f3,g1,g2,i1,i2,c4,u4,s4,c5,u5,s5,c6,u6,s6,zaa])
    subst h2
    refine⟨_,r1,r2,o6,M6,_,h1,Z6,?_,D6,by omega⟩
    simpa[As]using V6
   ·rw[if_neg hm]
    have hmi:((fd (kidsR w) (kidsR u):Nat):Int)+(fd F G:Nat)+(cost w u:Nat)≠(fd (w::F) (u::G):Nat):=by omega
    obtain⟨H4,f1,f2,M4,c4,Z4,G4,L4⟩:=zfv s t hs ht _ H3 k d1 d2 M3 a b (kidsR w++F) (u::G) Z3 hF.opened hG (Al _) (by rw[q1];omega)
    rw[q1]at L4
    obtain⟨V4,D4⟩:=G4.slice V3 D3
    simp only[rg]at c4
    by_cases hd:fd (w::F) (u::G)=fd (kidsR w++F) (u::G)+1
    ·rw[if_pos hd]
     have hdi:((fd (kidsR w++F) (u::G):Nat):Int)+1=(fd (w::F) (u::G):Nat):=by omega
     obtain⟨H5,p1,p2,o5,M5,lv5,c5,Z5,V5,D5,L5⟩:=ih H4 k f1 f2 o3 M4 _ _ (kidsR w++F) (u::G) lv L Z4 hF.opened hG V4 D4 (by omega) (by rw[q1];omega) (by rw[zah];omega)
     rw[q1]at L5
     have u5:=V5.up
     have n5:lv5≠.undef:=by rintro rfl;exact absurd V5.pass (by decide)
     have s5:=V5.pass
     simp only[rg]at c5
     obtain⟨r,H',h1,rfl,h2⟩:=zar (args:=[J5 k 0 0,lv,rg a (lsize (w::F)),rg b (lsize (u::G))]) (H:=H) (Q:=fun r H'=>r=lv5/\H'=H5) look_Q103 rfl rfl (by
      dsimp only[i_Q103,c_Q103]
      simp(disch:=omega) [-Int.natCast_add,rg,hup,hps,hki,c1,hp,c2,c3,hcost,x1,c4,hdi,c5,u5,s5,zaa])
     subst h2
     exact⟨_,p1,p2,o5,M5,_,h1,Z5,V5,D5,by omega⟩
    ·rw[if_neg hd]
     have hdi:((fd (kidsR w++F) (u::G):Nat):Int)+1≠(fd (w::F) (u::G):Nat):=by omega
     obtain⟨H5,p1,p2,o5,M5,lv5,c5,Z5,V5,D5,L5⟩:=ih H4 k f1 f2 o3 M4 _ _ (w::F) (kidsR u++G) lv L Z4 hF hG.opened V4 D4 (by omega) (by rw[q2];omega) hL
     rw[q2]at L5
     have u5:=V5.up
     have n5:lv5≠.undef:=by rintro rfl;exact absurd V5.pass (by decide)
     have s5:=V5.pass
     simp only[rg]at c5
     obtain⟨r,H',h1,rfl,h2⟩:=zar (args:=[J5 k 0 0,lv,rg a (lsize (w::F)),rg b (lsize (u::G))]) (H:=H) (Q:=fun r H'=>r=lv5/\H'=H5) look_Q103 rfl rfl (by
      dsimp only[i_Q103,c_Q103]
      simp(disch:=omega) [-Int.natCast_add,rg,hup,hps,hki,c1,hp,c2,c3,hcost,x1,x2,c4,c5,u5,s5,zaa])
     subst h2
     exact⟨_,p1,p2,o5,M5,_,h1,Z5,V5,D5,by omega⟩
theorem zadj (s t:Tree) (hs:Fine s) (ht:Fine t):∀n,ZMap s t n
 |0=>fun _ _ _ _ _ _ _ _ _ _ _ _ _ _ _ _ _ h=>absurd h (C7 _)
 |n+1=>zaun s t hs ht n (zadj s t hs ht n)
end
theorem zaot (s t:Tree) (hs:Fine s) (ht:Fine t) (H:J2):∃H',CW tr.look F_Q102 [tagg s,tagg t] H=some (J5 H.length 0 0,H')/\ZAt H' H.length none none s t []:=by
 have a1:=fun H=>zdv s hs H
 have a2:=fun H=>zdv t ht H
 have a3:=fun H=>znr s hs H
 have a4:=fun H=>znr t ht H
 have a5:=fun H=>zop s hs.1 H
 have a6:=fun H=>zop t ht.1 H
 have g1:(H++[IBlk.cells [.p (rval s), .p (rval t), .p (nval (postT s 0)), .p (nval (postT t 0)), .p .nilslice, .p .nilslice, .p .nilslice, .p .nilslice] 8 0 false])[H.length]? = some (.cells [.p (rval s), .p (rval t), .p (nval (postT s 0)), .p (nval (postT t 0)), .p .nilslice, .p .nilslice, .p .nilslice, .p .nilslice] 8 0 false):=zaz
 generalize hH1:H++[IBlk.cells [.p (rval s), .p (rval t), .p (nval (postT s 0)), .p (nval (postT t 0)), .p .nilslice, .p .nilslice, .p .nilslice, .p .nilslice] 8 0 false]=H1 at g1
 have hl1:=(Aa.1 g1).1
 have b0:loadVal ⟨[],H1⟩ none (J5 H.length 0 0)=some (.p (rval s)):=zad g1 rfl
 have b2:loadVal ⟨[],H1⟩ none (J5 H.length 0 2)=some (.p (nval (postT s 0))):=zad g1 rfl
 have w1:writeCells ⟨[],H1⟩ (J5 H.length 0 4) [.p (nval (firsts s))]=some ⟨[],H1.set H.length (.cells [.p (rval s), .p (rval t), .p (nval (postT s 0)), .p (nval (postT t 0)), .p (nval (firsts s)), .p .nilslice, .p .nilslice, .p .nilslice] 8 0 false)⟩:=by rw[zam g1 (by simp)];rfl
 have g2:(H1.set H.length (.cells [.p (rval s), .p (rval t), .p (nval (postT s 0)), .p (nval (postT t 0)), .p (nval (firsts s)), .p .nilslice, .p .nilslice, .p .nilslice] 8 0 false))[H.length]? = some (.cells [.p (rval s), .p (rval t), .p (nval (postT s 0)), .p (nval (postT t 0)), .p (nval (firsts s)), .p .nilslice, .p .nilslice, .p .nilslice] 8 0 false):=zao hl1
 generalize hH2:H1.set H.length (.cells [.p (rval s), .p (rval t), .p (nval (postT s 0)), .p (nval (postT t 0)), .p (nval (firsts s)), .p .nilslice, .p .nilslice, .p .nilslice] 8 0 false)=H2 at g2 w1
 have hl2:=(Aa.1 g2).1
 have c1:loadVal ⟨[],H2⟩ none (J5 H.length 0 1)=some (.p (rval t)):=zad g2 rfl
 have c3:loadVal ⟨[],H2⟩ none (J5 H.length 0 3)=some (.p (nval (postT t 0))):=zad g2 rfl
 have w2:writeCells ⟨[],H2⟩ (J5 H.length 0 5) [.p (nval (firsts t))]=some ⟨[],H2.set H.length (.cells [.p (rval s), .p (rval t), .p (nval (postT s 0)), .p (nval (postT t 0)), .p (nval (firsts s)), .p (nval (firsts t)), .p .nilslice, .p .nilslice] 8 0 false)⟩:=by rw[zam g2 (by simp)];rfl
 have g3:(H2.set H.length (.cells [.p (rval s), .p (rval t), .p (nval (postT s 0)), .p (nval (postT t 0)), .p (nval (firsts s)), .p (nval (firsts t)), .p .nilslice, .p .nilslice] 8 0 false))[H.length]? = some (.cells [.p (rval s), .p (rval t), .p (nval (postT s 0)), .p (nval (postT t 0)), .p (nval (firsts s)), .p (nval (firsts t)), .p .nilslice, .p .nilslice] 8 0 false):=zao hl2
 obtain⟨r,H',h1,rfl,h2⟩:=zar (args:=[tagg s,tagg t]) (H:=H) (Q:=fun r H'=>r = J5 H.length 0 0/\H'[H.length]? = some (.cells [.p (rval s), .p (rval t), .p (nval (postT s 0)), .p (nval (postT t 0)), .p (nval (firsts s)), .p (nval (firsts t)), .p .nilslice, .p .nilslice] 8 0 false)) look_Q102 rfl rfl (by
  dsimp only[i_Q102,c_Q102]
  simp(disch:=omega) [zae,a1,a2,a3,a4,hH1,b0,b2,a5,w1,c1,c3,a6,w2])
 exact⟨H',h1,⟨_,_,h2,VS.nil,VS.nil,by simp,by simp,by simp⟩,by simp⟩
theorem PL.first {bx:List (Nat×IBlk)} {H:J2} {k ver j:Nat} {L:List PP} {p:PP} (h:PL H k ver L) (hj:L[j]? = some p):loadVal ⟨bx,H⟩ none (J5 k ver (j*2))=some (J4 p.1):=by
 refine HS.field h ?_
 have h1:=pc_at hj
 have h2:=congrArg (fun x=>x[0]?) h1
 simp only[Bh,AY]at h2
 rw[if_pos (by omega),Bi]at h2
 exact h2
theorem zaka (k ver i:Nat) (L0:List PP) (hi:i<L0.length) (hs:L0.length<1000000) (H0:J2) (h0:PL H0 k ver L0) {zv:IVal} (hz:up zv = .v zv) {b7 b8:KB} (Q:J0)
 (h1:∀H',PL H' k ver (ins i L0)->Keep (fun x=>x=k) H0 H'->Q .normal [(6, .v zv),(7, .box 7 0),(8, .box 8 0),(9, .v (.slice k ver 0 L0.length)),(10, .int .i64 i)] ⟨[(8,some b8),(7,some b7)],H'⟩) :
 wpLoop (CW tr.look) 77 m_Q77_0 l_Q77_0 (blkK 2 b_Q77_2 Q) [(6, .v zv),(7, .box 7 0),(8, .box 8 0),(9, .v (.slice k ver 0 L0.length)),(10, .int .i64 i),(11, .int .i64 i)] ⟨[(8,some b8),(7,some b7)],H0⟩:=by
 refine zac (α:=Nat×List PP×J2) (fun a=>[(6, .v zv),(7, .box 7 0),(8, .box 8 0),(9, .v (.slice k ver 0 L0.length)),(10, .int .i64 i),(11, .int .i64 a.1)]) (fun a=>⟨[(8,some b8),(7,some b7)],a.2.2⟩)
  (fun a=>a.1<L0.length/\a.2.1.length=L0.length/\PL a.2.2 k ver a.2.1/\Keep (fun x=>x=k) H0 a.2.2/\ins a.1 a.2.1=ins i L0) (fun a=>a.1) ?_ (i,L0,H0) ⟨hi,rfl,h0,Keep.refl,rfl⟩
 rintro⟨j,L,H⟩ ⟨hj,hl,hP,hK,he⟩ R hR
 dsimp only at hj hl hP hK he hR ⊢
 dsimp only[l_Q77_0]
 cases j with
 |zero =>
  rw[ins]at he
  subst he
  simp(disch:=omega) []
  exact h1 H hP hK
 |succ j =>
  obtain⟨x,hx⟩:∃x,L[j+1]? = some x:=⟨_,Ac (by omega)⟩
  obtain⟨y,hy⟩:∃y,L[j]? = some y:=⟨_,Ac (by omega)⟩
  obtain⟨p1,p2⟩:=hP.load (bx:=[]) hx
  obtain⟨q1,q2⟩:=hP.load (bx:=[]) hy
  have p3:=hP.first (bx:=[]) hx
  have q3:=hP.first (bx:=[]) hy
  rw[hl]at p1 q1
  have e1:((j+1:Nat):Int)-1=(j:Int):=by omega
  have g1:(0:Int)<((j+1:Nat):Int):=by omega
  rw[ins,hx,hy]at he
  dsimp only at he
  simp only[pc]at p2 q2
  by_cases hc:x.1<y.1
  ·rw[if_pos hc]at he
   have hci:(x.1:Int)<(y.1:Int):=by omega
   obtain⟨b1,w1,hP1⟩:=hP.store (bx:=[]) y (show j+1<L.length by omega)
   obtain⟨b2,w2,hP2⟩:=hP1.store (bx:=[]) x (show j<(L.set (j+1) y).length by rw[Ay];omega)
   simp only[pc]at w1 w2
   simp(disch:=omega) [-Int.natCast_add,p1,p2,p3,q1,q2,q3,e1,zaa,w1,w2]
   rw[CX]at hP2
   refine hR (j,(L.set (j+1) y).set j x,H.set k b2) ⟨by dsimp only;omega,by simp[hl],hP2,hK.trans (Keep.set (S:=fun x=>x=k) (.inl rfl)),he⟩ (by dsimp only;omega)
  ·rw[if_neg hc]at he
   subst he
   have hci:¬(x.1:Int)<(y.1:Int):=by omega
   simp(disch:=omega) [-Int.natCast_add,p1,p3,q1,q3,e1,zaa]
   exact h1 H hP hK
theorem zafo (k ver:Nat) (L0:List PP) (hs:L0.length<1000000) (H0:J2) (h0:PL H0 k ver L0) {zv:IVal} (hz:up zv = .v zv) {b7 b8:KB} (Q:J0)
 (h1:∀H',PL H' k ver (sorted L0)->Keep (fun x=>x=k) H0 H'->Q .normal [(6, .v zv),(7, .box 7 0),(8, .box 8 0),(9, .v (.slice k ver 0 L0.length))] ⟨[(8,some b8),(7,some b7)],H'⟩) :
 wpLoop (CW tr.look) 77 m_Q77_1 l_Q77_1 (blkK 0 b_Q77_0 Q) [(6, .v zv),(7, .box 7 0),(8, .box 8 0),(9, .v (.slice k ver 0 L0.length)),(10, .int .i64 1)] ⟨[(8,some b8),(7,some b7)],H0⟩:=by
 refine zac (α:=Nat×J2) (fun a=>[(6, .v zv),(7, .box 7 0),(8, .box 8 0),(9, .v (.slice k ver 0 L0.length)),(10, .int .i64 ((a.1+1:Nat)))]) (fun a=>⟨[(8,some b8),(7,some b7)],a.2⟩)
  (fun a=>a.1<=L0.length-1/\PL a.2 k ver (sortN 1 a.1 L0)/\Keep (fun x=>x=k) H0 a.2) (fun a=>L0.length-1-a.1) ?_ (0,H0) ⟨by omega,h0,Keep.refl⟩
 rintro⟨j,H⟩ ⟨hj,hP,hK⟩ R hR
 dsimp only at hj hP hK hR ⊢
 dsimp only[l_Q77_1]
 by_cases hc:j+1<L0.length
 ·have hlen:(sortN 1 j L0).length=L0.length:=zrj j 1 L0
  have g1:((j+1:Nat):Int)<(L0.length:Int):=by omega
  simp(disch:=omega) [-Int.natCast_add]
  rw[<- hlen]
  refine zaka k ver (j+1) (sortN 1 j L0) (by omega) (by omega) H hP hz _ ?_
  intro H' h2 h3
  rw[hlen]
  have e2:((j+1:Nat):Int)+1=((j+1+1:Nat):Int):=by omega
  simp(disch:=omega) [-Int.natCast_add,zaa,e2]
  refine hR (j+1,H') ⟨by dsimp only;omega,?_,hK.trans h3⟩ (by dsimp only;omega)
  dsimp only
  rw[zafj,BJ 1 j]
  exact h2
 ·have g1:¬((j+1:Nat):Int)<(L0.length:Int):=by omega
  simp(disch:=omega) [-Int.natCast_add]
  obtain rfl:j=L0.length-1:=by omega
  exact h1 H hP hK
def refMapping (s t:Tree):List PP:=sorted (rp (postT s 0) (postT t 0) 0 0 [s] [t])
theorem zafp (s t:Tree) (hs:Fine s) (ht:Fine t) (h8:s.size<=8/\t.size<=8):∃pv,PV pv (refMapping s t)/\∀H,CW tr.look F_Q77 [tagg s,tagg t] H=some (.tup [J4 (fd [s] [t]:Nat), .p pv],H):=by
 obtain⟨H1,a1,Z1⟩:=zaot s t hs ht []
 simp only[BS]at a1 Z1
 obtain⟨f0,f1,f2,f3,f4,f5⟩:=Z1.fields
 have hp16:3 ^ (lsize [s]+lsize [t])<=43046721:=by
  rw[zdq,zdq]
  exact Bo (Cf (by omega) (show s.size+t.size<=16 by omega)) (by decide)
 obtain⟨H2,o1,o2,o3,M2,lv,c2,Z2,V2,D2,L2⟩:=zadj s t hs ht _ H1 0 none none none [] 0 0 [s] [t] (.p .nilslice) [] Z1 (Rep.root s) (Rep.root t) VS.nil ⟨by simp,by simp⟩ (Al _) (by simp only[BS];omega) (by simp only[BS];rw[zdq];omega)
 rw[AK]at V2
 have hrl:(rp (postT s 0) (postT t 0) 0 0 [s] [t]).length<=s.size:=by
  rw[(zabf _ _ _ _ _ _).length_eq]
  have:=zxj (postT s 0) (postT t 0) 0 0 [s] [t]
  rw[zdq]at this;exact this
 have hup:=V2.up
 have hps:=V2.pass
 have hne:lv≠.undef:=by rintro rfl;exact absurd hps (by decide)
 have hle:=V2.len
 have e1:lsize [s]=s.size:=zdq s
 have e2:lsize [t]=t.size:=zdq t
 have r1:rg 0 (lsize [s]) = .agg [J4 0, J4 s.size]:=by rw[e1,rg];simp
 have r2:rg 0 (lsize [t]) = .agg [J4 0, J4 t.size]:=by rw[e2,rg];simp
 rw[r1,r2]at c2
 simp only[BS]at L2
 cases o3 with
 |none =>
  obtain⟨rfl,hz,_⟩:=V2
  have hrz:rp (postT s 0) (postT t 0) 0 0 [s] [t]=[]:=Aw.1 hz
  obtain⟨H3,p1,p2,M3,c3,Z3,G3,L3⟩:=zfv s t hs ht _ H2 0 o1 o2 M2 0 0 [s] [t] Z2 (Rep.root s) (Rep.root t) (Al _) (by omega)
  rw[r1,r2]at c3
  refine⟨.nilslice, .inl ⟨rfl,by rw[refMapping,hrz];rfl⟩,fun H=>?_⟩
  refine zaj look_Q77 rfl (by simp) rfl ?_
  dsimp only[i_Q77,c_Q77]
  simp(disch:=omega) [zae,a1,f2,f3,zal,c2]
  refine zbd ?_
  dsimp only[l_Q77_1]
  simp(disch:=omega) [c3]
 |some k3 =>
  have V2':=V2
  rw[znq]at V2'
  obtain⟨ver,cs,op,rfl,hk,hn,hx⟩:=V2
  have hPL:PL H2 k3 ver (rp (postT s 0) (postT t 0) 0 0 [s] [t]):=V2'
  refine⟨.slice 2 (refMapping s t).length (prcells (refMapping s t)), .inr rfl,fun H=>?_⟩
  refine zaj look_Q77 rfl (by simp) rfl ?_
  dsimp only[i_Q77,c_Q77]
  simp(disch:=omega) [zae,a1,f2,f3,zal,c2]
  refine zafo k3 ver _ (by omega) H2 hPL rfl _ ?_
  intro H' hP hK
  have hK':Keep (fun x=>some k3=some x) H2 H':=hK.mono fun i _ e=>by rw[e]
  have Z2':=Z2.later hK' D2
  obtain⟨H3,p1,p2,M3,c3,Z3,G3,L3⟩:=zfv s t hs ht _ H' 0 o1 o2 M2 0 0 [s] [t] Z2' (Rep.root s) (Rep.root t) (Al _) (by omega)
  rw[r1,r2]at c3
  have hVS:VS H' (some k3) 2 (rp (postT s 0) (postT t 0) 0 0 [s] [t]).length (.slice k3 ver 0 (rp (postT s 0) (postT t 0) 0 0 [s] [t]).length) (pcells (prcells (refMapping s t))):=by
   unfold PL at hP
   rw[zrk]at hP
   rw[znq]
   exact hP
  obtain⟨V3,_⟩:=G3.slice hVS D2
  have hfz:=zdp V3
  have hlen:(refMapping s t).length=(rp (postT s 0) (postT t 0) 0 0 [s] [t]).length:=zrk _
  simp(disch:=omega) [c3,hfz,hlen]
theorem zvf {s t:Tree} {L:List PP} (h:L.Pairwise (Fit s t)):(sorted L).Pairwise (fun p q=>p.1<q.1):=by
 have hp:=sorted_perm L
 have ha:=zafk L
 have hf:(sorted L).Pairwise (Fit s t):=(hp.pairwise_iff (fun h=>h.symm)).2 h
 refine(ha.and hf).imp fun {p q} ⟨h1,h2⟩=>?_
 rcases h2 with h2|h2<;>omega
def kidN (t:Tree) (i:Nat):List Nat:=(List.range (klist (subT t i).kids).length).map fun j=>i+1+lsize ((klist (subT t i).kids).take j)
theorem zakb:∀ {l m:List Nat},l.Pairwise (· < ·)->m.Pairwise (· < ·)->(∀ x,x∈l↔x∈m)->l=m
 | [],[],_,_,_=>rfl
 | [],y::m,_,_,h=>absurd ((h y).2 (by simp)) (by simp)
 |x::l,[],_,_,h=>absurd ((h x).1 (by simp)) (by simp)
 |x::l,y::m,hl,hm,h=>by
  obtain⟨h1,h2⟩:=B8.1 hl
  obtain⟨g1,g2⟩:=B8.1 hm
  have e:x=y:=by
   rcases Aj.1 ((h x).1 (by simp))with e|e
   ·exact e
   ·rcases Aj.1 ((h y).2 (by simp))with e'|e'
    ·exact e'.symm
    ·have:=h1 _ e';have:=g1 _ e;omega
  subst e
  rw[zakb h2 g2 fun z=>?_]
  constructor
  ·intro hz
   rcases Aj.1 ((h z).1 (An _ hz))with e|e
   ·have:=h1 _ hz;omega
   ·exact e
  ·intro hz
   rcases Aj.1 ((h z).2 (An _ hz))with e|e
   ·have:=g1 _ hz;omega
   ·exact e
theorem zvg {l:List Tree} {j k:Nat} (h:j<k) (hk:k<=l.length):lsize (l.take j)<lsize (l.take k):=by
 induction k with
 |zero=>omega
 |succ k ih =>
  have h1:=zbf (l:=l) (j:=k) (by omega)
  have:=zab l[k]
  by_cases e:j=k
  ·subst e;omega
  ·have:=ih (by omega) (by omega);omega
theorem zafq {l:List Tree} {x:Nat} (h:x<lsize l):∃j,∃hj:j<l.length,lsize (l.take j)<=x/\x<lsize (l.take j)+l[j].size:=by
 have key:∀k,k<=l.length->x<lsize (l.take k)->∃j,∃hj:j<l.length,lsize (l.take j)<=x/\x<lsize (l.take j)+l[j].size:=by
  intro k
  induction k with
  |zero=>intro _ h;simp[lsize]at h
  |succ k ih =>
   intro hk hx
   have h1:=zbf (l:=l) (j:=k) (by omega)
   by_cases e:x<lsize (l.take k)
   ·exact ih (by omega) e
   ·exact⟨k,by omega,by omega,by omega⟩
 exact key l.length (Ak _) (by rw[AT];exact h)
theorem zakc {t:Tree} {i:Nat} (hi:i<t.size):kidsOf t i=kidN t i:=by
 obtain⟨v,hv,_,hsv,_⟩:=zcg hi
 unfold kidN
 rw[hsv]
 have hts:=zag v.t
 have hend:=zbg hi
 rw[hsv]at hend
 refine zakb ?_ ?_ ?_
 ·unfold kidsOf
  refine List.Pairwise.filter _ ?_
  exact CY
 ·rw[BW]
  refine List.Pairwise.imp_of_mem ?_ CY
  intro x y _ hy hxy
  have hy':y<(klist v.t.kids).length:=by simpa using hy
  have:=zvg (l:=klist v.t.kids) hxy (by omega)
  omega
 ·intro c
  rw[zck]
  constructor
  ·rintro⟨hc,hp⟩
   have h0:c≠0:=fun e=>by
    rcases zmr hc with h|h
    ·rw[hp]at h;omega
    ·omega
   obtain⟨m,h1,h2,h3,h4⟩:=zada hc h0
   rw[hp]at h2
   obtain rfl:i=m:=by omega
   have h5:=h3.2
   rw[hsv]at h5
   obtain⟨j,hj,g1,g2⟩:=zafq (l:=klist v.t.kids) (x:=c-(i+1)) (by omega)
   obtain⟨w,hw,hwt,_⟩:=zqt hv hj
   refine AG.2 ⟨j,by simpa using hj,?_⟩
   refine Be fun hne=>?_
   have h6:=h4 (i+1+lsize ((klist v.t.kids).take j)) (by omega) (by omega)
   rw[zdd (t:=t) hw,hwt]at h6
   omega
  ·intro hc
   obtain⟨j,hj,rfl⟩:=AG.1 hc
   have hj':j<(klist v.t.kids).length:=by simpa using hj
   obtain⟨w,hw,_,hwp,_⟩:=zqt hv hj'
   have hl:=(Aa.1 hw).1
   rw[zat]at hl
   exact⟨hl,by simp[par,hw,hwp]⟩
theorem zadk (t:Tree) (hs:t.size<=60) (i:Nat) (hi:i<t.size) (H:J2):CW tr.look F_Q78 [.p (rval t), J4 i] H=some (.p (islice (kidsOf t i)),H):=by
 rw[zakc hi]
 unfold kidN
 obtain⟨v,rest,_,_,_,_,_,_,hv,hsv,ixi⟩:=zmt hi
 rw[hsv]
 have hts:=zag v.t
 have hend:=zbg hi
 rw[hsv]at hend
 obtain⟨F,hF⟩:∃F:Nat->Nat,F=fun j=>i+1+lsize ((klist v.t.kids).take j):=⟨_,rfl⟩
 rw[<- hF]
 have hFj:∀j,F j=i+1+lsize ((klist v.t.kids).take j):=fun j=>by rw[hF]
 have main:CW tr.look F_Q78 [.p (rval t), J4 i] []=some (.p (islice ((List.range (klist v.t.kids).length).map F)),[]):=by
  refine zaj look_Q78 rfl (by simp) rfl ?_
  dsimp only[i_Q78,c_Q78]
  simp(disch:=omega) [zaa]
  rw[show((i:Int)+1)=((F 0:Nat):Int)by rw[hFj 0];simp[lsize]]
  have hK:(klist v.t.kids).length<=lsize (klist v.t.kids):=by
   have:∀l:List Tree,l.length<=lsize l:=by
    intro l
    induction l with
    |nil=>simp
    |cons x l ih=>have:=zab x;simp only[lsize,Ax];omega
   exact this _
  refine zac (α:=Nat×Option Nat×IVal×J2) (fun s=>[(0, .v (.p (rval t))),(1, .int .i64 i),(5, .v s.2.2.1),(6, .int .i64 (F s.1))]) (fun s=>⟨[],s.2.2.2⟩)
   (fun s=>s.1<=(klist v.t.kids).length/\VS s.2.2.2 s.2.1 1 s.1 s.2.2.1 (pcells (idl ((List.range s.1).map F)))/\(s.2.1=none\/0<s.1)) (fun s=>(klist v.t.kids).length-s.1) ?_ (0,none, .p .nilslice,[]) ⟨AW _,⟨rfl,rfl,rfl⟩, .inl rfl⟩
  rintro⟨j,o,lv,K⟩ ⟨hj,hV,ho⟩ R hR
  dsimp only at hj hV ho hR ⊢
  dsimp only[l_Q78_0]
  have hup:=hV.up
  have hps:=hV.pass
  have hne:lv≠.undef:=by rintro rfl;exact absurd hps (by decide)
  have hFe:=hFj j
  by_cases hjl:j<(klist v.t.kids).length
  ·have h1:=zbf hjl
   have hF1:=hFj (j+1)
   have hle2:lsize ((klist v.t.kids).take (j+1))<=lsize (klist v.t.kids):=by
    have h1:=zah ((klist v.t.kids).take (j+1)) ((klist v.t.kids).drop (j+1))
    rw[Bs]at h1;omega
   have one:=zab (klist v.t.kids)[j]
   obtain⟨w,hw,hwt,hwp,_⟩:=zqt hv hjl
   rw[<- hFe]at hw
   obtain⟨id,hid⟩:∃id,F j=id:=⟨_,rfl⟩
   rw[hid]at hw hFe
   have hidl:id<t.size:=by omega
   obtain⟨w2,rest2,_,_,_,_,_,_,hw2,_,ixw⟩:=zmt hidl
   have:w2=w:=by rw[hw]at hw2;injection hw2 with hw2;exact hw2.symm
   subst this
   obtain⟨lv2,K2,o2,a1,a2,a3,a4,a5,⟨k2,a6⟩⟩:=hV.append1 (ys:=[J4 id]) rfl (by omega)
   have hwsz:w2.t.size=(klist v.t.kids)[j].size:=by rw[hwt]
   have hlt:(id:Int)<(i:Int)+(v.t.size:Int):=by omega
   obtain⟨u1,rfl⟩:∃u1,lv2 = .slice k2 u1 0 (j+1):=by
    have a2':=a2
    rw[a6]at a2'
    obtain⟨ver',cs',op',e,_⟩:=a2'
    exact⟨ver',e⟩
   have hcell:pcells (idl ((List.range (j+1)).map F))=pcells (idl ((List.range j).map F))++[J4 id]:=by rw[Cr,AC];simp[idl,pcells,hid]
   rw[hid]
   simp(disch:=omega) [ixi,ixw,a1,zaa]
   have hn:=hR (j+1,o2, .slice k2 u1 0 (j+1),K2) ⟨by dsimp only;omega,by rw[hcell];exact a2, .inr (by simp)⟩ (by dsimp only;omega)
   have hidn:(F (j+1):Int)=(id:Int)+(w2.t.size:Int):=by rw[hwt];omega
   dsimp only at hn
   rw[hidn]at hn
   exact hn
  ·obtain rfl:j=(klist v.t.kids).length:=by omega
   rw[AT]at hFe
   obtain⟨id,hid⟩:∃id,F (klist v.t.kids).length=id:=⟨_,rfl⟩
   rw[hid]at hFe ⊢
   have hlt:¬(id:Int)<(i:Int)+(v.t.size:Int):=by omega
   simp(disch:=omega) [ixi,zaa]
   have hfz:=zdp hV
   cases o with
   |none =>
    obtain⟨rfl,h2,_⟩:=hV
    have h2':(klist v.t.kids).length=0:=h2
    rw[h2']
    exact⟨rfl,rfl⟩
   |some k =>
    have hne0:¬((List.range (klist v.t.kids).length).map F)=[]:=by
     have hpos:0<(klist v.t.kids).length:=ho.elim (fun h=>by cases h) fun h=>h
     intro e
     have h9:=congrArg List.length e
     rw[A9,List.length_range,BS]at h9
     omega
    simp only at hfz
    obtain⟨ver,cs,op,rfl,_⟩:=hV
    unfold islice
    rw[if_neg hne0]
    refine⟨rfl,?_⟩
    simp only[freezeRes,freezeOne,hfz]
    simp[idl]
 exact zix look_Q78 rfl rfl main
def pI (o:Option Nat):Int:=match o with|some j=>(j:Int)|none => -1
theorem zauo {n:Nat} {L:J1} (hn:(L.map (·.1)).Nodup) {i:Nat} (hi:i<n):(mapA n L).getD i (-1)=pI (toN L i):=by
 rcases zjs L hn i hi with⟨j,h1,h2⟩|⟨h1,h2⟩
 ·rw[Ai,h2,(zee hn).2 h1];rfl
 ·rw[Ai,h2,zjt.2 h1];rfl
theorem zaup {n:Nat} {L:J1} (hn:(L.map (·.2)).Nodup) {j:Nat} (hj:j<n):0<=(mapB n L).getD j (-1)↔(byN L j).isNone=false:=by
 rcases zpb L hn j hj with⟨i,h1,h2⟩|⟨h1,h2⟩
 ·rw[Ai,h2]
  have:byN L j≠none:=fun h=>zmo.1 h (AG.2 ⟨_,h1,rfl⟩)
  cases h:byN L j with
  |none=>exact absurd h this
  |some x=>simp
 ·rw[Ai,h2,zmo.2 h1];simp
structure WM (a b:Tree) (L:J1) (kw k0 ka kb:Nat) (H:J2):Prop where
 blk:H[kw]? = some (.cells [.p (rval a), .p (rval b), J5 k0 0 0] 3 0 false)
 m:MOK k0 ka kb (mapA a.size L) (mapB b.size L) H
 d1:kw≠k0
 d2:kw≠ka
 d3:kw≠kb
section
variable {a b:Tree} {L:J1} {kw k0 ka kb:Nat} {H:J2}
theorem WM.lx (h:WM a b L kw k0 ka kb H):loadVal ⟨[],H⟩ none (J5 kw 0 0)=some (.p (rval a)):=zad h.blk rfl
theorem WM.ly (h:WM a b L kw k0 ka kb H):loadVal ⟨[],H⟩ none (J5 kw 0 1)=some (.p (rval b)):=zad h.blk rfl
theorem WM.lm (h:WM a b L kw k0 ka kb H):loadVal ⟨[],H⟩ none (J5 kw 0 2)=some (J5 k0 0 0):=zad h.blk rfl
theorem WM.ga (h:WM a b L kw k0 ka kb H):∃av,loadVal ⟨[],H⟩ none (J5 k0 0 0)=some av/\up av = .v av/\∀i,i<a.size->(L.map (·.1)).Nodup->∃ver,idxS 1 av (J4 i)=some (J5 ka ver i)/\loadVal ⟨[],H⟩ none (J5 ka ver i)=some (J4 (pI (toN L i))):=by
 obtain⟨av,bv,m1,m2,m3,m4,m5,m6⟩:=h.m
 have l0:loadVal ⟨[],H⟩ none (J5 k0 0 0)=some av:=zad m1 rfl
 refine⟨av,l0,?_,fun i hi hn=>?_⟩
 ·obtain⟨ver,cs,op,rfl,_⟩:=m2;rfl
 ·obtain⟨u1,_,vr,g1,g2⟩:=m2.getI (j:=i) (by rw[zfe];exact hi)
  rw[zauo hn hi]at g2
  exact⟨vr,g1,g2⟩
theorem WM.gb (h:WM a b L kw k0 ka kb H):∃bv,loadVal ⟨[],H⟩ none (J5 k0 0 1)=some bv/\up bv = .v bv/\∀j,j<b.size->(L.map (·.2)).Nodup->∃ver x,idxS 1 bv (J4 j)=some (J5 kb ver j)/\loadVal ⟨[],H⟩ none (J5 kb ver j)=some (J4 x)/\(0<=x↔(byN L j).isNone=false):=by
 obtain⟨av,bv,m1,m2,m3,m4,m5,m6⟩:=h.m
 have l0:loadVal ⟨[],H⟩ none (J5 k0 0 1)=some bv:=zad m1 rfl
 refine⟨bv,l0,?_,fun j hj hn=>?_⟩
 ·obtain⟨ver,cs,op,rfl,_⟩:=m3;rfl
 ·obtain⟨u1,_,vr,g1,g2⟩:=m3.getI (j:=j) (by rw[zhn];exact hj)
  exact⟨vr,_,g1,g2,zaup hn hj⟩
theorem WM.add (h:WM a b L kw k0 ka kb H) {i j:Nat} (hi:i<a.size) (hj:j<b.size):∃H',CW tr.look F_Q38 [J5 k0 0 0, J4 i, J4 j] H=some (.tup [],H')/\WM a b (L++[(i,j)]) kw k0 ka kb H':=by
 obtain⟨H',e1,e2,e3,e4⟩:=zaqk h.m i j (by rw[zfe];exact hi) (by rw[zhn];exact hj)
 rw[<- zus (p:=(i,j)),<-zut (p:=(i,j))]at e2
 exact⟨H',e1,by rw[e4 _ h.d2 h.d3];exact h.blk,e2,h.d1,h.d2,h.d3⟩
end
theorem zakd (k1 k2:Int) (n1 n2 x1 x2:Bytes) (a1 z1 a2 z2:PVal) (H:J2):CW tr.look F_Q42 [.agg [J4 k1, .p (.str n1), .p (.str x1), .p a1, .p z1], .agg [J4 k2, .p (.str n2), .p (.str x2), .p a2, .p z2]] H=some (.p (.bool (decide (k1=k2)&&decide (n1=n2))),H):=by
 refine zaj look_Q42 rfl (by simp[plainArg,cellsPlain]) rfl ?_
 dsimp only[i_Q42,c_Q42]
 by_cases h:k1=k2
 ·simp(disch:=omega) [h]
 ·simp(disch:=omega) [h]
theorem zafr {a b:Tree} {L:J1} {kw k0 ka kb:Nat} {H:J2} (h:WM a b L kw k0 ka kb H) (hP:PI a b L) (sa:a.size<=60) (sb:b.size<=60) (i q:Nat) (hi:i<a.size) (hq:q<b.size) :
 CW tr.look F_Q100 [J5 kw 0 0, J4 i, J4 q] H=some (J4 (comN b L q i ((subT a i).size-1)),H):=by
 obtain⟨v,rest,_,_,_,_,_,_,hv,hsv,ixi⟩:=zmt hi
 obtain⟨w,restw,_,_,_,_,_,_,hw,hsw,ixq⟩:=zmt hq
 have lx:=h.lx
 have ly:=h.ly
 have lm:=h.lm
 obtain⟨av,la,ua,hA⟩:=h.ga
 have hend:=zbg hi
 have hendq:=zbg hq
 rw[hsv]at hend
 rw[hsw]at hendq
 have hs1:=zab v.t
 rw[hsv]
 obtain⟨r,H',e1,rfl,rfl⟩:=zar (args:=[J5 kw 0 0, J4 i, J4 q]) (H:=H) (Q:=fun r H'=>r = J4 (comN b L q i (v.t.size-1))/\H'=H) look_Q100 rfl rfl (by
  dsimp only[i_Q100,c_Q100]
  simp(disch:=omega) [zaa]
  refine zac (α:=Nat) (fun k=>[(0, .v (J5 kw 0 0)),(1, .int .i64 i),(2, .int .i64 q),(7, .int .i64 (comN b L q i (k-(i+1)))),(8, .int .i64 k)]) (fun _=>⟨[],H⟩)
   (fun k=>i+1<=k/\k<=i+v.t.size) (fun k=>i+v.t.size-k) ?_ (i+1) ⟨Ak _,by omega⟩ |> fun hh=>by simpa[comN]using hh
  rintro k ⟨h1,h2⟩ R hR
  dsimp only[l_Q100_0]
  by_cases hk:k<i+v.t.size
  ·have hk':(k:Int)<(i:Int)+(v.t.size:Int):=by omega
   obtain⟨vr,g1,g2⟩:=hA k (by omega) hP.nx
   have hsucc:comN b L q i (k+1-(i+1))=comN b L q i (k-(i+1))+if hitB b L q k=true then 1 else 0:=by
    rw[show k+1-(i+1)=(k-(i+1))+1 by omega,zyj,show i+1+(k-(i+1))=k by omega]
   have hcl:=znn b L q i (k-(i+1))
   have hn:=hR (k+1) ⟨by omega,by omega⟩ (by omega)
   rw[hsucc]at hn
   cases ht:toN L k with
   |none =>
    rw[ht]at g2
    have g2':loadVal ⟨[],H⟩ none (J5 ka vr k)=some (J4 (-1)):=g2
    have hh:hitB b L q k=false:=by unfold hitB;rw[ht]
    rw[hh]at hn
    simp(disch:=omega) [lx,ly,lm,la,ua,g1,g2',ixi,ixq,zaa]
    exact hn
   |some j =>
    rw[ht]at g2
    have g2':loadVal ⟨[],H⟩ none (J5 ka vr k)=some (J4 j):=g2
    have hh:hitB b L q k=decide (q<j/\j<q+w.t.size):=by unfold hitB;rw[ht,hsw]
    by_cases c1:q<j
    ·by_cases c2:j<q+w.t.size
     ·rw[hh,decide_eq_true ⟨c1,c2⟩]at hn
      have c2':(j:Int)<(q:Int)+(w.t.size:Int):=by omega
      simp(disch:=omega) [lx,ly,lm,la,ua,g1,g2',ixi,ixq,zaa]
      exact hn
     ·rw[hh,decide_eq_false (by omega)]at hn
      have c2':¬(j:Int)<(q:Int)+(w.t.size:Int):=by omega
      simp(disch:=omega) [lx,ly,lm,la,ua,g1,g2',ixi,ixq,zaa]
      exact hn
    ·rw[hh,decide_eq_false (by omega)]at hn
     simp(disch:=omega) [lx,ly,lm,la,ua,g1,g2',ixi,ixq,zaa]
     exact hn
  ·obtain rfl:k=i+v.t.size:=by omega
   simp(disch:=omega) [lx,ixi,zaa]
   rw[show i+v.t.size-(i+1)=v.t.size-1 by omega])
 exact e1
theorem zvh (s t:Tree):refMapping s t=mapping s t:=by
 have h2:=(zuw s t).1
 have hp:=zabf (postT s 0) (postT t 0) 0 0 [s] [t]
 have h5:(rp (postT s 0) (postT t 0) 0 0 [s] [t]).Pairwise (Fit s t):=(hp.pairwise_iff (fun h=>h.symm)).2 h2
 refine zej ?_ ((sorted_perm _).trans hp) ((zvf h5).imp fun h=>Dc h)
 refine BW.2 (h2.imp fun {p q} h=>?_)
 rcases h with h|h<;>omega
theorem zaqo {t:Tree} {j:Nat} (hj:j<t.size):∃v rest a1 a2 a3 n1 x1 y1 d1 d2 d3 d4 d5,t.vis[j]? = some v/\subT t j=v.t/\d1=PVal.int .i64 v.t.kind/\d2=PVal.str v.t.name/\d3=PVal.str v.t.text/\d4=aval v.t.attrs/\d5=kval v.t.kids/\idxS 15 (.p (rval t)) (J4 j)=some (.p (.ptr (.int .i64 v.parent :: .int .i64 v.t.size :: .int .i64 a1 :: .int .i64 a2 :: .int .i64 a3 :: .int .i64 v.t.kind :: .str v.t.name :: .str n1::x1::y1::d1::d2::d3::d4::d5::rest))):=by
 obtain⟨v,hv,_,hs,_⟩:=zcg hj
 exact⟨v,_,_,_,_,_,_,_,_,_,_,_,_,hv,hs,rfl,rfl,rfl,rfl,rfl,zcz hv⟩
def bcnt (a b:Tree) (L:J1) (i:Nat) (o:Option Nat):Nat:=match o with|some m=>comN b L m i ((subT a i).size-1)|none=>0
theorem zaou {a b:Tree} {L:J1} {kw k0 ka kb:Nat} {H:J2} (h:WM a b L kw k0 ka kb H) (hP:PI a b L) (sa:a.size<=60) (sb:b.size<=60) (i:Nat) (hi:i<a.size) (hti:toN L i=none) :
 CW tr.look F_Q75 [J5 kw 0 0, J4 i] H=some (.tup [J4 (pI (bfold a b L i b.size)), J4 (bcnt a b L i (bfold a b L i b.size))],H):=by
 obtain⟨v,rest,_,_,_,_,_,_,hv,hsv,ixi⟩:=zmt hi
 have lx:=h.lx
 have ly:=h.ly
 have lm:=h.lm
 obtain⟨bv,lb,ub,hB⟩:=h.gb
 have hend:=zbg hi
 rw[hsv]at hend
 have hs1:=zab v.t
 obtain⟨r,H',e1,rfl,rfl⟩:=zar (args:=[J5 kw 0 0, J4 i]) (H:=H) (Q:=fun r H'=>r = .tup [J4 (pI (bfold a b L i b.size)), J4 (bcnt a b L i (bfold a b L i b.size))]/\H'=H) look_Q75 rfl rfl (by
  dsimp only[i_Q75,c_Q75]
  simp(disch:=omega) []
  refine zac (α:=Nat) (fun k=>[(0, .v (J5 kw 0 0)),(1, .int .i64 i),(6, .int .i64 (pI (bfold a b L i k))),(7, .int .i64 (bcnt a b L i (bfold a b L i k))),(8, .int .i64 k)]) (fun _=>⟨[],H⟩)
   (fun k=>k<=b.size) (fun k=>b.size-k) ?_ 0 (AW _)
  rintro k hk R hR
  dsimp only[l_Q75_0]
  by_cases hkl:k<b.size
  ·have hlt:(k:Int)<(b.size:Int):=by omega
   obtain⟨w,restw,_,_,_,_,_,_,hw,hsw,ixk⟩:=zmt hkl
   obtain⟨vr,x,g1,g2,g3⟩:=hB k hkl hP.nz
   have hn:=hR (k+1) (by omega) (by omega)
   rw[zno]at hn
   have hst:bstep a b L i (bfold a b L i k) k=if comN b L k i (v.t.size-1)=0\/frE L i k=false\/¬kinT v.t w.t then bfold a b L i k else match bfold a b L i k with|none=>some k|some m=>if 0<dice (comN b L k i (v.t.size-1)) (sumN a b i k) (comN b L m i (v.t.size-1)) (sumN a b i m)then some k else some m:=by unfold bstep;rw[hsv,hsw];rfl
   have hfr:frE L i k=(byN L k).isNone:=by unfold frE;rw[hti];rfl
   have hskip:(comN b L k i (v.t.size-1)=0\/frE L i k=false\/¬kinT v.t w.t)->bstep a b L i (bfold a b L i k) k=bfold a b L i k:=fun hc=>by rw[hst,if_pos hc]
   by_cases hx:0<=x
   ·have hf:frE L i k=false:=by rw[hfr];exact g3.1 hx
    rw[hskip (.inr (.inl hf))]at hn
    simp(disch:=omega) [lx,ly,lm,lb,ub,g1,g2,zaa]
    exact hn
   ·have hf:frE L i k=true:=by
     rw[hfr]
     cases hh:(byN L k).isNone with
     |true=>rfl
     |false=>exact absurd (g3.2 hh) hx
    have kin:=fun y1 y2 z1 z2 u1 u2=>zakd v.t.kind w.t.kind v.t.name w.t.name y1 y2 z1 z2 u1 u2 H
    by_cases hkin:kinT v.t w.t
    ·obtain⟨hk1,hk2⟩:=hkin
     have hkin:kinT v.t w.t:=⟨hk1,hk2⟩
     have hdec:(decide (v.t.kind=w.t.kind)&&decide (v.t.name=w.t.name))=true:=by simp[hk1,hk2]
     rw[hdec]at kin
     have hcom:=zafr h hP sa sb i k hi hkl
     rw[hsv]at hcom
     have hcl:=znn b L k i (v.t.size-1)
     by_cases hc0:comN b L k i (v.t.size-1)=0
     ·rw[hskip (.inl hc0)]at hn
      rw[hc0]at hcom
      have hcom':CW tr.look F_Q100 [J5 kw 0 0, J4 i, J4 k] H=some (J4 0,H):=hcom
      simp(disch:=omega) [lx,ly,lm,lb,ub,g1,g2,ixi,ixk,kin,zcl,hcom',zaa]
      exact hn
     ·have hpos:0<comN b L k i (v.t.size-1):=by omega
      have hst2:=hst
      rw[if_neg (by rintro(h|h|h); · exact hc0 h
                    ·rw[hf]at h;cases h
                    ·exact h hkin)]at hst2
      cases hbf:bfold a b L i k with
      |none =>
       rw[hbf]at hst2 hn
       rw[hst2]at hn
       have hb1:bcnt a b L i (some k)=comN b L k i (v.t.size-1):=by unfold bcnt;rw[hsv]
       dsimp only at hn
       rw[hb1]at hn
       simp(disch:=omega) [lx,ly,lm,lb,ub,g1,g2,ixi,ixk,kin,zcl,hcom,zaa,pI]
       exact hn
      |some m =>
       rw[hbf]at hst2 hn
       dsimp only at hst2
       have hm:=(zjc hbf).1
       obtain⟨wm,restm,_,_,_,_,_,_,hwm,hswm,ixm⟩:=zmt (t:=b) (j:=m) (by omega)
       have hsk:((sumN a b i k:Nat):Int)=(v.t.size:Int)+(w.t.size:Int)-2:=by unfold sumN;rw[hsv,hsw];have:=zab w.t;omega
       have hsm:((sumN a b i m:Nat):Int)=(v.t.size:Int)+(wm.t.size:Int)-2:=by unfold sumN;rw[hsv,hswm];have:=zab wm.t;omega
       have hb1:bcnt a b L i (some k)=comN b L k i (v.t.size-1):=by unfold bcnt;rw[hsv]
       have hb2:bcnt a b L i (some m)=comN b L m i (v.t.size-1):=by unfold bcnt;rw[hsv]
       have ek:=zbg hkl
       have em:=zbg (t:=b) (i:=m) (by omega)
       rw[hsw]at ek
       rw[hswm]at em
       have hcm:=znn b L m i (v.t.size-1)
       have hdd:=zaon (comN b L k i (v.t.size-1)) (sumN a b i k) (comN b L m i (v.t.size-1)) (sumN a b i m) (by omega) (by omega) (by omega) (by omega) H
       rw[hsk,hsm]at hdd
       have hm0:¬(m:Int)<0:=by omega
       have hpos':(0:Int)<((comN b L k i (v.t.size-1):Nat):Int):=by omega
       rw[hb2]
       by_cases hdp:0<dice (comN b L k i (v.t.size-1)) (sumN a b i k) (comN b L m i (v.t.size-1)) (sumN a b i m)
       ·rw[if_pos hdp]at hst2
        rw[hst2,hb1]at hn
        simp(disch:=omega) [lx,ly,lm,lb,ub,g1,g2,ixi,ixk,ixm,kin,zcl,hcom,zaa,pI,hm0,hdd,hpos']
        exact hn
       ·rw[if_neg hdp]at hst2
        rw[hst2,hb2]at hn
        simp(disch:=omega) [lx,ly,lm,lb,ub,g1,g2,ixi,ixk,ixm,kin,zcl,hcom,zaa,pI,hm0,hdd,hpos']
        exact hn
    ·rw[hskip (.inr (.inr hkin))]at hn
     have hdec:(decide (v.t.kind=w.t.kind)&&decide (v.t.name=w.t.name))=false:=by
      cases hh:(decide (v.t.kind=w.t.kind)&&decide (v.t.name=w.t.name))with
      |false=>rfl
      |true=>simp at hh;exact absurd hh hkin
     rw[hdec]at kin
     simp(disch:=omega) [lx,ly,lm,lb,ub,g1,g2,ixi,ixk,kin,zcl,zaa]
     exact hn
  ·obtain rfl:k=b.size:=by omega
   simp(disch:=omega) [ly])
 exact e1
theorem zabg {L:J1} {i k:Nat} (hti:toN L i=none):frE L i k=(byN L k).isNone:=by unfold frE;rw[hti];rfl
theorem zaov {a b:Tree} {kw k0 ka kb:Nat} (sa:a.size<=60) (sb:b.size<=60) (i j:Nat) (hi:i<a.size) (hj:j<b.size) {P:J1} {pv:PVal} (hpv:PV pv P) (hpm:∀p∈P,p.1<(subT a i).size/\p.2<(subT b j).size/\kinT (subT (subT a i) p.1) (subT (subT b j) p.2)) (hpl:P.length<=60) {L:J1} {H:J2} (h:WM a b L kw k0 ka kb H) (hP:PI a b L) (Q:J0)
 (hQ:∀K,WM a b (P.foldl (sstep i j) L) kw k0 ka kb K->PI a b (P.foldl (sstep i j) L)->Q .normal [] ⟨[],K⟩) :
 wpLoop (CW tr.look) 159 m_Q37_0 l_Q37_0 (blkK 0 b_Q37_0 Q) [(0, .v (J5 kw 0 0)),(1, .int .i64 i),(4, .int .i64 j),(7, .v (.p pv)),(8, .int .i64 0)] ⟨[],H⟩:=by
 have hup:=hpv.up
 have hln:=hpv.len
 have ea:=zbg hi
 have eb:=zbg hj
 refine zac (α:=Nat×J2) (fun s=>[(0, .v (J5 kw 0 0)),(1, .int .i64 i),(4, .int .i64 j),(7, .v (.p pv)),(8, .int .i64 s.1)]) (fun s=>⟨[],s.2⟩)
  (fun s=>s.1<=P.length/\WM a b ((P.take s.1).foldl (sstep i j) L) kw k0 ka kb s.2/\PI a b ((P.take s.1).foldl (sstep i j) L)) (fun s=>P.length-s.1) ?_ (0,H) ⟨AW _,h,hP⟩
 rintro⟨k,K⟩ ⟨hk,hM,hI⟩ R hR
 dsimp only at hk hM hI hR ⊢
 dsimp only[l_Q37_0]
 by_cases hkl:k<P.length
 ·have hlt:(k:Int)<(P.length:Int):=by omega
  obtain⟨p,hp⟩:∃p,P[k]? = some p:=⟨_,Ac hkl⟩
  have ix:=hpv.idx hp
  have htk:(P.take (k+1)).foldl (sstep i j) L=sstep i j ((P.take k).foldl (sstep i j) L) p:=by rw[AQ,hp,BX];rfl
  generalize (P.take k).foldl (sstep i j) L=LX at *
  obtain⟨g1,g2,g3⟩:=hpm p (Ao hp)
  have hia:i+p.1<a.size:=by omega
  have hjb:j+p.2<b.size:=by omega
  have lm:=hM.lm
  obtain⟨av,la,ua,hA⟩:=hM.ga
  obtain⟨bv,lb,ub,hB⟩:=hM.gb
  obtain⟨va,a1,a2⟩:=hA (i+p.1) hia hI.nx
  obtain⟨vb,x,b1,b2,b3⟩:=hB (j+p.2) hjb hI.nz
  rw[BR]at a1 b1
  cases ht:toN LX (i+p.1)with
  |some q =>
   rw[ht]at a2
   have a2':loadVal ⟨[],K⟩ none (J5 ka va (i+p.1))=some (J4 q):=a2
   have hq:¬(q:Int)<0:=by omega
   have htk2:sstep i j LX p=LX:=by unfold sstep frE;rw[ht];rfl
   have hn:=hR (k+1,K) ⟨by dsimp only;omega,by dsimp only;rw[htk,htk2];exact hM,by dsimp only;rw[htk,htk2];exact hI⟩ (by dsimp only;omega)
   simp(disch:=omega) [ix,hln,lm,la,ua,a1,a2',hq,zaa]
   exact hn
  |none =>
   rw[ht]at a2
   have a2':loadVal ⟨[],K⟩ none (J5 ka va (i+p.1))=some (J4 (-1)):=a2
   have hfr:=zabg (k:=j+p.2) ht
   by_cases hx:0<=x
   ·have hx':¬x<0:=by omega
    have htk2:sstep i j LX p=LX:=by unfold sstep;rw[hfr,b3.1 hx];rfl
    have hn:=hR (k+1,K) ⟨by dsimp only;omega,by dsimp only;rw[htk,htk2];exact hM,by dsimp only;rw[htk,htk2];exact hI⟩ (by dsimp only;omega)
    simp(disch:=omega) [ix,hln,lm,la,lb,ua,ub,a1,a2',b1,b2,hx',zaa]
    exact hn
   ·have hx':x<0:=by omega
    have hf:frE LX (i+p.1) (j+p.2)=true:=by
     rw[hfr]
     cases hh:(byN LX (j+p.2)).isNone with
     |true=>rfl
     |false=>exact absurd (b3.2 hh) hx
    obtain⟨K',q1,q2⟩:=hM.add hia hjb
    simp only[BR]at q1
    have htk2:sstep i j LX p=LX++[(i+p.1,j+p.2)]:=by unfold sstep;rw[hf];rfl
    have hn:=hR (k+1,K') ⟨by dsimp only;omega,by dsimp only;rw[htk,htk2];exact q2,by dsimp only;rw[htk,htk2];exact hI.add hia hjb hf (by rw[sub_sub hi g1,sub_sub hj g2];exact g3)⟩ (by dsimp only;omega)
    simp(disch:=omega) [ix,hln,lm,la,lb,ua,ub,a1,a2',b1,b2,hx',q1,zaa]
    exact hn
 ·obtain rfl:k=P.length:=by omega
  rw[AT]at hM hI
  simp(disch:=omega) [hln]
  exact hQ K hM hI
theorem zbak {a b:Tree} (fa:Fine a) (fb:Fine b) {L:J1} {kw k0 ka kb:Nat} {H:J2} (h:WM a b L kw k0 ka kb H) (hP:PI a b L) (sa:a.size<=60) (sb:b.size<=60) (i:Nat) (hi:i<a.size) :
 ∃H',CW tr.look F_Q37 [J5 kw 0 0, J4 i] H=some (.tup [],H')/\WM a b (upN a b L i) kw k0 ka kb H'/\PI a b (upN a b L i):=by
 have lx:=h.lx
 have ly:=h.ly
 have lm:=h.lm
 obtain⟨av,la,ua,hA⟩:=h.ga
 obtain⟨va,a1,a2⟩:=hA i hi hP.nx
 suffices hh:∃r H',CW tr.look F_Q37 [J5 kw 0 0, J4 i] H=some (r,H')/\r = .tup []/\WM a b (upN a b L i) kw k0 ka kb H'/\PI a b (upN a b L i)by
  obtain⟨r,H',h1,rfl,h2⟩:=hh
  exact⟨H',h1,h2⟩
 refine zar look_Q37 rfl rfl ?_
 dsimp only[i_Q37,c_Q37]
 cases ht:toN L i with
 |some j =>
  rw[ht]at a2
  have a2':loadVal ⟨[],H⟩ none (J5 ka va i)=some (J4 j):=a2
  have hu:upN a b L i=L:=by unfold upN;rw[ht]
  rw[hu]
  simp(disch:=omega) [lm,la,ua,a1,a2']
  exact⟨h,hP⟩
 |none =>
  rw[ht]at a2
  have a2':loadVal ⟨[],H⟩ none (J5 ka va i)=some (J4 (-1)):=a2
  have hbest:=zaou h hP sa sb i hi ht
  have hu:upN a b L i=match bestN a b L i with|none=>L|some j=>smallN a b (L++[(i,j)]) i j:=by unfold upN;rw[ht];rfl
  obtain⟨v,rest,_,_,_,_,_,_,d1,d2,d3,d4,d5,hv,hsv,e1,e2,e3,e4,e5,ixi⟩:=zaqo hi
  cases hbf:bfold a b L i b.size with
  |none =>
   rw[hbf]at hbest
   have hbest':CW tr.look F_Q75 [J5 kw 0 0, J4 i] H=some (.tup [J4 (-1), J4 0],H):=hbest
   have hu2:upN a b L i=L:=by rw[hu,bestN,hbf]
   rw[hu2]
   simp(disch:=omega) [lm,la,ua,a1,a2',hbest']
   exact⟨h,hP⟩
  |some j =>
   rw[hbf]at hbest
   have hbest':CW tr.look F_Q75 [J5 kw 0 0, J4 i] H=some (.tup [J4 j, J4 (comN b L j i ((subT a i).size-1))],H):=hbest
   have hj:=(zjc hbf).1
   obtain⟨w,restw,_,_,_,_,_,_,f1,f2,f3,f4,f5,hw,hsw,g1,g2,g3,g4,g5,ixj⟩:=zaqo hj
   have one1:=zab v.t
   have one2:=zab w.t
   have ei:=zbg hi
   have ej:=zbg hj
   have ei':=ei
   have ej':=ej
   rw[hsv]at ei'
   rw[hsw]at ej'
   have hcl:=znn b L j i ((subT a i).size-1)
   have hs:((sumN a b i j:Nat):Int)=(v.t.size:Int)+(w.t.size:Int)-2:=by unfold sumN;rw[hsv,hsw];omega
   have hhf:=zaoo (comN b L j i ((subT a i).size-1)) (sumN a b i j) (by omega) (by unfold sumN;omega) H
   rw[hs]at hhf
   have hj0:¬(j:Int)<0:=by omega
   cases hb:half (comN b L j i ((subT a i).size-1)) (sumN a b i j)with
   |false =>
    rw[hb]at hhf
    have hu2:upN a b L i=L:=by rw[hu,bestN,hbf];dsimp only;rw[hb];rfl
    rw[hu2]
    simp(disch:=omega) [lx,ly,lm,la,ua,a1,a2',hbest',ixi,ixj,hj0,hhf,zaa]
    exact⟨h,hP⟩
   |true =>
    rw[hb]at hhf
    have hbn:bestN a b L i=some j:=by rw[bestN,hbf];dsimp only;rw[hb];rfl
    obtain⟨_,hf,hkin⟩:=zyk hbn
    have hu2:upN a b L i=smallN a b (L++[(i,j)]) i j:=by rw[hu,hbn]
    have hI2:=hP.add hi hj hf hkin
    obtain⟨K,q1,q2⟩:=h.add hi hj
    have lx2:=q2.lx
    have ly2:=q2.ly
    rw[hu2]
    by_cases h8:v.t.size<=8
    ·by_cases h9:w.t.size<=8
     ·have hmp:mapN (subT a i) (subT b j)=mapping (subT a i) (subT b j):=by unfold mapN;rw[if_pos ⟨by rw[hsv];exact h8,by rw[hsw];exact h9⟩]
      obtain⟨pv,hpv,hwh⟩:=zafp (subT a i) (subT b j) (fa.sub hi) (fb.sub hj) ⟨by rw[hsv];exact h8,by rw[hsw];exact h9⟩
      rw[zvh]at hpv
      have hwh:=hwh K
      have ta:tagg (subT a i) = .agg [.p d1, .p d2, .p d3, .p d4, .p d5]:=by rw[hsv,e1,e2,e3,e4,e5,zae]
      have tb:tagg (subT b j) = .agg [.p f1, .p f2, .p f3, .p f4, .p f5]:=by rw[hsw,g1,g2,g3,g4,g5,zae]
      rw[ta,tb]at hwh
      have hup:=hpv.up
      unfold smallN
      rw[hmp]
      simp(disch:=omega) [lx,ly,lm,la,ua,a1,a2',hbest',ixi,ixj,hj0,hhf,zaa,q1,lx2,ly2,hwh,zcl,hup]
      refine zaov sa sb i j hi hj hpv (fun p hp=>?_) (Bo (zlb _ _) (by omega)) q2 hI2 _ fun K' z1 z2=>?_
      ·obtain⟨y1,y2,y3⟩:=zrc hp
       rw[zacu _ y1,zacu _ y2]at y3
       exact⟨y1,y2,zacv y3⟩
      ·simp(disch:=omega) []
       exact⟨z1,z2⟩
     ·have hmp:mapN (subT a i) (subT b j)=[]:=by unfold mapN;rw[if_neg (by rw[hsw];omega)]
      have h9':(8:Int)<(w.t.size:Int):=by omega
      unfold smallN
      rw[hmp]
      simp(disch:=omega) [lx,ly,lm,la,ua,a1,a2',hbest',ixi,ixj,hj0,hhf,zaa,q1,lx2,ly2]
      exact⟨q2,hI2⟩
    ·have hmp:mapN (subT a i) (subT b j)=[]:=by unfold mapN;rw[if_neg (by rw[hsv];omega)]
     have h8':(8:Int)<(v.t.size:Int):=by omega
     unfold smallN
     rw[hmp]
     simp(disch:=omega) [lx,ly,lm,la,ua,a1,a2',hbest',ixi,ixj,hj0,hhf,zaa,q1,lx2,ly2]
     exact⟨q2,hI2⟩
section
variable {a b:Tree} {k0 ka kb kw:Nat}
theorem zabh (sb:b.size<=60) {L:J1} {H:J2} (h:WM a b L kw k0 ka kb H) (hP:PI a b L) (i j n:Nat) (k:Nat) (hkn:(kidsOf a i)[n]? = some k) (hk:k<a.size) (Q:J0)
 (h1:Shut a b L k (kidsOf b j)->Q .normal [(0, .v (J5 kw 0 0)),(3, .int .i64 i),(4, .v (.p (islice (kidsOf a i)))),(5, .v (.p (islice (kidsOf b j)))),(6, .int .i64 n)] ⟨[],H⟩)
 (h2:∀m q K,(kidsOf b j)[m]? = some q->frE L k q=true->kinT (subT a k) (subT b q)->Shut a b L k ((kidsOf b j).take m)->WM a b (L++[(k,q)]) kw k0 ka kb K->∀E B,lookE E 2 = .bool true->Q .ret E ⟨B,K⟩) :
 wpLoop (CW tr.look) 129 m_Q39_0 l_Q39_0 (blkK 4 b_Q39_4 Q) [(0, .v (J5 kw 0 0)),(3, .int .i64 i),(4, .v (.p (islice (kidsOf a i)))),(5, .v (.p (islice (kidsOf b j)))),(6, .int .i64 n),(7, .int .i64 0)] ⟨[],H⟩:=by
 have hupa:=zds (kidsOf a i)
 have hupb:=zds (kidsOf b j)
 have hlb:=zju (kidsOf b j)
 have lx:=h.lx
 have ly:=h.ly
 have lm:=h.lm
 obtain⟨av,la,ua,hA⟩:=h.ga
 obtain⟨bv,lb,ub,hB⟩:=h.gb
 obtain⟨va,a1,a2⟩:=hA k hk hP.nx
 obtain⟨v,rest,_,_,_,_,_,_,hv,hsv,ixv⟩:=zmt hk
 obtain⟨restk,ixk⟩:=zjv hkn
 have hkl:(kidsOf b j).length<=b.size:=by
  have:=BF (fun c=>decide (par b c=(j:Int))) (List.range b.size)
  simpa[kidsOf]using this
 refine zac (α:=Nat) (fun m=>[(0, .v (J5 kw 0 0)),(3, .int .i64 i),(4, .v (.p (islice (kidsOf a i)))),(5, .v (.p (islice (kidsOf b j)))),(6, .int .i64 n),(7, .int .i64 m)]) (fun _=>⟨[],H⟩)
  (fun m=>m<=(kidsOf b j).length/\Shut a b L k ((kidsOf b j).take m)) (fun m=>(kidsOf b j).length-m) ?_ 0 ⟨AW _,fun d hd=>by simp at hd⟩
 rintro m ⟨hm,hS⟩ R hR
 dsimp only[l_Q39_0]
 by_cases hml:m<(kidsOf b j).length
 ·have hlt:(m:Int)<((kidsOf b j).length:Int):=by omega
  obtain⟨q,hq⟩:∃q,(kidsOf b j)[m]? = some q:=⟨_,Ac hml⟩
  obtain⟨restq,ixq⟩:=zjv hq
  have hqb:=(zck.1 (Ao hq)).1
  obtain⟨w,restw,_,_,_,_,_,_,hw,hsw,ixw⟩:=zmt hqb
  obtain⟨vb,x,b1,b2,b3⟩:=hB q hqb hP.nz
  have htk:(kidsOf b j).take (m+1)=(kidsOf b j).take m++[q]:=by rw[AQ,hq];rfl
  have hnext:=fun(hne:¬(frE L k q=true/\kinT (subT a k) (subT b q)))=>hR (m+1) ⟨by omega,fun d hd=>by
   rw[htk]at hd
   rcases Ar.1 hd with hd|hd
   ·exact hS d hd
   ·simp at hd;subst hd;exact hne⟩ (by omega)
  cases ht:toN L k with
  |some z =>
   rw[ht]at a2
   have a2':loadVal ⟨[],H⟩ none (J5 ka va k)=some (J4 z):=a2
   have hz:¬(z:Int)<0:=by omega
   have hn:=hnext (fun hh=>by have:=hh.1;unfold frE at this;rw[ht]at this;simp at this)
   simp(disch:=omega) [hlb,hupa,hupb,lm,la,ua,ixk,a1,a2',hz,zaa]
   exact hn
  |none =>
   rw[ht]at a2
   have a2':loadVal ⟨[],H⟩ none (J5 ka va k)=some (J4 (-1)):=a2
   have hfr:=zabg (k:=q) ht
   by_cases hx:0<=x
   ·have hx':¬x<0:=by omega
    have hn:=hnext (fun hh=>by have:=hh.1;rw[hfr,b3.1 hx]at this;cases this)
    simp(disch:=omega) [hlb,hupa,hupb,lm,la,ua,lb,ub,ixk,ixq,a1,a2',b1,b2,hx',zaa]
    exact hn
   ·have hx':x<0:=by omega
    have hf:frE L k q=true:=by
     rw[hfr]
     cases hh:(byN L q).isNone with
     |true=>rfl
     |false=>exact absurd (b3.2 hh) hx
    have kin:=fun y1 y2 z1 z2 u1 u2=>zakd v.t.kind w.t.kind v.t.name w.t.name y1 y2 z1 z2 u1 u2 H
    by_cases hkin:kinT v.t w.t
    ·obtain⟨hk1,hk2⟩:=hkin
     have hdec:(decide (v.t.kind=w.t.kind)&&decide (v.t.name=w.t.name))=true:=by simp[hk1,hk2]
     rw[hdec]at kin
     obtain⟨K,q1,q2⟩:=h.add hk hqb
     have hfin:=h2 m q K hq hf (by rw[hsv,hsw];exact⟨hk1,hk2⟩) hS q2
     simp(disch:=omega) [hlb,hupa,hupb,lx,ly,lm,la,ua,lb,ub,ixk,ixq,ixv,ixw,a1,a2',b1,b2,hx',kin,zcl,q1,zaa]
     exact hfin _ _ rfl
    ·have hdec:(decide (v.t.kind=w.t.kind)&&decide (v.t.name=w.t.name))=false:=by
      cases hh:(decide (v.t.kind=w.t.kind)&&decide (v.t.name=w.t.name))with
      |false=>rfl
      |true=>simp at hh;exact absurd hh hkin
     rw[hdec]at kin
     have hn:=hnext (fun hh=>hkin (by have:=hh.2;rw[hsv,hsw]at this;exact this))
     simp(disch:=omega) [hlb,hupa,hupb,lx,ly,lm,la,ua,lb,ub,ixk,ixq,ixv,ixw,a1,a2',b1,b2,hx',kin,zcl,zaa]
     exact hn
 ·obtain rfl:m=(kidsOf b j).length:=by omega
  rw[AT]at hS
  simp(disch:=omega) [hlb]
  exact h1 hS
theorem zake (sa:a.size<=60) (sb:b.size<=60) {L:J1} {H:J2} (h:WM a b L kw k0 ka kb H) (hP:PI a b L) (i j:Nat) (hij:(i,j)∈L) (hKS:KidsShut a b L i) (Q:J0)
 (h1:(∀ c∈kidsOf a i,Shut a b L c (kidsOf b j))->Q .normal [(0, .v (J5 kw 0 0)),(3, .int .i64 i)] ⟨[],H⟩)
 (h2:∀L' K,DS a b L L'->WM a b L' kw k0 ka kb K->PI a b L'->∀E B,lookE E 2 = .bool true->Q .ret E ⟨B,K⟩) :
 wpLoop (CW tr.look) 129 m_Q39_1 l_Q39_1 (blkK 2 b_Q39_2 Q) [(0, .v (J5 kw 0 0)),(3, .int .i64 i),(4, .v (.p (islice (kidsOf a i)))),(5, .v (.p (islice (kidsOf b j)))),(6, .int .i64 0)] ⟨[],H⟩:=by
 have hupa:=zds (kidsOf a i)
 have hupb:=zds (kidsOf b j)
 have hla:=zju (kidsOf a i)
 have hkl:(kidsOf a i).length<=a.size:=by
  have:=BF (fun c=>decide (par a c=(i:Int))) (List.range a.size)
  simpa[kidsOf]using this
 refine zac (α:=Nat) (fun n=>[(0, .v (J5 kw 0 0)),(3, .int .i64 i),(4, .v (.p (islice (kidsOf a i)))),(5, .v (.p (islice (kidsOf b j)))),(6, .int .i64 n)]) (fun _=>⟨[],H⟩)
  (fun n=>n<=(kidsOf a i).length/\∀c∈(kidsOf a i).take n,Shut a b L c (kidsOf b j)) (fun n=>(kidsOf a i).length-n) ?_ 0 ⟨AW _,fun d hd=>by simp at hd⟩
 rintro n ⟨hn,hS⟩ R hR
 dsimp only[l_Q39_1]
 by_cases hnl:n<(kidsOf a i).length
 ·have hlt:(n:Int)<((kidsOf a i).length:Int):=by omega
  obtain⟨k,hk⟩:∃k,(kidsOf a i)[n]? = some k:=⟨_,Ac hnl⟩
  have hka:=(zck.1 (Ao hk)).1
  have htk:(kidsOf a i).take (n+1)=(kidsOf a i).take n++[k]:=by rw[AQ,hk];rfl
  simp(disch:=omega) [hla,hupa,hupb]
  refine zabh sb h hP i j n k hk hka _ (fun g1=>?_) fun m q K g1 g2 g3 g4 g5 E B hE=>?_
  ·have hr:=hR (n+1) ⟨by omega,fun c hc=>by
    rw[htk]at hc
    rcases Ar.1 hc with hc|hc
    ·exact hS c hc
    ·simp at hc;subst hc;exact g1⟩ (by omega)
   simp(disch:=omega) [hupa,hupb,zaa]
   exact hr
  ·have hqb:=(zck.1 (Ao g1)).1
   have hfin:=h2 _ K ⟨i,j,n,k,m,q,hij,hk,g1,g2,g3,rfl,hKS,hS,g4⟩ g5 (hP.add hka hqb g2 g3) E B hE
   simp(disch:=omega) []
   exact hfin
 ·obtain rfl:n=(kidsOf a i).length:=by omega
  rw[AT]at hS
  simp(disch:=omega) [hla]
  exact h1 hS
theorem KidsShut.next {L:J1} {i:Nat} (hn:(L.map (·.1)).Nodup) (h:KidsShut a b L i) (g:∀j,toN L i=some j->∀c∈kidsOf a i,Shut a b L c (kidsOf b j)):KidsShut a b L (i+1):=fun p hp hi c hc=>by
 by_cases e:p.1=i
 ·have:=g p.2 ((zee hn).2 (by rw[<- e];exact hp))
  rw[e]at hc
  exact this c hc
 ·exact h p hp (by omega) c hc
def RDownQ (a b:Tree) (L:J1) (kw k0 ka kb:Nat) (H:J2) (r:IVal) (H':J2):Prop :=
 (r = .p (.bool false)/\H'=H/\KidsShut a b L a.size)\/(r = .p (.bool true)/\∃L',DS a b L L'/\WM a b L' kw k0 ka kb H'/\PI a b L')
theorem zaow (sa:a.size<=60) (sb:b.size<=60) {L:J1} {H:J2} (h:WM a b L kw k0 ka kb H) (hP:PI a b L):∃r H',CW tr.look F_Q39 [J5 kw 0 0] H=some (r,H')/\RDownQ a b L kw k0 ka kb H r H':=by
 have lx:=h.lx
 have ly:=h.ly
 have lm:=h.lm
 obtain⟨av,la,ua,hA⟩:=h.ga
 refine zar look_Q39 rfl rfl ?_
 dsimp only[i_Q39,c_Q39]
 simp(disch:=omega) []
 refine zac (α:=Nat) (fun i=>[(0, .v (J5 kw 0 0)),(3, .int .i64 i)]) (fun _=>⟨[],H⟩)
  (fun i=>i<=a.size/\KidsShut a b L i) (fun i=>a.size-i) ?_ 0 ⟨AW _,fun p _ h=>by omega⟩
 rintro i ⟨hi,hK⟩ R hR
 dsimp only[l_Q39_2]
 by_cases hil:i<a.size
 ·have hlt:(i:Int)<(a.size:Int):=by omega
  obtain⟨va,a1,a2⟩:=hA i hil hP.nx
  cases ht:toN L i with
  |none =>
   rw[ht]at a2
   have a2':loadVal ⟨[],H⟩ none (J5 ka va i)=some (J4 (-1)):=a2
   have hr:=hR (i+1) ⟨by omega,hK.next hP.nx fun j hj=>by rw[ht]at hj;cases hj⟩ (by omega)
   simp(disch:=omega) [lx,lm,la,ua,a1,a2',zaa]
   exact hr
  |some j =>
   rw[ht]at a2
   have a2':loadVal ⟨[],H⟩ none (J5 ka va i)=some (J4 j):=a2
   have hj0:¬(j:Int)<0:=by omega
   have hij:=(zee hP.nx).1 ht
   have hjb:=(hP.ok _ hij).2.1
   have kA:=zadk a sa i hil H
   have kB:=zadk b sb j hjb H
   have hupa:=zds (kidsOf a i)
   have hupb:=zds (kidsOf b j)
   simp(disch:=omega) [lx,ly,lm,la,ua,a1,a2',hj0,kA,kB,hupa,hupb,zcl]
   refine⟨by rintro rfl;simp[idxS]at a1,?_⟩
   refine zake sa sb h hP i j hij hK _ (fun g1=>?_) fun L' K g1 g2 g3 E B hE=>?_
   ·have hr:=hR (i+1) ⟨by omega,hK.next hP.nx fun j' hj'=>by rw[ht]at hj';injection hj' with hj';subst hj';exact g1⟩ (by omega)
    simp(disch:=omega) [zaa]
    exact hr
   ·simp(disch:=omega) [hE]
    exact .inr ⟨rfl,L',g1,g2,g3⟩
 ·obtain rfl:i=a.size:=by omega
  simp(disch:=omega) [lx]
  exact .inl ⟨rfl,rfl,hK⟩
end
theorem zakf {n:Nat} {L M:J1} (hn:(L.map (·.1)).Nodup) (hp:M.Perm L):mapA n L=mapA n M:=by
 have hm:=(hp.map (·.1)).nodup_iff.2 hn
 refine Bp fun i=>?_
 by_cases hi:i<n
 ·rcases zjs L hn i hi with⟨j,h1,h2⟩|⟨h1,h2⟩<;>rcases zjs M hm i hi with⟨j',g1,g2⟩|⟨g1,g2⟩
  ·have:=(zee hn).2 h1
   have:=(zee hn).2 (hp.mem_iff.1 g1)
   simp_all
  ·exact absurd (AG.2 ⟨_,hp.mem_iff.2 h1,rfl⟩) g1
  ·exact absurd (AG.2 ⟨_,hp.mem_iff.1 g1,rfl⟩) h1
  ·rw[h2,g2]
 ·rw[AR (by rw[zfe];omega),AR (by rw[zfe];omega)]
theorem zakg {n:Nat} {L M:J1} (hn:(L.map (·.2)).Nodup) (hp:M.Perm L):mapB n L=mapB n M:=by
 have hm:=(hp.map (·.2)).nodup_iff.2 hn
 have key:∀(l:J1),(l.map (·.2)).Nodup->∀i i' j,(i,j)∈l->(i',j)∈l->i=i':=by
  intro l
  induction l with
  |nil=>intro _ i i' j h;simp at h
  |cons x l ih =>
   intro hnd i i' j h1 h2
   obtain⟨n1,n2⟩:=Bn.1 hnd
   rcases Aj.1 h1 with e1|h1'<;>rcases Aj.1 h2 with e2|h2'
   ·rw[<- e1]at e2;injection e2 with e2;exact e2.symm
   ·subst e1;exact absurd (AG.2 ⟨(i',j),h2',rfl⟩:j∈l.map (·.2)) n1
   ·subst e2;exact absurd (AG.2 ⟨(i,j),h1',rfl⟩:j∈l.map (·.2)) n1
   ·exact ih n2 i i' j h1' h2'
 refine Bp fun i=>?_
 by_cases hi:i<n
 ·rcases zpb L hn i hi with⟨j,h1,h2⟩|⟨h1,h2⟩<;>rcases zpb M hm i hi with⟨j',g1,g2⟩|⟨g1,g2⟩
  ·rw[h2,g2,key L hn j j' i h1 (hp.mem_iff.1 g1)]
  ·exact absurd (AG.2 ⟨_,hp.mem_iff.2 h1,rfl⟩) g1
  ·exact absurd (AG.2 ⟨_,hp.mem_iff.1 g1,rfl⟩) h1
  ·rw[h2,g2]
 ·rw[AR (by rw[zhn];omega),AR (by rw[zhn];omega)]
theorem PI.len {a b:Tree} {L:J1} (h:PI a b L):L.length<=a.size:=by
 have:=zft a.size _ h.nx (fun x hx=>by obtain⟨p,hp,rfl⟩:=AG.1 hx;exact(h.ok p hp).1)
 simpa using this
theorem zyt {a b:Tree} {kw k0 ka kb:Nat} (fa:Fine a) (fb:Fine b) (sa:a.size<=60) (sb:b.size<=60) {P:J1} (hP:PI a b P) (N:List Nat) (hN:∀i∈N,i<a.size) (hNl:N.length<=60) {H1:J2} (hM:WM a b P kw k0 ka kb H1) (Q:J0)
 (hQ:∀K,WM a b (N.foldl (upN a b) P) kw k0 ka kb K->PI a b (N.foldl (upN a b) P)->Q .normal [(5, .v (J5 kw 0 0))] ⟨[],K⟩) :
 wpLoop (CW tr.look) 73 m_Q10_0 l_Q10_0 (blkK 0 b_Q10_0 Q) [(5, .v (J5 kw 0 0)),(6, .v (.p (nval N))),(7, .int .i64 0)] ⟨[],H1⟩:=by
 have hup:up (.p (nval N)) = .v (.p (nval N)):=rfl
 have hln:sliceLen (.p (nval N))=some N.length:=rfl
 refine zac (α:=Nat×J2) (fun s=>[(5, .v (J5 kw 0 0)),(6, .v (.p (nval N))),(7, .int .i64 s.1)]) (fun s=>⟨[],s.2⟩)
  (fun s=>s.1<=N.length/\WM a b ((N.take s.1).foldl (upN a b) P) kw k0 ka kb s.2/\PI a b ((N.take s.1).foldl (upN a b) P)) (fun s=>N.length-s.1) ?_ (0,H1) ⟨AW _,hM,hP⟩
 rintro⟨k,K⟩ ⟨hk,hK,hI⟩ R hR
 dsimp only at hk hK hI hR ⊢
 dsimp only[l_Q10_0]
 by_cases hkl:k<N.length
 ·have hlt:(k:Int)<(N.length:Int):=by omega
  obtain⟨i,hi⟩:∃i,N[k]? = some i:=⟨_,Ac hkl⟩
  obtain⟨rest,ix⟩:=zyh hi
  have htk:(N.take (k+1)).foldl (upN a b) P=upN a b ((N.take k).foldl (upN a b) P) i:=by rw[AQ,hi,BX];rfl
  obtain⟨K',u1,u2,u3⟩:=zbak fa fb hK hI sa sb i (hN i (Ao hi))
  have hn:=hR (k+1,K') ⟨by dsimp only;omega,by dsimp only;rw[htk];exact u2,by dsimp only;rw[htk];exact u3⟩ (by dsimp only;omega)
  simp(disch:=omega) [hln,ix,u1,zaa]
  exact hn
 ·obtain rfl:k=N.length:=by omega
  rw[AT]at hK hI
  simp(disch:=omega) [hln]
  exact hQ K hK hI
theorem zoq {a b:Tree} {kw k0 ka kb:Nat} (sa:a.size<=60) (sb:b.size<=60) (S:J1) {P:J1} (hP:PI a b P) (hS:DSs a b S P) {H1:J2} (hM:WM a b P kw k0 ka kb H1) (Q:J0)
 (hQ:∀L K,WM a b L kw k0 ka kb K->PI a b L->DSs a b S L->KidsShut a b L a.size->Q .normal [(5, .v (J5 kw 0 0))] ⟨[],K⟩) :
 wpLoop (CW tr.look) 73 m_Q10_1 l_Q10_1 (blkK 2 b_Q10_2 Q) [(5, .v (J5 kw 0 0))] ⟨[],H1⟩:=by
 refine zac (α:=J1×J2) (fun s=>[(5, .v (J5 kw 0 0))]) (fun s=>⟨[],s.2⟩)
  (fun s=>WM a b s.1 kw k0 ka kb s.2/\PI a b s.1/\DSs a b S s.1) (fun s=>a.size-s.1.length) ?_ (P,H1) ⟨hM,hP,hS⟩
 rintro⟨L,K⟩ ⟨hK,hI,hD⟩ R hR
 dsimp only at hK hI hD hR ⊢
 dsimp only[l_Q10_1]
 obtain⟨r,K',e1,e2⟩:=zaow sa sb hK hI
 rcases e2 with⟨rfl,rfl,hC⟩|⟨rfl,L',d1,d2,d3⟩
 ·simp(disch:=omega) [e1]
  exact hQ L K' hK hI hD hC
 ·have hlen:L'.length=L.length+1:=by obtain⟨_,_,_,_,_,_,_,_,_,_,_,rfl,_⟩:=d1;simp
  have hle:=d3.len
  have hn:=hR (L',K') ⟨d2,d3,hD.snoc d1⟩ (by dsimp only;omega)
  simp(disch:=omega) [e1]
  exact hn
theorem zaox {a b:Tree} (ca:checkB a=true) (cb:checkB b=true):kinT (subT a 0) (subT b 0):=by
 have oa:=zab a
 have ob:=zab b
 have e1:=(zem ca (i:=0) (by omega)).2 rfl
 have e2:=(zem cb (i:=0) (by omega)).2 rfl
 refine⟨by rw[e1,e2],?_⟩
 rw[zfs,zfs]
 simp only[checkB,Am,decide_eq_true_eq]at ca cb
 rw[ca.1.1.2.1,cb.1.1.2.1]
theorem DSs.mem {a b:Tree} {L M:J1} {p:Nat×Nat} (hp:p∈L) (h:DSs a b L M):p∈M:=by
 induction h with
 |refl=>exact hp
 |snoc _ g ih=>obtain⟨_,_,_,_,_,_,_,_,_,_,_,rfl,_⟩:=g;exact Bb _ ih
theorem zakh (a b:Tree) (fa:Fine a) (fb:Fine b) (ca:checkB a=true) (cb:checkB b=true) (sa:a.size<=60) (sb:b.size<=60) (hal:PI a b (sortP (alikeN a b 2))) :
 ∃pv L,PV pv (sortP L)/\MFX a b L/\∀H,CW tr.look F_Q10 [tagg a,tagg b] H=some (.p pv,H):=by
 have h1:=zqr a fa.1
 have h2:=zqr b fb.1
 rw[ca]at h1
 rw[cb]at h2
 have f1:=zdv a fa
 have f2:=zdv b fb
 have hpo:=znr a fa
 have oa:=zab a
 have ob:=zab b
 have hsp:=zay (alikeN a b 2)
 have nx:=(hsp.map (·.1)).nodup_iff.1 hal.nx
 have nz:=(hsp.map (·.2)).nodup_iff.1 hal.nz
 suffices hh:∃r,CW tr.look F_Q10 [tagg a,tagg b] []=some (r,[])/\∃pv L,r = .p pv/\PV pv (sortP L)/\MFX a b L by
  obtain⟨r,g1,pv,L,rfl,g2,g3⟩:=hh
  exact⟨pv,L,g2,g3,fun H=>zix look_Q10 rfl (by simp) g1⟩
 obtain⟨H1,e1,ka,kb,e2,e3⟩:=zaje a b fa fb 2 []
 rw[zakf nx hsp,zakg nz hsp]at e3
 have hne:=e3
 obtain⟨av0,bv0,hb0,hs1,hs2,ne1,ne2,ne3⟩:=hne
 have l0:=(Aa.1 hb0).1
 have l1:=hs1.lt
 have l2:=hs2.lt
 obtain⟨H2,hH2⟩:∃H2,H1++[.cells [.p (rval a), .p (rval b), J5 0 0 0] 3 0 false]=H2:=⟨_,rfl⟩
 have hW:WM a b (sortP (alikeN a b 2)) H1.length 0 ka kb H2:=by
  have kp:∀x,x<H1.length->H2[x]? = H1[x]? := fun x hx=>by rw[<- hH2,Ab hx]
  refine⟨by rw[<- hH2];exact zaz,⟨av0,bv0,?_,hs1.keep (kp _ l1),hs2.keep (kp _ l2),ne1,ne2,ne3⟩,?_,by omega,by omega⟩
  ·rw[kp 0 l0];exact hb0
  ·have:(0:Nat)<H1.length:=l0
   omega
 refine zdh look_Q10 rfl (zbc (by simp)) rfl ?_
 dsimp only[i_Q10,c_Q10]
 have e1':CW tr.look F_Q35 [tagg a,tagg b, J4 2] []=some (J5 0 0 0,H1):=e1
 simp(disch:=omega) [zae,h1,h2,f1,f2,e1',hpo,hH2]
 refine zyt fa fb sa sb hal (postT a 0) (fun i hi=>zadc hi) (by rw[zal];exact sa) hW _ fun K1 hK1 hI1=>?_
 have hst:startN a b=topN ((postT a 0).foldl (upN a b) (sortP (alikeN a b 2))):=rfl
 generalize (postT a 0).foldl (upN a b) (sortP (alikeN a b 2))=L1 at *
 have lm:=hK1.lm
 obtain⟨av,la,ua,hA⟩:=hK1.ga
 obtain⟨bv,lb,ub,hB⟩:=hK1.gb
 obtain⟨va,a1,a2⟩:=hA 0 (by omega) hI1.nx
 obtain⟨vb,x,b1,b2,b3⟩:=hB 0 (by omega) hI1.nz
 have a1':idxS 1 av (J4 0)=some (J5 ka va 0):=a1
 have b1':idxS 1 bv (J4 0)=some (J5 kb vb 0):=b1
 have hav:¬av = .undef:=by rintro rfl;simp[idxS]at a1
 have fin:∀L K2,WM a b L H1.length 0 ka kb K2->PI a b L->DSs a b (startN a b) L->KidsShut a b L a.size->(0,0)∈L->∃K3 lv,CW tr.look F_Q40 [J5 0 0 0] K2=some (lv,K3)/\up lv = .v lv/\lv.passOK=true/\lv.passOK=true/\∃r,freezeRes K3 lv=some r/\∃pv L,r = .p pv/\PV pv (sortP L)/\MFX a b L:=by
  intro L K2 k1 k2 k3 k4 k0
  obtain⟨K3,lv,p1,p2,p3,⟨pv,p4,p5⟩,_⟩:=zajh k1.m (by rw[zfe];omega)
  rw[zfe,zaja k2.nx (fun p hp=>(k2.ok p hp).1)]at p5
  refine⟨K3,lv,p1,p2,p3,p3, .p pv,?_,pv,L,rfl,p5,k2,k0,k4,k3⟩
  cases lv with
  |tup l=>simp[freezeOne,freezeCell]at p4
  |_=>exact p4
 cases hf:frE L1 0 0 with
 |false =>
  unfold topN at hst
  rw[hf]at hst
  have hst:startN a b=L1:=hst
  have hroot:=ztc ca cb hI1 hf
  have ht:=(zee hI1.nx).2 hroot
  rw[ht]at a2
  have a2':loadVal ⟨[],K1⟩ none (J5 ka va 0)=some (J4 0):=a2
  simp(disch:=omega) [lm,la,ua,a1',a2',hav]
  refine zoq sa sb (startN a b) hI1 (by rw[hst];exact .refl) hK1 _ fun L K2 k1 k2 k3 k4=>?_
  obtain⟨K3,lv,p1,p2,p3,p4⟩:=fin L K2 k1 k2 k3 k4 (DSs.mem (by rw[<- hst]at hroot;exact hroot) k3)
  have lm2:=k1.lm
  simp(disch:=omega) [lm2,p1,p2,p3]
  obtain⟨_,r,z1,pv,L',z2,z3⟩:=p4
  exact⟨r,z1,pv,z2,L',z3⟩
 |true =>
  unfold topN at hst
  rw[hf]at hst
  have hst:startN a b=L1++[(0,0)]:=hst
  have hk0:=zaox ca cb
  have hI2:=hI1.add (by omega) (by omega) hf hk0
  obtain⟨K2,q1,q2⟩:=hK1.add (i:=0) (j:=0) (by omega) (by omega)
  have q1':CW tr.look F_Q38 [J5 0 0 0, J4 0, J4 0] K1=some (.tup [],K2):=q1
  have ht:toN L1 0=none:=by
   unfold frE at hf
   cases h:toN L1 0 with
   |none=>rfl
   |some x=>rw[h]at hf;simp at hf
  rw[ht]at a2
  have a2':loadVal ⟨[],K1⟩ none (J5 ka va 0)=some (J4 (-1)):=a2
  have hx:x<0:=by
   refine Be fun hx=>?_
   have:=b3.1 (by omega)
   rw[zabg ht,this]at hf
   cases hf
  simp(disch:=omega) [lm,la,ua,lb,ub,a1',a2',hav,b1',b2,hx,q1']
  refine zoq sa sb (startN a b) hI2 (by rw[hst];exact .refl) q2 _ fun L K3 k1 k2 k3 k4=>?_
  obtain⟨K4,lv,p1,p2,p3,p4⟩:=fin L K3 k1 k2 k3 k4 (DSs.mem (by rw[hst];simp) k3)
  have lm2:=k1.lm
  simp(disch:=omega) [lm2,p1,p2,p3]
  obtain⟨_,r,z1,pv,L',z2,z3⟩:=p4
  exact⟨r,z1,pv,z2,L',z3⟩
theorem DS.det {a b:Tree} {L L1 L2:J1} (hn:(L.map (·.1)).Nodup) (h:DS a b L L1) (g:DS a b L L2):L1=L2:=by
 obtain⟨i,j,n,k,m,q,h1,h2,h3,h4,h5,rfl,h6,h7,h8⟩:=h
 obtain⟨i',j',n',k',m',q',g1,g2,g3,g4,g5,rfl,g6,g7,g8⟩:=g
 have ei:i=i':=by
  rcases Nat.lt_trichotomy i i' with h|h|h
  ·exact absurd ⟨h4,h5⟩ (g6 _ h1 h k (Ao h2) q (Ao h3))
  ·exact h
  ·exact absurd ⟨g4,g5⟩ (h6 _ g1 h k' (Ao g2) q' (Ao g3))
 subst ei
 have ej:j=j':=by
  have e1:=(zee hn).2 h1
  have e2:=(zee hn).2 g1
  rw[e1]at e2;injection e2
 subst ej
 have take_mem:∀ {l:List Nat} {x y c:Nat},l[x]? = some c->x<y->c∈l.take y:=fun {l x y c} h hl=>by
  refine Ao (i:=x) ?_
  rw[BU hl];exact h
 have en:n=n':=by
  rcases Nat.lt_trichotomy n n' with h|h|h
  ·exact absurd ⟨h4,h5⟩ (g7 k (take_mem h2 h) q (Ao h3))
  ·exact h
  ·exact absurd ⟨g4,g5⟩ (h7 k' (take_mem g2 h) q' (Ao g3))
 subst en
 have ek:k=k':=by rw[h2]at g2;injection g2
 subst ek
 have em:m=m':=by
  rcases Nat.lt_trichotomy m m' with h|h|h
  ·exact absurd ⟨h4,h5⟩ (g8 q (take_mem h3 h))
  ·exact h
  ·exact absurd ⟨g4,g5⟩ (h8 q' (take_mem g3 h))
 subst em
 have eq:q=q':=by rw[h3]at g3;injection g3
 subst eq
 rfl
theorem DS.open {a b:Tree} {L L':J1} (hI:PI a b L) (h:DS a b L L'):¬KidsShut a b L a.size:=fun hK=>by
 obtain⟨i,j,n,k,m,q,h1,h2,h3,h4,h5,_⟩:=h
 exact hK _ h1 (hI.ok _ h1).1 k (Ao h2) q (Ao h3) ⟨h4,h5⟩
theorem DS.len {a b:Tree} {L L':J1} (h:DS a b L L'):L'.length=L.length+1:=by
 obtain⟨_,_,_,_,_,_,_,_,_,_,_,rfl,_⟩:=h;simp
inductive DSf (a b:Tree):J1->J1->Prop
 |refl {L}:DSf a b L L
 |cons {L L1 L2} (h:DS a b L L1) (g:DSf a b L1 L2):DSf a b L L2
theorem DSf.snoc {a b:Tree} {L L1 L2:J1} (h:DSf a b L L1) (g:DS a b L1 L2):DSf a b L L2:=by
 induction h with
 |refl=>exact .cons g .refl
 |cons h _ ih=>exact .cons h (ih g)
theorem DSs.front {a b:Tree} {L M:J1} (h:DSs a b L M):DSf a b L M:=by
 induction h with
 |refl=>exact .refl
 |snoc _ g ih=>exact ih.snoc g
theorem DS.pi {a b:Tree} {L L':J1} (hI:PI a b L) (h:DS a b L L'):PI a b L':=by
 obtain⟨i,j,n,k,m,q,h1,h2,h3,h4,h5,rfl,_⟩:=h
 exact hI.add (zck.1 (Ao h2)).1 (zck.1 (Ao h3)).1 h4 h5
theorem DSf.det {a b:Tree} {S L:J1} (h:DSf a b S L):∀ {M},DSf a b S M->PI a b S->KidsShut a b L a.size->KidsShut a b M a.size->L=M:=by
 induction h with
 |refl =>
  intro M g hI h1 h2
  cases g with
  |refl=>rfl
  |cons g _=>exact absurd h1 (g.open hI)
 |cons h _ ih =>
  intro M g hI h1 h2
  cases g with
  |refl=>exact absurd h2 (h.open hI)
  |cons g g' =>
   have:=DS.det hI.nx h g
   subst this
   exact ih g' (h.pi hI) h1 h2
theorem PI.front {a b:Tree} {S X:J1} (h:PI a b (S++X)):PI a b S:=by
 refine⟨?_,?_,fun p hp=>h.ok p (Bb _ hp)⟩
 ·have:=h.nx;rw[AC]at this;exact(Bc.1 this).1
 ·have:=h.nz;rw[AC]at this;exact(Bc.1 this).1
theorem MFX.one {a b:Tree} {L M:J1} (h:MFX a b L) (g:MFX a b M):L=M:=by
 obtain⟨X,hX⟩:=h.ds.zyo
 have hS:PI a b (startN a b):=by have:=h.pi;rw[hX]at this;exact this.front
 exact h.ds.front.det g.ds.front hS h.shut g.shut
theorem zaki (a b:Tree) (fa:Fine a) (fb:Fine b) (na:StrT a) (nb:StrT b) (ca:checkB a=true) (cb:checkB b=true) (sa:a.size<=60) (sb:b.size<=60):∃pv pw L,PV pv L/\PV pw L/\L.length<=60 /\
 (∀ args H,freezeAll H args=some [tagg a,tagg b]->CW tr.look F_Q9 args H=some (.p pv,H))/\∀H,CW tr.look F_Q10 [tagg a,tagg b] H=some (.p pw,H):=by
 obtain⟨r,h1,pv,L,rfl,h2,h3⟩:=zyn a b fa fb na nb ca cb sa sb (zve _ _)
 obtain⟨pw,M,g1,g2,g3⟩:=zakh a b fa fb ca cb sa sb (zve _ _)
 have e:=h3.one g2
 subst e
 have:=h3.pi.len
 exact⟨pv,pw,_,h2,g1,by rw[(zay L).length_eq];omega,h1,g3⟩
theorem zafs (v:PVal) (L:List Int) (hv:IV v L) (w:PVal) (M:List Int) (hw:IV w M) (H:J2):CW tr.look F_Q4 [.p v, .p w] H=some (.p (.bool true),H):=by
 obtain⟨a,ga,ca,ea⟩:=zabd v L hv
 have gf:GT a 60 7:=⟨by have:=ga.sz;omega,ga.dp,ga.ns⟩
 obtain⟨b,gb,cb',eb⟩:=zyq w M hw a 7 gf (by omega)
 have cb:=cb' ca
 have fa:=gf.fine (by omega)
 have fb:=gb.fine (by omega)
 obtain⟨p1,q1,L1,u1,u2,u3,u4,u5⟩:=zaki a b fa fb (zgy gf.str) (zgy gb.str) ca cb gf.sz gb.sz
 obtain⟨p2,q2,L2,w1,w2,w3,w4,w5⟩:=zaki b a fb fa (zgy gb.str) (zgy gf.str) cb ca gb.sz gf.sz
 have m1:∀K,CW tr.look F_Q9 [tagg a,tagg b] K=some (.p p1,K):=fun K=>u4 _ K (zbc (by simp))
 have m2:∀K,CW tr.look F_Q9 [tagg b,tagg a] K=some (.p p2,K):=fun K=>w4 _ K (zbc (by simp))
 have s1:=zon p1 q1 L1 u1 u2 (by omega)
 have s2:=zon p2 q2 L2 w1 w2 (by omega)
 have hup1:=hv.up
 have hup2:=hw.up
 have y1:=u1.up
 have y2:=u2.up
 have y3:=w1.up
 have y4:=w2.up
 have main:CW tr.look F_Q4 [.p v, .p w] []=some (.p (.bool true),[]):=by
  refine zaj look_Q4 rfl (by simp) rfl ?_
  dsimp only[i_Q4,c_Q4]
  simp(disch:=omega) [zaom,hup1,hup2,zae,ea,eb,m1,m2,u5,w5,s1,s2,y1,y2,y3,y4]
 exact zix look_Q4 rfl (by simp) main
end Go.Ideal
namespace Go.Ideal
open Go Go.ChangeShapes Go.WideShapes Go.RowKit
def isl (o:Option (List Int)):PVal:=slval 1 (fun i:Int=>[.int .i64 i]) o
theorem zaqp (o:Option (List Int)):∃L,IV (isl o) L:=by
 cases o with
 |none=>exact⟨[], .inl ⟨rfl,rfl⟩⟩
 |some l =>
  refine⟨l, .inr ?_⟩
  have:∀l:List Int,(l.flatMap fun i:Int=>[PVal.int .i64 i])=l.map (.int .i64):=by
   intro l
   induction l with
   |nil=>rfl
   |cons x l ih=>rw[AD,ih];rfl
  simp only[isl,slval,this]
section
variable {H:Type} {enc:TypeId×Value->H} {P:Program} {W W':World}
theorem zrm {t u:TypeId} (ht:P.underlying t=some (.slice u)) (hu:P.underlying u=some (.int .i64)) (hc:P.cellsOf u=1) {v:Value} {base:Nat} {d:DataW H} {ps:List MemPlace}
 (hv:Value.okWide P W .any base t v) (h:DataW.Trod enc P W 0 (fun _=>true) true t v d ps):∃o:Option (List Int),Stands W (.p (isl o)) v:=by
 obtain⟨o,ho⟩:=zwv (e:=fun i:{ i:Int // (Lit.int .i64 i).wf=true }=>[.int .i64 i.1]) ht (fun _=>hc.symm) (by omega) (fun n=>zatk hu) hv h
 refine⟨o.map (·.map Subtype.val),?_⟩
 have:isl (o.map (·.map Subtype.val))=slval (P.cellsOf u) (fun i:{ i:Int // (Lit.int .i64 i).wf=true }=>[.int .i64 i.1]) o:=by
  rw[hc]
  cases o with
  |none=>rfl
  |some l =>
   have:∀l:List { i:Int // (Lit.int .i64 i).wf=true },((l.map Subtype.val).flatMap fun i:Int=>[PVal.int .i64 i])=l.flatMap fun i=>[PVal.int .i64 i.1]:=by
    intro l
    induction l with
    |nil=>rfl
    |cons x l ih=>rw[At,AD,ih];rfl
   simp only[isl,AI,slval,A9,this]
 rw[this];exact ho
end
end Go.Ideal
namespace Go.Ideal
open Go Go.Proofs Go.ChangeShapes Go.WideShapes Go.RowKit
theorem laidOut:laidOutB Tryz.prog=true:=by kernel_rfl
theorem own:ownKnob Tryz.prog.godebug=none:=by kernel_rfl
theorem readableIs:Tryz.prog.readableRec 35=true/\35<Tryz.prog.types.size:=⟨by kernel_rfl,of_decide_eq_true (by kernel_rfl)⟩
theorem boolT:Tryz.prog.underlying 4=some .bool:=Tryz.underlying4
theorem intT:Tryz.prog.underlying 3=some (.int .i64):=Tryz.underlying3
theorem intsT:Tryz.prog.underlying 35=some (.slice 3):=by kernel_rfl
theorem intC:Tryz.prog.cellsOf 3=1:=by kernel_rfl
set_option maxRecDepth 100000
section
variable {H:Type} {enc:TypeId×Value->H} {W:World}
end
end Go.Ideal
namespace Go.Ideal
open Go
theorem zabi (o q:Option (List Int)) (H:J2):CW tr.look F_Q4 [.p (isl o), .p (isl q)] H=some (.p (.bool true),H):=by
 obtain⟨L,hL⟩:=zaqp o
 obtain⟨M,hM⟩:=zaqp q
 exact zafs _ L hL _ M hM H
end Go.Ideal
namespace Go.Proofs
open Go.Shelf
def Tryz.zyu:Go.Shelf.Ren:=⟨fun|6=>30|15=>67|14=>66|28=>96|29=>97|20=>88|21=>89|22=>90|23=>91|24=>92|25=>93|26=>94|27=>95|46=>117|47=>118|48=>119|49=>120|50=>121|57=>130|n=>n,fun|22=>26|24=>41|25=>60|3=>3|39=>114|0=>0|53=>145|55=>102|4=>4|46=>139|45=>138|50=>55|5=>5|9=>9|66=>170|70=>82|76=>184|77=>121|n=>n,fun|n=>n⟩
theorem Tryz.sortPair:SlLaysF0.n6 Tryz.prog Tryz.zyu where
 mixed:=by kernel_rfl
 f6:=⟨Tryz.f30.name,by kernel_rfl,Tryz.func30.trans (congrArg some (by kernel_rfl))⟩
 f14:=⟨Tryz.f66.name,by kernel_rfl,Tryz.func66.trans (congrArg some (by kernel_rfl))⟩
 f15:=Tryz.func67.trans (congrArg some (by kernel_rfl))
 f20:=⟨Tryz.f88.name,by kernel_rfl,Tryz.func88.trans (congrArg some (by kernel_rfl))⟩
 f21:=⟨Tryz.f89.name,by kernel_rfl,Tryz.func89.trans (congrArg some (by kernel_rfl))⟩
 f22:=⟨Tryz.f90.name,by kernel_rfl,Tryz.func90.trans (congrArg some (by kernel_rfl))⟩
 f23:=⟨Tryz.f91.name,by kernel_rfl,Tryz.func91.trans (congrArg some (by kernel_rfl))⟩
 f24:=⟨Tryz.f92.name,by kernel_rfl,Tryz.func92.trans (congrArg some (by kernel_rfl))⟩
 f25:=⟨Tryz.f93.name,by kernel_rfl,Tryz.func93.trans (congrArg some (by kernel_rfl))⟩
 f26:=⟨Tryz.f94.name,by kernel_rfl,Tryz.func94.trans (congrArg some (by kernel_rfl))⟩
 f27:=⟨Tryz.f95.name,by kernel_rfl,Tryz.func95.trans (congrArg some (by kernel_rfl))⟩
 f28:=Tryz.func96.trans (congrArg some (by kernel_rfl))
 f29:=Tryz.func97.trans (congrArg some (by kernel_rfl))
 f46:=⟨Tryz.f117.name,by kernel_rfl,Tryz.func117.trans (congrArg some (by kernel_rfl))⟩
 f47:=Tryz.func118.trans (congrArg some (by kernel_rfl))
 f48:=Tryz.func119.trans (congrArg some (by kernel_rfl))
 f49:=⟨Tryz.f120.name,by kernel_rfl,Tryz.func120.trans (congrArg some (by kernel_rfl))⟩
 f50:=⟨Tryz.f121.name,by kernel_rfl,Tryz.func121.trans (congrArg some (by kernel_rfl))⟩
 f57:=⟨Tryz.f130.name,by kernel_rfl,Tryz.func130.trans (congrArg some (by kernel_rfl))⟩
 t0:=Tryz.underlying0
 a0:=Tryz.isAgg0
 z0:=Tryz.sizeOf0
 v0:=Tryz.zeroValue0
 t3:=Tryz.underlying3
 a3:=Tryz.isAgg3
 z3:=Tryz.sizeOf3
 v3:=Tryz.zeroValue3
 t4:=Tryz.underlying4
 a4:=Tryz.isAgg4
 z4:=Tryz.sizeOf4
 v4:=Tryz.zeroValue4
 t5:=Tryz.underlying5
 a5:=Tryz.isAgg5
 z5:=Tryz.sizeOf5
 v5:=Tryz.zeroValue5
 t9:=Tryz.underlying9
 a9:=Tryz.isAgg9
 z9:=Tryz.sizeOf9
 v9:=Tryz.zeroValue9
 t22:=Tryz.underlying26
 a22:=Tryz.isAgg26
 z22:=Tryz.sizeOf26
 v22:=Tryz.zeroValue26
 t25:=Tryz.underlying60
 a25:=Tryz.isAgg60
 z25:=Tryz.sizeOf60
 v25:=Tryz.zeroValue60
 t39:=Tryz.underlying114
 a39:=Tryz.isAgg114
 z39:=Tryz.sizeOf114
 v39:=Tryz.zeroValue114
 t45:=Tryz.underlying138
 a45:=Tryz.isAgg138
 z45:=Tryz.sizeOf138
 v45:=Tryz.zeroValue138
 t46:=Tryz.underlying139
 a46:=Tryz.isAgg139
 z46:=Tryz.sizeOf139
 v46:=Tryz.zeroValue139
 t50:=Tryz.underlying55
 a50:=Tryz.isAgg55
 z50:=Tryz.sizeOf55
 v50:=Tryz.zeroValue55
 t53:=Tryz.underlying145
 a53:=Tryz.isAgg145
 z53:=Tryz.sizeOf145
 v53:=Tryz.zeroValue145
 t55:=Tryz.underlying102
 a55:=Tryz.isAgg102
 z55:=Tryz.sizeOf102
 v55:=Tryz.zeroValue102
 t66:=Tryz.underlying170
 a66:=Tryz.isAgg170
 z66:=Tryz.sizeOf170
 v66:=Tryz.zeroValue170
 t70:=Tryz.underlying82
 a70:=Tryz.isAgg82
 z70:=Tryz.sizeOf82
 v70:=Tryz.zeroValue82
 t76:=Tryz.underlying184
 a76:=Tryz.isAgg184
 z76:=Tryz.sizeOf184
 v76:=Tryz.zeroValue184
 t77:=Tryz.underlying121
 a77:=Tryz.isAgg121
 z77:=Tryz.sizeOf121
 v77:=Tryz.zeroValue121
end Go.Proofs
namespace Go.Ideal
open Go
set_option maxHeartbeats 1000000
theorem Step.growW {c d:Ctx} {w w1:World} (h:Step c w d w1) (os:Array Obj):Step c w d (Sort.grow w1 os):=by
 refine⟨h.ext,⟨fun b o v hz=>?_,fun k cs e v op b q K h1 h2=>?_,fun k es ck b q K h1 h2=>?_,h.rel.inj,h.rel.zdis,h.rel.dom⟩,?_,fun b hb ho=>?_,h.own,h.zz,h.also.trans ⟨rfl,rfl,fun a ha=>Sort.frozen?_grow _ _ _ ha,by simp,rfl,Ak _⟩⟩
 ·have:=h.rel.z b o v hz
  rw[Sort.cell?_grow _ _ _ (zbo this)];exact this
 ·obtain⟨C,T,h3,h4⟩:=h.rel.blk k cs e v op b q K h1 h2
  exact⟨C,T,by rw[Sort.heap_grow_old _ _ (BG.1 h3).1];exact h3,h4⟩
 ·obtain⟨ents,h3,h4⟩:=h.rel.mp k es ck b q K h1 h2
  exact⟨ents,by rw[Sort.heap_grow_old _ _ (BG.1 h3).1];exact h3,h4⟩
 ·have:=h.size;simp;omega
 ·rw[Sort.heap_grow_old _ _ (A6 hb h.size)];exact h.same b hb ho
theorem Step.drewW {c d:Ctx} {w w1:World} (h:Step c w d w1) (n:Nat):Step c w d (w1.drewN n) :=
 ⟨h.ext,⟨h.rel.z,h.rel.blk,h.rel.mp,h.rel.inj,h.rel.zdis,h.rel.dom⟩,h.size,h.same,h.own,h.zz,h.also.trans ⟨rfl,rfl,fun _ _=>rfl,Ak _,rfl,B5 _ _⟩⟩
theorem Step.zauq {c d:Ctx} {w w':World} (h:Step c w d w') (hc:∀b,¬c.Own b):∃q os',w'=Sort.grow (w.drewN q) os':=by
 refine⟨w'.drawn-w.drawn,w'.heap.extract w.heap.size w'.heap.size,?_⟩
 have hd:=h.also.dr
 have ht:=h.also.tp
 have ho:=h.also.os
 have hu:=h.also.out
 have hh:w'.heap=w.heap++w'.heap.extract w.heap.size w'.heap.size:=by
  apply Array.ext_getElem?
  intro i
  rw[Array.getElem?_append]
  split
  ·rename_i hi
   exact h.same i hi (hc i)
  ·rename_i hi
   rw[Array.getElem?_extract]
   have hs:=h.size
   by_cases h2:i<w'.heap.size
   ·rw[if_pos (by omega)];congr 1;omega
   ·rw[if_neg (by omega),Array.getElem?_eq_none (by omega)]
 cases w with
 |mk hp tp dr os out =>
  cases w' with
  |mk hp' tp' dr' os' out' =>
   simp only[Sort.grow,World.drewN]at hd ht ho hu hh ⊢
   simp only[World.mk.injEq]
   exact⟨hh,ht,by omega,ho,hu⟩
section
variable {α:Type} [Inhabited α]
def encV (K:SortKit α) (x:α):List Value:=(K.enc x).map sv
omit [Inhabited α] in
theorem zaoy (K:SortKit α) (x:α):(encV K x).length=K.k:=by simp[encV,K.len]
theorem zadl (K:SortKit α):∀(l:List α) (j:Nat),j<l.length*K.k->(l.flatMap K.enc)[j]? = (K.enc (l[j / K.k]!))[j % K.k]?
 | [],j,h=>by simp at h
 |x::l,j,h=>by
  have hl:=K.len x
  have hk:0<K.k:=by
   rcases BH K.k with h0|h0
   ·rw[h0]at h;simp at h
   ·exact h0
  rw[AD]
  by_cases hj:j<K.k
  ·rw[Ab (by omega),Nat.div_eq_of_lt hj,Nat.mod_eq_of_lt hj]
   rfl
  ·have h1:(j-K.k)<l.length*K.k:=by
    simp only[Ax,A5,CL]at h;omega
   have h2:j / K.k=(j-K.k) / K.k+1:=by
    rw[Nat.div_eq_sub_div hk (by omega)]
   rw[Ae (by omega),hl,zadl K l _ h1,h2,<-Nat.mod_eq_sub_mod (by omega)]
   simp
theorem zyv (K:SortKit α) (d:Array α) (j:Nat) (hj:j<d.size*K.k):∃v,(K.row d)[j]? = some v/\scalP v=true/\(Sort.flatK (encV K) K.k d)[j]! = sv v:=by
 have h1:(K.row d)[j]? = _:=zadl K d.toList j (by simpa using hj)
 have hk:0<K.k:=by
  rcases BH K.k with h0|h0
  ·rw[h0]at hj;simp at hj
  ·exact h0
 have hm:j % K.k<(K.enc (d.toList[j / K.k]!)).length:=by rw[K.len];exact B6 _ hk
 rw[Ac hm]at h1
 refine⟨_,h1,K.scal _ _ (A4 hm),?_⟩
 rw[Sort.get_flatK _ _ _ _ hj]
 have e:d[j / K.k]! = d.toList[j / K.k]! := by
  have hlt:j / K.k<d.size:=by rw[Nat.div_lt_iff_lt_mul hk];exact hj
  rw[getElem!_pos d _ hlt,getElem!_pos d.toList _ (by simpa using hlt)];simp
 rw[e]
 unfold encV
 rw[getElem!_pos _ _ (by simpa using hm),B4]
def emptyC:Ctx:={ M:=⟨[],[]⟩,m:=fun _=>none,z:=fun _ _=>none }
theorem zaft (w:World):WRel emptyC w :=
 ⟨fun _ _ _ h=>(by cases h),fun k cs e v op b q K _ h2=>(by cases h2),fun k es ck b q K _ h2=>(by cases h2),fun k l b q K q' K' _ _ h3 _=>(by cases h3),fun k b q K _ h2=>(by cases h2),fun k x h2=>(by cases h2)⟩
theorem zns {c:Ctx}:∀ {l:List PVal},(∀ v∈l,scalP v=true)->VsRel c (pcells l) (l.map sv)
 | [],_=>by simp[pcells,VsRel]
 |v::l,h=>by
  have hv:=h v (by simp)
  simp only[pcells,At,VsRel]
  exact⟨_,_,rfl,rfl,by simp only[VRel];exact(zahe hv).2 rfl,zns fun x hx=>h x (by simp[hx])⟩
omit [Inhabited α] in
theorem zaoz {P:Program} {C:Oracle} (hC:OracleOK P C) (K:SortKit α) (g:FuncId) (hcmp:∀x y,C g [.agg (pcells (K.enc x)), .agg (pcells (K.enc y))] []=some (J4 (K.cf x y),[])) (w:World) (x y:α) :
 Calls P g (#[.agg (encV K x).toArray, .agg (encV K y).toArray] ++ #[]) w fun e w'=>e = .returned (.int .i64 (K.cf x y))/\∃q os',w'=Sort.grow (w.drewN q) os':=by
 have h:=(hC g _ _ _ _ (hcmp x y)).2 emptyC w [.agg (encV K x).toArray, .agg (encV K y).toArray] rfl (zaft w)
  ⟨_,_,rfl,rfl,⟨_,rfl,zns (K.scal x)⟩,_,_,rfl,rfl,⟨_,rfl,zns (K.scal y)⟩,rfl⟩
 refine Calls.mono h ?_
 rintro e w' ⟨rv,d,rfl,_,hs,_,_,hv⟩
 simp only[VRel,PRel]at hv
 rw[hv]
 exact⟨rfl,hs.zauq fun b ⟨k,q,K,hk⟩=>(by cases hk)⟩
theorem zaur {P:Program} {ρ:Go.Shelf.Ren} (L:Go.Proofs.SlLaysF0.n6 P ρ) (K:SortKit α) (aE:∀w,(isAgg (ρ.t 24)).run P w = .ok true w) (zE:∀w,(Go.sizeOf (ρ.t 24)).run P w = .ok K.k w)
 {C:Oracle} (hC:OracleOK P C) (g:FuncId) (hcmp:∀x y,C g [.agg (pcells (K.enc x)), .agg (pcells (K.enc y))] []=some (J4 (K.cf x y),[])) :
 OracleOK P (noOracle.set (ρ.f 6) (sortSpec K g)):=by
 intro f args H v H' h
 unfold Oracle.set noOracle at h
 split at h
 case h_2=>cases h
 rename_i hf
 have:=Ah hf
 subst this
 obtain⟨body,hbody⟩:∃c,(Go.Proofs.SlBodyF.n6 ρ).body=some c:=⟨_,rfl⟩
 refine⟨L.f6.enters hbody,fun c w l hM hW hl=>?_⟩
 have hrel:SortRel K g args H (v,H'):=by
  unfold sortSpec at h
  split at h
  ·rename_i hx
   injection h with h
   rw[<- h];exact hx.choose_spec
  ·cases h
 have eg:=(hC g _ _ _ _ (hcmp default default)).1
 generalize hr:(v,H')=r at hrel
 cases hrel with
 |nil =>
  injection hr with e1 e2
  subst e1 e2
  simp only[TsRel,VRel,PRel]at hl
  obtain⟨_,_,rfl,_,rfl,_,_,rfl,_,rfl,rfl⟩:=hl
  refine Calls.mono (Go.Proofs.AnyF.slices_SortFunc_none { L with } none 0 _ w) ?_
  rintro e w' ⟨rfl,rfl⟩
  exact⟨_,c,rfl,hM,Step.refl hW,Un.refl c,rfl,by simp only[VRel];exact⟨[],rfl,by simp only[TsRel]⟩⟩
 |empty =>
  injection hr with e1 e2
  subst e1 e2
  simp only[TsRel,VRel,PRel]at hl
  obtain⟨_,_,rfl,_,⟨a,cap,rfl,_⟩,_,_,rfl,_,rfl,rfl⟩:=hl
  refine Calls.mono (Go.Proofs.AnyF.slices_SortFunc_none { L with } (some a) cap _ w) ?_
  rintro e w' ⟨rfl,rfl⟩
  exact⟨_,c,rfl,hM,Step.refl hW,Un.refl c,rfl,by simp only[VRel];exact⟨[],rfl,by simp only[TsRel]⟩⟩
 | @row _ i ver off es cs op d hb hn hm hlen hcs =>
   injection hr with e1 e2
   subst e1 e2
   have hg:c.M.get (.heap i)=some (.cells cs es ver op):=by rw[hM];exact hb
   simp only[TsRel,VRel,PRel]at hl
   obtain⟨_,_,rfl,_,⟨a,cap,rfl,cs1,e1,v1,o1,hg1,_,hat⟩,_,_,rfl,_,rfl,rfl⟩:=hl
   rw[hg]at hg1
   cases hg1
   obtain⟨b,q,KK,hmk,hcap,rfl,hsp,hoff,hKK⟩:=hat rfl
   have hof2:a.off=q+off:=by
    rcases hoff with h0|h0
    ·omega
    ·exact h0
   clear hoff
   obtain⟨ab,ao,asp⟩:=a
   dsimp only at hmk hsp hof2
   subst hsp
   subst hof2
   obtain⟨CC,T,hheap,hq,hlc,hop,hcell⟩:=hW.blk _ cs es ver op ab q KK hg hmk
   have hbl:ab<w.heap.size:=(BG.1 hheap).1
   have hcsj:∀j,j<d.size*K.k->∃x,(K.row d)[j]? = some x/\scalP x=true/\(Sort.flatK (encV K) K.k d)[j]! = sv x/\cs[off+j]? = some (.p x):=by
    intro j hj
    obtain⟨x,h1,h2,h3⟩:=zyv K d j hj
    refine⟨x,h1,h2,h3,?_⟩
    have h4:((cs.drop off).take (d.size*K.k))[j]? = (pcells (K.row d))[j]? := by rw[hcs]
    rw[Bh,if_pos hj,AY,pcells,Ap,h1]at h4
    exact h4
   have hH:Sort.HoldsK (encV K) K.k w ab (q+off) d:=by
    intro j hj
    rw[Sort.size_flatK]at hj
    obtain⟨x,_,h2,h3,h4⟩:=hcsj j hj
    obtain⟨r,g1,_,g3⟩:=hcell _ _ h4
    simp only[VRel]at g3
    rw[(zahe h2).1 g3]at g1
    refine⟨?_,?_⟩
    ·simp only[World.cell?,hheap,id,h3]
     rw[<- g1]
     simp[BM]
    ·simp[World.frozen?,hheap]
   have hsort:=Go.Proofs.AnyQ.slices_SortFunc_eq L K.k aE zE (encV K) (zaoy K) (fun x v hv=>by
    unfold encV at hv
    rw[AG]at hv
    obtain⟨y,_,rfl⟩:=hv
    exact zazx) K.cf K.swo g #[] ab (q+off) cap d w eg (fun m os dk _ x y=>zaoz hC K g hcmp _ x y) hH hbl hm
   refine Calls.mono hsort ?_
   rintro e w' ⟨rfl,n,os,rfl⟩
   have hsize:(K.sort d).size=d.size:=(K.perm d).1.1
   have hrlen:(K.row (K.sort d)).length=d.size*K.k:=by rw[K.zatl,hsize]
   have hstep:=Step.write (w':=Sort.putRowK (encV K) K.k w ab (q+off) (K.sort d)) hW ⟨rfl,rfl,rfl,Ak _⟩ hg hmk (cs':=splice cs off (pcells (K.row (K.sort d)))) (v':=ver) (o':=op) (q':=q) (K':=KK) (.inr ⟨rfl,rfl,rfl⟩)
    (C':=Sort.putCells id (q+off) (Sort.flatK (encV K) K.k (K.sort d)) CC) (T:=T)
    (by simp[Sort.putRowK,Sort.putRow,Sort.mapBlock,Array.getElem?_modify,hheap,Sort.onCells])
    (by simp[Sort.putRowK])
    (fun i hi=>by simp only[Sort.putRowK,Sort.putRow,Sort.mapBlock,Array.getElem?_modify];rw[if_neg (Ne.symm hi)])
    (by simp[Sort.putCells];exact hq) (by simp[splice,pcells];omega) (fun h=>by have:=hop h;simp[splice,pcells];omega)
    (fun dx hx j x hj=>by
     have hj':(splice cs off (pcells (K.row (K.sort d))))[j]? = some x:=hj
     have hpl:(pcells (K.row (K.sort d))).length=d.size*K.k:=by simp[pcells,hrlen]
     unfold splice at hj'
     by_cases h1:j<off
     ·rw[Ab (by simp;omega),Bh,if_pos h1]at hj'
      obtain⟨r,g1,g2,g3⟩:=hcell j x hj'
      refine⟨r,?_,g2,g3.ext hx⟩
      simp only[Sort.putCells,C2,g1,AI]
      rw[if_neg (by omega)]
     ·rw[Ae (by simp;omega),A1,BI (by omega)]at hj'
      by_cases h2:j-off<d.size*K.k
      ·rw[Ab (by omega)]at hj'
       obtain⟨y,g1,g2,g3⟩:=zyv K (K.sort d) (j-off) (by rw[hsize];exact h2)
       rw[pcells,Ap,g1]at hj'
       cases hj'
       have hjc:j<cs.length:=by omega
       have hqj:q+j<CC.size:=by omega
       refine⟨sv y,?_,rfl,by simp only[VRel];exact(zahe g2).2 rfl⟩
       simp only[Sort.putCells,C2,By hqj,AI]
       rw[if_pos (by rw[Sort.size_flatK,hsize];omega),show q+j-(q+off)=j-off by omega,g3]
       rfl
      ·rw[Ae (by omega),AY]at hj'
       have he:off+(pcells (K.row (K.sort d))).length+(j-off-(pcells (K.row (K.sort d))).length)=j:=by omega
       rw[he]at hj'
       obtain⟨r,g1,g2,g3⟩:=hcell j x hj'
       refine⟨r,?_,g2,g3.ext hx⟩
       simp only[Sort.putCells,C2,g1,AI]
       rw[if_neg (by rw[Sort.size_flatK,hsize];omega)])
   refine⟨_,_,rfl,?_,(hstep.drewW n).growW os,Un.upd hmk,rfl,by simp only[VRel];exact⟨[],rfl,by simp only[TsRel]⟩⟩
   simp only[Ctx.upd,hM,Mem.put]
end
end Go.Ideal
namespace Go.Ideal
open Go Go.Proofs
set_option maxHeartbeats 1000000
set_option maxRecDepth 100000
section
variable [B:Base]
theorem zadm (a:Int) (H:J2):CW tr.look F_Q68 [J4 a] H=some (.p (.bool false),H):=by
 refine zaj look_Q68 rfl (by simp) rfl ?_
 dsimp only[i_Q68,c_Q68]
 simp(disch:=omega) []
theorem zrn (a b:Int) (H:J2):CW tr.look F_Q32 [J4 a, J4 b] H=some (J4 (cmpI a b),H):=by
 have n1:=zadm a
 have n2:=zadm b
 refine zaj look_Q32 rfl (by simp) rfl ?_
 dsimp only[i_Q32,c_Q32]
 unfold cmpI
 by_cases h1:a<b
 ·simp(disch:=omega) [h1,n1,n2]
 ·by_cases h2:b<a
  ·simp(disch:=omega) [h1,h2,n1,n2]
  ·simp(disch:=omega) [h1,h2,n1,n2]
theorem zafu (x y:Int×Int) (H:J2):CW tr.look F_Q59 [.agg (pcells (pairEnc x)), .agg (pcells (pairEnc y))] H=some (J4 (cmpI x.1 y.1),H):=by
 have h:=zrn x.1 y.1
 refine zaj look_Q59 rfl (by simp[pairEnc,pcells,plainArgs,plainArg,cellsPlain]) rfl ?_
 dsimp only[i_Q59,c_Q59]
 simp(disch:=omega) [pairEnc,pcells,h]
theorem zabj (x y:Int×Int) (H:J2):CW tr.look F_Q87 [.agg (pcells (pairEnc x)), .agg (pcells (pairEnc y))] H=some (J4 (cmpI x.1 y.1),H):=by
 have h:=zrn x.1 y.1
 refine zaj look_Q87 rfl (by simp[pairEnc,pcells,plainArgs,plainArg,cellsPlain]) rfl ?_
 dsimp only[i_Q87,c_Q87]
 simp(disch:=omega) [pairEnc,pcells,h]
theorem zabk (x y:Int×Int) (H:J2):CW tr.look F_Q31 [.agg (pcells (pairEnc x)), .agg (pcells (pairEnc y))] H=some (J4 (cmpI x.1 y.1),H):=by
 have h:=zrn x.1 y.1
 refine zaj look_Q31 rfl (by simp[pairEnc,pcells,plainArgs,plainArg,cellsPlain]) rfl ?_
 dsimp only[i_Q31,c_Q31]
 simp(disch:=omega) [pairEnc,pcells,h]
end
@[reducible] def noBase:Base:=Base.of noOracle
theorem zakj (P:Program) : @BaseOK noBase P := @BaseOK.mk noBase P zzi fun _ _ _ h f a H v H' e=>(h f a H (v,H') e).elim
theorem zapa {g:FuncId} (hg:∀x y:Int×Int,@CW noBase tr.look g [.agg (pcells (pairEnc x)), .agg (pcells (pairEnc y))] []=some (J4 (cmpI x.1 y.1),[])):OracleOK Tryz.prog (noOracle.set F_Q30 (sortSpec pairKit g)) :=
 zaur Go.Proofs.Tryz.sortPair pairKit Go.Proofs.Tryz.isAgg41 Go.Proofs.Tryz.sizeOf41 (CW_ok (B:=noBase) tr_mixed tr_prog (zakj _)) g hg
theorem zapb (l:List FuncId) (hl:∀g∈l,∀x y:Int×Int,@CW noBase tr.look g [.agg (pcells (pairEnc x)), .agg (pcells (pairEnc y))] []=some (J4 (cmpI x.1 y.1),[])):OracleOK Tryz.prog (noOracle.set F_Q30 (sortAny l)):=by
 induction l with
 |nil =>
  intro f args H v H' h
  unfold Oracle.set noOracle at h
  split at h<;>simp[sortAny]at h
 |cons g l ih =>
  intro f args H v H' h
  have h1:=zapa (hl g (by simp)) f args H v H'
  have h2:=ih (fun g hg=>hl g (An _ hg)) f args H v H'
  unfold Oracle.set noOracle at h h1 h2
  split at h
  ·rename_i hf
   simp only[sortAny]at h
   split at h
   ·rename_i x hx
    injection h with h
    exact h1 (by simp only[hf,hx,h])
   ·exact h2 (by simp only[hf];exact h)
  ·cases h
theorem zaus:BaseOK Tryz.prog where
 b:=zapb _ fun g hg x y=>by
  simp only[Aj,B3,or_false]at hg
  rcases hg with rfl|rfl|rfl
  ·exact zafu (B:=noBase) x y []
  ·exact zabj (B:=noBase) x y []
  ·exact zabk (B:=noBase) x y []
 m C hC D hD f args H v H' e:=by
   obtain⟨rfl,h⟩:=hD f args H (v,H') e
   exact zwx tr_mixed hC ok_Q9 h
end Go.Ideal
namespace Go.Proofs.YtjlnpggbekondaaGreat.matchTurned
open Go.Ideal Go.ChangeShapes Go.WideShapes Go.ChangeAt Go.RowKit
set_option maxRecDepth 100000 in
theorem lifted (os:Os) (started:os.Started) (H:Type) (enc:TypeId×Value→H) :
 ReturnsInHanded {} Tryz.checked os 4 .any (Rows.matchTurnedSpec.pre6 enc Tryz.prog Tryz.f4 Rows.matchTurnedRow.domain false) (Rows.matchTurnedSpec.post enc Tryz.prog Tryz.f4 false true false false):=by
 refine returnsInHanded_of_change (C:=Tryz.checked) own started (by kernel_rfl) Tryz.func4
  (ChangeSpec.witness6 (enc:=enc) (C:=Tryz.checked) false ⟨#[],#[.slice none 0 0, .slice none 0 0],[]⟩ 4 (by kernel_rfl) (by kernel_rfl) (by kernel_rfl) (by kernel_rfl)) ?_
 intro W base args ds gs before hval0 hW hcnd _
 have hval:∀(j:Nat) t v,Tryz.f4.params[j]? = some t→args[j]? = some v→Value.okWide Tryz.prog W .any base t v:=hval0
 have hW':=hW
 obtain⟨p,q,hA0,hV,rfl,hfz,hnd⟩:=hW
 have hA:DataW.TrodAll enc Tryz.prog W 0 (fun _=>true) true Tryz.f4.params.toList args.toList ds p:=hA0
 have hA1:=hA
 rw[Tryz.params4]at hA hval
 obtain⟨v0,vs0,d0,ds0,p0,q0,hargs,rfl,rfl,h0,r0⟩:=trodAll_cons hA
 obtain⟨v1,vs1,d1,ds1,p1,q1,rfl,rfl,rfl,h1,r1⟩:=trodAll_cons r0
 obtain⟨rfl,rfl,rfl⟩:=trodAll_nil r1
 obtain rfl:args = #[v0,v1]:=by cases args;simp_all
 obtain⟨rfl,rfl⟩:=trodVars_none hV
 obtain⟨a,s0⟩:=zrm intsT intT intC (hval 0 _ v0 rfl rfl) h0
 obtain⟨b,s1⟩:=zrm intsT intT intC (hval 1 _ v1 rfl rfl) h1
 have hlt:=fun x hx=>hW'.lt x hx
 clear hA0 hval0
 simp only[List.append_nil]at hW' hlt
 refine(zagz tr_mixed tr_prog zaus (zabi a b []) (rs:=[v0,v1]) ⟨_,_,rfl,s0.1,s0.2,_,_,rfl,s1.1,s1.2,rfl⟩).mono fun e W' ⟨he,hg⟩=>?_
 subst he
 refine⟨_,rfl,ztz (pa:=p0++(p1++[])) (pv:=[]) hW' (fun _ _ _=>(trodAll_cons_mk (shut_bool boolT _) trodAll_mk0)) (fun sp hsp=>?_) (fun _ _=>rfl) (by simp)
  (hg.frame _) hg.2.1 (ok_one (by kernel_rfl) rfl (okWide_bool_mk boolT _))⟩
 exact zlx laidOut (fun t ht=>by rw[Tryz.params4]at ht;simp at ht;subst ht;exact readableIs) hA1 (fun x hx=>zaeb hg (by simpa using hlt x (by simpa using hx))) (fun x hx=>hsp x (by simpa using hx))
theorem over:Rows.matchTurnedRow.holds Tryz.pinned (OpenSpec.ofChange Rows.matchTurnedSpec) :=
 OpenClaim.holds_of_wide 4 Tryz.f4 rfl rfl rfl rfl rfl rfl rfl ⟨rfl,rfl,rfl,rfl,rfl⟩ rfl rfl rfl rfl rfl (by kernel_rfl) Tryz.func4 (by kernel_rfl)
  (of_decide_eq_true (by kernel_rfl)) (by unfold Func.isWrapper;first|(rw[if_pos (by decide +kernel)];kernel_rfl)|(rw[if_neg (by decide +kernel)];exact⟨rfl,rfl⟩))
  (fun os started H enc _=>lifted os started H enc)
theorem proved:Rows.MatchTurnedSaid :=
 over
#print axioms proved
end Go.Proofs.YtjlnpggbekondaaGreat.matchTurned
