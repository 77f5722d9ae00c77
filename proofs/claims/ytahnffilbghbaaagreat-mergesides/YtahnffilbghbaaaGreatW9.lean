/- MergeSides returns true for every input and leaves its arguments as they are; no condition. -/
import Derived.Test.YtahnffilbghbaaaGreatW5
import Derived.Test.YtahnffilbghbaaaGreatW8
import Derived.Test.YtahnffilbghbaaaGreatW6
import Derived.Test.YtahnffilbghbaaaGreatW2
import Derived.Test.YtahnffilbghbaaaGreatW4
import Derived.Test.YtahnffilbghbaaaGreatW3
import Derived.Test.YtahnffilbghbaaaGreatRows
import Derived.WalkKit
import Derived.ProofKit
import Derived.OpenShut
/-
  WHAT THE LIBRARY's SORT AND THE MATCH SAY, RECKONED; ALL CALLS OF THIS SEAT, RECKONED.
-/
namespace Go.Ideal
open Go
set_option maxHeartbeats 4000000
set_option maxRecDepth 20000
attribute [-simp] getElem?_pos
noncomputable def rdPairs (n:Nat) (cs:List IVal):Option (List (Nat×Nat)) :=
 Nat.rec (motive:=fun _=>List IVal→Option (List (Nat×Nat))) (fun _=>some []) (fun _ ih cs=>match cs with
  | .p (.int .i64 (.ofNat a)) :: .p (.int .i64 (.ofNat b))::r=>match ih r with
    |some l=>some ((a,b)::l)
    |none=>none
  |_=>none) n cs
theorem zxn:∀(n:Nat) (cs:List IVal) (L:List (Nat×Nat)),rdPairs n cs=some L→L.length=n∧n*2≤cs.length∧cs.take (n*2)=pcells (prc L)
 |0,cs,L,h=>by injection h with h;subst h;simp[prc,pcells]
 |n+1,cs,L,h=>by
  unfold rdPairs at h
  dsimp only at h
  split at h
  ·rename_i a b r
   change (match rdPairs n r with|some l=>some ((a,b)::l)|none=>none)=some L at h
   split at h
   ·rename_i l hl
    injection h with h
    subst h
    obtain⟨h1,h2,h3⟩:=zxn n r l hl
    refine⟨by simp[h1],by simp;omega,?_⟩
    rw[show(n+1)*2=n*2+1+1 by omega,List.take_succ_cons,List.take_succ_cons,h3]
    simp[prc,pcells]
   ·cases h
  ·cases h
noncomputable def memN (a:Nat) (l:List (Nat×Nat)):Bool:=List.rec (motive:=fun _=>Bool) false (fun p _ ih=>Bool.rec ih true (Nat.beq p.1 a)) l
noncomputable def nodupN (l:List (Nat×Nat)):Bool:=List.rec (motive:=fun _=>Bool) true (fun p t ih=>Bool.rec ih false (memN p.1 t)) l
theorem zahj (a:Nat):∀l,memN a l=false→a∉l.map (·.1)
 | [],_,h=>by simp at h
 |p::l,e,h=>by
  have e:(Bool.rec (memN a l) true (Nat.beq p.1 a):Bool)=false:=e
  cases hb:Nat.beq p.1 a with
  |true=>rw[hb]at e;cases e
  |false =>
   rw[hb]at e
   rcases List.mem_cons.1 h with rfl|h
   ·rw[Nat.beq_refl]at hb;cases hb
   ·exact zahj a l e h
theorem zuv:∀l,nodupN l=true→(l.map (·.1)).Nodup
 | [],_=>by simp
 |p::l,e=>by
  have e:(Bool.rec (nodupN l) false (memN p.1 l):Bool)=true:=e
  cases hb:memN p.1 l with
  |true=>rw[hb]at e;cases e
  |false =>
   rw[hb]at e
   rw[List.map_cons,List.nodup_cons]
   exact⟨zahj _ _ hb,zuv l e⟩
noncomputable def fcells (l:List (Nat×Nat)):List IVal:=List.rec (motive:=fun _=>List IVal) [] (fun p _ ih=>Prod.rec (fun a b=>.p (.int .i64 (.ofNat a)) :: .p (.int .i64 (.ofNat b))::ih) p) l
theorem zade:∀l,fcells l=pcells (prc l)
 | []=>rfl
 |(a,b)::l=>by
  show IVal.p (.int .i64 (.ofNat a)) :: .p (.int .i64 (.ofNat b))::fcells l=_
  rw[zade l]
  rfl
noncomputable def insN (p:Nat×Nat) (l:List (Nat×Nat)):List (Nat×Nat):=List.rec (motive:=fun _=>List (Nat×Nat)) [p] (fun q t ih=>Bool.rec (q::ih) (p::q::t) (Nat.ble p.1 q.1)) l
noncomputable def sortN (l:List (Nat×Nat)):List (Nat×Nat):=List.rec (motive:=fun _=>List (Nat×Nat)) [] (fun p _ ih=>insN p ih) l
theorem zuw (p:Nat×Nat):∀l,(insN p l).Perm (p::l)
 | []=>List.Perm.refl _
 |q::t=>by
  show(Bool.rec (q::insN p t) (p::q::t) (Nat.ble p.1 q.1):List (Nat×Nat)).Perm _
  cases Nat.ble p.1 q.1 with
  |true=>exact List.Perm.refl _
  |false=>exact((zuw p t).cons q).trans (List.Perm.swap _ _ _)
theorem zux (p:Nat×Nat):∀l:List (Nat×Nat),(l.Pairwise fun p q=>p.1≤q.1)→(insN p l).Pairwise fun p q=>p.1≤q.1
 | [],_=>by show[p].Pairwise _;simp
 |q::t,h=>by
  show(Bool.rec (q::insN p t) (p::q::t) (Nat.ble p.1 q.1):List (Nat×Nat)).Pairwise _
  rw[List.pairwise_cons]at h
  cases hb:Nat.ble p.1 q.1 with
  |true =>
   have hle:=Nat.le_of_ble_eq_true hb
   refine List.pairwise_cons.2 ⟨fun x hx=>?_,List.pairwise_cons.2 h⟩
   rcases List.mem_cons.1 hx with rfl|hx
   ·exact hle
   ·exact Nat.le_trans hle (h.1 x hx)
  |false =>
   have hle:q.1≤p.1:=by
    rcases Nat.lt_or_ge q.1 p.1 with h'|h'
    ·omega
    ·rw[Nat.ble_eq_true_of_le h']at hb;cases hb
   refine List.pairwise_cons.2 ⟨fun x hx=>?_,zux p t h.2⟩
   rcases List.mem_cons.1 ((zuw p t).mem_iff.1 hx)with rfl|hx
   ·exact hle
   ·exact h.1 x hx
theorem zxo:∀l,(sortN l).Perm l
 | []=>List.Perm.refl _
 |p::l=>(zuw p (sortN l)).trans ((zxo l).cons p)
theorem zqm:∀l,(sortN l).Pairwise fun p q=>p.1≤q.1
 | []=>List.Pairwise.nil
 |p::l=>zux p _ (zqm l)
theorem zahk {l:List (Nat×Nat)} (h:(l.map (·.1)).Nodup):sortN l=sortP l:=ziz h (zxo l) (zqm l)
noncomputable def isCmp (g:Nat):Bool:=Bool.rec (Bool.rec (Nat.beq g F_Q77) true (Nat.beq g F_Q59)) true (Nat.beq g F_Q101)
theorem zapv {g:Nat} (h:isCmp g=true):g∈[F_Q101,F_Q59,F_Q77]:=by
 unfold isCmp at h
 cases h1:Nat.beq g F_Q101 with
 |true=>simp[Nat.eq_of_beq_eq_true h1]
 |false =>
  rw[h1]at h
  cases h2:Nat.beq g F_Q59 with
  |true=>simp[Nat.eq_of_beq_eq_true h2]
  |false =>
   rw[h2]at h
   simp[Nat.eq_of_beq_eq_true h]
noncomputable def sortE (args:List IVal) (H:List IBlk):Option (IVal×List IBlk) :=
 match args with
 | [v, .p (.func g)]=>match isCmp g with
   |true=>match v with
    | .p .nilslice=>some (.tup [],H)
    | .slice k ver off n=>match Nat.beq off 0,lget H k with
      |true,some (.cells cs e w op)=>match Nat.beq ver w&&Nat.beq e 2,rdPairs n cs with
       |true,some L=>match nodupN L&&(Nat.ble (n+1) 1000000&&!(Nat.beq n 0))with
        |true=>lall (gsplice cs 0 (fcells (sortN L))) fun cs'=>lall (lset H k (.cells cs' 2 w op)) fun H'=>some (.tup [],H')
        |false=>none
       |_,_=>none
      |_,_=>none
    |_=>none
   |false=>none
 |_=>none
theorem zapw {args:List IVal} {H:List IBlk} {r:IVal×List IBlk} (h:sortE args H=some r):CW tr.look F_Q58 args H=some r:=by
 unfold sortE at h
 split at h
 ·rename_i v g
  split at h
  ·rename_i hg
   have hg:=zapv hg
   split at h
   ·injection h with h
    subst h
    exact zoh none_Q58 (zja hg (zpx _ _ _))
   ·rename_i k ver off n
    split at h
    ·rename_i cs e w op h1 h2
     split at h
     ·rename_i L h3 h4
      split at h
      ·rename_i h5
       rw[zat,zat,zeo,zade,zaek]at h
       injection h with h
       subst h
       rw[zdv]at h2
       have ho:=Nat.eq_of_beq_eq_true h1
       rw[Bool.and_eq_true]at h3
       have hv:=Nat.eq_of_beq_eq_true h3.1
       have he:=Nat.eq_of_beq_eq_true h3.2
       subst ho hv he
       rw[Bool.and_eq_true,Bool.and_eq_true]at h5
       have hn:=zuv L h5.1
       rw[zahk hn]
       have hlt:=Nat.le_of_ble_eq_true h5.2.1
       have h0:n≠0:=fun e=>by rw[e]at h5;simp at h5
       obtain⟨g1,g2,g3⟩:=zxn n cs L h4
       have hsz:(L.map toI).toArray.size=L.length:=by simp
       have hs:=zpy pairKit g (H:=H) (i:=k) (ver:=ver) (off:=0) (L.map toI).toArray h2 (by omega) (by omega) (by rw[hsz];show 0+L.length*2≤_;omega) (by
        rw[hsz,zyr,List.drop_zero,g1];exact g3)
       rw[hsz,zqa hn,zyr,g1]at hs
       exact zoh none_Q58 (zja hg hs)
      ·cases h
     ·cases h
    ·cases h
   ·cases h
  ·cases h
 ·cases h
end Go.Ideal

/-
  THE MATCH, RECKONED; ALL CALLS OF THIS SEAT, RECKONED.
-/
namespace Go.Ideal
open Go
set_option maxHeartbeats 4000000
set_option maxRecDepth 20000
attribute [-simp] getElem?_pos
noncomputable def rdEnts (es:List Ent) (n:Nat):Option (List (Nat×Nat)) :=
 List.rec (motive:=fun _=>Nat→Option (List (Nat×Nat))) (fun _=>some []) (fun e _ ih n=>match e with
  |(.p (.int .i64 (.ofNat a)), .p (.int .i64 (.ofNat b)),s)=>match Nat.beq s n with
   |true=>match ih (n+1)with
    |some l=>some ((a,b)::l)
    |none=>none
   |false=>none
  |_=>none) es n
theorem zadf:∀(es:List Ent) (n:Nat) (L:List (Nat×Nat)),rdEnts es n=some L→es=ME0 n (toE L)
 | [],n,L,h=>by injection h with h;subst h;rfl
 |e::es,n,L,h=>by
  unfold rdEnts at h
  dsimp only at h
  split at h
  ·rename_i a b s
   split at h
   ·rename_i hs
    have hs:=Nat.eq_of_beq_eq_true hs
    subst hs
    change (match rdEnts es (s+1)with|some l=>some ((a,b)::l)|none=>none)=some L at h
    split at h
    ·rename_i l hl
     injection h with h
     subst h
     rw[zadf es (s+1) l hl]
     rfl
    ·cases h
   ·cases h
  ·cases h
noncomputable def matchE (C:Oracle) (L:Nat) (args:List IVal) (H:List IBlk):Option (IVal×List IBlk) :=
 match freezeAll H args with
 |none=>none
 |some az=>match Nat.beq (llen az) 2 with
  |false=>none
  |true=>match hrun C L (zle az) ⟨[],[]⟩with
   |some (.normal,[.map 0, .p .nilslice],M)=>match lget M.heap 0 with
    |some (.map es ck)=>match rdEnts es 0 with
     |some l=>match(nodupN l&&Nat.beq ck (llen es))&&(Nat.ble (llen l+1) 1000000&&!(Nat.beq (llen l) 0))with
      |true=>some (.p (.slice 2 (llen l) (prc (sortN l))),H)
      |false=>none
     |none=>none
    |_=>none
   |_=>none
theorem zamm (l:List (Nat×Nat)):(toE l).length=l.length:=by simp[toE]
theorem zamn {C:Oracle} (hC:C.Le (CW tr.look)) {L:Nat} {args:List IVal} {H:List IBlk} {r:IVal×List IBlk} (h:matchE C L args H=some r):CW tr.look F_Q49 args H=some r:=by
 unfold matchE at h
 split at h
 ·cases h
 ·rename_i az haz
  split at h
  ·cases h
  ·rename_i hlen
   rw[zar]at hlen
   have hlen:=Nat.eq_of_beq_eq_true hlen
   split at h
   ·rename_i M hrun0
    split at h
    ·rename_i es ck hmap
     split at h
     ·rename_i l hl
      split at h
      ·rename_i hchk
       injection h with h
       subst h
       rw[zdv]at hmap
       simp only[zar,Bool.and_eq_true]at hchk
       have hn:=zuv l hchk.1.1
       have hck:=Nat.eq_of_beq_eq_true hchk.1.2
       have hlt:=Nat.le_of_ble_eq_true hchk.2.1
       have h0:l≠[]:=fun e=>by rw[e]at hchk;simp at hchk
       have hes:=zadf es 0 l hl
       have hek:es.length=l.length:=by rw[hes,zarl,zamm]
       rw[zar,zahk hn]
       rw[zqs]at hrun0
       obtain⟨T,q1,q2,v1,w1,e1,q3,v2,w2,e2,q4,e3⟩:=zapu (R:=i_Q49) hlen (by decide) rfl hrun0
       injection e1 with a1 a2
       subst a1 a2
       injection e2 with a1 a2
       subst a1 a2
       have hW:=zap hC (zwj (n:=L)) q1
       refine zasd none_Q49 ⟨rfl,rfl,az,haz,hlen, .normal,_,hW,0,es,ck,?_,hmap,?_,fun n σ hσ=>?_⟩
       ·show T.getD 127 .undef=_
        rw[List.getD_eq_getElem?_getD,q3];rfl
       ·rw[hes,hck,hek,←zamm l]
        exact zyv (toE l)
       ·have hmem:∀e∈σ,∃p:Nat×Nat,∃s,e=(vI p.1,vI p.2,s):=fun e he=>by
         have he:=hσ.mem_iff.1 he
         rw[hes]at he
         obtain⟨p,_,s,hs⟩:=zagq l 0 e he
         exact⟨p,s,hs⟩
        have hmapp:(σ.map entP).Perm l:=by
         have:=hσ.map entP
         rw[hes,zagr]at this
         exact this
        have hsl:σ.length=l.length:=by rw[hσ.length_eq,hek]
        have hrel:RelE 143 [(128, .v (.opq n)),(16, .v (.p .nilslice))] (T.set 128 (.opq n)):=by
         refine⟨by rw[List.length_set];exact q2,fun i=>?_⟩
         rw[zsi,zwm,zwm,zaka]
         by_cases h1:128=i
         ·subst h1
          rw[if_pos rfl,if_pos ⟨rfl,by rw[q2];decide⟩]
          exact .inr rfl
         ·have h3:¬(128=i∧128<T.length):=fun x=>h1 x.1
          rw[if_neg h1,if_neg h3]
          by_cases h2:16=i
          ·subst h2
           rw[if_pos rfl,List.getD_eq_getElem?_getD,q4]
           exact .inr rfl
          ·rw[if_neg h2]
           exact .inl rfl
        have hrm:RelM ⟨[],M.heap⟩ M:=⟨fun s b hb=>(by cases hb),rfl⟩
        refine zwo (F:=i_Q49) (by decide) (by decide) (zace n (.map es ck) _ σ [] (.p .nilslice) none M.heap _ [] hmem (by simp only[List.length_nil,hsl];omega) rfl rfl hmap ⟨rfl,rfl,rfl⟩ (by simp) fun K' lv' o' g1 g2=>?_) hrel hrm
        rw[List.nil_append]at g2
        have hnd:((σ.map entP).map (·.1)).Nodup:=(hmapp.map _).nodup_iff.2 hn
        obtain⟨K2,p1,p2⟩:=zavh (g:=F_Q77) (by simp) lv' o' _ hnd (by rw[hmapp.length_eq];omega) K' g2
        have hun:sortP (σ.map entP)=sortP l:=by
         symm
         refine ziz hnd ((zgh l).trans hmapp.symm) (zpz l)
        have hlen2:(sortP l).length=l.length:=(zgh l).length_eq
        have hne:sortP l≠[]:=fun e=>h0 (List.length_eq_zero_iff.1 (by rw[← hlen2,e];rfl))
        rw[hun,hmapp.length_eq,←hlen2]at p2
        exact⟨K2,p1,by rw[← hlen2];exact zacf p2 hne,zaeu p2⟩
      ·cases h
     ·cases h
    ·cases h
   ·cases h
noncomputable def dorc (L:Nat) (C:Oracle):Oracle:=fun f args H =>
 Bool.rec (Bool.rec (Bool.rec none (insSpec args H) (Nat.beq f F_Q166)) (sortE args H) (Nat.beq f F_Q58)) (matchE C L args H) (Nat.beq f F_Q49)
theorem zavt (L:Nat) (C:Oracle) (hC:C.Le (CW tr.look)):(dorc L C).Le (CW tr.look):=fun f args H r e=>by
 unfold dorc at e
 cases h1:Nat.beq f F_Q49 with
 |true =>
  rw[h1]at e
  rw[Nat.eq_of_beq_eq_true h1]
  exact zamn hC e
 |false =>
  rw[h1]at e
  cases h2:Nat.beq f F_Q58 with
  |true =>
   rw[h2]at e
   rw[Nat.eq_of_beq_eq_true h2]
   exact zapw e
  |false =>
   rw[h2]at e
   cases h3:Nat.beq f F_Q166 with
   |true =>
    rw[h3]at e
    rw[Nat.eq_of_beq_eq_true h3]
    exact zoh none_Q166 (zaox e)
   |false=>rw[h3]at e;cases e
noncomputable def call0 (n:Nat):Oracle:=hcall ht.look (dorc 1000000) 1000000 n
theorem zapx (n:Nat):(call0 n).Le (CW tr.look):=zahi (fun _ _ e=>HTr.zgy ht_ok e) (zavt 1000000) n
end Go.Ideal

/-
  MERGE: THE FIRST SENTENCE OF EACH LAW, RECKONED.
-/
namespace Go.Ideal
open Go
set_option maxRecDepth 1000000
theorem awake0:call0 60 F_Q5 [] []=some (.p (.bool true),[]):=by kernel_rfl
end Go.Ideal

namespace Go.Ideal
open Go
set_option maxHeartbeats 4000000
set_option maxRecDepth 20000
attribute [-simp] getElem?_pos
theorem zapy (H:List IBlk):CW tr.look F_Q5 [] H=some (.p (.bool true),H):=by
 have h:=zapx 60 _ _ _ _ awake0
 exact zyx (al:=[]) look_Q5 rfl rfl rfl rfl h
theorem no_ok (G:List IBlk) (x z:Int):CW tr.look F_Q14 [.p (.int .i64 x), .p (.int .i64 z)] G=some (.p (.bool false),G):=by
 refine zfv look_Q14 rfl (by simp) rfl ?_
 dsimp only[i_Q14,c_Q14]
 simp(disch:=omega) []
theorem zapz {p0 p1:PVal} {L0 L1:List Int} (h0:IV p0 L0) (h1:IV p1 L1) (i0:∀x∈L0, -9223372036854775808≤x∧x<9223372036854775808) (i1:∀x∈L1, -9223372036854775808≤x∧x<9223372036854775808) (H:List IBlk) :
 CW tr.look F_Q4 [.p p0, .p p1] H=some (.p (.bool true),H):=by
 have s0:=zth L0
 have s1:=zth L1
 have b1:=fun x=>zra L1 (min L1.length 14) x
 have sX:small ((onceL L0).filter fun x=>decide (0≤x)):=zbk s0 _
 have eX:((onceL L0).filter fun x=>decide (0≤x)).map far1=(onceL L0).filter fun x=>decide (0≤x):=zapr fun x hx=>by simpa using(List.mem_filter.1 hx).2
 have sY':small ((onceL L1).map far1):=⟨by rw[List.length_map];exact s1.1,fun x hx=>by
  obtain⟨y,hy,rfl⟩:=List.mem_map.1 hx
  have:=b1 y hy
  unfold far1
  split<;>omega⟩
 refine zfv look_Q4 rfl (by simp) rfl ?_
 dsimp only[i_Q4,c_Q4]
 have u0:=h0.up
 have u1:=h1.up
 obtain⟨q0,g0,e0⟩:=zalu h0 i0 []
 obtain⟨px,gx,ex⟩:=zbbf g0 s0 []
 obtain⟨py,gy,ey⟩:=zalu h1 i1 []
 generalize (onceL L0).filter (fun x=>decide (0≤x))=X at gx sX eX
 generalize onceL L1=Y at gy s1 sY'
 have uq:=g0.up
 have ux:=gx.up
 have uy:=gy.up
 have hR:∀G:List IBlk,Dec2 G.length G (.p (.func F_Q14)) (fun _ _=>false):=fun G=>⟨F_Q14,[], .inr ⟨rfl,rfl⟩,fun G' _ _ x z _ _=>no_ok G' x z⟩
 obtain⟨v1,G1,a1,a2,a3,a4⟩:=zagu gx gy gx sX s1 sX (by rw[eX];exact sX) (hR [])
 rw[eX,sideA]at a1 a2
 obtain⟨v2,G2,c1,c2,c3,c4⟩:=zagu gx gx gy sX sX s1 sY' (hR G1)
 rw[sideB]at c1 c2
 obtain⟨v3,G3,d1,d2,d3,d4⟩:=zavk gy s1 G2
 simp only[Option.isSome_some,Option.getD_some]at a1 a2 c1 c2
 have a2':=a2.keep c4
 have v1u:=a2.up
 have v1n:=a2.ne
 have v1p:=a2.pass
 have v2u:=c2.up
 have v2n:=c2.ne
 have v2p:=c2.pass
 have v3u:=d2.up
 have v3n:=d2.ne
 have v3p:=d2.pass
 simp(disch:=omega) [u0,u1,uq,ux,uy,e0,ex,ey,a1,c1,d1,v1u,v2u,v3u]
 refine zaly G2.length Y s1 py v1 v2 v3 true true G3 _ v1u v2u (fun G k1 k2=>?_) Y.length 0 G3 (by omega) (by unfold WL;simpa using d2) fun _ _=>rfl
 have kG:∀y,y<G2.length→G[y]? = G2[y]? := fun y hy=>by rw[k2 y hy,d4 y hy]
 have f1:=zalv (a2'.keep kG) gy s1 s1
 have f2:=zalw (c2.keep kG) k1 sY' sY'
 have f3:=zapy G
 simp only[decide_true]at f1 f2
 simp(disch:=omega) [v1p,v2p,v3p,f1,f2,f3]
end Go.Ideal

/-
  IDEAL SEMANTICS: THE ARGUMENTS OF A CALL FROM OUTSIDE: slices of numbers.
-/
namespace Go.Ideal
open Go Go.ChangeShapes Go.WideShapes Go.RowKit
set_option linter.unusedSectionVars false
variable [Tabs]
def isl (o:Option (List Int)):PVal:=slval 1 (fun i:Int=>[.int .i64 i]) o
section
variable {H:Type} {enc:TypeId×Value→H} {P:Program} {W W':World}
end
end Go.Ideal

/-
  SEAT MERGE's LISTS: WHAT THE ENTRY OF A LAW NEEDS.
-/
namespace Go.Ideal
open Go Go.Proofs Go.ChangeShapes Go.WideShapes Go.RowKit
theorem laidOut:laidOutB Tryz.prog=true:=by kernel_rfl
theorem own:ownKnob Tryz.prog.godebug=none:=by kernel_rfl
theorem readableIs:Tryz.prog.readableRec 22=true∧22<Tryz.prog.types.size:=⟨by kernel_rfl,of_decide_eq_true (by kernel_rfl)⟩
theorem boolT:Tryz.prog.underlying 4=some .bool:=Tryz.underlying4
theorem intT:Tryz.prog.underlying 3=some (.int .i64):=Tryz.underlying3
theorem intsT:Tryz.prog.underlying 22=some (.slice 3):=by kernel_rfl
theorem intC:Tryz.prog.cellsOf 3=1:=by kernel_rfl
theorem tz0 (z:Cells):TabZ z:=fun _ _ h=>by cases h
theorem wf_i64 {a:Int} (h:(Lit.int .i64 a).wf=true) : -9223372036854775808≤a∧a<9223372036854775808:=by
 simp[Lit.wf,IntKind.min,IntKind.max,IntKind.signed,IntKind.bits]at h
 omega
theorem zamo (o:Option (List Int)):IV (isl o) (o.getD []):=by
 cases o with
 |none=>exact .inl ⟨rfl,rfl⟩
 |some l =>
  refine .inr ?_
  have:∀l:List Int,(l.flatMap fun i:Int=>[PVal.int .i64 i])=l.map (.int .i64):=by
   intro l
   induction l with
   |nil=>rfl
   |cons x l ih=>rw[List.flatMap_cons,ih];rfl
  simp only[isl,slval,this,Option.getD_some]
section
variable {H:Type} {enc:TypeId×Value→H} {P:Program} {W W':World}
theorem zqn {t u:TypeId} (ht:P.underlying t=some (.slice u)) (hu:P.underlying u=some (.int .i64)) (hc:P.cellsOf u=1) {v:Value} {base:Nat} {d:DataW H} {ps:List MemPlace}
 (hv:Value.okWide P W .any base t v) (h:DataW.Trod enc P W 0 (fun _=>true) true t v d ps):∃o:Option (List Int),(∀ x∈o.getD [], -9223372036854775808≤x∧x<9223372036854775808)∧Stands W (.p (isl o)) v:=by
 obtain⟨o,ho⟩:=zabo (e:=fun i:{ i:Int // (Lit.int .i64 i).wf=true }=>[.int .i64 i.1]) ht (fun _=>hc.symm) (by omega) (fun n=>zaut hu) hv h
 refine⟨o.map (·.map Subtype.val),fun x hx=>?_,?_⟩
 ·cases o with
  |none=>simp at hx
  |some l =>
   obtain⟨y,_,rfl⟩:=List.mem_map.1 (show x∈l.map Subtype.val from hx)
   exact wf_i64 y.2
 have:isl (o.map (·.map Subtype.val))=slval (P.cellsOf u) (fun i:{ i:Int // (Lit.int .i64 i).wf=true }=>[.int .i64 i.1]) o:=by
  rw[hc]
  cases o with
  |none=>rfl
  |some l =>
   have:∀l:List { i:Int // (Lit.int .i64 i).wf=true },((l.map Subtype.val).flatMap fun i:Int=>[PVal.int .i64 i])=l.flatMap fun i=>[PVal.int .i64 i.1]:=by
    intro l
    induction l with
    |nil=>rfl
    |cons x l ih=>rw[List.map_cons,List.flatMap_cons,ih];rfl
   simp only[isl,Option.map_some,slval,List.length_map,this]
 rw[this];exact ho
end
theorem zamp (a:Option (List Int)) (wa:∀x∈a.getD [], -9223372036854775808≤x∧x<9223372036854775808) (b:Option (List Int)) (wb:∀x∈b.getD [], -9223372036854775808≤x∧x<9223372036854775808) (H:List IBlk):CW tr.look F_Q4 [.p (isl a), .p (isl b)] H=some (.p (.bool true),H) :=
 zapz (zamo a) (zamo b) wa wb H
end Go.Ideal

/- MergeSides returns true for every input and leaves its arguments as they are; no condition. -/
namespace Go.Proofs.YtahnffilbghbaaaGreat.mergeSides
open Go.Ideal Go.ChangeShapes Go.WideShapes Go.ChangeAt Go.RowKit
set_option maxRecDepth 100000 in
theorem lifted (os:Os) (started:os.Started) (H:Type) (enc:TypeId×Value→H) :
 ReturnsInHanded {} Tryz.checked os 4 .any (Rows.mergeSidesSpec.pre6 enc Tryz.prog Tryz.f4 Rows.mergeSidesRow.domain false) (Rows.mergeSidesSpec.post enc Tryz.prog Tryz.f4 false true false false):=by
 refine returnsInHanded_of_change (C:=Tryz.checked) own started (by kernel_rfl) Tryz.func4
  (ChangeSpec.witness6 (enc:=enc) (C:=Tryz.checked) false ⟨#[],#[.slice none 0 0, .slice none 0 0],[]⟩ 4 (by kernel_rfl) (by kernel_rfl) (by kernel_rfl) (by kernel_rfl)) ?_
 intro W base args ds gs before hval0 hW hcnd _
 have hval:∀(j:Nat) t v,Tryz.f4.params[j]? = some t→args[j]? = some v→Value.okWide Tryz.prog W .any base t v:=hval0
 have hW':=hW
 obtain⟨p,q,hA0,hV,rfl,hfz,hnd⟩:=hW
 have hA:DataW.TrodAll enc Tryz.prog W 0 (fun _=>true) true Tryz.f4.params.toList args.toList ds p:=hA0
 have hA1:=hA
 rw[Tryz.params4]at hA hval
 obtain⟨v0,vs0,d0,ds0,p0,q0,hargs,rfl,rfl,h0,r0⟩:=trodAll_cons hA
 obtain⟨v1,vs1,d1,ds1,p1,q1,rfl,rfl,rfl,h1,r1⟩:=trodAll_cons r0
 obtain⟨rfl,rfl,rfl⟩:=trodAll_nil r1
 obtain rfl:args = #[v0,v1]:=by cases args;simp_all
 obtain⟨rfl,rfl⟩:=trodVars_none hV
 obtain⟨a,w0,s0⟩:=zqn intsT intT intC (hval 0 _ v0 rfl rfl) h0
 obtain⟨b,w1,s1⟩:=zqn intsT intT intC (hval 1 _ v1 rfl rfl) h1
 have hlt:=fun x hx=>hW'.lt x hx
 clear hA0 hval0
 simp only[List.append_nil]at hW' hlt
 refine(zake tr_mixed tr_prog zave (zamp a w0 b w1 []) (tz0 _) (rs:=[v0,v1]) ⟨_,_,rfl,s0.1,s0.2 (tz0 _),_,_,rfl,s1.1,s1.2 (tz0 _),rfl⟩).mono fun e W' ⟨he,hg⟩=>?_
 subst he
 refine⟨_,rfl,zyj (pa:=p0++(p1++[])) (pv:=[]) hW' (fun _ _ _=>(trodAll_cons_mk (shut_bool boolT _) trodAll_mk0)) (fun sp hsp=>?_) (fun _ _=>rfl) (by simp)
  (hg.frame _) hg.2.1 (ok_one (by kernel_rfl) rfl (okWide_bool_mk boolT _))⟩
 exact zna laidOut (fun t ht=>by rw[Tryz.params4]at ht;simp at ht;subst ht;exact readableIs) hA1 (fun x hx=>zaib hg (by simpa using hlt x (by simpa using hx))) (fun x hx=>hsp x (by simpa using hx))
theorem over:Rows.mergeSidesRow.holds Tryz.pinned (OpenSpec.ofChange Rows.mergeSidesSpec) :=
 OpenClaim.holds_of_wide 4 Tryz.f4 rfl rfl rfl rfl rfl rfl rfl ⟨rfl,rfl,rfl,rfl,rfl⟩ rfl rfl rfl rfl rfl (by kernel_rfl) Tryz.func4 (by kernel_rfl)
  (of_decide_eq_true (by kernel_rfl)) (by unfold Func.isWrapper;first|(rw[if_pos (by decide +kernel)];kernel_rfl)|(rw[if_neg (by decide +kernel)];exact⟨rfl,rfl⟩))
  (fun os started H enc _=>lifted os started H enc)
theorem proved:Rows.MergeSidesSaid :=
 over
#print axioms proved
end Go.Proofs.YtahnffilbghbaaaGreat.mergeSides
