/-
  WHAT THE LIBRARY's SORT AND THE MATCH SAY, RECKONED; ALL CALLS OF THIS SEAT, RECKONED.
-/
import Derived.Test.YtcicccnimohlaaaGreatW4
import Derived.Test.YtcicccnimohlaaaGreatW6
namespace Go.Ideal
open Go
set_option maxHeartbeats 4000000
set_option maxRecDepth 20000
attribute [-simp] getElem?_pos
noncomputable def rdPairs (n:Nat) (cs:List IVal):Option (List (Nat×Nat)) :=
 Nat.rec (motive:=fun _=>List IVal→Option (List (Nat×Nat))) (fun _=>some []) (fun _ ih cs=>match cs with
  | .p (.int .i64 (.ofNat a)) :: .p (.int .i64 (.ofNat b))::r=>match ih r with
    |some l=>some ((a,b)::l)
    |none=>none
  |_=>none) n cs
theorem zaaw:∀(n:Nat) (cs:List IVal) (L:List (Nat×Nat)),rdPairs n cs=some L→L.length=n∧n*2≤cs.length∧cs.take (n*2)=pcells (prc L)
 |0,cs,L,h=>by injection h with h;subst h;simp[prc,pcells]
 |n+1,cs,L,h=>by
  unfold rdPairs at h
  dsimp only at h
  split at h
  ·rename_i a b r
   change (match rdPairs n r with|some l=>some ((a,b)::l)|none=>none)=some L at h
   split at h
   ·rename_i l hl
    injection h with h
    subst h
    obtain⟨h1,h2,h3⟩:=zaaw n r l hl
    refine⟨by simp[h1],by simp;omega,?_⟩
    rw[show(n+1)*2=n*2+1+1 by omega,List.take_succ_cons,List.take_succ_cons,h3]
    simp[prc,pcells]
   ·cases h
  ·cases h
noncomputable def memN (a:Nat) (l:List (Nat×Nat)):Bool:=List.rec (motive:=fun _=>Bool) false (fun p _ ih=>Bool.rec ih true (Nat.beq p.1 a)) l
noncomputable def nodupN (l:List (Nat×Nat)):Bool:=List.rec (motive:=fun _=>Bool) true (fun p t ih=>Bool.rec ih false (memN p.1 t)) l
theorem zakm (a:Nat):∀l,memN a l=false→a∉l.map (·.1)
 | [],_,h=>by simp at h
 |p::l,e,h=>by
  have e:(Bool.rec (memN a l) true (Nat.beq p.1 a):Bool)=false:=e
  cases hb:Nat.beq p.1 a with
  |true=>rw[hb]at e;cases e
  |false =>
   rw[hb]at e
   rcases List.mem_cons.1 h with rfl|h
   ·rw[Nat.beq_refl]at hb;cases hb
   ·exact zakm a l e h
theorem zvw:∀l,nodupN l=true→(l.map (·.1)).Nodup
 | [],_=>by simp
 |p::l,e=>by
  have e:(Bool.rec (nodupN l) false (memN p.1 l):Bool)=true:=e
  cases hb:memN p.1 l with
  |true=>rw[hb]at e;cases e
  |false =>
   rw[hb]at e
   rw[List.map_cons,List.nodup_cons]
   exact⟨zakm _ _ hb,zvw l e⟩
noncomputable def fcells (l:List (Nat×Nat)):List IVal:=List.rec (motive:=fun _=>List IVal) [] (fun p _ ih=>Prod.rec (fun a b=>.p (.int .i64 (.ofNat a)) :: .p (.int .i64 (.ofNat b))::ih) p) l
theorem zage:∀l,fcells l=pcells (prc l)
 | []=>rfl
 |(a,b)::l=>by
  show IVal.p (.int .i64 (.ofNat a)) :: .p (.int .i64 (.ofNat b))::fcells l=_
  rw[zage l]
  rfl
noncomputable def insN (p:Nat×Nat) (l:List (Nat×Nat)):List (Nat×Nat):=List.rec (motive:=fun _=>List (Nat×Nat)) [p] (fun q t ih=>Bool.rec (q::ih) (p::q::t) (Nat.ble p.1 q.1)) l
noncomputable def sortN (l:List (Nat×Nat)):List (Nat×Nat):=List.rec (motive:=fun _=>List (Nat×Nat)) [] (fun p _ ih=>insN p ih) l
theorem zvx (p:Nat×Nat):∀l,(insN p l).Perm (p::l)
 | []=>List.Perm.refl _
 |q::t=>by
  show(Bool.rec (q::insN p t) (p::q::t) (Nat.ble p.1 q.1):List (Nat×Nat)).Perm _
  cases Nat.ble p.1 q.1 with
  |true=>exact List.Perm.refl _
  |false=>exact((zvx p t).cons q).trans (List.Perm.swap _ _ _)
theorem zvy (p:Nat×Nat):∀l:List (Nat×Nat),(l.Pairwise fun p q=>p.1≤q.1)→(insN p l).Pairwise fun p q=>p.1≤q.1
 | [],_=>by show[p].Pairwise _;simp
 |q::t,h=>by
  show(Bool.rec (q::insN p t) (p::q::t) (Nat.ble p.1 q.1):List (Nat×Nat)).Pairwise _
  rw[List.pairwise_cons]at h
  cases hb:Nat.ble p.1 q.1 with
  |true =>
   have hle:=Nat.le_of_ble_eq_true hb
   refine List.pairwise_cons.2 ⟨fun x hx=>?_,List.pairwise_cons.2 h⟩
   rcases List.mem_cons.1 hx with rfl|hx
   ·exact hle
   ·exact Nat.le_trans hle (h.1 x hx)
  |false =>
   have hle:q.1≤p.1:=by
    rcases Nat.lt_or_ge q.1 p.1 with h'|h'
    ·omega
    ·rw[Nat.ble_eq_true_of_le h']at hb;cases hb
   refine List.pairwise_cons.2 ⟨fun x hx=>?_,zvy p t h.2⟩
   rcases List.mem_cons.1 ((zvx p t).mem_iff.1 hx)with rfl|hx
   ·exact hle
   ·exact h.1 x hx
theorem zaax:∀l,(sortN l).Perm l
 | []=>List.Perm.refl _
 |p::l=>(zvx p (sortN l)).trans ((zaax l).cons p)
theorem zro:∀l,(sortN l).Pairwise fun p q=>p.1≤q.1
 | []=>List.Pairwise.nil
 |p::l=>zvy p _ (zro l)
theorem zakn {l:List (Nat×Nat)} (h:(l.map (·.1)).Nodup):sortN l=sortP l:=zjl h (zaax l) (zro l)
noncomputable def isCmp (g:Nat):Bool:=Bool.rec (Bool.rec (Nat.beq g F_Q32) true (Nat.beq g F_Q83)) true (Nat.beq g F_Q55)
theorem zars {g:Nat} (h:isCmp g=true):g∈[F_Q55,F_Q83,F_Q32]:=by
 unfold isCmp at h
 cases h1:Nat.beq g F_Q55 with
 |true=>simp[Nat.eq_of_beq_eq_true h1]
 |false =>
  rw[h1]at h
  cases h2:Nat.beq g F_Q83 with
  |true=>simp[Nat.eq_of_beq_eq_true h2]
  |false =>
   rw[h2]at h
   simp[Nat.eq_of_beq_eq_true h]
noncomputable def sortE (args:List IVal) (H:List IBlk):Option (IVal×List IBlk) :=
 match args with
 | [v, .p (.func g)]=>match isCmp g with
   |true=>match v with
    | .p .nilslice=>some (.tup [],H)
    | .slice k ver off n=>match Nat.beq off 0,lget H k with
      |true,some (.cells cs e w op)=>match Nat.beq ver w&&Nat.beq e 2,rdPairs n cs with
       |true,some L=>match nodupN L&&(Nat.ble (n+1) 1000000&&!(Nat.beq n 0))with
        |true=>lall (gsplice cs 0 (fcells (sortN L))) fun cs'=>lall (lset H k (.cells cs' 2 w op)) fun H'=>some (.tup [],H')
        |false=>none
       |_,_=>none
      |_,_=>none
    |_=>none
   |false=>none
 |_=>none
theorem zart {args:List IVal} {H:List IBlk} {r:IVal×List IBlk} (h:sortE args H=some r):CW tr.look F_Q31 args H=some r:=by
 unfold sortE at h
 split at h
 ·rename_i v g
  split at h
  ·rename_i hg
   have hg:=zars hg
   split at h
   ·injection h with h
    subst h
    exact zoz none_Q31 (zjm hg (zqw _ _ _))
   ·rename_i k ver off n
    split at h
    ·rename_i cs e w op h1 h2
     split at h
     ·rename_i L h3 h4
      split at h
      ·rename_i h5
       rw[zar,zar,zeo,zage,zahx]at h
       injection h with h
       subst h
       rw[zdq]at h2
       have ho:=Nat.eq_of_beq_eq_true h1
       rw[Bool.and_eq_true]at h3
       have hv:=Nat.eq_of_beq_eq_true h3.1
       have he:=Nat.eq_of_beq_eq_true h3.2
       subst ho hv he
       rw[Bool.and_eq_true,Bool.and_eq_true]at h5
       have hn:=zvw L h5.1
       rw[zakn hn]
       have hlt:=Nat.le_of_ble_eq_true h5.2.1
       have h0:n≠0:=fun e=>by rw[e]at h5;simp at h5
       obtain⟨g1,g2,g3⟩:=zaaw n cs L h4
       have hsz:(L.map toI).toArray.size=L.length:=by simp
       have hs:=zqx pairKit g (H:=H) (i:=k) (ver:=ver) (off:=0) (L.map toI).toArray h2 (by omega) (by omega) (by rw[hsz];show 0+L.length*2≤_;omega) (by
        rw[hsz,zabx,List.drop_zero,g1];exact g3)
       rw[hsz,zqz hn,zabx,g1]at hs
       exact zoz none_Q31 (zjm hg hs)
      ·cases h
     ·cases h
    ·cases h
   ·cases h
  ·cases h
 ·cases h
end Go.Ideal

/-
  THE MATCH, RECKONED; ALL CALLS OF THIS SEAT, RECKONED.
-/
namespace Go.Ideal
open Go
set_option maxHeartbeats 4000000
set_option maxRecDepth 20000
attribute [-simp] getElem?_pos
noncomputable def rdEnts (es:List Ent) (n:Nat):Option (List (Nat×Nat)) :=
 List.rec (motive:=fun _=>Nat→Option (List (Nat×Nat))) (fun _=>some []) (fun e _ ih n=>match e with
  |(.p (.int .i64 (.ofNat a)), .p (.int .i64 (.ofNat b)),s)=>match Nat.beq s n with
   |true=>match ih (n+1)with
    |some l=>some ((a,b)::l)
    |none=>none
   |false=>none
  |_=>none) es n
theorem zagf:∀(es:List Ent) (n:Nat) (L:List (Nat×Nat)),rdEnts es n=some L→es=ME0 n (toE L)
 | [],n,L,h=>by injection h with h;subst h;rfl
 |e::es,n,L,h=>by
  unfold rdEnts at h
  dsimp only at h
  split at h
  ·rename_i a b s
   split at h
   ·rename_i hs
    have hs:=Nat.eq_of_beq_eq_true hs
    subst hs
    change (match rdEnts es (s+1)with|some l=>some ((a,b)::l)|none=>none)=some L at h
    split at h
    ·rename_i l hl
     injection h with h
     subst h
     rw[zagf es (s+1) l hl]
     rfl
    ·cases h
   ·cases h
  ·cases h
noncomputable def matchE (C:Oracle) (L:Nat) (args:List IVal) (H:List IBlk):Option (IVal×List IBlk) :=
 match freezeAll H args with
 |none=>none
 |some az=>match Nat.beq (llen az) 2 with
  |false=>none
  |true=>match hrun C L (zlk az) ⟨[],[]⟩with
   |some (.normal,[.map 0, .p .nilslice],M)=>match lget M.heap 0 with
    |some (.map es ck)=>match rdEnts es 0 with
     |some l=>match(nodupN l&&Nat.beq ck (llen es))&&(Nat.ble (llen l+1) 1000000&&!(Nat.beq (llen l) 0))with
      |true=>some (.p (.slice 2 (llen l) (prc (sortN l))),H)
      |false=>none
     |none=>none
    |_=>none
   |_=>none
theorem zaoj (l:List (Nat×Nat)):(toE l).length=l.length:=by simp[toE]
theorem zaok {C:Oracle} (hC:C.Le (CW tr.look)) {L:Nat} {args:List IVal} {H:List IBlk} {r:IVal×List IBlk} (h:matchE C L args H=some r):CW tr.look F_Q12 args H=some r:=by
 unfold matchE at h
 split at h
 ·cases h
 ·rename_i az haz
  split at h
  ·cases h
  ·rename_i hlen
   rw[zaq]at hlen
   have hlen:=Nat.eq_of_beq_eq_true hlen
   split at h
   ·rename_i M hrun0
    split at h
    ·rename_i es ck hmap
     split at h
     ·rename_i l hl
      split at h
      ·rename_i hchk
       injection h with h
       subst h
       rw[zdq]at hmap
       simp only[zaq,Bool.and_eq_true]at hchk
       have hn:=zvw l hchk.1.1
       have hck:=Nat.eq_of_beq_eq_true hchk.1.2
       have hlt:=Nat.le_of_ble_eq_true hchk.2.1
       have h0:l≠[]:=fun e=>by rw[e]at hchk;simp at hchk
       have hes:=zagf es 0 l hl
       have hek:es.length=l.length:=by rw[hes,zati,zaoj]
       rw[zaq,zakn hn]
       rw[zrs]at hrun0
       obtain⟨T,q1,q2,v1,w1,e1,q3,v2,w2,e2,q4,e3⟩:=zarr (R:=i_Q12) hlen (by decide) rfl hrun0
       injection e1 with a1 a2
       subst a1 a2
       injection e2 with a1 a2
       subst a1 a2
       have hW:=zam hC (zzt (n:=L)) q1
       refine zatw none_Q12 ⟨rfl,rfl,az,haz,hlen, .normal,_,hW,0,es,ck,?_,hmap,?_,fun n σ hσ=>?_⟩
       ·show T.getD 127 .undef=_
        rw[List.getD_eq_getElem?_getD,q3];rfl
       ·rw[hes,hck,hek,←zaoj l]
        exact zaca (toE l)
       ·have hmem:∀e∈σ,∃p:Nat×Nat,∃s,e=(vI p.1,vI p.2,s):=fun e he=>by
         have he:=hσ.mem_iff.1 he
         rw[hes]at he
         obtain⟨p,_,s,hs⟩:=zaka l 0 e he
         exact⟨p,s,hs⟩
        have hmapp:(σ.map entP).Perm l:=by
         have:=hσ.map entP
         rw[hes,zakb]at this
         exact this
        have hsl:σ.length=l.length:=by rw[hσ.length_eq,hek]
        have hrel:RelE 143 [(128, .v (.opq n)),(16, .v (.p .nilslice))] (T.set 128 (.opq n)):=by
         refine⟨by rw[List.length_set];exact q2,fun i=>?_⟩
         rw[zto,zzx,zzx,zamt]
         by_cases h1:128=i
         ·subst h1
          rw[if_pos rfl,if_pos ⟨rfl,by rw[q2];decide⟩]
          exact .inr rfl
         ·have h3:¬(128=i∧128<T.length):=fun x=>h1 x.1
          rw[if_neg h1,if_neg h3]
          by_cases h2:16=i
          ·subst h2
           rw[if_pos rfl,List.getD_eq_getElem?_getD,q4]
           exact .inr rfl
          ·rw[if_neg h2]
           exact .inl rfl
        have hrm:RelM ⟨[],M.heap⟩ M:=⟨fun s b hb=>(by cases hb),rfl⟩
        refine zzy (F:=i_Q12) (by decide) (by decide) (zafc n (.map es ck) _ σ [] (.p .nilslice) none M.heap _ [] hmem (by simp only[List.length_nil,hsl];omega) rfl rfl hmap ⟨rfl,rfl,rfl⟩ (by simp) fun K' lv' o' g1 g2=>?_) hrel hrm
        rw[List.nil_append]at g2
        have hnd:((σ.map entP).map (·.1)).Nodup:=(hmapp.map _).nodup_iff.2 hn
        obtain⟨K2,p1,p2⟩:=zawy (g:=F_Q32) (by simp) lv' o' _ hnd (by rw[hmapp.length_eq];omega) K' g2
        have hun:sortP (σ.map entP)=sortP l:=by
         symm
         refine zjl hnd ((zgj l).trans hmapp.symm) (zqy l)
        have hlen2:(sortP l).length=l.length:=(zgj l).length_eq
        have hne:sortP l≠[]:=fun e=>h0 (List.length_eq_zero_iff.1 (by rw[← hlen2,e];rfl))
        rw[hun,hmapp.length_eq,←hlen2]at p2
        exact⟨K2,p1,by rw[← hlen2];exact zafd p2 hne,zaih p2⟩
      ·cases h
     ·cases h
    ·cases h
   ·cases h
noncomputable def dorc (L:Nat) (C:Oracle):Oracle:=fun f args H =>
 Bool.rec (Bool.rec (Bool.rec none (insSpec args H) (Nat.beq f F_Q72)) (sortE args H) (Nat.beq f F_Q31)) (matchE C L args H) (Nat.beq f F_Q12)
theorem zaol (L:Nat) (C:Oracle) (hC:C.Le (CW tr.look)):(dorc L C).Le (CW tr.look):=fun f args H r e=>by
 unfold dorc at e
 cases h1:Nat.beq f F_Q12 with
 |true =>
  rw[h1]at e
  rw[Nat.eq_of_beq_eq_true h1]
  exact zaok hC e
 |false =>
  rw[h1]at e
  cases h2:Nat.beq f F_Q31 with
  |true =>
   rw[h2]at e
   rw[Nat.eq_of_beq_eq_true h2]
   exact zart e
  |false =>
   rw[h2]at e
   cases h3:Nat.beq f F_Q72 with
   |true =>
    rw[h3]at e
    rw[Nat.eq_of_beq_eq_true h3]
    exact zoz none_Q72 (zarh e)
   |false=>rw[h3]at e;cases e
noncomputable def call0 (n:Nat):Oracle:=hcall ht.look (dorc 1000000) 1000000 n
theorem zaru (n:Nat):(call0 n).Le (CW tr.look):=zakl (fun f h e=>HTr.zfi ht_ok e) (zaol 1000000) n
end Go.Ideal

/-
  ScriptMoves, CUT AT THE CALLS OF Place.
-/
namespace Go.Ideal
open Go
noncomputable def mvB (K:List IVal→HC XF) (a0 a1 a2 a3:IVal):HC XF:=(
.op (x_add (.p (.int .i64 2)) a3) fun a4 =>
.fresh [8] [a4,a4,a3,a0,(.p (.bool false)),a0,a1,a2] <|
.op (zaj [(.int .i64 0),(.str []),(.str []), .nilslice, .nilslice] [(0,1,(.p (.int .i64 1)))]) fun a5 =>
.op (zai (some 8) [(.int .i64 0),(.str []),(.str []), .nilslice, .nilslice]) fun a6 =>
.op (zae 5 a6 a5) fun _ =>
.block 1 (.loop [(.p (.int .i64 0)),a6,a1,a2,a4] <| xv fun a8=>xv fun a9=>xv fun a10=>xv fun a11=>xv fun a12=>x0 (
.op (x_lss a8 a12) fun a13 =>
.cond a13 (.block 2 (.op (zaa 4 a9) fun a14 =>
.op (zab none a14) fun a15 =>
.op (x_add a8 (.p (.int .i64 1))) fun a16 =>
.op (zgk (.p (.str [97,98,99,100,101,102,103,104,105])) (some a8) (some a16)) fun a17 =>
.op (zaj [(.int .i64 0),(.str []),(.str []), .nilslice, .nilslice] [(0,1,(.p (.int .i64 3))),(2,1,(.p (.str [116])))]) fun a18 =>
.op (zaf 5 1 [(.int .i64 0),(.str []),(.str []), .nilslice, .nilslice] [(0,5,a18)]) fun a19 =>
.op (zaj [(.int .i64 0),(.str []),(.str []), .nilslice, .nilslice] [(0,1,(.p (.int .i64 2))),(1,1,a17),(4,1,a19)]) fun a20 =>
.op (zaf 5 1 [(.int .i64 0),(.str []),(.str []), .nilslice, .nilslice] [(0,5,a20)]) fun a21 =>
.op (zak 5 (.const a15) (.const a21)) fun a22 =>
.op (zaa 4 a9) fun a23 =>
.op (zae 1 a23 a22) fun _ =>
.fin .normal [a8,a9,a10,a11,a12]) <| xv fun a25=>xv fun a26=>xv fun a27=>xv fun a28=>xv fun a29=>x0 (
.op (x_add a25 (.p (.int .i64 1))) fun a30 =>
.fin .normal [a30,a26,a27,a28,a29])) <|
.fin (.exit 1) [a10,a11,a9,a12])) <| K)
noncomputable def mvE (a31 a32 a33 a34 a35 a36:IVal):HC XF:=(
.fresh [12] [a36,a35,a36,a34,a32,a35,a34,a31,a31,a32,a33,a34] <|
.op (zab (some 5) a33) fun a37 =>
.op (zad (.p (.func F_Q6)) [a37]) fun a38 =>
.op (zai (some 12) [(.int .i64 0),(.str []),(.str []), .nilslice, .nilslice]) fun a39 =>
.op (zae 5 a39 a38) fun _ =>
.fresh [13] [a39,a38,a37,a36,a35,a36,a34,a32,a35,a34,a31,a31,a32,a33,a34] <|
.op (zaa 4 a39) fun a41 =>
.op (zab none a41) fun a42 =>
.op (zac 5 a42 a35) fun a43 =>
.op (zab (some 5) a43) fun a44 =>
.op (zai (some 13) [(.int .i64 0),(.str []),(.str []), .nilslice, .nilslice]) fun a45 =>
.op (zae 5 a45 a44) fun _ =>
.op (zaa 4 a39) fun a47 =>
.op (zab none a47) fun a48 =>
.op (zao 5 a48 none (some a35)) fun a49 =>
.op (zaa 4 a39) fun a50 =>
.op (zab none a50) fun a51 =>
.op (x_add a35 (.p (.int .i64 1))) fun a52 =>
.op (zao 5 a51 (some a52) none) fun a53 =>
.op (zak 5 (.const (.p .nilslice)) (.const a49)) fun a54 =>
.chk (.load none (.const a50)) a51 <|
.chk (.sliceSl 5 (.const a51) (some (.const a52)) none) a53 <|
.op (zak 5 (.const a54) (.const a53)) fun a55 =>
.op (zao 5 a55 none (some a36)) fun a56 =>
.op (zab (some 5) a45) fun a57 =>
.op (zaf 5 1 [(.int .i64 0),(.str []),(.str []), .nilslice, .nilslice] [(0,5,a57)]) fun a58 =>
.op (zao 5 a55 (some a36) none) fun a59 =>
.op (zak 5 (.const (.p .nilslice)) (.const a56)) fun a60 =>
.chk (.load (some 5) (.const a45)) a57 <|
.chk (.buildSlice 5 1 [(.int .i64 0),(.str []),(.str []), .nilslice, .nilslice] [(0,5,(.const a57))]) a58 <|
.chk (.sliceSl 5 (.const a55) (some (.const a36)) none) a59 <|
.op (zak 5 (.const a60) (.const a58)) fun a61 =>
.chk (.sliceSl 5 (.const a55) (some (.const a36)) none) a59 <|
.op (zak 5 (.const a61) (.const a59)) fun a62 =>
.op (zaa 4 a39) fun a63 =>
.op (zae 1 a63 a62) fun _ =>
.op (zab (some 5) a33) fun a65 =>
.op (zab (some 5) a39) fun a66 =>
.op (zad (.p (.func F_Q7)) [a65,a66]) fun a67 =>
.op (zag a67 0) fun a68 =>
.op (zag a67 1) fun a69 =>
.block 3 (.loop [(.p (.int .i64 0)),a68,a69,a34,a35,a36] <| xv fun a70=>xv fun a71=>xv fun a72=>xv fun a73=>xv fun a74=>xv fun a75=>x0 (
.op (x_len a71) fun a76 =>
.op (x_lss a70 a76) fun a77 =>
.cond a77 (.block 4 (.op (zac 7 a71 a70) fun a78 =>
.op (zaa 0 a78) fun a79 =>
.op (zab none a79) fun a80 =>
.op (x_neq a80 (.p (.int .i64 3))) fun a81 =>
.opg a81 false (x_mov a71) fun a82 =>
.opg a81 false (x_mov a70) fun a83 =>
.opg a81 false (zac 7 a82 a83) fun a84 =>
.opg a81 false (zaa 2 a84) fun a85 =>
.opg a81 false (zab none a85) fun a86 =>
.opg a81 false (x_neq a86 (.p (.int .i64 0))) fun a87 =>
.op (zah a81 (.p (.bool true)) a87) fun a88 =>
.cond a88 (.fin .ret [(.p (.bool false))]) <|
.fin .normal [a70,a71,a72,a73,a74,a75]) <| xv fun a89=>xv fun a90=>xv fun a91=>xv fun a92=>xv fun a93=>xv fun a94=>x0 (
.op (x_add a89 (.p (.int .i64 1))) fun a95 =>
.fin .normal [a95,a90,a91,a92,a93,a94])) <|
.fin (.exit 3) [a72,a73,a71,a74,a75])) <| xv fun a96=>xv fun a97=>xv fun a98=>xv fun a99=>xv fun a100=>x0 (
.op (x_eql a96 (.p (.int .i64 0))) fun a101 =>
.opg a101 true (x_mov a98) fun a102 =>
.opg a101 true (x_len a102) fun a103 =>
.opg a101 true (x_mov a97) fun a104 =>
.opg a101 true (x_leq a103 a104) fun a105 =>
.op (zah a101 a105 (.p (.bool false))) fun a106 =>
.opg a106 true (x_mov a98) fun a107 =>
.opg a106 true (x_len a107) fun a108 =>
.opg a106 true (x_eql a108 (.p (.int .i64 0))) fun a109 =>
.opg a106 true (x_mov a99) fun a110 =>
.opg a106 true (x_mov a100) fun a111 =>
.opg a106 true (x_eql a110 a111) fun a112 =>
.opg a106 true (x_eqv false ⟨false,[.bool]⟩ (.const a109) (.const a112)) fun a113 =>
.op (zah a106 a113 (.p (.bool false))) fun a114 =>
.opg a114 true (zad (.p (.func F_Q8)) []) fun a115 =>
.op (zah a114 a115 (.p (.bool false))) fun a116 =>
.fin .ret [a116]))
noncomputable def mvK:List IVal→HC XF:=xv fun a31=>xv fun a32=>xv fun a33=>xv fun a34=>x0 (
.op (zad (.p (.func F_Q5)) [a31,a34]) fun a35 =>
.op (zad (.p (.func F_Q5)) [a32,a34]) fun a36=>mvE a31 a32 a33 a34 a35 a36)
theorem zbcq:zfa=xv fun a0=>xv fun a1=>xv fun a2=>x0 (.op (zad (.p (.func F_Q5)) [a0,(.p (.int .i64 7))]) fun a3=>mvB mvK a0 a1 a2 a3):=rfl
end Go.Ideal

/-
  ScriptMoves: THE TREE IS LAID; WHAT THE CALLS OF Place GIVE; THE JOINT.
-/
namespace Go.Ideal
open Go
set_option maxHeartbeats 4000000
set_option maxRecDepth 20000
attribute [-simp] getElem?_pos
@[reducible] def mvi (n:Nat):IVal := .p (.int .i64 (.ofNat n))
theorem zarv (v:Int) (n:Nat) (hn:0<n) (hb:n<1000000000000) (hv : -9223372036854775808≤v∧v<9223372036854775808) (H:List IBlk):CW tr.look F_Q5 [.p (.int .i64 v), .p (.int .i64 n)] H=some (.p (.int .i64 (v % n)),H):=by
 refine zpd look_Q5 rfl (by simp) rfl ?_
 dsimp only[i_Q5,c_Q5]
 have hn0:(n:Int)≠0:=by omega
 have hn1:¬n=0:=by omega
 by_cases h:v.tmod n<0
 ·have e:v.tmod n+n=v % n:=by
   rw[Int.tmod_eq_emod]at h ⊢
   split at h
   ·have:=Int.emod_nonneg v hn0;omega
   ·rename_i hc
    rw[if_neg hc]
    simp
  have:=Int.emod_nonneg v hn0
  have:=Int.emod_lt_of_pos v (show(0:Int)<n by omega)
  simp(disch:=omega) [hn1,zaqw,e]
 ·have e:v.tmod n=v % n:=by
   rw[Int.tmod_eq_emod]at h ⊢
   split at h
   ·rename_i hc;rw[if_pos hc];simp
   ·rename_i hc
    have:=Int.emod_lt_of_pos v (show(0:Int)<n by omega)
    simp at h
    omega
  rw[e]at h
  simp(disch:=omega) [hn1,e]
noncomputable def pcl:Oracle:=fun f args H=>Bool.rec (call0 60 f args H) (CW tr.look f args H) (Nat.beq f F_Q5)
theorem zbcr:pcl.Le (CW tr.look):=fun f args H r e=>by
 unfold pcl at e
 cases h:Nat.beq f F_Q5 with
 |true=>rw[h]at e;exact e
 |false=>rw[h]at e;exact zaru 60 f args H r e
theorem zvz (v:Int) (n:Nat) (hn:0<n) (hb:n<1000000000000) (hv : -9223372036854775808≤v∧v<9223372036854775808) {i:Nat} (hi:v % (n:Int)=(i:Int)) (H:List IBlk):pcl F_Q5 [.p (.int .i64 v),mvi n] H=some (mvi i,H):=by
 have:=zarv v n hn hb hv H
 rw[hi]at this
 exact this
theorem zqi {v:Int} {n i:Nat} {k:IVal→HC XF} {M:Mem} {L:Nat} (h:pcl F_Q5 [.p (.int .i64 v),mvi n] M.heap=some (mvi i,M.heap)) :
 hrun pcl L (.op (zad (.p (.func F_Q5)) [.p (.int .i64 v),mvi n]) k) M=hrun pcl L (k (mvi i)) M:=by
 obtain⟨B,H⟩:=M
 show hput (fun v M=>hrun pcl L (k v) M) (xret B (pcl F_Q5 [.p (.int .i64 v),mvi n] H))=_
 rw[h]
 rfl
theorem wf_i64 {a:Int} (h:(Lit.int .i64 a).wf=true) : -9223372036854775808≤a∧a<9223372036854775808:=by
 simp[Lit.wf,IntKind.min,IntKind.max,IntKind.signed,IntKind.bits]at h
 omega
noncomputable def endsT (r:HR):Bool:=Option.rec (motive:=fun _=>Bool) false (fun p=>match p with|(.ret,[.p (.bool true)],_)=>true|_=>false) r
theorem zaom {r:HR} (h:endsT r=true):∃M,r=some (.ret,[.p (.bool true)],M):=by
 unfold endsT at h
 cases r with
 |none=>cases h
 |some p =>
  dsimp only at h
  split at h
  ·exact⟨_,rfl⟩
  ·cases h
theorem hlaw3 {F:Nat} {h:HFun} {c:List IVal→HC XF} (hl:ht.look F=some h) (hh:h=⟨3,c,[.tmp 6],true⟩) {a b d:Int} (hr:endsT (hrun pcl 1000000 (c [.p (.int .i64 a), .p (.int .i64 b), .p (.int .i64 d)]) ⟨[],[]⟩)=true) (H:List IBlk) :
 CW tr.look F [.p (.int .i64 a), .p (.int .i64 b), .p (.int .i64 d)] H=some (.p (.bool true),H):=by
 refine zakk (J:=ht.look) (D:=dorc 1000000) (L:=1000000) (fun f h e=>HTr.zfi ht_ok e) (zaol 1000000) zbcr _ _ _ _ ?_
 unfold hstep
 rw[hl,hh]
 obtain⟨M,hr⟩:=zaom hr
 show fpure H [.p (.int .i64 a), .p (.int .i64 b), .p (.int .i64 d)] (fun az K=>hfrun pcl 1000000 ⟨3,c,[.tmp 6],true⟩ az K)=_
 have e:hfrun pcl 1000000 ⟨3,c,[.tmp 6],true⟩ [.p (.int .i64 a), .p (.int .i64 b), .p (.int .i64 d)] []=some (.p (.bool true),M.heap):=by
  show hend _ (hrun pcl 1000000 (c [.p (.int .i64 a), .p (.int .i64 b), .p (.int .i64 d)]) ⟨[],[]⟩)=_
  rw[hr]
  rfl
 unfold fpure
 have hz:freezeAll H [.p (.int .i64 a), .p (.int .i64 b), .p (.int .i64 d)]=some [.p (.int .i64 a), .p (.int .i64 b), .p (.int .i64 d)]:=rfl
 rw[hz]
 dsimp only
 rw[e]
 rfl
theorem zdg {a b d:Int} (n i j:Nat) (hn:n<7) (ha : -9223372036854775808≤a∧a<9223372036854775808) (hb : -9223372036854775808≤b∧b<9223372036854775808) (hd : -9223372036854775808≤d∧d<9223372036854775808)
 (h0:a % (7:Int)=(n:Int)) (h1:b % ((n+2:Nat):Int)=(i:Int)) (h2:d % ((n+2:Nat):Int)=(j:Int)) {M:Mem}
 (hs:∀(C:Oracle) (K:List IVal→HC XF) (a b d:Int),hrun C 1000000 (mvB K (.p (.int .i64 a)) (.p (.int .i64 b)) (.p (.int .i64 d)) (mvi n)) ⟨[],[]⟩=hrun C 1000000 (K [.p (.int .i64 b), .p (.int .i64 d), .ptr (.box 8) 0 0,mvi (n+2)]) M)
 (hc:∀b d:Int,endsT (hrun pcl 1000000 (mvE (.p (.int .i64 b)) (.p (.int .i64 d)) (.ptr (.box 8) 0 0) (mvi (n+2)) (mvi i) (mvi j)) M)=true) (H:List IBlk) :
 CW tr.look F_Q4 [.p (.int .i64 a), .p (.int .i64 b), .p (.int .i64 d)] H=some (.p (.bool true),H):=by
 refine hlaw3 (h:=zce) rfl rfl ?_ H
 rw[zbcq]
 show endsT (hrun pcl 1000000 (.op (zad (.p (.func F_Q5)) [.p (.int .i64 a),mvi 7]) fun a3=>mvB mvK (.p (.int .i64 a)) (.p (.int .i64 b)) (.p (.int .i64 d)) a3) ⟨[],[]⟩)=true
 rw[zqi (zvz a 7 (by decide) (by decide) ha h0 _),hs]
 show endsT (hrun pcl 1000000 (.op (zad (.p (.func F_Q5)) [.p (.int .i64 b),mvi (n+2)]) fun a35 =>
  .op (zad (.p (.func F_Q5)) [.p (.int .i64 d),mvi (n+2)]) fun a36=>mvE (.p (.int .i64 b)) (.p (.int .i64 d)) (.ptr (.box 8) 0 0) (mvi (n+2)) a35 a36) M)=true
 rw[zqi (zvz b (n+2) (by omega) (by omega) hb h1 _),zqi (zvz d (n+2) (by omega) (by omega) hd h2 _)]
 exact hc b d
def mvM0:Mem:=⟨[(8, .cells [mvi 1, .p (.str []), .p (.str []), .p .nilslice, .slice 2 1 0 2] 5 0 false)],[.cells [mvi 3, .p (.str []), .p (.str [116]), .p .nilslice, .p .nilslice] 5 0 false, .cells [mvi 2, .p (.str [97]), .p (.str []), .p .nilslice, .slice 0 0 0 1] 5 0 false, .cells [mvi 2, .p (.str [97]), .p (.str []), .p .nilslice, .slice 0 0 0 1,mvi 2, .p (.str [98]), .p (.str []), .p .nilslice, .slice 3 0 0 1] 5 1 true, .cells [mvi 3, .p (.str []), .p (.str [116]), .p .nilslice, .p .nilslice] 5 0 false, .cells [mvi 2, .p (.str [98]), .p (.str []), .p .nilslice, .slice 3 0 0 1] 5 0 false]⟩
theorem mvS0 (C:Oracle) (K:List IVal→HC XF) (a b d:Int):hrun C 1000000 (mvB K (.p (.int .i64 a)) (.p (.int .i64 b)) (.p (.int .i64 d)) (mvi 0)) ⟨[],[]⟩=hrun C 1000000 (K [.p (.int .i64 b), .p (.int .i64 d), .ptr (.box 8) 0 0,mvi (0+2)]) mvM0:=by kernel_rfl
def mvM1:Mem:=⟨[(8, .cells [mvi 1, .p (.str []), .p (.str []), .p .nilslice, .slice 2 2 0 3] 5 0 false)],[.cells [mvi 3, .p (.str []), .p (.str [116]), .p .nilslice, .p .nilslice] 5 0 false, .cells [mvi 2, .p (.str [97]), .p (.str []), .p .nilslice, .slice 0 0 0 1] 5 0 false, .cells [mvi 2, .p (.str [97]), .p (.str []), .p .nilslice, .slice 0 0 0 1,mvi 2, .p (.str [98]), .p (.str []), .p .nilslice, .slice 3 0 0 1,mvi 2, .p (.str [99]), .p (.str []), .p .nilslice, .slice 5 0 0 1] 5 2 true, .cells [mvi 3, .p (.str []), .p (.str [116]), .p .nilslice, .p .nilslice] 5 0 false, .cells [mvi 2, .p (.str [98]), .p (.str []), .p .nilslice, .slice 3 0 0 1] 5 0 false, .cells [mvi 3, .p (.str []), .p (.str [116]), .p .nilslice, .p .nilslice] 5 0 false, .cells [mvi 2, .p (.str [99]), .p (.str []), .p .nilslice, .slice 5 0 0 1] 5 0 false]⟩
theorem mvS1 (C:Oracle) (K:List IVal→HC XF) (a b d:Int):hrun C 1000000 (mvB K (.p (.int .i64 a)) (.p (.int .i64 b)) (.p (.int .i64 d)) (mvi 1)) ⟨[],[]⟩=hrun C 1000000 (K [.p (.int .i64 b), .p (.int .i64 d), .ptr (.box 8) 0 0,mvi (1+2)]) mvM1:=by kernel_rfl
def mvM2:Mem:=⟨[(8, .cells [mvi 1, .p (.str []), .p (.str []), .p .nilslice, .slice 2 3 0 4] 5 0 false)],[.cells [mvi 3, .p (.str []), .p (.str [116]), .p .nilslice, .p .nilslice] 5 0 false, .cells [mvi 2, .p (.str [97]), .p (.str []), .p .nilslice, .slice 0 0 0 1] 5 0 false, .cells [mvi 2, .p (.str [97]), .p (.str []), .p .nilslice, .slice 0 0 0 1,mvi 2, .p (.str [98]), .p (.str []), .p .nilslice, .slice 3 0 0 1,mvi 2, .p (.str [99]), .p (.str []), .p .nilslice, .slice 5 0 0 1,mvi 2, .p (.str [100]), .p (.str []), .p .nilslice, .slice 7 0 0 1] 5 3 true, .cells [mvi 3, .p (.str []), .p (.str [116]), .p .nilslice, .p .nilslice] 5 0 false, .cells [mvi 2, .p (.str [98]), .p (.str []), .p .nilslice, .slice 3 0 0 1] 5 0 false, .cells [mvi 3, .p (.str []), .p (.str [116]), .p .nilslice, .p .nilslice] 5 0 false, .cells [mvi 2, .p (.str [99]), .p (.str []), .p .nilslice, .slice 5 0 0 1] 5 0 false, .cells [mvi 3, .p (.str []), .p (.str [116]), .p .nilslice, .p .nilslice] 5 0 false, .cells [mvi 2, .p (.str [100]), .p (.str []), .p .nilslice, .slice 7 0 0 1] 5 0 false]⟩
theorem mvS2 (C:Oracle) (K:List IVal→HC XF) (a b d:Int):hrun C 1000000 (mvB K (.p (.int .i64 a)) (.p (.int .i64 b)) (.p (.int .i64 d)) (mvi 2)) ⟨[],[]⟩=hrun C 1000000 (K [.p (.int .i64 b), .p (.int .i64 d), .ptr (.box 8) 0 0,mvi (2+2)]) mvM2:=by kernel_rfl
def mvM3:Mem:=⟨[(8, .cells [mvi 1, .p (.str []), .p (.str []), .p .nilslice, .slice 2 4 0 5] 5 0 false)],[.cells [mvi 3, .p (.str []), .p (.str [116]), .p .nilslice, .p .nilslice] 5 0 false, .cells [mvi 2, .p (.str [97]), .p (.str []), .p .nilslice, .slice 0 0 0 1] 5 0 false, .cells [mvi 2, .p (.str [97]), .p (.str []), .p .nilslice, .slice 0 0 0 1,mvi 2, .p (.str [98]), .p (.str []), .p .nilslice, .slice 3 0 0 1,mvi 2, .p (.str [99]), .p (.str []), .p .nilslice, .slice 5 0 0 1,mvi 2, .p (.str [100]), .p (.str []), .p .nilslice, .slice 7 0 0 1,mvi 2, .p (.str [101]), .p (.str []), .p .nilslice, .slice 9 0 0 1] 5 4 true, .cells [mvi 3, .p (.str []), .p (.str [116]), .p .nilslice, .p .nilslice] 5 0 false, .cells [mvi 2, .p (.str [98]), .p (.str []), .p .nilslice, .slice 3 0 0 1] 5 0 false, .cells [mvi 3, .p (.str []), .p (.str [116]), .p .nilslice, .p .nilslice] 5 0 false, .cells [mvi 2, .p (.str [99]), .p (.str []), .p .nilslice, .slice 5 0 0 1] 5 0 false, .cells [mvi 3, .p (.str []), .p (.str [116]), .p .nilslice, .p .nilslice] 5 0 false, .cells [mvi 2, .p (.str [100]), .p (.str []), .p .nilslice, .slice 7 0 0 1] 5 0 false, .cells [mvi 3, .p (.str []), .p (.str [116]), .p .nilslice, .p .nilslice] 5 0 false, .cells [mvi 2, .p (.str [101]), .p (.str []), .p .nilslice, .slice 9 0 0 1] 5 0 false]⟩
theorem mvS3 (C:Oracle) (K:List IVal→HC XF) (a b d:Int):hrun C 1000000 (mvB K (.p (.int .i64 a)) (.p (.int .i64 b)) (.p (.int .i64 d)) (mvi 3)) ⟨[],[]⟩=hrun C 1000000 (K [.p (.int .i64 b), .p (.int .i64 d), .ptr (.box 8) 0 0,mvi (3+2)]) mvM3:=by kernel_rfl
def mvM4:Mem:=⟨[(8, .cells [mvi 1, .p (.str []), .p (.str []), .p .nilslice, .slice 2 5 0 6] 5 0 false)],[.cells [mvi 3, .p (.str []), .p (.str [116]), .p .nilslice, .p .nilslice] 5 0 false, .cells [mvi 2, .p (.str [97]), .p (.str []), .p .nilslice, .slice 0 0 0 1] 5 0 false, .cells [mvi 2, .p (.str [97]), .p (.str []), .p .nilslice, .slice 0 0 0 1,mvi 2, .p (.str [98]), .p (.str []), .p .nilslice, .slice 3 0 0 1,mvi 2, .p (.str [99]), .p (.str []), .p .nilslice, .slice 5 0 0 1,mvi 2, .p (.str [100]), .p (.str []), .p .nilslice, .slice 7 0 0 1,mvi 2, .p (.str [101]), .p (.str []), .p .nilslice, .slice 9 0 0 1,mvi 2, .p (.str [102]), .p (.str []), .p .nilslice, .slice 11 0 0 1] 5 5 true, .cells [mvi 3, .p (.str []), .p (.str [116]), .p .nilslice, .p .nilslice] 5 0 false, .cells [mvi 2, .p (.str [98]), .p (.str []), .p .nilslice, .slice 3 0 0 1] 5 0 false, .cells [mvi 3, .p (.str []), .p (.str [116]), .p .nilslice, .p .nilslice] 5 0 false, .cells [mvi 2, .p (.str [99]), .p (.str []), .p .nilslice, .slice 5 0 0 1] 5 0 false, .cells [mvi 3, .p (.str []), .p (.str [116]), .p .nilslice, .p .nilslice] 5 0 false, .cells [mvi 2, .p (.str [100]), .p (.str []), .p .nilslice, .slice 7 0 0 1] 5 0 false, .cells [mvi 3, .p (.str []), .p (.str [116]), .p .nilslice, .p .nilslice] 5 0 false, .cells [mvi 2, .p (.str [101]), .p (.str []), .p .nilslice, .slice 9 0 0 1] 5 0 false, .cells [mvi 3, .p (.str []), .p (.str [116]), .p .nilslice, .p .nilslice] 5 0 false, .cells [mvi 2, .p (.str [102]), .p (.str []), .p .nilslice, .slice 11 0 0 1] 5 0 false]⟩
theorem mvS4 (C:Oracle) (K:List IVal→HC XF) (a b d:Int):hrun C 1000000 (mvB K (.p (.int .i64 a)) (.p (.int .i64 b)) (.p (.int .i64 d)) (mvi 4)) ⟨[],[]⟩=hrun C 1000000 (K [.p (.int .i64 b), .p (.int .i64 d), .ptr (.box 8) 0 0,mvi (4+2)]) mvM4:=by kernel_rfl
def mvM5:Mem:=⟨[(8, .cells [mvi 1, .p (.str []), .p (.str []), .p .nilslice, .slice 2 6 0 7] 5 0 false)],[.cells [mvi 3, .p (.str []), .p (.str [116]), .p .nilslice, .p .nilslice] 5 0 false, .cells [mvi 2, .p (.str [97]), .p (.str []), .p .nilslice, .slice 0 0 0 1] 5 0 false, .cells [mvi 2, .p (.str [97]), .p (.str []), .p .nilslice, .slice 0 0 0 1,mvi 2, .p (.str [98]), .p (.str []), .p .nilslice, .slice 3 0 0 1,mvi 2, .p (.str [99]), .p (.str []), .p .nilslice, .slice 5 0 0 1,mvi 2, .p (.str [100]), .p (.str []), .p .nilslice, .slice 7 0 0 1,mvi 2, .p (.str [101]), .p (.str []), .p .nilslice, .slice 9 0 0 1,mvi 2, .p (.str [102]), .p (.str []), .p .nilslice, .slice 11 0 0 1,mvi 2, .p (.str [103]), .p (.str []), .p .nilslice, .slice 13 0 0 1] 5 6 true, .cells [mvi 3, .p (.str []), .p (.str [116]), .p .nilslice, .p .nilslice] 5 0 false, .cells [mvi 2, .p (.str [98]), .p (.str []), .p .nilslice, .slice 3 0 0 1] 5 0 false, .cells [mvi 3, .p (.str []), .p (.str [116]), .p .nilslice, .p .nilslice] 5 0 false, .cells [mvi 2, .p (.str [99]), .p (.str []), .p .nilslice, .slice 5 0 0 1] 5 0 false, .cells [mvi 3, .p (.str []), .p (.str [116]), .p .nilslice, .p .nilslice] 5 0 false, .cells [mvi 2, .p (.str [100]), .p (.str []), .p .nilslice, .slice 7 0 0 1] 5 0 false, .cells [mvi 3, .p (.str []), .p (.str [116]), .p .nilslice, .p .nilslice] 5 0 false, .cells [mvi 2, .p (.str [101]), .p (.str []), .p .nilslice, .slice 9 0 0 1] 5 0 false, .cells [mvi 3, .p (.str []), .p (.str [116]), .p .nilslice, .p .nilslice] 5 0 false, .cells [mvi 2, .p (.str [102]), .p (.str []), .p .nilslice, .slice 11 0 0 1] 5 0 false, .cells [mvi 3, .p (.str []), .p (.str [116]), .p .nilslice, .p .nilslice] 5 0 false, .cells [mvi 2, .p (.str [103]), .p (.str []), .p .nilslice, .slice 13 0 0 1] 5 0 false]⟩
theorem mvS5 (C:Oracle) (K:List IVal→HC XF) (a b d:Int):hrun C 1000000 (mvB K (.p (.int .i64 a)) (.p (.int .i64 b)) (.p (.int .i64 d)) (mvi 5)) ⟨[],[]⟩=hrun C 1000000 (K [.p (.int .i64 b), .p (.int .i64 d), .ptr (.box 8) 0 0,mvi (5+2)]) mvM5:=by kernel_rfl
def mvM6:Mem:=⟨[(8, .cells [mvi 1, .p (.str []), .p (.str []), .p .nilslice, .slice 2 7 0 8] 5 0 false)],[.cells [mvi 3, .p (.str []), .p (.str [116]), .p .nilslice, .p .nilslice] 5 0 false, .cells [mvi 2, .p (.str [97]), .p (.str []), .p .nilslice, .slice 0 0 0 1] 5 0 false, .cells [mvi 2, .p (.str [97]), .p (.str []), .p .nilslice, .slice 0 0 0 1,mvi 2, .p (.str [98]), .p (.str []), .p .nilslice, .slice 3 0 0 1,mvi 2, .p (.str [99]), .p (.str []), .p .nilslice, .slice 5 0 0 1,mvi 2, .p (.str [100]), .p (.str []), .p .nilslice, .slice 7 0 0 1,mvi 2, .p (.str [101]), .p (.str []), .p .nilslice, .slice 9 0 0 1,mvi 2, .p (.str [102]), .p (.str []), .p .nilslice, .slice 11 0 0 1,mvi 2, .p (.str [103]), .p (.str []), .p .nilslice, .slice 13 0 0 1,mvi 2, .p (.str [104]), .p (.str []), .p .nilslice, .slice 15 0 0 1] 5 7 true, .cells [mvi 3, .p (.str []), .p (.str [116]), .p .nilslice, .p .nilslice] 5 0 false, .cells [mvi 2, .p (.str [98]), .p (.str []), .p .nilslice, .slice 3 0 0 1] 5 0 false, .cells [mvi 3, .p (.str []), .p (.str [116]), .p .nilslice, .p .nilslice] 5 0 false, .cells [mvi 2, .p (.str [99]), .p (.str []), .p .nilslice, .slice 5 0 0 1] 5 0 false, .cells [mvi 3, .p (.str []), .p (.str [116]), .p .nilslice, .p .nilslice] 5 0 false, .cells [mvi 2, .p (.str [100]), .p (.str []), .p .nilslice, .slice 7 0 0 1] 5 0 false, .cells [mvi 3, .p (.str []), .p (.str [116]), .p .nilslice, .p .nilslice] 5 0 false, .cells [mvi 2, .p (.str [101]), .p (.str []), .p .nilslice, .slice 9 0 0 1] 5 0 false, .cells [mvi 3, .p (.str []), .p (.str [116]), .p .nilslice, .p .nilslice] 5 0 false, .cells [mvi 2, .p (.str [102]), .p (.str []), .p .nilslice, .slice 11 0 0 1] 5 0 false, .cells [mvi 3, .p (.str []), .p (.str [116]), .p .nilslice, .p .nilslice] 5 0 false, .cells [mvi 2, .p (.str [103]), .p (.str []), .p .nilslice, .slice 13 0 0 1] 5 0 false, .cells [mvi 3, .p (.str []), .p (.str [116]), .p .nilslice, .p .nilslice] 5 0 false, .cells [mvi 2, .p (.str [104]), .p (.str []), .p .nilslice, .slice 15 0 0 1] 5 0 false]⟩
theorem mvS6 (C:Oracle) (K:List IVal→HC XF) (a b d:Int):hrun C 1000000 (mvB K (.p (.int .i64 a)) (.p (.int .i64 b)) (.p (.int .i64 d)) (mvi 6)) ⟨[],[]⟩=hrun C 1000000 (K [.p (.int .i64 b), .p (.int .i64 d), .ptr (.box 8) 0 0,mvi (6+2)]) mvM6:=by kernel_rfl
noncomputable def mvT (n i j:Nat) (M:Mem) (b d:Int):Bool:=endsT (hrun pcl 1000000 (mvE (.p (.int .i64 b)) (.p (.int .i64 d)) (.ptr (.box 8) 0 0) (mvi (n+2)) (mvi i) (mvi j)) M)
end Go.Ideal
