/-
  WHAT THE LIBRARY's SORT AND THE MATCH SAY, RECKONED; ALL CALLS OF THIS SEAT, RECKONED.
-/
import Derived.Test.YtcicccnimohlaaaGreatW5
import Derived.Test.YtcicccnimohlaaaGreatW7
namespace Go.Ideal
open Go
set_option maxHeartbeats 4000000
set_option maxRecDepth 20000
attribute [-simp] getElem?_pos
noncomputable def rdPairs (n:Nat) (cs:List IVal):Option (List (Nat×Nat)) :=
 Nat.rec (motive:=fun _=>List IVal→Option (List (Nat×Nat))) (fun _=>some []) (fun _ ih cs=>match cs with
  | .p (.int .i64 (.ofNat a)) :: .p (.int .i64 (.ofNat b))::r=>match ih r with
    |some l=>some ((a,b)::l)
    |none=>none
  |_=>none) n cs
theorem zaaq:∀(n:Nat) (cs:List IVal) (L:List (Nat×Nat)),rdPairs n cs=some L→L.length=n∧n*2≤cs.length∧cs.take (n*2)=pcells (prc L)
 |0,cs,L,h=>by injection h with h;subst h;simp[prc,pcells]
 |n+1,cs,L,h=>by
  unfold rdPairs at h
  dsimp only at h
  split at h
  ·rename_i a b r
   change (match rdPairs n r with|some l=>some ((a,b)::l)|none=>none)=some L at h
   split at h
   ·rename_i l hl
    injection h with h
    subst h
    obtain⟨h1,h2,h3⟩:=zaaq n r l hl
    refine⟨by simp[h1],by simp;omega,?_⟩
    rw[show(n+1)*2=n*2+1+1 by omega,List.take_succ_cons,List.take_succ_cons,h3]
    simp[prc,pcells]
   ·cases h
  ·cases h
noncomputable def memN (a:Nat) (l:List (Nat×Nat)):Bool:=List.rec (motive:=fun _=>Bool) false (fun p _ ih=>Bool.rec ih true (Nat.beq p.1 a)) l
noncomputable def nodupN (l:List (Nat×Nat)):Bool:=List.rec (motive:=fun _=>Bool) true (fun p t ih=>Bool.rec ih false (memN p.1 t)) l
theorem zalg (a:Nat):∀l,memN a l=false→a∉l.map (·.1)
 | [],_,h=>by simp at h
 |p::l,e,h=>by
  have e:(Bool.rec (memN a l) true (Nat.beq p.1 a):Bool)=false:=e
  cases hb:Nat.beq p.1 a with
  |true=>rw[hb]at e;cases e
  |false =>
   rw[hb]at e
   rcases List.mem_cons.1 h with rfl|h
   ·rw[Nat.beq_refl]at hb;cases hb
   ·exact zalg a l e h
theorem zxt:∀l,nodupN l=true→(l.map (·.1)).Nodup
 | [],_=>by simp
 |p::l,e=>by
  have e:(Bool.rec (nodupN l) false (memN p.1 l):Bool)=true:=e
  cases hb:memN p.1 l with
  |true=>rw[hb]at e;cases e
  |false =>
   rw[hb]at e
   rw[List.map_cons,List.nodup_cons]
   exact⟨zalg _ _ hb,zxt l e⟩
noncomputable def fcells (l:List (Nat×Nat)):List IVal:=List.rec (motive:=fun _=>List IVal) [] (fun p _ ih=>Prod.rec (fun a b=>.p (.int .i64 (.ofNat a)) :: .p (.int .i64 (.ofNat b))::ih) p) l
theorem zahn:∀l,fcells l=pcells (prc l)
 | []=>rfl
 |(a,b)::l=>by
  show IVal.p (.int .i64 (.ofNat a)) :: .p (.int .i64 (.ofNat b))::fcells l=_
  rw[zahn l]
  rfl
noncomputable def insN (p:Nat×Nat) (l:List (Nat×Nat)):List (Nat×Nat):=List.rec (motive:=fun _=>List (Nat×Nat)) [p] (fun q t ih=>Bool.rec (q::ih) (p::q::t) (Nat.ble p.1 q.1)) l
noncomputable def sortN (l:List (Nat×Nat)):List (Nat×Nat):=List.rec (motive:=fun _=>List (Nat×Nat)) [] (fun p _ ih=>insN p ih) l
theorem zxu (p:Nat×Nat):∀l,(insN p l).Perm (p::l)
 | []=>List.Perm.refl _
 |q::t=>by
  show(Bool.rec (q::insN p t) (p::q::t) (Nat.ble p.1 q.1):List (Nat×Nat)).Perm _
  cases Nat.ble p.1 q.1 with
  |true=>exact List.Perm.refl _
  |false=>exact((zxu p t).cons q).trans (List.Perm.swap _ _ _)
theorem zxv (p:Nat×Nat):∀l:List (Nat×Nat),(l.Pairwise fun p q=>p.1≤q.1)→(insN p l).Pairwise fun p q=>p.1≤q.1
 | [],_=>by show[p].Pairwise _;simp
 |q::t,h=>by
  show(Bool.rec (q::insN p t) (p::q::t) (Nat.ble p.1 q.1):List (Nat×Nat)).Pairwise _
  rw[List.pairwise_cons]at h
  cases hb:Nat.ble p.1 q.1 with
  |true =>
   have hle:=Nat.le_of_ble_eq_true hb
   refine List.pairwise_cons.2 ⟨fun x hx=>?_,List.pairwise_cons.2 h⟩
   rcases List.mem_cons.1 hx with rfl|hx
   ·exact hle
   ·exact Nat.le_trans hle (h.1 x hx)
  |false =>
   have hle:q.1≤p.1:=by
    rcases Nat.lt_or_ge q.1 p.1 with h'|h'
    ·omega
    ·rw[Nat.ble_eq_true_of_le h']at hb;cases hb
   refine List.pairwise_cons.2 ⟨fun x hx=>?_,zxv p t h.2⟩
   rcases List.mem_cons.1 ((zxu p t).mem_iff.1 hx)with rfl|hx
   ·exact hle
   ·exact h.1 x hx
theorem zaar:∀l,(sortN l).Perm l
 | []=>List.Perm.refl _
 |p::l=>(zxu p (sortN l)).trans ((zaar l).cons p)
theorem zth:∀l,(sortN l).Pairwise fun p q=>p.1≤q.1
 | []=>List.Pairwise.nil
 |p::l=>zxv p _ (zth l)
theorem zalh {l:List (Nat×Nat)} (h:(l.map (·.1)).Nodup):sortN l=sortP l:=zjx h (zaar l) (zth l)
noncomputable def isCmp (g:Nat):Bool:=Bool.rec (Bool.rec (Nat.beq g F_Q32) true (Nat.beq g F_Q83)) true (Nat.beq g F_Q55)
theorem zash {g:Nat} (h:isCmp g=true):g∈[F_Q55,F_Q83,F_Q32]:=by
 unfold isCmp at h
 cases h1:Nat.beq g F_Q55 with
 |true=>simp[Nat.eq_of_beq_eq_true h1]
 |false =>
  rw[h1]at h
  cases h2:Nat.beq g F_Q83 with
  |true=>simp[Nat.eq_of_beq_eq_true h2]
  |false =>
   rw[h2]at h
   simp[Nat.eq_of_beq_eq_true h]
noncomputable def sortE (args:List IVal) (H:List IBlk):Option (IVal×List IBlk) :=
 match args with
 | [v, .p (.func g)]=>match isCmp g with
   |true=>match v with
    | .p .nilslice=>some (.tup [],H)
    | .slice k ver off n=>match Nat.beq off 0,lget H k with
      |true,some (.cells cs e w op)=>match Nat.beq ver w&&Nat.beq e 2,rdPairs n cs with
       |true,some L=>match nodupN L&&(Nat.ble (n+1) 1000000&&!(Nat.beq n 0))with
        |true=>lall (gsplice cs 0 (fcells (sortN L))) fun cs'=>lall (lset H k (.cells cs' 2 w op)) fun H'=>some (.tup [],H')
        |false=>none
       |_,_=>none
      |_,_=>none
    |_=>none
   |false=>none
 |_=>none
theorem zasi {args:List IVal} {H:List IBlk} {r:IVal×List IBlk} (h:sortE args H=some r):CW tr.look F_Q31 args H=some r:=by
 unfold sortE at h
 split at h
 ·rename_i v g
  split at h
  ·rename_i hg
   have hg:=zash hg
   split at h
   ·injection h with h
    subst h
    exact znu none_Q31 (zjy hg (zsp _ _ _))
   ·rename_i k ver off n
    split at h
    ·rename_i cs e w op h1 h2
     split at h
     ·rename_i L h3 h4
      split at h
      ·rename_i h5
       rw[zar,zar,zex,zahn,zais]at h
       injection h with h
       subst h
       rw[zea]at h2
       have ho:=Nat.eq_of_beq_eq_true h1
       rw[Bool.and_eq_true]at h3
       have hv:=Nat.eq_of_beq_eq_true h3.1
       have he:=Nat.eq_of_beq_eq_true h3.2
       subst ho hv he
       rw[Bool.and_eq_true,Bool.and_eq_true]at h5
       have hn:=zxt L h5.1
       rw[zalh hn]
       have hlt:=Nat.le_of_ble_eq_true h5.2.1
       have h0:n≠0:=fun e=>by rw[e]at h5;simp at h5
       obtain⟨g1,g2,g3⟩:=zaaq n cs L h4
       have hsz:(L.map toI).toArray.size=L.length:=by simp
       have hs:=zsq pairKit g (H:=H) (i:=k) (ver:=ver) (off:=0) (L.map toI).toArray h2 (by omega) (by omega) (by rw[hsz];show 0+L.length*2≤_;omega) (by
        rw[hsz,zabu,List.drop_zero,g1];exact g3)
       rw[hsz,zss hn,zabu,g1]at hs
       exact znu none_Q31 (zjy hg hs)
      ·cases h
     ·cases h
    ·cases h
   ·cases h
  ·cases h
 ·cases h
end Go.Ideal

/-
  THE MATCH, RECKONED; ALL CALLS OF THIS SEAT, RECKONED.
-/
namespace Go.Ideal
open Go
set_option maxHeartbeats 4000000
set_option maxRecDepth 20000
attribute [-simp] getElem?_pos
noncomputable def rdEnts (es:List Ent) (n:Nat):Option (List (Nat×Nat)) :=
 List.rec (motive:=fun _=>Nat→Option (List (Nat×Nat))) (fun _=>some []) (fun e _ ih n=>match e with
  |(.p (.int .i64 (.ofNat a)), .p (.int .i64 (.ofNat b)),s)=>match Nat.beq s n with
   |true=>match ih (n+1)with
    |some l=>some ((a,b)::l)
    |none=>none
   |false=>none
  |_=>none) es n
theorem zaho:∀(es:List Ent) (n:Nat) (L:List (Nat×Nat)),rdEnts es n=some L→es=ME0 n (toE L)
 | [],n,L,h=>by injection h with h;subst h;rfl
 |e::es,n,L,h=>by
  unfold rdEnts at h
  dsimp only at h
  split at h
  ·rename_i a b s
   split at h
   ·rename_i hs
    have hs:=Nat.eq_of_beq_eq_true hs
    subst hs
    change (match rdEnts es (s+1)with|some l=>some ((a,b)::l)|none=>none)=some L at h
    split at h
    ·rename_i l hl
     injection h with h
     subst h
     rw[zaho es (s+1) l hl]
     rfl
    ·cases h
   ·cases h
  ·cases h
noncomputable def matchE (C:Oracle) (L:Nat) (args:List IVal) (H:List IBlk):Option (IVal×List IBlk) :=
 match freezeAll H args with
 |none=>none
 |some az=>match Nat.beq (llen az) 2 with
  |false=>none
  |true=>match hrun C L (zng az) ⟨[],[]⟩with
   |some (.normal,[.map 0, .p .nilslice],M)=>match lget M.heap 0 with
    |some (.map es ck)=>match rdEnts es 0 with
     |some l=>match(nodupN l&&Nat.beq ck (llen es))&&(Nat.ble (llen l+1) 1000000&&!(Nat.beq (llen l) 0))with
      |true=>some (.p (.slice 2 (llen l) (prc (sortN l))),H)
      |false=>none
     |none=>none
    |_=>none
   |_=>none
theorem zapi (l:List (Nat×Nat)):(toE l).length=l.length:=by simp[toE]
theorem zapj {C:Oracle} (hC:C.Le (CW tr.look)) {L:Nat} {args:List IVal} {H:List IBlk} {r:IVal×List IBlk} (h:matchE C L args H=some r):CW tr.look F_Q12 args H=some r:=by
 unfold matchE at h
 split at h
 ·cases h
 ·rename_i az haz
  split at h
  ·cases h
  ·rename_i hlen
   rw[zap]at hlen
   have hlen:=Nat.eq_of_beq_eq_true hlen
   split at h
   ·rename_i M hrun0
    split at h
    ·rename_i es ck hmap
     split at h
     ·rename_i l hl
      split at h
      ·rename_i hchk
       injection h with h
       subst h
       rw[zea]at hmap
       simp only[zap,Bool.and_eq_true]at hchk
       have hn:=zxt l hchk.1.1
       have hck:=Nat.eq_of_beq_eq_true hchk.1.2
       have hlt:=Nat.le_of_ble_eq_true hchk.2.1
       have h0:l≠[]:=fun e=>by rw[e]at hchk;simp at hchk
       have hes:=zaho es 0 l hl
       have hek:es.length=l.length:=by rw[hes,zaty,zapi]
       rw[zap,zalh hn]
       rw[ztl]at hrun0
       obtain⟨T,q1,q2,v1,w1,e1,q3,v2,w2,e2,q4,e3⟩:=zasg (R:=i_Q12) hlen (by decide) rfl hrun0
       injection e1 with a1 a2
       subst a1 a2
       injection e2 with a1 a2
       subst a1 a2
       have hW:=zam hC (zqu (n:=L)) q1
       refine zanh none_Q12 (.inl ⟨rfl,rfl,az,haz,hlen, .normal,_,hW,0,es,ck,?_,hmap,?_,fun n σ hσ=>?_⟩)
       ·show T.getD 127 .undef=_
        rw[List.getD_eq_getElem?_getD,q3];rfl
       ·rw[hes,hck,hek,←zapi l]
        exact zabx (toE l)
       ·have hmem:∀e∈σ,∃p:Nat×Nat,∃s,e=(vI p.1,vI p.2,s):=fun e he=>by
         have he:=hσ.mem_iff.1 he
         rw[hes]at he
         obtain⟨p,_,s,hs⟩:=zakv l 0 e he
         exact⟨p,s,hs⟩
        have hmapp:(σ.map entP).Perm l:=by
         have:=hσ.map entP
         rw[hes,zakw]at this
         exact this
        have hsl:σ.length=l.length:=by rw[hσ.length_eq,hek]
        have hrel:RelE 143 [(128, .v (.opq n)),(16, .v (.p .nilslice))] (T.set 128 (.opq n)):=by
         refine⟨by rw[List.length_set];exact q2,fun i=>?_⟩
         rw[zvk,zzr,zzr,zanr]
         by_cases h1:128=i
         ·subst h1
          rw[if_pos rfl,if_pos ⟨rfl,by rw[q2];decide⟩]
          exact .inr rfl
         ·have h3:¬(128=i∧128<T.length):=fun x=>h1 x.1
          rw[if_neg h1,if_neg h3]
          by_cases h2:16=i
          ·subst h2
           rw[if_pos rfl,List.getD_eq_getElem?_getD,q4]
           exact .inr rfl
          ·rw[if_neg h2]
           exact .inl rfl
        have hrm:RelM ⟨[],M.heap⟩ M:=⟨fun s b hb=>(by cases hb),rfl⟩
        refine zzs (F:=i_Q12) (by decide) (by decide) (zagm n (.map es ck) _ σ [] (.p .nilslice) none M.heap _ [] hmem (by simp only[List.length_nil,hsl];omega) rfl rfl hmap ⟨rfl,rfl,rfl⟩ (by simp) fun K' lv' o' g1 g2=>?_) hrel hrm
        rw[List.nil_append]at g2
        have hnd:((σ.map entP).map (·.1)).Nodup:=(hmapp.map _).nodup_iff.2 hn
        obtain⟨K2,p1,p2⟩:=zaxp (g:=F_Q32) (by simp) lv' o' _ hnd (by rw[hmapp.length_eq];omega) K' g2
        have hun:sortP (σ.map entP)=sortP l:=by
         symm
         refine zjx hnd ((zgr l).trans hmapp.symm) (zsr l)
        have hlen2:(sortP l).length=l.length:=(zgr l).length_eq
        have hne:sortP l≠[]:=fun e=>h0 (List.length_eq_zero_iff.1 (by rw[← hlen2,e];rfl))
        rw[hun,hmapp.length_eq,←hlen2]at p2
        exact⟨K2,p1,by rw[← hlen2];exact zagn p2 hne,zajc p2⟩
      ·cases h
     ·cases h
    ·cases h
   ·cases h
noncomputable def dorc (L:Nat) (C:Oracle):Oracle:=fun f args H =>
 Bool.rec (Bool.rec (Bool.rec (Bool.rec none (cmpSpec args H) (Nat.beq f F_Q100)) (insSpec args H) (Nat.beq f F_Q72)) (sortE args H) (Nat.beq f F_Q31)) (matchE C L args H) (Nat.beq f F_Q12)
theorem zaxz (L:Nat) (C:Oracle) (hC:C.Le (CW tr.look)):(dorc L C).Le (CW tr.look):=fun f args H r e=>by
 unfold dorc at e
 cases h1:Nat.beq f F_Q12 with
 |true =>
  rw[h1]at e
  rw[Nat.eq_of_beq_eq_true h1]
  exact zapj hC e
 |false =>
  rw[h1]at e
  cases h2:Nat.beq f F_Q31 with
  |true =>
   rw[h2]at e
   rw[Nat.eq_of_beq_eq_true h2]
   exact zasi e
  |false =>
   rw[h2]at e
   cases h3:Nat.beq f F_Q72 with
   |true =>
    rw[h3]at e
    rw[Nat.eq_of_beq_eq_true h3]
    exact znu none_Q72 (zart e)
   |false =>
    rw[h3]at e
    cases h4:Nat.beq f F_Q100 with
    |true =>
     rw[h4]at e
     rw[Nat.eq_of_beq_eq_true h4]
     exact znu none_Q100 (zaru e)
    |false=>rw[h4]at e;cases e
noncomputable def call0 (n:Nat):Oracle:=hcall ht.look (dorc 1000000) 1000000 n
theorem zasj (n:Nat):(call0 n).Le (CW tr.look):=zalf (fun _ _ e=>HTr.zhr ht_ok e) (zaxz 1000000) n
end Go.Ideal

/-
  ScriptOnes, CUT AT THE CALLS OF Place.
-/
namespace Go.Ideal
open Go
noncomputable def onB (K:List IVal→HC XF) (a0 a1 a2 a3:IVal):HC XF:=(
.op (x_add (.p (.int .i64 1)) a3) fun a4 =>
.fresh [8] [a4,a4,a3,a0,(.p (.bool false)),a0,a1,a2] <|
.op (zaj [(.int .i64 0),(.str []),(.str []), .nilslice, .nilslice] [(0,1,(.p (.int .i64 1)))]) fun a5 =>
.op (zai (some 8) [(.int .i64 0),(.str []),(.str []), .nilslice, .nilslice]) fun a6 =>
.op (zae 5 a6 a5) fun _ =>
.block 1 (.loop [(.p (.int .i64 0)),a6,a1,a4,a2] <| xv fun a8=>xv fun a9=>xv fun a10=>xv fun a11=>xv fun a12=>x0 (
.op (x_lss a8 a11) fun a13 =>
.cond a13 (.block 2 (.op (zaa 4 a9) fun a14 =>
.op (zab none a14) fun a15 =>
.op (x_add a8 (.p (.int .i64 1))) fun a16 =>
.op (zgs (.p (.str [97,98,99,100,101,102,103,104])) (some a8) (some a16)) fun a17 =>
.op (zaj [(.str []),(.str [])] [(0,1,(.p (.str [120]))),(1,1,(.p (.str [118])))]) fun a18 =>
.op (zaf 2 1 [(.str []),(.str [])] [(0,2,a18)]) fun a19 =>
.op (zaj [(.int .i64 0),(.str []),(.str []), .nilslice, .nilslice] [(0,1,(.p (.int .i64 3))),(2,1,(.p (.str [116])))]) fun a20 =>
.op (zaf 5 1 [(.int .i64 0),(.str []),(.str []), .nilslice, .nilslice] [(0,5,a20)]) fun a21 =>
.op (zaj [(.int .i64 0),(.str []),(.str []), .nilslice, .nilslice] [(0,1,(.p (.int .i64 2))),(1,1,a17),(3,1,a19),(4,1,a21)]) fun a22 =>
.op (zaf 5 1 [(.int .i64 0),(.str []),(.str []), .nilslice, .nilslice] [(0,5,a22)]) fun a23 =>
.op (zal 5 (.const a15) (.const a23)) fun a24 =>
.op (zaa 4 a9) fun a25 =>
.op (zae 1 a25 a24) fun _ =>
.fin .normal [a8,a9,a10,a11,a12]) <| xv fun a27=>xv fun a28=>xv fun a29=>xv fun a30=>xv fun a31=>x0 (
.op (x_add a27 (.p (.int .i64 1))) fun a32 =>
.fin .normal [a32,a28,a29,a30,a31])) <|
.fin (.exit 1) [a10,a11,a12,a9])) <| K)
noncomputable def onT (K:List IVal→HC XF) (a33 a34 a35 a36:IVal):HC XF:=(
.fresh [10] [a33,a34,a35,a36] <|
.op (zab (some 5) a36) fun a37 =>
.op (zad (.p (.func F_Q6)) [a37]) fun a38 =>
.op (zai (some 10) [(.int .i64 0),(.str []),(.str []), .nilslice, .nilslice]) fun a39 =>
.op (zae 5 a39 a38) fun _ =>
K [a33,a34,a35,a36,a37,a38,a39])
noncomputable def onE (u v:Bool) (a33 a34 a35 a36 a37 a38 a39 a41 a42:IVal):HC XF:=(
.block 3 (.op (x_eql a42 (.p (.int .i64 0))) fun a43 =>
.block 0 (.cond a43 (.op (zaa 4 a39) fun a44 =>
.op (zab none a44) fun a45 =>
.op (zac 5 a45 a41) fun a46 =>
.op (zaa 4 a46) fun a47 =>
.op (zab none a47) fun a48 =>
.op (zac 5 a48 (.p (.int .i64 0))) fun a49 =>
.op (zaa 2 a49) fun a50 =>
.op (zae 1 a50 (.p (.str [117]))) fun _ =>
.fin .normal [a36,a39,(.p (.int .i64 6))]) <|
.op (x_eql a42 (.p (.int .i64 1))) fun a52 =>
.block 0 (.cond a52 (.op (zaa 4 a39) fun a53 =>
.op (zab none a53) fun a54 =>
.op (zac 5 a54 a41) fun a55 =>
.op (zaa 3 a55) fun a56 =>
.op (zab none a56) fun a57 =>
.op (zac 2 a57 (.p (.int .i64 0))) fun a58 =>
.op (zaa 1 a58) fun a59 =>
.op (zae 1 a59 (.p (.str [119]))) fun _ =>
.fin .normal [a36,a39,(.p (.int .i64 4))]) <|
.op (x_eql a42 (.p (.int .i64 2))) fun a61 =>
.block 0 (.cond a61 (.op (zaa 4 a39) fun a62 =>
.op (zab none a62) fun a63 =>
.op (zac 5 a63 a41) fun a64 =>
.op (zaa 3 a64) fun a65 =>
.op (zae 1 a65 (.p .nilslice)) fun _ =>
.fin .normal [a36,a39,(.p (.int .i64 5))]) <|
.op (x_eql a42 (.p (.int .i64 3))) fun a67 =>
.block 0 (.cond a67 (.op (zaa 4 a39) fun a68 =>
.op (zab none a68) fun a69 =>
.op (zac 5 a69 a41) fun a70 =>
.op (zaa 4 a70) fun a71 =>
.op (zae 1 a71 (.p .nilslice)) fun _ =>
.fin .normal [a36,a39,(.p (.int .i64 2))]) <|
.fresh [45] [a67,a67,a61,a61,a52,a52,a43,a43,a42,a35,(.p (.int .i64 0)),a41,a41,a34,a33,a39,a38,a37,a33,a34,a35,a36] <|
.op (zai (some 45) [(.bool false)]) fun a73 =>
.op (zae 1 a73 (.p (.bool u))) fun _ =>
.op (zae 1 a73 (.p (.bool v))) fun _ =>
.op (zab none a73) fun a76 =>
.block 0 (.cond a76 (.op (zaa 4 a39) fun a77 =>
.op (zab none a77) fun a78 =>
.op (zac 5 a78 a41) fun a79 =>
.op (zaa 4 a79) fun a80 =>
.op (zab none a80) fun a81 =>
.op (zaj [(.int .i64 0),(.str []),(.str []), .nilslice, .nilslice] [(0,1,(.p (.int .i64 4))),(2,1,(.p (.str [99])))]) fun a82 =>
.op (x_len a81) fun a83 =>
.op (zaf 5 1 [(.int .i64 0),(.str []),(.str []), .nilslice, .nilslice] [(0,5,(.agg [(.p (.int .i64 0)),(.p (.str [])),(.p (.str [])),(.p .nilslice),(.p .nilslice)]))]) fun a84 =>
.op (zal 5 (.const a81) (.const a84)) fun a85 =>
.op (zac 5 a78 a41) fun a86 =>
.op (zaa 4 a86) fun a87 =>
.op (zae 1 a87 a85) fun _ =>
.op (zac 5 a85 a83) fun a89 =>
.op (zae 5 a89 a82) fun _ =>
.fin .normal [a36,a39]) <|
.op (zaa 4 a39) fun a91 =>
.op (zab none a91) fun a92 =>
.op (zaa 4 a39) fun a93 =>
.op (zab none a93) fun a94 =>
.op (zac 5 a94 a41) fun a95 =>
.op (zaa 4 a95) fun a96 =>
.op (zab none a96) fun a97 =>
.op (zaj [(.int .i64 0),(.str []),(.str []), .nilslice, .nilslice] [(0,1,(.p (.int .i64 4))),(2,1,(.p (.str [99])))]) fun a98 =>
.op (zaf 5 1 [(.int .i64 0),(.str []),(.str []), .nilslice, .nilslice] [(0,5,a98)]) fun a99 =>
.op (zal 5 (.const a97) (.const a99)) fun a100 =>
.op (zac 5 a92 a41) fun a101 =>
.op (zaa 4 a101) fun a102 =>
.chk (.load none (.const a91)) a92 <|
.op (zae 1 a102 a100) fun _ =>
.fin .normal [a36,a39]) <| xv fun a104=>xv fun a105=>x0 (
.fin .normal [a104,a105,(.p (.int .i64 1))])) <| xv fun a106=>xv fun a107=>xv fun a108=>x0 (
.fin .normal [a106,a107,a108])) <| xv fun a109=>xv fun a110=>xv fun a111=>x0 (
.fin .normal [a109,a110,a111])) <| xv fun a112=>xv fun a113=>xv fun a114=>x0 (
.fin .normal [a112,a113,a114])) <| xv fun a115=>xv fun a116=>xv fun a117=>x0 (
.fin .normal [a115,a116,a117])) <| xv fun a118=>xv fun a119=>xv fun a120=>x0 (
.op (zab (some 5) a118) fun a121 =>
.op (zab (some 5) a119) fun a122 =>
.op (zad (.p (.func F_Q7)) [a121,a122]) fun a123 =>
.op (zag a123 0) fun a124 =>
.op (zag a123 1) fun a125 =>
.op (x_eql a125 (.p (.int .i64 0))) fun a126 =>
.opg a126 true (x_mov a124) fun a127 =>
.opg a126 true (x_len a127) fun a128 =>
.opg a126 true (x_eql a128 (.p (.int .i64 1))) fun a129 =>
.op (zah a126 a129 (.p (.bool false))) fun a130 =>
.opg a130 true (x_mov a124) fun a131 =>
.opg a130 true (zac 7 a131 (.p (.int .i64 0))) fun a132 =>
.opg a130 true (zaa 0 a132) fun a133 =>
.opg a130 true (zab none a133) fun a134 =>
.opg a130 true (x_mov a120) fun a135 =>
.opg a130 true (x_eql a134 a135) fun a136 =>
.op (zah a130 a136 (.p (.bool false))) fun a137 =>
.opg a137 true (zad (.p (.func F_Q8)) []) fun a138 =>
.op (zah a137 a138 (.p (.bool false))) fun a139 =>
.fin .ret [a139]))
noncomputable def onK2 (u v:Bool):List IVal→HC XF:=xv fun a33=>xv fun a34=>xv fun a35=>xv fun a36=>xv fun a37=>xv fun a38=>xv fun a39=>x0 (
.op (zad (.p (.func F_Q5)) [a33,a34]) fun a41 =>
.op (zad (.p (.func F_Q5)) [a35,(.p (.int .i64 5))]) fun a42=>onE u v a33 a34 a35 a36 a37 a38 a39 a41 a42)
noncomputable def onK (u v:Bool):List IVal→HC XF:=xv fun a33=>xv fun a34=>xv fun a35=>xv fun a36=>x0 (onT (onK2 u v) a33 a34 a35 a36)
theorem zbdo (u v:Bool):zbf u v=xv fun a0=>xv fun a1=>xv fun a2=>x0 (.op (zad (.p (.func F_Q5)) [a0,(.p (.int .i64 8))]) fun a3=>onB (onK u v) a0 a1 a2 a3):=rfl
end Go.Ideal

/-
  ScriptOnes: THE TREES ARE LAID; WHAT THE CALLS OF Place GIVE; THE JOINT.
-/
namespace Go.Ideal
open Go
set_option maxHeartbeats 4000000
set_option maxRecDepth 20000
attribute [-simp] getElem?_pos
@[reducible] def mvi (n:Nat):IVal := .p (.int .i64 (.ofNat n))
theorem zask (v:Int) (n:Nat) (hn:0<n) (hb:n<1000000000000) (_ : -9223372036854775808≤v∧v<9223372036854775808) (H:List IBlk):CW tr.look F_Q5 [.p (.int .i64 v), .p (.int .i64 n)] H=some (.p (.int .i64 (v % n)),H):=by
 refine zqy look_Q5 rfl (by simp) rfl ?_
 dsimp only[i_Q5,c_Q5]
 have hn0:(n:Int)≠0:=by omega
 have hn1:¬n=0:=by omega
 by_cases h:v.tmod n<0
 ·have e:v.tmod n+n=v % n:=by
   rw[Int.tmod_eq_emod]at h ⊢
   split at h
   ·have:=Int.emod_nonneg v hn0;omega
   ·rename_i hc
    rw[if_neg hc]
    simp
  have:=Int.emod_nonneg v hn0
  have:=Int.emod_lt_of_pos v (show(0:Int)<n by omega)
  simp(disch:=omega) [hn1,zari,e]
 ·have e:v.tmod n=v % n:=by
   rw[Int.tmod_eq_emod]at h ⊢
   split at h
   ·rename_i hc;rw[if_pos hc];simp
   ·rename_i hc
    have:=Int.emod_lt_of_pos v (show(0:Int)<n by omega)
    simp at h
    omega
  rw[e]at h
  simp(disch:=omega) [hn1,e]
noncomputable def pcl:Oracle:=fun f args H=>Bool.rec (call0 60 f args H) (CW tr.look f args H) (Nat.beq f F_Q5)
theorem zbdp:pcl.Le (CW tr.look):=fun f args H r e=>by
 unfold pcl at e
 cases h:Nat.beq f F_Q5 with
 |true=>rw[h]at e;exact e
 |false=>rw[h]at e;exact zasj 60 f args H r e
theorem zxw (v:Int) (n:Nat) (hn:0<n) (hb:n<1000000000000) (hv : -9223372036854775808≤v∧v<9223372036854775808) {i:Nat} (hi:v % (n:Int)=(i:Int)) (H:List IBlk):pcl F_Q5 [.p (.int .i64 v),mvi n] H=some (mvi i,H):=by
 have:=zask v n hn hb hv H
 rw[hi]at this
 exact this
theorem zsb {v:Int} {n i:Nat} {k:IVal→HC XF} {M:Mem} {L:Nat} (h:pcl F_Q5 [.p (.int .i64 v),mvi n] M.heap=some (mvi i,M.heap)) :
 hrun pcl L (.op (zad (.p (.func F_Q5)) [.p (.int .i64 v),mvi n]) k) M=hrun pcl L (k (mvi i)) M:=by
 obtain⟨B,H⟩:=M
 show hput (fun v M=>hrun pcl L (k v) M) (xret B (pcl F_Q5 [.p (.int .i64 v),mvi n] H))=_
 rw[h]
 rfl
theorem wf_i64 {a:Int} (h:(Lit.int .i64 a).wf=true) : -9223372036854775808≤a∧a<9223372036854775808:=by
 simp[Lit.wf,IntKind.min,IntKind.max,IntKind.signed,IntKind.bits]at h
 omega
noncomputable def endsT (r:HR):Bool:=Option.rec (motive:=fun _=>Bool) false (fun p=>match p with|(.ret,[.p (.bool true)],_)=>true|_=>false) r
theorem zapk {r:HR} (h:endsT r=true):∃M,r=some (.ret,[.p (.bool true)],M):=by
 unfold endsT at h
 cases r with
 |none=>cases h
 |some p =>
  dsimp only at h
  split at h
  ·exact⟨_,rfl⟩
  ·cases h
theorem hread {F:IFun} {h:HFun} {a b d:Int} {f:FuncId} (hk:HOK (fun _=>some F) f h) (hh:h.res=[.tmp 6]) (hp:h.np=3) (hn:F.np=3) (hr:endsT (hrun pcl 1000000 (h.code [.p (.int .i64 a), .p (.int .i64 b), .p (.int .i64 d)]) ⟨[],[]⟩)=true) :
 ∃e S,evalCode (CW tr.look) loopW F.code ⟨[.p (.int .i64 a), .p (.int .i64 b), .p (.int .i64 d)]++List.replicate (F.nt-3) skipped,⟨[],[]⟩⟩=some (e,S)∧(e = .ret∨e = .normal)∧∃v,results S F.res=some v∧freezeRes S.M.heap v=some (.p (.bool true))∧freshRes S.M.heap v=true:=by
 obtain⟨M,hr⟩:=zapk hr
 have e:hfrun pcl 1000000 h [.p (.int .i64 a), .p (.int .i64 b), .p (.int .i64 d)] []=some (.p (.bool true),M.heap):=by
  unfold hfrun
  rw[hp,hr]
  show hend h _=_
  unfold hend
  rw[hh]
  rfl
 obtain⟨F',h1,_,h2⟩:=zwi hk e
 injection h1 with h1
 subst h1
 have h2:=zds zbdp zqu h2
 unfold runBody at h2
 rw[hn]at h2
 simp only[List.length_cons,List.length_nil,Nat.beq_refl]at h2
 have fin:∀(e:IExit) (S:St),(match Ideal.results S F.res with|some v=>some (v,S.M.heap)|none=>none)=some (.p (.bool true),M.heap)→∃v,results S F.res=some v∧freezeRes S.M.heap v=some (.p (.bool true))∧freshRes S.M.heap v=true:=by
  intro e S h
  split at h
  ·rename_i v hv
   injection h with h
   injection h with h3 h4
   subst h3
   exact⟨_,hv,rfl,rfl⟩
  ·cases h
 split at h2
 ·rename_i S hS
  exact⟨_,S,hS, .inr rfl,fin .normal S h2⟩
 ·rename_i S hS
  exact⟨_,S,hS, .inl rfl,fin .ret S h2⟩
 ·cases h2
theorem hlaw3 {a b d:Int} (h0:endsT (hrun pcl 1000000 (zbf true false [.p (.int .i64 a), .p (.int .i64 b), .p (.int .i64 d)]) ⟨[],[]⟩)=true) (h1:endsT (hrun pcl 1000000 (zbf false true [.p (.int .i64 a), .p (.int .i64 b), .p (.int .i64 d)]) ⟨[],[]⟩)=true) (H:List IBlk) :
 CW tr.look F_Q3 [.p (.int .i64 a), .p (.int .i64 b), .p (.int .i64 d)] H=some (.p (.bool true),H):=by
 refine zanh none_Q3 (.inr ⟨rfl,rfl,by decide,[.p (.int .i64 a), .p (.int .i64 b), .p (.int .i64 d)],rfl,rfl,fun k hk=>?_⟩)
 match k,hk with
 |0,_=>exact hread (F:=i_Q3 0) zik rfl rfl rfl h0
 |1,_=>exact hread (F:=i_Q3 1) zil rfl rfl rfl h1
 |n+2,h=>exact absurd h (by show ¬n+2<2;omega)
noncomputable def onBT (K:List IVal→HC XF) (a0 a1 a2 a3:IVal):HC XF:=onB (xv fun a33=>xv fun a34=>xv fun a35=>xv fun a36=>x0 (onT K a33 a34 a35 a36)) a0 a1 a2 a3
noncomputable def onR (u v:Bool) (n i j:Nat) (s t:IVal) (M:Mem) (b d:Int):Bool:=endsT (hrun pcl 1000000 (onE u v (.p (.int .i64 b)) (mvi (n+1)) (.p (.int .i64 d)) (.ptr (.box 8) 0 0) s t (.ptr (.box 10) 0 0) (mvi i) (mvi j)) M)
theorem zdw {a b d:Int} (n i j:Nat) (hn:n<8) (ha : -9223372036854775808≤a∧a<9223372036854775808) (hb : -9223372036854775808≤b∧b<9223372036854775808) (hd : -9223372036854775808≤d∧d<9223372036854775808)
 (h0:a % (8:Int)=(n:Int)) (h1:b % ((n+1:Nat):Int)=(i:Int)) (h2:d % (5:Int)=(j:Int)) {s t:IVal} {M:Mem}
 (hs:∀(K:List IVal→HC XF) (a b d:Int),hrun pcl 1000000 (onBT K (.p (.int .i64 a)) (.p (.int .i64 b)) (.p (.int .i64 d)) (mvi n)) ⟨[],[]⟩=hrun pcl 1000000 (K [.p (.int .i64 b),mvi (n+1), .p (.int .i64 d), .ptr (.box 8) 0 0,s,t, .ptr (.box 10) 0 0]) M)
 (hc:∀b d:Int,onR true false n i j s t M b d=true∧onR false true n i j s t M b d=true) (H:List IBlk) :
 CW tr.look F_Q3 [.p (.int .i64 a), .p (.int .i64 b), .p (.int .i64 d)] H=some (.p (.bool true),H):=by
 have key:∀u v:Bool,(∀ b d:Int,onR u v n i j s t M b d=true)→endsT (hrun pcl 1000000 (zbf u v [.p (.int .i64 a), .p (.int .i64 b), .p (.int .i64 d)]) ⟨[],[]⟩)=true:=by
  intro u v hc
  rw[zbdo]
  show endsT (hrun pcl 1000000 (.op (zad (.p (.func F_Q5)) [.p (.int .i64 a),mvi 8]) fun a3=>onBT (onK2 u v) (.p (.int .i64 a)) (.p (.int .i64 b)) (.p (.int .i64 d)) a3) ⟨[],[]⟩)=true
  rw[zsb (zxw a 8 (by decide) (by decide) ha h0 _),hs]
  show endsT (hrun pcl 1000000 (.op (zad (.p (.func F_Q5)) [.p (.int .i64 b),mvi (n+1)]) fun a41 =>
   .op (zad (.p (.func F_Q5)) [.p (.int .i64 d),mvi 5]) fun a42=>onE u v (.p (.int .i64 b)) (mvi (n+1)) (.p (.int .i64 d)) (.ptr (.box 8) 0 0) s t (.ptr (.box 10) 0 0) a41 a42) M)=true
  rw[zsb (zxw b (n+1) (by omega) (by omega) hb h1 _),zsb (zxw d 5 (by decide) (by decide) hd h2 _)]
  exact hc b d
 exact hlaw3 (key true false fun b d=>(hc b d).1) (key false true fun b d=>(hc b d).2) H
def onM0:Mem:=⟨[(10, .cells [mvi 1, .p (.str []), .p (.str []), .p .nilslice, .slice 8 0 0 1] 5 0 false),(8, .cells [mvi 1, .p (.str []), .p (.str []), .p .nilslice, .slice 3 0 0 1] 5 0 false)],[.cells [.p (.str [120]), .p (.str [118])] 2 0 false, .cells [mvi 3, .p (.str []), .p (.str [116]), .p .nilslice, .p .nilslice] 5 0 false, .cells [mvi 2, .p (.str [97]), .p (.str []), .slice 0 0 0 1, .slice 1 0 0 1] 5 0 false, .cells [mvi 2, .p (.str [97]), .p (.str []), .slice 0 0 0 1, .slice 1 0 0 1] 5 0 true, .cells [.p (.str [120]), .p (.str [118])] 2 0 true, .cells [mvi 3, .p (.str []), .p (.str [116]), .p .nilslice, .p .nilslice] 5 0 false, .cells [mvi 3, .p (.str []), .p (.str [116]), .p .nilslice, .p .nilslice] 5 0 true, .cells [mvi 2, .p (.str [97]), .p (.str []), .slice 4 0 0 1, .slice 6 0 0 1] 5 0 false, .cells [mvi 2, .p (.str [97]), .p (.str []), .slice 4 0 0 1, .slice 6 0 0 1] 5 0 true]⟩
@[reducible] def onS0:IVal := .agg [mvi 1, .p (.str []), .p (.str []), .p .nilslice, .slice 3 0 0 1]
@[reducible] def onT0:IVal := .agg [mvi 1, .p (.str []), .p (.str []), .p .nilslice, .slice 8 0 0 1]
theorem onL0 (K:List IVal→HC XF) (a b d:Int):hrun pcl 1000000 (onBT K (.p (.int .i64 a)) (.p (.int .i64 b)) (.p (.int .i64 d)) (mvi 0)) ⟨[],[]⟩=hrun pcl 1000000 (K [.p (.int .i64 b),mvi (0+1), .p (.int .i64 d), .ptr (.box 8) 0 0,onS0,onT0, .ptr (.box 10) 0 0]) onM0:=by kernel_rfl
def onM1:Mem:=⟨[(10, .cells [mvi 1, .p (.str []), .p (.str []), .p .nilslice, .slice 11 1 0 2] 5 0 false),(8, .cells [mvi 1, .p (.str []), .p (.str []), .p .nilslice, .slice 3 1 0 2] 5 0 false)],[.cells [.p (.str [120]), .p (.str [118])] 2 0 false, .cells [mvi 3, .p (.str []), .p (.str [116]), .p .nilslice, .p .nilslice] 5 0 false, .cells [mvi 2, .p (.str [97]), .p (.str []), .slice 0 0 0 1, .slice 1 0 0 1] 5 0 false, .cells [mvi 2, .p (.str [97]), .p (.str []), .slice 0 0 0 1, .slice 1 0 0 1,mvi 2, .p (.str [98]), .p (.str []), .slice 4 0 0 1, .slice 5 0 0 1] 5 1 true, .cells [.p (.str [120]), .p (.str [118])] 2 0 false, .cells [mvi 3, .p (.str []), .p (.str [116]), .p .nilslice, .p .nilslice] 5 0 false, .cells [mvi 2, .p (.str [98]), .p (.str []), .slice 4 0 0 1, .slice 5 0 0 1] 5 0 false, .cells [.p (.str [120]), .p (.str [118])] 2 0 true, .cells [mvi 3, .p (.str []), .p (.str [116]), .p .nilslice, .p .nilslice] 5 0 false, .cells [mvi 3, .p (.str []), .p (.str [116]), .p .nilslice, .p .nilslice] 5 0 true, .cells [mvi 2, .p (.str [97]), .p (.str []), .slice 7 0 0 1, .slice 9 0 0 1] 5 0 false, .cells [mvi 2, .p (.str [97]), .p (.str []), .slice 7 0 0 1, .slice 9 0 0 1,mvi 2, .p (.str [98]), .p (.str []), .slice 12 0 0 1, .slice 14 0 0 1] 5 1 true, .cells [.p (.str [120]), .p (.str [118])] 2 0 true, .cells [mvi 3, .p (.str []), .p (.str [116]), .p .nilslice, .p .nilslice] 5 0 false, .cells [mvi 3, .p (.str []), .p (.str [116]), .p .nilslice, .p .nilslice] 5 0 true, .cells [mvi 2, .p (.str [98]), .p (.str []), .slice 12 0 0 1, .slice 14 0 0 1] 5 0 false]⟩
@[reducible] def onS1:IVal := .agg [mvi 1, .p (.str []), .p (.str []), .p .nilslice, .slice 3 1 0 2]
@[reducible] def onT1:IVal := .agg [mvi 1, .p (.str []), .p (.str []), .p .nilslice, .slice 11 1 0 2]
theorem onL1 (K:List IVal→HC XF) (a b d:Int):hrun pcl 1000000 (onBT K (.p (.int .i64 a)) (.p (.int .i64 b)) (.p (.int .i64 d)) (mvi 1)) ⟨[],[]⟩=hrun pcl 1000000 (K [.p (.int .i64 b),mvi (1+1), .p (.int .i64 d), .ptr (.box 8) 0 0,onS1,onT1, .ptr (.box 10) 0 0]) onM1:=by kernel_rfl
def onM2:Mem:=⟨[(10, .cells [mvi 1, .p (.str []), .p (.str []), .p .nilslice, .slice 14 2 0 3] 5 0 false),(8, .cells [mvi 1, .p (.str []), .p (.str []), .p .nilslice, .slice 3 2 0 3] 5 0 false)],[.cells [.p (.str [120]), .p (.str [118])] 2 0 false, .cells [mvi 3, .p (.str []), .p (.str [116]), .p .nilslice, .p .nilslice] 5 0 false, .cells [mvi 2, .p (.str [97]), .p (.str []), .slice 0 0 0 1, .slice 1 0 0 1] 5 0 false, .cells [mvi 2, .p (.str [97]), .p (.str []), .slice 0 0 0 1, .slice 1 0 0 1,mvi 2, .p (.str [98]), .p (.str []), .slice 4 0 0 1, .slice 5 0 0 1,mvi 2, .p (.str [99]), .p (.str []), .slice 7 0 0 1, .slice 8 0 0 1] 5 2 true, .cells [.p (.str [120]), .p (.str [118])] 2 0 false, .cells [mvi 3, .p (.str []), .p (.str [116]), .p .nilslice, .p .nilslice] 5 0 false, .cells [mvi 2, .p (.str [98]), .p (.str []), .slice 4 0 0 1, .slice 5 0 0 1] 5 0 false, .cells [.p (.str [120]), .p (.str [118])] 2 0 false, .cells [mvi 3, .p (.str []), .p (.str [116]), .p .nilslice, .p .nilslice] 5 0 false, .cells [mvi 2, .p (.str [99]), .p (.str []), .slice 7 0 0 1, .slice 8 0 0 1] 5 0 false, .cells [.p (.str [120]), .p (.str [118])] 2 0 true, .cells [mvi 3, .p (.str []), .p (.str [116]), .p .nilslice, .p .nilslice] 5 0 false, .cells [mvi 3, .p (.str []), .p (.str [116]), .p .nilslice, .p .nilslice] 5 0 true, .cells [mvi 2, .p (.str [97]), .p (.str []), .slice 10 0 0 1, .slice 12 0 0 1] 5 0 false, .cells [mvi 2, .p (.str [97]), .p (.str []), .slice 10 0 0 1, .slice 12 0 0 1,mvi 2, .p (.str [98]), .p (.str []), .slice 15 0 0 1, .slice 17 0 0 1,mvi 2, .p (.str [99]), .p (.str []), .slice 19 0 0 1, .slice 21 0 0 1] 5 2 true, .cells [.p (.str [120]), .p (.str [118])] 2 0 true, .cells [mvi 3, .p (.str []), .p (.str [116]), .p .nilslice, .p .nilslice] 5 0 false, .cells [mvi 3, .p (.str []), .p (.str [116]), .p .nilslice, .p .nilslice] 5 0 true, .cells [mvi 2, .p (.str [98]), .p (.str []), .slice 15 0 0 1, .slice 17 0 0 1] 5 0 false, .cells [.p (.str [120]), .p (.str [118])] 2 0 true, .cells [mvi 3, .p (.str []), .p (.str [116]), .p .nilslice, .p .nilslice] 5 0 false, .cells [mvi 3, .p (.str []), .p (.str [116]), .p .nilslice, .p .nilslice] 5 0 true, .cells [mvi 2, .p (.str [99]), .p (.str []), .slice 19 0 0 1, .slice 21 0 0 1] 5 0 false]⟩
@[reducible] def onS2:IVal := .agg [mvi 1, .p (.str []), .p (.str []), .p .nilslice, .slice 3 2 0 3]
@[reducible] def onT2:IVal := .agg [mvi 1, .p (.str []), .p (.str []), .p .nilslice, .slice 14 2 0 3]
theorem onL2 (K:List IVal→HC XF) (a b d:Int):hrun pcl 1000000 (onBT K (.p (.int .i64 a)) (.p (.int .i64 b)) (.p (.int .i64 d)) (mvi 2)) ⟨[],[]⟩=hrun pcl 1000000 (K [.p (.int .i64 b),mvi (2+1), .p (.int .i64 d), .ptr (.box 8) 0 0,onS2,onT2, .ptr (.box 10) 0 0]) onM2:=by kernel_rfl
def onM3:Mem:=⟨[(10, .cells [mvi 1, .p (.str []), .p (.str []), .p .nilslice, .slice 17 3 0 4] 5 0 false),(8, .cells [mvi 1, .p (.str []), .p (.str []), .p .nilslice, .slice 3 3 0 4] 5 0 false)],[.cells [.p (.str [120]), .p (.str [118])] 2 0 false, .cells [mvi 3, .p (.str []), .p (.str [116]), .p .nilslice, .p .nilslice] 5 0 false, .cells [mvi 2, .p (.str [97]), .p (.str []), .slice 0 0 0 1, .slice 1 0 0 1] 5 0 false, .cells [mvi 2, .p (.str [97]), .p (.str []), .slice 0 0 0 1, .slice 1 0 0 1,mvi 2, .p (.str [98]), .p (.str []), .slice 4 0 0 1, .slice 5 0 0 1,mvi 2, .p (.str [99]), .p (.str []), .slice 7 0 0 1, .slice 8 0 0 1,mvi 2, .p (.str [100]), .p (.str []), .slice 10 0 0 1, .slice 11 0 0 1] 5 3 true, .cells [.p (.str [120]), .p (.str [118])] 2 0 false, .cells [mvi 3, .p (.str []), .p (.str [116]), .p .nilslice, .p .nilslice] 5 0 false, .cells [mvi 2, .p (.str [98]), .p (.str []), .slice 4 0 0 1, .slice 5 0 0 1] 5 0 false, .cells [.p (.str [120]), .p (.str [118])] 2 0 false, .cells [mvi 3, .p (.str []), .p (.str [116]), .p .nilslice, .p .nilslice] 5 0 false, .cells [mvi 2, .p (.str [99]), .p (.str []), .slice 7 0 0 1, .slice 8 0 0 1] 5 0 false, .cells [.p (.str [120]), .p (.str [118])] 2 0 false, .cells [mvi 3, .p (.str []), .p (.str [116]), .p .nilslice, .p .nilslice] 5 0 false, .cells [mvi 2, .p (.str [100]), .p (.str []), .slice 10 0 0 1, .slice 11 0 0 1] 5 0 false, .cells [.p (.str [120]), .p (.str [118])] 2 0 true, .cells [mvi 3, .p (.str []), .p (.str [116]), .p .nilslice, .p .nilslice] 5 0 false, .cells [mvi 3, .p (.str []), .p (.str [116]), .p .nilslice, .p .nilslice] 5 0 true, .cells [mvi 2, .p (.str [97]), .p (.str []), .slice 13 0 0 1, .slice 15 0 0 1] 5 0 false, .cells [mvi 2, .p (.str [97]), .p (.str []), .slice 13 0 0 1, .slice 15 0 0 1,mvi 2, .p (.str [98]), .p (.str []), .slice 18 0 0 1, .slice 20 0 0 1,mvi 2, .p (.str [99]), .p (.str []), .slice 22 0 0 1, .slice 24 0 0 1,mvi 2, .p (.str [100]), .p (.str []), .slice 26 0 0 1, .slice 28 0 0 1] 5 3 true, .cells [.p (.str [120]), .p (.str [118])] 2 0 true, .cells [mvi 3, .p (.str []), .p (.str [116]), .p .nilslice, .p .nilslice] 5 0 false, .cells [mvi 3, .p (.str []), .p (.str [116]), .p .nilslice, .p .nilslice] 5 0 true, .cells [mvi 2, .p (.str [98]), .p (.str []), .slice 18 0 0 1, .slice 20 0 0 1] 5 0 false, .cells [.p (.str [120]), .p (.str [118])] 2 0 true, .cells [mvi 3, .p (.str []), .p (.str [116]), .p .nilslice, .p .nilslice] 5 0 false, .cells [mvi 3, .p (.str []), .p (.str [116]), .p .nilslice, .p .nilslice] 5 0 true, .cells [mvi 2, .p (.str [99]), .p (.str []), .slice 22 0 0 1, .slice 24 0 0 1] 5 0 false, .cells [.p (.str [120]), .p (.str [118])] 2 0 true, .cells [mvi 3, .p (.str []), .p (.str [116]), .p .nilslice, .p .nilslice] 5 0 false, .cells [mvi 3, .p (.str []), .p (.str [116]), .p .nilslice, .p .nilslice] 5 0 true, .cells [mvi 2, .p (.str [100]), .p (.str []), .slice 26 0 0 1, .slice 28 0 0 1] 5 0 false]⟩
@[reducible] def onS3:IVal := .agg [mvi 1, .p (.str []), .p (.str []), .p .nilslice, .slice 3 3 0 4]
@[reducible] def onT3:IVal := .agg [mvi 1, .p (.str []), .p (.str []), .p .nilslice, .slice 17 3 0 4]
theorem onL3 (K:List IVal→HC XF) (a b d:Int):hrun pcl 1000000 (onBT K (.p (.int .i64 a)) (.p (.int .i64 b)) (.p (.int .i64 d)) (mvi 3)) ⟨[],[]⟩=hrun pcl 1000000 (K [.p (.int .i64 b),mvi (3+1), .p (.int .i64 d), .ptr (.box 8) 0 0,onS3,onT3, .ptr (.box 10) 0 0]) onM3:=by kernel_rfl
def onM4:Mem:=⟨[(10, .cells [mvi 1, .p (.str []), .p (.str []), .p .nilslice, .slice 20 4 0 5] 5 0 false),(8, .cells [mvi 1, .p (.str []), .p (.str []), .p .nilslice, .slice 3 4 0 5] 5 0 false)],[.cells [.p (.str [120]), .p (.str [118])] 2 0 false, .cells [mvi 3, .p (.str []), .p (.str [116]), .p .nilslice, .p .nilslice] 5 0 false, .cells [mvi 2, .p (.str [97]), .p (.str []), .slice 0 0 0 1, .slice 1 0 0 1] 5 0 false, .cells [mvi 2, .p (.str [97]), .p (.str []), .slice 0 0 0 1, .slice 1 0 0 1,mvi 2, .p (.str [98]), .p (.str []), .slice 4 0 0 1, .slice 5 0 0 1,mvi 2, .p (.str [99]), .p (.str []), .slice 7 0 0 1, .slice 8 0 0 1,mvi 2, .p (.str [100]), .p (.str []), .slice 10 0 0 1, .slice 11 0 0 1,mvi 2, .p (.str [101]), .p (.str []), .slice 13 0 0 1, .slice 14 0 0 1] 5 4 true, .cells [.p (.str [120]), .p (.str [118])] 2 0 false, .cells [mvi 3, .p (.str []), .p (.str [116]), .p .nilslice, .p .nilslice] 5 0 false, .cells [mvi 2, .p (.str [98]), .p (.str []), .slice 4 0 0 1, .slice 5 0 0 1] 5 0 false, .cells [.p (.str [120]), .p (.str [118])] 2 0 false, .cells [mvi 3, .p (.str []), .p (.str [116]), .p .nilslice, .p .nilslice] 5 0 false, .cells [mvi 2, .p (.str [99]), .p (.str []), .slice 7 0 0 1, .slice 8 0 0 1] 5 0 false, .cells [.p (.str [120]), .p (.str [118])] 2 0 false, .cells [mvi 3, .p (.str []), .p (.str [116]), .p .nilslice, .p .nilslice] 5 0 false, .cells [mvi 2, .p (.str [100]), .p (.str []), .slice 10 0 0 1, .slice 11 0 0 1] 5 0 false, .cells [.p (.str [120]), .p (.str [118])] 2 0 false, .cells [mvi 3, .p (.str []), .p (.str [116]), .p .nilslice, .p .nilslice] 5 0 false, .cells [mvi 2, .p (.str [101]), .p (.str []), .slice 13 0 0 1, .slice 14 0 0 1] 5 0 false, .cells [.p (.str [120]), .p (.str [118])] 2 0 true, .cells [mvi 3, .p (.str []), .p (.str [116]), .p .nilslice, .p .nilslice] 5 0 false, .cells [mvi 3, .p (.str []), .p (.str [116]), .p .nilslice, .p .nilslice] 5 0 true, .cells [mvi 2, .p (.str [97]), .p (.str []), .slice 16 0 0 1, .slice 18 0 0 1] 5 0 false, .cells [mvi 2, .p (.str [97]), .p (.str []), .slice 16 0 0 1, .slice 18 0 0 1,mvi 2, .p (.str [98]), .p (.str []), .slice 21 0 0 1, .slice 23 0 0 1,mvi 2, .p (.str [99]), .p (.str []), .slice 25 0 0 1, .slice 27 0 0 1,mvi 2, .p (.str [100]), .p (.str []), .slice 29 0 0 1, .slice 31 0 0 1,mvi 2, .p (.str [101]), .p (.str []), .slice 33 0 0 1, .slice 35 0 0 1] 5 4 true, .cells [.p (.str [120]), .p (.str [118])] 2 0 true, .cells [mvi 3, .p (.str []), .p (.str [116]), .p .nilslice, .p .nilslice] 5 0 false, .cells [mvi 3, .p (.str []), .p (.str [116]), .p .nilslice, .p .nilslice] 5 0 true, .cells [mvi 2, .p (.str [98]), .p (.str []), .slice 21 0 0 1, .slice 23 0 0 1] 5 0 false, .cells [.p (.str [120]), .p (.str [118])] 2 0 true, .cells [mvi 3, .p (.str []), .p (.str [116]), .p .nilslice, .p .nilslice] 5 0 false, .cells [mvi 3, .p (.str []), .p (.str [116]), .p .nilslice, .p .nilslice] 5 0 true, .cells [mvi 2, .p (.str [99]), .p (.str []), .slice 25 0 0 1, .slice 27 0 0 1] 5 0 false, .cells [.p (.str [120]), .p (.str [118])] 2 0 true, .cells [mvi 3, .p (.str []), .p (.str [116]), .p .nilslice, .p .nilslice] 5 0 false, .cells [mvi 3, .p (.str []), .p (.str [116]), .p .nilslice, .p .nilslice] 5 0 true, .cells [mvi 2, .p (.str [100]), .p (.str []), .slice 29 0 0 1, .slice 31 0 0 1] 5 0 false, .cells [.p (.str [120]), .p (.str [118])] 2 0 true, .cells [mvi 3, .p (.str []), .p (.str [116]), .p .nilslice, .p .nilslice] 5 0 false, .cells [mvi 3, .p (.str []), .p (.str [116]), .p .nilslice, .p .nilslice] 5 0 true, .cells [mvi 2, .p (.str [101]), .p (.str []), .slice 33 0 0 1, .slice 35 0 0 1] 5 0 false]⟩
@[reducible] def onS4:IVal := .agg [mvi 1, .p (.str []), .p (.str []), .p .nilslice, .slice 3 4 0 5]
@[reducible] def onT4:IVal := .agg [mvi 1, .p (.str []), .p (.str []), .p .nilslice, .slice 20 4 0 5]
theorem onL4 (K:List IVal→HC XF) (a b d:Int):hrun pcl 1000000 (onBT K (.p (.int .i64 a)) (.p (.int .i64 b)) (.p (.int .i64 d)) (mvi 4)) ⟨[],[]⟩=hrun pcl 1000000 (K [.p (.int .i64 b),mvi (4+1), .p (.int .i64 d), .ptr (.box 8) 0 0,onS4,onT4, .ptr (.box 10) 0 0]) onM4:=by kernel_rfl
def onM5:Mem:=⟨[(10, .cells [mvi 1, .p (.str []), .p (.str []), .p .nilslice, .slice 23 5 0 6] 5 0 false),(8, .cells [mvi 1, .p (.str []), .p (.str []), .p .nilslice, .slice 3 5 0 6] 5 0 false)],[.cells [.p (.str [120]), .p (.str [118])] 2 0 false, .cells [mvi 3, .p (.str []), .p (.str [116]), .p .nilslice, .p .nilslice] 5 0 false, .cells [mvi 2, .p (.str [97]), .p (.str []), .slice 0 0 0 1, .slice 1 0 0 1] 5 0 false, .cells [mvi 2, .p (.str [97]), .p (.str []), .slice 0 0 0 1, .slice 1 0 0 1,mvi 2, .p (.str [98]), .p (.str []), .slice 4 0 0 1, .slice 5 0 0 1,mvi 2, .p (.str [99]), .p (.str []), .slice 7 0 0 1, .slice 8 0 0 1,mvi 2, .p (.str [100]), .p (.str []), .slice 10 0 0 1, .slice 11 0 0 1,mvi 2, .p (.str [101]), .p (.str []), .slice 13 0 0 1, .slice 14 0 0 1,mvi 2, .p (.str [102]), .p (.str []), .slice 16 0 0 1, .slice 17 0 0 1] 5 5 true, .cells [.p (.str [120]), .p (.str [118])] 2 0 false, .cells [mvi 3, .p (.str []), .p (.str [116]), .p .nilslice, .p .nilslice] 5 0 false, .cells [mvi 2, .p (.str [98]), .p (.str []), .slice 4 0 0 1, .slice 5 0 0 1] 5 0 false, .cells [.p (.str [120]), .p (.str [118])] 2 0 false, .cells [mvi 3, .p (.str []), .p (.str [116]), .p .nilslice, .p .nilslice] 5 0 false, .cells [mvi 2, .p (.str [99]), .p (.str []), .slice 7 0 0 1, .slice 8 0 0 1] 5 0 false, .cells [.p (.str [120]), .p (.str [118])] 2 0 false, .cells [mvi 3, .p (.str []), .p (.str [116]), .p .nilslice, .p .nilslice] 5 0 false, .cells [mvi 2, .p (.str [100]), .p (.str []), .slice 10 0 0 1, .slice 11 0 0 1] 5 0 false, .cells [.p (.str [120]), .p (.str [118])] 2 0 false, .cells [mvi 3, .p (.str []), .p (.str [116]), .p .nilslice, .p .nilslice] 5 0 false, .cells [mvi 2, .p (.str [101]), .p (.str []), .slice 13 0 0 1, .slice 14 0 0 1] 5 0 false, .cells [.p (.str [120]), .p (.str [118])] 2 0 false, .cells [mvi 3, .p (.str []), .p (.str [116]), .p .nilslice, .p .nilslice] 5 0 false, .cells [mvi 2, .p (.str [102]), .p (.str []), .slice 16 0 0 1, .slice 17 0 0 1] 5 0 false, .cells [.p (.str [120]), .p (.str [118])] 2 0 true, .cells [mvi 3, .p (.str []), .p (.str [116]), .p .nilslice, .p .nilslice] 5 0 false, .cells [mvi 3, .p (.str []), .p (.str [116]), .p .nilslice, .p .nilslice] 5 0 true, .cells [mvi 2, .p (.str [97]), .p (.str []), .slice 19 0 0 1, .slice 21 0 0 1] 5 0 false, .cells [mvi 2, .p (.str [97]), .p (.str []), .slice 19 0 0 1, .slice 21 0 0 1,mvi 2, .p (.str [98]), .p (.str []), .slice 24 0 0 1, .slice 26 0 0 1,mvi 2, .p (.str [99]), .p (.str []), .slice 28 0 0 1, .slice 30 0 0 1,mvi 2, .p (.str [100]), .p (.str []), .slice 32 0 0 1, .slice 34 0 0 1,mvi 2, .p (.str [101]), .p (.str []), .slice 36 0 0 1, .slice 38 0 0 1,mvi 2, .p (.str [102]), .p (.str []), .slice 40 0 0 1, .slice 42 0 0 1] 5 5 true, .cells [.p (.str [120]), .p (.str [118])] 2 0 true, .cells [mvi 3, .p (.str []), .p (.str [116]), .p .nilslice, .p .nilslice] 5 0 false, .cells [mvi 3, .p (.str []), .p (.str [116]), .p .nilslice, .p .nilslice] 5 0 true, .cells [mvi 2, .p (.str [98]), .p (.str []), .slice 24 0 0 1, .slice 26 0 0 1] 5 0 false, .cells [.p (.str [120]), .p (.str [118])] 2 0 true, .cells [mvi 3, .p (.str []), .p (.str [116]), .p .nilslice, .p .nilslice] 5 0 false, .cells [mvi 3, .p (.str []), .p (.str [116]), .p .nilslice, .p .nilslice] 5 0 true, .cells [mvi 2, .p (.str [99]), .p (.str []), .slice 28 0 0 1, .slice 30 0 0 1] 5 0 false, .cells [.p (.str [120]), .p (.str [118])] 2 0 true, .cells [mvi 3, .p (.str []), .p (.str [116]), .p .nilslice, .p .nilslice] 5 0 false, .cells [mvi 3, .p (.str []), .p (.str [116]), .p .nilslice, .p .nilslice] 5 0 true, .cells [mvi 2, .p (.str [100]), .p (.str []), .slice 32 0 0 1, .slice 34 0 0 1] 5 0 false, .cells [.p (.str [120]), .p (.str [118])] 2 0 true, .cells [mvi 3, .p (.str []), .p (.str [116]), .p .nilslice, .p .nilslice] 5 0 false, .cells [mvi 3, .p (.str []), .p (.str [116]), .p .nilslice, .p .nilslice] 5 0 true, .cells [mvi 2, .p (.str [101]), .p (.str []), .slice 36 0 0 1, .slice 38 0 0 1] 5 0 false, .cells [.p (.str [120]), .p (.str [118])] 2 0 true, .cells [mvi 3, .p (.str []), .p (.str [116]), .p .nilslice, .p .nilslice] 5 0 false, .cells [mvi 3, .p (.str []), .p (.str [116]), .p .nilslice, .p .nilslice] 5 0 true, .cells [mvi 2, .p (.str [102]), .p (.str []), .slice 40 0 0 1, .slice 42 0 0 1] 5 0 false]⟩
@[reducible] def onS5:IVal := .agg [mvi 1, .p (.str []), .p (.str []), .p .nilslice, .slice 3 5 0 6]
@[reducible] def onT5:IVal := .agg [mvi 1, .p (.str []), .p (.str []), .p .nilslice, .slice 23 5 0 6]
theorem onL5 (K:List IVal→HC XF) (a b d:Int):hrun pcl 1000000 (onBT K (.p (.int .i64 a)) (.p (.int .i64 b)) (.p (.int .i64 d)) (mvi 5)) ⟨[],[]⟩=hrun pcl 1000000 (K [.p (.int .i64 b),mvi (5+1), .p (.int .i64 d), .ptr (.box 8) 0 0,onS5,onT5, .ptr (.box 10) 0 0]) onM5:=by kernel_rfl
def onM6:Mem:=⟨[(10, .cells [mvi 1, .p (.str []), .p (.str []), .p .nilslice, .slice 26 6 0 7] 5 0 false),(8, .cells [mvi 1, .p (.str []), .p (.str []), .p .nilslice, .slice 3 6 0 7] 5 0 false)],[.cells [.p (.str [120]), .p (.str [118])] 2 0 false, .cells [mvi 3, .p (.str []), .p (.str [116]), .p .nilslice, .p .nilslice] 5 0 false, .cells [mvi 2, .p (.str [97]), .p (.str []), .slice 0 0 0 1, .slice 1 0 0 1] 5 0 false, .cells [mvi 2, .p (.str [97]), .p (.str []), .slice 0 0 0 1, .slice 1 0 0 1,mvi 2, .p (.str [98]), .p (.str []), .slice 4 0 0 1, .slice 5 0 0 1,mvi 2, .p (.str [99]), .p (.str []), .slice 7 0 0 1, .slice 8 0 0 1,mvi 2, .p (.str [100]), .p (.str []), .slice 10 0 0 1, .slice 11 0 0 1,mvi 2, .p (.str [101]), .p (.str []), .slice 13 0 0 1, .slice 14 0 0 1,mvi 2, .p (.str [102]), .p (.str []), .slice 16 0 0 1, .slice 17 0 0 1,mvi 2, .p (.str [103]), .p (.str []), .slice 19 0 0 1, .slice 20 0 0 1] 5 6 true, .cells [.p (.str [120]), .p (.str [118])] 2 0 false, .cells [mvi 3, .p (.str []), .p (.str [116]), .p .nilslice, .p .nilslice] 5 0 false, .cells [mvi 2, .p (.str [98]), .p (.str []), .slice 4 0 0 1, .slice 5 0 0 1] 5 0 false, .cells [.p (.str [120]), .p (.str [118])] 2 0 false, .cells [mvi 3, .p (.str []), .p (.str [116]), .p .nilslice, .p .nilslice] 5 0 false, .cells [mvi 2, .p (.str [99]), .p (.str []), .slice 7 0 0 1, .slice 8 0 0 1] 5 0 false, .cells [.p (.str [120]), .p (.str [118])] 2 0 false, .cells [mvi 3, .p (.str []), .p (.str [116]), .p .nilslice, .p .nilslice] 5 0 false, .cells [mvi 2, .p (.str [100]), .p (.str []), .slice 10 0 0 1, .slice 11 0 0 1] 5 0 false, .cells [.p (.str [120]), .p (.str [118])] 2 0 false, .cells [mvi 3, .p (.str []), .p (.str [116]), .p .nilslice, .p .nilslice] 5 0 false, .cells [mvi 2, .p (.str [101]), .p (.str []), .slice 13 0 0 1, .slice 14 0 0 1] 5 0 false, .cells [.p (.str [120]), .p (.str [118])] 2 0 false, .cells [mvi 3, .p (.str []), .p (.str [116]), .p .nilslice, .p .nilslice] 5 0 false, .cells [mvi 2, .p (.str [102]), .p (.str []), .slice 16 0 0 1, .slice 17 0 0 1] 5 0 false, .cells [.p (.str [120]), .p (.str [118])] 2 0 false, .cells [mvi 3, .p (.str []), .p (.str [116]), .p .nilslice, .p .nilslice] 5 0 false, .cells [mvi 2, .p (.str [103]), .p (.str []), .slice 19 0 0 1, .slice 20 0 0 1] 5 0 false, .cells [.p (.str [120]), .p (.str [118])] 2 0 true, .cells [mvi 3, .p (.str []), .p (.str [116]), .p .nilslice, .p .nilslice] 5 0 false, .cells [mvi 3, .p (.str []), .p (.str [116]), .p .nilslice, .p .nilslice] 5 0 true, .cells [mvi 2, .p (.str [97]), .p (.str []), .slice 22 0 0 1, .slice 24 0 0 1] 5 0 false, .cells [mvi 2, .p (.str [97]), .p (.str []), .slice 22 0 0 1, .slice 24 0 0 1,mvi 2, .p (.str [98]), .p (.str []), .slice 27 0 0 1, .slice 29 0 0 1,mvi 2, .p (.str [99]), .p (.str []), .slice 31 0 0 1, .slice 33 0 0 1,mvi 2, .p (.str [100]), .p (.str []), .slice 35 0 0 1, .slice 37 0 0 1,mvi 2, .p (.str [101]), .p (.str []), .slice 39 0 0 1, .slice 41 0 0 1,mvi 2, .p (.str [102]), .p (.str []), .slice 43 0 0 1, .slice 45 0 0 1,mvi 2, .p (.str [103]), .p (.str []), .slice 47 0 0 1, .slice 49 0 0 1] 5 6 true, .cells [.p (.str [120]), .p (.str [118])] 2 0 true, .cells [mvi 3, .p (.str []), .p (.str [116]), .p .nilslice, .p .nilslice] 5 0 false, .cells [mvi 3, .p (.str []), .p (.str [116]), .p .nilslice, .p .nilslice] 5 0 true, .cells [mvi 2, .p (.str [98]), .p (.str []), .slice 27 0 0 1, .slice 29 0 0 1] 5 0 false, .cells [.p (.str [120]), .p (.str [118])] 2 0 true, .cells [mvi 3, .p (.str []), .p (.str [116]), .p .nilslice, .p .nilslice] 5 0 false, .cells [mvi 3, .p (.str []), .p (.str [116]), .p .nilslice, .p .nilslice] 5 0 true, .cells [mvi 2, .p (.str [99]), .p (.str []), .slice 31 0 0 1, .slice 33 0 0 1] 5 0 false, .cells [.p (.str [120]), .p (.str [118])] 2 0 true, .cells [mvi 3, .p (.str []), .p (.str [116]), .p .nilslice, .p .nilslice] 5 0 false, .cells [mvi 3, .p (.str []), .p (.str [116]), .p .nilslice, .p .nilslice] 5 0 true, .cells [mvi 2, .p (.str [100]), .p (.str []), .slice 35 0 0 1, .slice 37 0 0 1] 5 0 false, .cells [.p (.str [120]), .p (.str [118])] 2 0 true, .cells [mvi 3, .p (.str []), .p (.str [116]), .p .nilslice, .p .nilslice] 5 0 false, .cells [mvi 3, .p (.str []), .p (.str [116]), .p .nilslice, .p .nilslice] 5 0 true, .cells [mvi 2, .p (.str [101]), .p (.str []), .slice 39 0 0 1, .slice 41 0 0 1] 5 0 false, .cells [.p (.str [120]), .p (.str [118])] 2 0 true, .cells [mvi 3, .p (.str []), .p (.str [116]), .p .nilslice, .p .nilslice] 5 0 false, .cells [mvi 3, .p (.str []), .p (.str [116]), .p .nilslice, .p .nilslice] 5 0 true, .cells [mvi 2, .p (.str [102]), .p (.str []), .slice 43 0 0 1, .slice 45 0 0 1] 5 0 false, .cells [.p (.str [120]), .p (.str [118])] 2 0 true, .cells [mvi 3, .p (.str []), .p (.str [116]), .p .nilslice, .p .nilslice] 5 0 false, .cells [mvi 3, .p (.str []), .p (.str [116]), .p .nilslice, .p .nilslice] 5 0 true, .cells [mvi 2, .p (.str [103]), .p (.str []), .slice 47 0 0 1, .slice 49 0 0 1] 5 0 false]⟩
@[reducible] def onS6:IVal := .agg [mvi 1, .p (.str []), .p (.str []), .p .nilslice, .slice 3 6 0 7]
@[reducible] def onT6:IVal := .agg [mvi 1, .p (.str []), .p (.str []), .p .nilslice, .slice 26 6 0 7]
theorem onL6 (K:List IVal→HC XF) (a b d:Int):hrun pcl 1000000 (onBT K (.p (.int .i64 a)) (.p (.int .i64 b)) (.p (.int .i64 d)) (mvi 6)) ⟨[],[]⟩=hrun pcl 1000000 (K [.p (.int .i64 b),mvi (6+1), .p (.int .i64 d), .ptr (.box 8) 0 0,onS6,onT6, .ptr (.box 10) 0 0]) onM6:=by kernel_rfl
def onM7:Mem:=⟨[(10, .cells [mvi 1, .p (.str []), .p (.str []), .p .nilslice, .slice 29 7 0 8] 5 0 false),(8, .cells [mvi 1, .p (.str []), .p (.str []), .p .nilslice, .slice 3 7 0 8] 5 0 false)],[.cells [.p (.str [120]), .p (.str [118])] 2 0 false, .cells [mvi 3, .p (.str []), .p (.str [116]), .p .nilslice, .p .nilslice] 5 0 false, .cells [mvi 2, .p (.str [97]), .p (.str []), .slice 0 0 0 1, .slice 1 0 0 1] 5 0 false, .cells [mvi 2, .p (.str [97]), .p (.str []), .slice 0 0 0 1, .slice 1 0 0 1,mvi 2, .p (.str [98]), .p (.str []), .slice 4 0 0 1, .slice 5 0 0 1,mvi 2, .p (.str [99]), .p (.str []), .slice 7 0 0 1, .slice 8 0 0 1,mvi 2, .p (.str [100]), .p (.str []), .slice 10 0 0 1, .slice 11 0 0 1,mvi 2, .p (.str [101]), .p (.str []), .slice 13 0 0 1, .slice 14 0 0 1,mvi 2, .p (.str [102]), .p (.str []), .slice 16 0 0 1, .slice 17 0 0 1,mvi 2, .p (.str [103]), .p (.str []), .slice 19 0 0 1, .slice 20 0 0 1,mvi 2, .p (.str [104]), .p (.str []), .slice 22 0 0 1, .slice 23 0 0 1] 5 7 true, .cells [.p (.str [120]), .p (.str [118])] 2 0 false, .cells [mvi 3, .p (.str []), .p (.str [116]), .p .nilslice, .p .nilslice] 5 0 false, .cells [mvi 2, .p (.str [98]), .p (.str []), .slice 4 0 0 1, .slice 5 0 0 1] 5 0 false, .cells [.p (.str [120]), .p (.str [118])] 2 0 false, .cells [mvi 3, .p (.str []), .p (.str [116]), .p .nilslice, .p .nilslice] 5 0 false, .cells [mvi 2, .p (.str [99]), .p (.str []), .slice 7 0 0 1, .slice 8 0 0 1] 5 0 false, .cells [.p (.str [120]), .p (.str [118])] 2 0 false, .cells [mvi 3, .p (.str []), .p (.str [116]), .p .nilslice, .p .nilslice] 5 0 false, .cells [mvi 2, .p (.str [100]), .p (.str []), .slice 10 0 0 1, .slice 11 0 0 1] 5 0 false, .cells [.p (.str [120]), .p (.str [118])] 2 0 false, .cells [mvi 3, .p (.str []), .p (.str [116]), .p .nilslice, .p .nilslice] 5 0 false, .cells [mvi 2, .p (.str [101]), .p (.str []), .slice 13 0 0 1, .slice 14 0 0 1] 5 0 false, .cells [.p (.str [120]), .p (.str [118])] 2 0 false, .cells [mvi 3, .p (.str []), .p (.str [116]), .p .nilslice, .p .nilslice] 5 0 false, .cells [mvi 2, .p (.str [102]), .p (.str []), .slice 16 0 0 1, .slice 17 0 0 1] 5 0 false, .cells [.p (.str [120]), .p (.str [118])] 2 0 false, .cells [mvi 3, .p (.str []), .p (.str [116]), .p .nilslice, .p .nilslice] 5 0 false, .cells [mvi 2, .p (.str [103]), .p (.str []), .slice 19 0 0 1, .slice 20 0 0 1] 5 0 false, .cells [.p (.str [120]), .p (.str [118])] 2 0 false, .cells [mvi 3, .p (.str []), .p (.str [116]), .p .nilslice, .p .nilslice] 5 0 false, .cells [mvi 2, .p (.str [104]), .p (.str []), .slice 22 0 0 1, .slice 23 0 0 1] 5 0 false, .cells [.p (.str [120]), .p (.str [118])] 2 0 true, .cells [mvi 3, .p (.str []), .p (.str [116]), .p .nilslice, .p .nilslice] 5 0 false, .cells [mvi 3, .p (.str []), .p (.str [116]), .p .nilslice, .p .nilslice] 5 0 true, .cells [mvi 2, .p (.str [97]), .p (.str []), .slice 25 0 0 1, .slice 27 0 0 1] 5 0 false, .cells [mvi 2, .p (.str [97]), .p (.str []), .slice 25 0 0 1, .slice 27 0 0 1,mvi 2, .p (.str [98]), .p (.str []), .slice 30 0 0 1, .slice 32 0 0 1,mvi 2, .p (.str [99]), .p (.str []), .slice 34 0 0 1, .slice 36 0 0 1,mvi 2, .p (.str [100]), .p (.str []), .slice 38 0 0 1, .slice 40 0 0 1,mvi 2, .p (.str [101]), .p (.str []), .slice 42 0 0 1, .slice 44 0 0 1,mvi 2, .p (.str [102]), .p (.str []), .slice 46 0 0 1, .slice 48 0 0 1,mvi 2, .p (.str [103]), .p (.str []), .slice 50 0 0 1, .slice 52 0 0 1,mvi 2, .p (.str [104]), .p (.str []), .slice 54 0 0 1, .slice 56 0 0 1] 5 7 true, .cells [.p (.str [120]), .p (.str [118])] 2 0 true, .cells [mvi 3, .p (.str []), .p (.str [116]), .p .nilslice, .p .nilslice] 5 0 false, .cells [mvi 3, .p (.str []), .p (.str [116]), .p .nilslice, .p .nilslice] 5 0 true, .cells [mvi 2, .p (.str [98]), .p (.str []), .slice 30 0 0 1, .slice 32 0 0 1] 5 0 false, .cells [.p (.str [120]), .p (.str [118])] 2 0 true, .cells [mvi 3, .p (.str []), .p (.str [116]), .p .nilslice, .p .nilslice] 5 0 false, .cells [mvi 3, .p (.str []), .p (.str [116]), .p .nilslice, .p .nilslice] 5 0 true, .cells [mvi 2, .p (.str [99]), .p (.str []), .slice 34 0 0 1, .slice 36 0 0 1] 5 0 false, .cells [.p (.str [120]), .p (.str [118])] 2 0 true, .cells [mvi 3, .p (.str []), .p (.str [116]), .p .nilslice, .p .nilslice] 5 0 false, .cells [mvi 3, .p (.str []), .p (.str [116]), .p .nilslice, .p .nilslice] 5 0 true, .cells [mvi 2, .p (.str [100]), .p (.str []), .slice 38 0 0 1, .slice 40 0 0 1] 5 0 false, .cells [.p (.str [120]), .p (.str [118])] 2 0 true, .cells [mvi 3, .p (.str []), .p (.str [116]), .p .nilslice, .p .nilslice] 5 0 false, .cells [mvi 3, .p (.str []), .p (.str [116]), .p .nilslice, .p .nilslice] 5 0 true, .cells [mvi 2, .p (.str [101]), .p (.str []), .slice 42 0 0 1, .slice 44 0 0 1] 5 0 false, .cells [.p (.str [120]), .p (.str [118])] 2 0 true, .cells [mvi 3, .p (.str []), .p (.str [116]), .p .nilslice, .p .nilslice] 5 0 false, .cells [mvi 3, .p (.str []), .p (.str [116]), .p .nilslice, .p .nilslice] 5 0 true, .cells [mvi 2, .p (.str [102]), .p (.str []), .slice 46 0 0 1, .slice 48 0 0 1] 5 0 false, .cells [.p (.str [120]), .p (.str [118])] 2 0 true, .cells [mvi 3, .p (.str []), .p (.str [116]), .p .nilslice, .p .nilslice] 5 0 false, .cells [mvi 3, .p (.str []), .p (.str [116]), .p .nilslice, .p .nilslice] 5 0 true, .cells [mvi 2, .p (.str [103]), .p (.str []), .slice 50 0 0 1, .slice 52 0 0 1] 5 0 false, .cells [.p (.str [120]), .p (.str [118])] 2 0 true, .cells [mvi 3, .p (.str []), .p (.str [116]), .p .nilslice, .p .nilslice] 5 0 false, .cells [mvi 3, .p (.str []), .p (.str [116]), .p .nilslice, .p .nilslice] 5 0 true, .cells [mvi 2, .p (.str [104]), .p (.str []), .slice 54 0 0 1, .slice 56 0 0 1] 5 0 false]⟩
@[reducible] def onS7:IVal := .agg [mvi 1, .p (.str []), .p (.str []), .p .nilslice, .slice 3 7 0 8]
@[reducible] def onT7:IVal := .agg [mvi 1, .p (.str []), .p (.str []), .p .nilslice, .slice 29 7 0 8]
theorem onL7 (K:List IVal→HC XF) (a b d:Int):hrun pcl 1000000 (onBT K (.p (.int .i64 a)) (.p (.int .i64 b)) (.p (.int .i64 d)) (mvi 7)) ⟨[],[]⟩=hrun pcl 1000000 (K [.p (.int .i64 b),mvi (7+1), .p (.int .i64 d), .ptr (.box 8) 0 0,onS7,onT7, .ptr (.box 10) 0 0]) onM7:=by kernel_rfl
end Go.Ideal
