/-
  WHAT THE LIBRARY's SORT AND THE MATCH SAY, RECKONED; ALL CALLS OF THIS SEAT, RECKONED.
-/
import Derived.Test.YtbhblbkehmlcfaaGreatW5
import Derived.Test.YtbhblbkehmlcfaaGreatW3
import Derived.Test.YtbhblbkehmlcfaaGreatW4
namespace Go.Ideal
open Go
set_option maxHeartbeats 4000000
set_option maxRecDepth 20000
attribute [-simp] getElem?_pos
noncomputable def rdPairs (n:Nat) (cs:List IVal):Option (List (Nat×Nat)) :=
 Nat.rec (motive:=fun _=>List IVal→Option (List (Nat×Nat))) (fun _=>some []) (fun _ ih cs=>match cs with
  | .p (.int .i64 (.ofNat a)) :: .p (.int .i64 (.ofNat b))::r=>match ih r with
    |some l=>some ((a,b)::l)
    |none=>none
  |_=>none) n cs
theorem zaat:∀(n:Nat) (cs:List IVal) (L:List (Nat×Nat)),rdPairs n cs=some L→L.length=n∧n*2≤cs.length∧cs.take (n*2)=pcells (prc L)
 |0,cs,L,h=>by injection h with h;subst h;simp[prc,pcells]
 |n+1,cs,L,h=>by
  unfold rdPairs at h
  dsimp only at h
  split at h
  ·rename_i a b r
   change (match rdPairs n r with|some l=>some ((a,b)::l)|none=>none)=some L at h
   split at h
   ·rename_i l hl
    injection h with h
    subst h
    obtain⟨h1,h2,h3⟩:=zaat n r l hl
    refine⟨by simp[h1],by simp;omega,?_⟩
    rw[show(n+1)*2=n*2+1+1 by omega,List.take_succ_cons,List.take_succ_cons,h3]
    simp[prc,pcells]
   ·cases h
  ·cases h
noncomputable def memN (a:Nat) (l:List (Nat×Nat)):Bool:=List.rec (motive:=fun _=>Bool) false (fun p _ ih=>Bool.rec ih true (Nat.beq p.1 a)) l
noncomputable def nodupN (l:List (Nat×Nat)):Bool:=List.rec (motive:=fun _=>Bool) true (fun p t ih=>Bool.rec ih false (memN p.1 t)) l
theorem zaly (a:Nat):∀l,memN a l=false→a∉l.map (·.1)
 | [],_,h=>by simp at h
 |p::l,e,h=>by
  have e:(Bool.rec (memN a l) true (Nat.beq p.1 a):Bool)=false:=e
  cases hb:Nat.beq p.1 a with
  |true=>rw[hb]at e;cases e
  |false =>
   rw[hb]at e
   rcases List.mem_cons.1 h with rfl|h
   ·rw[Nat.beq_refl]at hb;cases hb
   ·exact zaly a l e h
theorem zwf:∀l,nodupN l=true→(l.map (·.1)).Nodup
 | [],_=>by simp
 |p::l,e=>by
  have e:(Bool.rec (nodupN l) false (memN p.1 l):Bool)=true:=e
  cases hb:memN p.1 l with
  |true=>rw[hb]at e;cases e
  |false =>
   rw[hb]at e
   rw[List.map_cons,List.nodup_cons]
   exact⟨zaly _ _ hb,zwf l e⟩
noncomputable def prow (l:List (Nat×Nat)):List IVal:=List.rec (motive:=fun _=>List IVal) [] (fun p _ ih=>Prod.rec (fun a b=>.p (.int .i64 (.ofNat a)) :: .p (.int .i64 (.ofNat b))::ih) p) l
theorem zara:∀l,prow l=pcells (prc l)
 | []=>rfl
 |(a,b)::l=>by
  show IVal.p (.int .i64 (.ofNat a)) :: .p (.int .i64 (.ofNat b))::prow l=_
  rw[zara l]
  rfl
noncomputable def insN (p:Nat×Nat) (l:List (Nat×Nat)):List (Nat×Nat):=List.rec (motive:=fun _=>List (Nat×Nat)) [p] (fun q t ih=>Bool.rec (q::ih) (p::q::t) (Nat.ble p.1 q.1)) l
noncomputable def sortN (l:List (Nat×Nat)):List (Nat×Nat):=List.rec (motive:=fun _=>List (Nat×Nat)) [] (fun p _ ih=>insN p ih) l
theorem zwg (p:Nat×Nat):∀l,(insN p l).Perm (p::l)
 | []=>List.Perm.refl _
 |q::t=>by
  show(Bool.rec (q::insN p t) (p::q::t) (Nat.ble p.1 q.1):List (Nat×Nat)).Perm _
  cases Nat.ble p.1 q.1 with
  |true=>exact List.Perm.refl _
  |false=>exact((zwg p t).cons q).trans (List.Perm.swap _ _ _)
theorem zwh (p:Nat×Nat):∀l:List (Nat×Nat),(l.Pairwise fun p q=>p.1≤q.1)→(insN p l).Pairwise fun p q=>p.1≤q.1
 | [],_=>by show[p].Pairwise _;simp
 |q::t,h=>by
  show(Bool.rec (q::insN p t) (p::q::t) (Nat.ble p.1 q.1):List (Nat×Nat)).Pairwise _
  rw[List.pairwise_cons]at h
  cases hb:Nat.ble p.1 q.1 with
  |true =>
   have hle:=Nat.le_of_ble_eq_true hb
   refine List.pairwise_cons.2 ⟨fun x hx=>?_,List.pairwise_cons.2 h⟩
   rcases List.mem_cons.1 hx with rfl|hx
   ·exact hle
   ·exact Nat.le_trans hle (h.1 x hx)
  |false =>
   have hle:q.1≤p.1:=by
    rcases Nat.lt_or_ge q.1 p.1 with h'|h'
    ·omega
    ·rw[Nat.ble_eq_true_of_le h']at hb;cases hb
   refine List.pairwise_cons.2 ⟨fun x hx=>?_,zwh p t h.2⟩
   rcases List.mem_cons.1 ((zwg p t).mem_iff.1 hx)with rfl|hx
   ·exact hle
   ·exact h.1 x hx
theorem zaau:∀l,(sortN l).Perm l
 | []=>List.Perm.refl _
 |p::l=>(zwg p (sortN l)).trans ((zaau l).cons p)
theorem zsu:∀l,(sortN l).Pairwise fun p q=>p.1≤q.1
 | []=>List.Pairwise.nil
 |p::l=>zwh p _ (zsu l)
theorem zalz {l:List (Nat×Nat)} (h:(l.map (·.1)).Nodup):sortN l=sortP l:=zkk h (zaau l) (zsu l)
noncomputable def isCmp (g:Nat):Bool:=Bool.rec (Bool.rec (Bool.rec (Nat.beq g F_Q135) true (Nat.beq g F_Q63)) true (Nat.beq g F_Q39)) true (Nat.beq g F_Q91)
theorem zavk {g:Nat} (h:isCmp g=true):g∈[F_Q91,F_Q39,F_Q63,F_Q135]:=by
 unfold isCmp at h
 cases h1:Nat.beq g F_Q91 with
 |true=>simp[Nat.eq_of_beq_eq_true h1]
 |false =>
  rw[h1]at h
  cases h2:Nat.beq g F_Q39 with
  |true=>simp[Nat.eq_of_beq_eq_true h2]
  |false =>
   rw[h2]at h
   cases h3:Nat.beq g F_Q63 with
   |true=>simp[Nat.eq_of_beq_eq_true h3]
   |false =>
    rw[h3]at h
    simp[Nat.eq_of_beq_eq_true h]
noncomputable def sortE (args:List IVal) (H:List IBlk):Option (IVal×List IBlk) :=
 match args with
 | [v, .p (.func g)]=>match isCmp g with
   |true=>match v with
    | .p .nilslice=>some (.tup [],H)
    | .slice k ver off n=>match Nat.beq off 0,lget H k with
      |true,some (.cells cs e w op)=>match Nat.beq ver w&&Nat.beq e 2,rdPairs n cs with
       |true,some L=>match nodupN L&&(Nat.ble (n+1) 1000000&&!(Nat.beq n 0))with
        |true=>lall (gsplice cs 0 (prow (sortN L))) fun cs'=>lall (lset H k (.cells cs' 2 w op)) fun H'=>some (.tup [],H')
        |false=>none
       |_,_=>none
      |_,_=>none
    |_=>none
   |false=>none
 |_=>none
theorem zavl {args:List IVal} {H:List IBlk} {r:IVal×List IBlk} (h:sortE args H=some r):CW tr.look F_Q38 args H=some r:=by
 unfold sortE at h
 split at h
 ·rename_i v g
  split at h
  ·rename_i hg
   have hg:=zavk hg
   split at h
   ·injection h with h
    subst h
    exact zqs none_Q38 (zkl hg (zsp _ _ _))
   ·rename_i k ver off n
    split at h
    ·rename_i cs e w op h1 h2
     split at h
     ·rename_i L h3 h4
      split at h
      ·rename_i h5
       rw[zag,zag,zfk,zara,zacg]at h
       injection h with h
       subst h
       rw[zdc]at h2
       have ho:=Nat.eq_of_beq_eq_true h1
       rw[Bool.and_eq_true]at h3
       have hv:=Nat.eq_of_beq_eq_true h3.1
       have he:=Nat.eq_of_beq_eq_true h3.2
       subst ho hv he
       rw[Bool.and_eq_true,Bool.and_eq_true]at h5
       have hn:=zwf L h5.1
       rw[zalz hn]
       have hlt:=Nat.le_of_ble_eq_true h5.2.1
       have h0:n≠0:=fun e=>by rw[e]at h5;simp at h5
       obtain⟨g1,g2,g3⟩:=zaat n cs L h4
       have hsz:(L.map toI).toArray.size=L.length:=by simp
       have hs:=zsq pairKit g (H:=H) (i:=k) (ver:=ver) (off:=0) (L.map toI).toArray h2 (by omega) (by omega) (by rw[hsz];show 0+L.length*2≤_;omega) (by
        rw[hsz,zacl,List.drop_zero,g1];exact g3)
       rw[hsz,zss hn,zacl,g1]at hs
       exact zqs none_Q38 (zkl hg hs)
      ·cases h
     ·cases h
    ·cases h
   ·cases h
  ·cases h
 ·cases h
end Go.Ideal

/-
  THE MATCH, RECKONED; ALL CALLS OF THIS SEAT, RECKONED.
-/
namespace Go.Ideal
open Go
set_option maxHeartbeats 4000000
set_option maxRecDepth 20000
attribute [-simp] getElem?_pos
noncomputable def rdEnts (es:List Ent) (n:Nat):Option (List (Nat×Nat)) :=
 List.rec (motive:=fun _=>Nat→Option (List (Nat×Nat))) (fun _=>some []) (fun e _ ih n=>match e with
  |(.p (.int .i64 (.ofNat a)), .p (.int .i64 (.ofNat b)),s)=>match Nat.beq s n with
   |true=>match ih (n+1)with
    |some l=>some ((a,b)::l)
    |none=>none
   |false=>none
  |_=>none) es n
theorem zagh:∀(es:List Ent) (n:Nat) (L:List (Nat×Nat)),rdEnts es n=some L→es=ME0 n (toE L)
 | [],n,L,h=>by injection h with h;subst h;rfl
 |e::es,n,L,h=>by
  unfold rdEnts at h
  dsimp only at h
  split at h
  ·rename_i a b s
   split at h
   ·rename_i hs
    have hs:=Nat.eq_of_beq_eq_true hs
    subst hs
    change (match rdEnts es (s+1)with|some l=>some ((a,b)::l)|none=>none)=some L at h
    split at h
    ·rename_i l hl
     injection h with h
     subst h
     rw[zagh es (s+1) l hl]
     rfl
    ·cases h
   ·cases h
  ·cases h
theorem zarb (l:List (Nat×Nat)):(toE l).length=l.length:=by simp[toE]
theorem zarc {args az:List IVal} {H:List IBlk} {T:List IVal} {M:Mem} {es:List Ent} {ck:Nat} {l:List (Nat×Nat)} (haz:freezeAll H args=some az) (hlen:az.length=2)
 (hW:evalCode (CW tr.look) loopW i_Q29.cut.pre ⟨az++List.replicate (i_Q29.nt-az.length) skipped,⟨[],[]⟩⟩=some (.normal,⟨T,M⟩)) (q2:T.length=i_Q29.nt) (q3:T.getD 127 .undef = .map 0) (q4:T.getD 16 .undef = .p .nilslice)
 (hmap:M.heap[0]? = some (.map es ck)) (hl:rdEnts es 0=some l) (hn:(l.map (·.1)).Nodup) (hck:ck=es.length) (hlt:l.length+1≤1000000) (h0:l≠[]) :
 CW tr.look F_Q29 args H=some (.p (.slice 2 l.length (prc (sortN l))),H):=by
 have hes:=zagh es 0 l hl
 have hek:es.length=l.length:=by rw[hes,zaxu,zarb]
 rw[zalz hn]
 refine zayh none_Q29 ⟨rfl,rfl,az,haz,hlen, .normal,_,hW,0,es,ck,?_,hmap,?_,fun n σ hσ=>?_⟩
 ·exact q3
 ·rw[hes,hck,hek,←zarb l]
  exact zaco (toE l)
 ·have hmem:∀e∈σ,∃p:Nat×Nat,∃s,e=(vI p.1,vI p.2,s):=fun e he=>by
   have he:=hσ.mem_iff.1 he
   rw[hes]at he
   obtain⟨p,_,s,hs⟩:=zalw l 0 e he
   exact⟨p,s,hs⟩
  have hmapp:(σ.map entP).Perm l:=by
   have:=hσ.map entP
   rw[hes,zalx]at this
   exact this
  have hsl:σ.length=l.length:=by rw[hσ.length_eq,hek]
  have hrel:RelE 143 [(128, .v (.opq n)),(16, .v (.p .nilslice))] (T.set 128 (.opq n)):=by
   refine⟨by rw[List.length_set];exact q2,fun i=>?_⟩
   rw[zvl,zaal,zaal,zapy]
   by_cases h1:128=i
   ·subst h1
    rw[if_pos rfl,if_pos ⟨rfl,by rw[q2];decide⟩]
    exact .inr rfl
   ·have h3:¬(128=i∧128<T.length):=fun x=>h1 x.1
    rw[if_neg h1,if_neg h3]
    by_cases h2:16=i
    ·subst h2
     rw[if_pos rfl,q4]
     exact .inr rfl
    ·rw[if_neg h2]
     exact .inl rfl
  have hrm:RelM ⟨[],M.heap⟩ M:=⟨fun s b hb=>(by cases hb),rfl⟩
  refine zaam (F:=i_Q29) (by decide) (by decide) (zagf n (.map es ck) _ σ [] (.p .nilslice) none M.heap _ [] hmem (by simp only[List.length_nil,hsl];omega) rfl rfl hmap ⟨rfl,rfl,rfl⟩ (by simp) fun K' lv' o' g1 g2=>?_) hrel hrm
  rw[List.nil_append]at g2
  have hnd:((σ.map entP).map (·.1)).Nodup:=(hmapp.map _).nodup_iff.2 hn
  obtain⟨K2,p1,p2⟩:=zbbk (g:=F_Q63) (by simp) lv' o' _ hnd (by rw[hmapp.length_eq];omega) K' g2
  have hun:sortP (σ.map entP)=sortP l:=by
   symm
   refine zkk hnd ((zhf l).trans hmapp.symm) (zsr l)
  have hlen2:(sortP l).length=l.length:=(zhf l).length_eq
  have hne:sortP l≠[]:=fun e=>h0 (List.length_eq_zero_iff.1 (by rw[← hlen2,e];rfl))
  rw[hun,hmapp.length_eq,←hlen2]at p2
  exact⟨K2,p1,by rw[← hlen2];exact zagg p2 hne,zajn p2⟩
end Go.Ideal



/-
  IDEAL SEMANTICS, 54: THE OPERATIONS OVER KNOWN VALUES, AS THE KERNEL RECKONS THEM FASTEST: few and small terms; what comes out is laid out.
-/
namespace Go.Ideal
open Go
set_option linter.unusedSectionVars false
abbrev XR:=Option (IVal×Mem)
abbrev XF:=Oracle→Mem→XR
def noRho:Opd→IVal:=evalOpd [] [] []
noncomputable def cv (x:Opd):IVal:=Opd.rec (motive:=fun _=>IVal) (fun _=>.undef) (fun v=>v) (fun f=>.p (.func f)) x
theorem cv_eq:∀x:Opd,cv x=noRho x
 | .tmp _=>rfl
 | .const _=>rfl
 | .func _=>rfl
noncomputable def cvs (l:List Opd):List IVal:=List.rec (motive:=fun _=>List IVal) [] (fun x _ ih=>cv x::ih) l
theorem zama:∀l:List Opd,cvs l=l.map noRho
 | []=>rfl
 |x::r=>by show cv x::cvs r=_;rw[cv_eq,zama r];rfl
noncomputable def cvo (o:Option Opd):Option IVal:=Option.rec (motive:=fun _=>Option IVal) none (fun x=>some (cv x)) o
noncomputable def cvp (l:List (Nat×Nat×Opd)):List (Nat×Nat×IVal):=List.rec (motive:=fun _=>List (Nat×Nat×IVal)) [] (fun p _ ih=>Prod.rec (fun a q=>Prod.rec (fun b x=>(a,b,cv x)::ih) q) p) l
noncomputable def pN (p:PVal):Option (IntKind×Int):=PVal.rec (motive_1:=fun _=>Option (IntKind×Int)) (motive_2:=fun _=>PUnit) (fun _=>none) (fun k n=>some (k,n)) (fun _=>none) (fun _ _ _ _=>none) (fun _ _=>none) (fun _=>none) none none none none none ⟨⟩ (fun _ _ _ _=>⟨⟩) p
noncomputable def toP (v:IVal):Option PVal:=IVal.rec (motive_1:=fun _=>Option PVal) (motive_2:=fun _=>PUnit) (fun p=>some p) (fun _ _ _=>none) (fun _ _ _ _=>none) (fun _=>none) (fun _ _ _=>none) (fun _ _=>none) (fun _ _=>none) none (fun _=>none) (fun _ _ _ _=>none) ⟨⟩ (fun _ _ _ _=>⟨⟩) v
theorem zamb {v:IVal} {p:PVal} (h:toP v=some p):v = .p p:=by
 cases v<;>first|(injection h with h;rw[h];done)|cases h
theorem zbbm {p:PVal} {r:IntKind×Int} (h:pN p=some r):p = .int r.1 r.2:=by
 cases p<;>first|(injection h with h;rw[← h];done)|cases h
noncomputable def toI_h (v:IVal):Option (IntKind×Int):=Option.rec (motive:=fun _=>Option (IntKind×Int)) none pN (toP v)
theorem zua {v:IVal} {r:IntKind×Int} (h:toI_h v=some r):v = .p (.int r.1 r.2):=by
 unfold toI_h at h
 cases hp:toP v with
 |none=>rw[hp]at h;cases h
 |some p=>rw[hp]at h;rw[zamb hp,zbbm h]
noncomputable def ii (a b:IVal) (f:IntKind→IntKind→Int→Int→XR) (e:XR):XR :=
 Option.rec (motive:=fun _=>XR) e (fun p=>Option.rec (motive:=fun _=>XR) e (fun q=>Prod.rec (fun k x=>Prod.rec (fun l y=>f k l x y) q) p) (toI_h b)) (toI_h a)
theorem ii_eq {a b:IVal} {f:IntKind→IntKind→Int→Int→XR} {e r:XR} (h:∀k l x y,a = .p (.int k x)→b = .p (.int l y)→f k l x y=r) (he:e=r):ii a b f e=r:=by
 unfold ii
 cases ha:toI_h a with
 |none=>exact he
 |some p =>
  cases hb:toI_h b with
  |none=>exact he
  |some q=>exact h _ _ _ _ (zua ha) (zua hb)
noncomputable def xnum (M:Mem) (k:IntKind) (n:Nat):XR:=nforce n fun n=>some (.p (.int k (.ofNat n)),M)
noncomputable def xfit (M:Mem) (k:IntKind) (n:Nat):XR :=
 nforce n fun n=>Bool.rec (Bool.rec (some (.p (.int k (k.wrap (Int.ofNat n))),M)) (xnum M k (Nat.mod n (lim k))) (usg k)) (some (.p (.int k (.ofNat n)),M)) (Nat.ble (Nat.succ n) (lim k))
theorem znp (M:Mem) (k:IntKind) (n:Nat):xfit M k n=some (.p (.int k (k.wrap (n:Int))),M):=by
 have h:=zfr k n
 unfold gfit at h
 unfold xfit
 rw[zan]
 cases h1:Nat.ble (Nat.succ n) (lim k)with
 |true=>rw[h1]at h;injection h with h;show some (IVal.p (PVal.int k (Int.ofNat n)),M)=_;rw[← h]
 |false =>
  rw[h1]at h
  cases h2:usg k with
  |true=>rw[h2]at h;injection h with h;show some (IVal.p (PVal.int k (Int.ofNat _)),M)=_;rw[← h]
  |false=>rfl
noncomputable def xneg (M:Mem) (k:IntKind) (n:Nat):XR :=
 nforce n fun n=>Bool.rec (Bool.rec (some (.p (.int k (.negSucc n)),M)) (some (.p (.int k (k.wrap (.negSucc n))),M)) (usg k)) (some (.p (.int k (k.wrap (.negSucc n))),M)) (Nat.ble (lim k) n)
theorem zard (M:Mem) (k:IntKind) (n:Nat):xneg M k n=some (.p (.int k (k.wrap (.negSucc n))),M):=by
 have h:=zach k n
 unfold gneg at h
 unfold xneg
 rw[zan]
 cases h1:Nat.ble (lim k) n with
 |true=>rfl
 |false =>
  rw[h1]at h
  cases h2:usg k with
  |true=>rfl
  |false=>rw[h2]at h;injection h with h;show some (IVal.p (PVal.int k (Int.negSucc n)),M)=_;rw[← h]
noncomputable def nn (x y:Int) (f:Nat→Nat→XR) (e:XR):XR:=Int.rec (motive:=fun _=>XR) (fun a=>Int.rec (motive:=fun _=>XR) (fun b=>f a b) (fun _=>e) y) (fun _=>e) x
noncomputable def xof (M:Mem) (r:Option PVal):XR:=Option.rec (motive:=fun _=>XR) none (fun v=>pforce v fun v=>some (.p v,M)) r
theorem zagi (M:Mem) (r:Option PVal):xof M r=match r with|some v=>some (.p v,M)|none=>none:=by
 cases r with
 |none=>rfl
 |some v=>exact zagb v (fun v=>some (IVal.p v,M))
noncomputable def xar (op:BinOp) (f:Mem→IntKind→Nat→Nat→XR) (a b:IVal):XF:=fun _ M =>
 ii a b (fun k l x y=>Bool.rec none (nn x y (f M k) (xof M (intBin op k x y))) (kbeq k l)) (xof M (gbin op a b))
noncomputable def xbool (M:Mem) (b:Bool):XR:=Bool.rec (some (.p (.bool false),M)) (some (.p (.bool true),M)) b
theorem zub (M:Mem) (b:Bool):xbool M b=some (.p (.bool b),M):=by cases b<;>rfl
noncomputable def pS (p:PVal):Option (List UInt8):=PVal.rec (motive_1:=fun _=>Option (List UInt8)) (motive_2:=fun _=>PUnit) (fun _=>none) (fun _ _=>none) (fun s=>some s) (fun _ _ _ _=>none) (fun _ _=>none) (fun _=>none) none none none none none ⟨⟩ (fun _ _ _ _=>⟨⟩) p
noncomputable def toS (v:IVal):Option (List UInt8):=Option.rec (motive:=fun _=>Option (List UInt8)) none pS (toP v)
theorem zuc {v:IVal} {s:List UInt8} (h:toS v=some s):v = .p (.str s):=by
 unfold toS at h
 cases hp:toP v with
 |none=>rw[hp]at h;cases h
 |some p =>
  rw[hp]at h
  rw[zamb hp]
  cases p<;>first|(injection h with h;rw[h];done)|cases h
noncomputable def ss (a b:IVal) (f:List UInt8→List UInt8→XR) (e:XR):XR :=
 Option.rec (motive:=fun _=>XR) e (fun s=>Option.rec (motive:=fun _=>XR) e (fun t=>f s t) (toS b)) (toS a)
noncomputable def xcmp (op:BinOp) (f:Nat→Nat→Bool) (a b:IVal):XF:=fun _ M =>
 ii a b (fun k l x y=>Bool.rec none (nn x y (fun m n=>xbool M (f m n)) (xof M (gint op k x y))) (kbeq k l)) (xof M (gbin op a b))
noncomputable def xeq (neg:Bool) (op:BinOp) (f:Nat→Nat→Bool) (a b:IVal):XF:=fun _ M =>
 ii a b (fun k l x y=>Bool.rec none (nn x y (fun m n=>xbool M (f m n)) (xof M (gint op k x y))) (kbeq k l)) (ss a b (fun s t=>xbool M (Bool.rec (gstr s t) (gnot (gstr s t)) neg)) (xof M (gbin op a b)))
noncomputable def xgen (op:BinOp) (a b:IVal):XF:=fun _ M=>xof M (gbin op a b)
noncomputable def x_add:=xar .add fun M k a b=>xfit M k (Nat.add a b)
noncomputable def x_sub:=xar .sub fun M k a b=>Bool.rec (xneg M k (Nat.pred (Nat.sub b a))) (xfit M k (Nat.sub a b)) (Nat.ble b a)
noncomputable def x_mul:=xar .mul fun M k a b=>xfit M k (Nat.mul a b)
noncomputable def x_and:=xar .and fun M k a b=>xfit M k (Nat.land (Nat.mod a (full k)) (Nat.mod b (full k)))
noncomputable def x_or:=xar .or fun M k a b=>xfit M k (Nat.lor (Nat.mod a (full k)) (Nat.mod b (full k)))
noncomputable def x_xor:=xar .xor fun M k a b=>xfit M k (Nat.xor (Nat.mod a (full k)) (Nat.mod b (full k)))
noncomputable def x_eql:=xeq false .eql fun a b=>Nat.beq a b
noncomputable def x_neq:=xeq true .neq fun a b=>gnot (Nat.beq a b)
noncomputable def x_lss:=xcmp .lss fun a b=>Nat.ble (Nat.succ a) b
noncomputable def x_leq:=xcmp .leq fun a b=>Nat.ble a b
noncomputable def x_gtr:=xcmp .gtr fun a b=>Nat.ble (Nat.succ b) a
noncomputable def x_geq:=xcmp .geq fun a b=>Nat.ble b a
noncomputable def xbin (op:BinOp):IVal→IVal→XF :=
 BinOp.rec (motive:=fun _=>IVal→IVal→XF) x_add x_sub x_mul (xgen .quo) (xgen .rem) x_and x_or x_xor (xgen .shl) (xgen .shr) (xgen .andNot) x_eql x_neq x_lss x_leq x_gtr x_geq op
def binR (M:Mem) (op:BinOp) (a b:IVal):XR:=match evalBin op a b with|some v=>some (.p v,M)|none=>none
theorem zde (op:BinOp) (a b:IVal) (C:Oracle) (M:Mem):xgen op a b C M=binR M op a b:=by
 unfold xgen binR
 rw[zagi,zaqi]
theorem zaav {op:BinOp} {f:Mem→IntKind→Nat→Nat→XR} (ho:∀k l x y,evalBin op (.p (.int k x)) (.p (.int l y))=if k=l then intBin op k x y else none)
 (hf:∀M k (a b:Nat),f M k a b=match intBin op k (a:Int) (b:Int)with|some v=>some (.p v,M)|none=>none) (a b:IVal) (C:Oracle) (M:Mem):xar op f a b C M=binR M op a b:=by
 refine ii_eq (fun k l x y ha hb=>?_) (zde op a b C M)
 subst ha hb
 unfold binR
 rw[ho,zvr]
 by_cases h:k=l
 ·simp only[h,decide_true,if_true]
  show nn x y (f M l) (xof M (intBin op l x y))=_
  cases x with
  |negSucc m=>exact zagi M _
  |ofNat m =>
   cases y with
   |negSucc n=>exact zagi M _
   |ofNat n=>exact hf M l m n
 ·simp only[h,decide_false,if_false]
theorem zrb {op:BinOp} {f:Nat→Nat→Bool} (ho:∀k l x y,evalBin op (.p (.int k x)) (.p (.int l y))=if k=l then intBin op k x y else none)
 (hf:∀k (a b:Nat),some (PVal.bool (f a b))=intBin op k (a:Int) (b:Int)) (a b:IVal) (_:Oracle) (M:Mem) {e:XR} (he:e=binR M op a b):ii a b (fun k l x y=>Bool.rec none (nn x y (fun m n=>xbool M (f m n)) (xof M (gint op k x y))) (kbeq k l)) e=binR M op a b:=by
 refine ii_eq (fun k l x y ha hb=>?_) he
 subst ha hb
 unfold binR
 rw[ho,zvr]
 by_cases h:k=l
 ·simp only[h,decide_true,if_true]
  show nn x y (fun m n=>xbool M (f m n)) (xof M (gint op l x y))=_
  cases x with
  |negSucc m=>rw[zaje];exact zagi M _
  |ofNat m =>
   cases y with
   |negSucc n=>rw[zaje];exact zagi M _
   |ofNat n=>show xbool M (f m n)=match intBin op l (m:Int) (n:Int)with|some v=>some (IVal.p v,M)|none=>none;rw[zub,←hf]
 ·simp only[h,decide_false,if_false]
theorem zbbn (op:BinOp) (a b:IVal) (C:Oracle) (M:Mem):xbin op a b C M=binR M op a b:=by
 cases op with
 |add=>exact zaav (op := .add) (f:=fun M k a b=>xfit M k (Nat.add a b)) (fun _ _ _ _=>rfl) (fun M k a b=>znp M k (a+b)) a b C M
 |sub =>
  refine zaav (op := .sub) (f:=fun M k a b=>Bool.rec (xneg M k (Nat.pred (Nat.sub b a))) (xfit M k (Nat.sub a b)) (Nat.ble b a)) (fun _ _ _ _=>rfl) (fun M k a b=>?_) a b C M
  have h:=zaqf k a b
  unfold gsub at h
  show(Bool.rec (xneg M k (Nat.pred (Nat.sub b a))) (xfit M k (Nat.sub a b)) (Nat.ble b a):XR)=some (IVal.p (PVal.int k (k.wrap ((a:Int)-(b:Int)))),M)
  cases hb:Nat.ble b a with
  |true=>rw[hb]at h;dsimp only at h ⊢;rw[zfr]at h;rw[znp];injection h with h;rw[h]
  |false=>rw[hb]at h;dsimp only at h ⊢;rw[zach]at h;rw[zard];injection h with h;rw[h]
 |mul=>exact zaav (op := .mul) (f:=fun M k a b=>xfit M k (Nat.mul a b)) (fun _ _ _ _=>rfl) (fun M k a b=>znp M k (a*b)) a b C M
 |quo=>exact zde _ a b C M
 |rem=>exact zde _ a b C M
 |and=>exact zaav (op := .and) (f:=fun M k a b=>xfit M k (Nat.land (Nat.mod a (full k)) (Nat.mod b (full k)))) (fun _ _ _ _=>rfl) (fun M k a b=>by show xfit M k _=some (IVal.p (PVal.int k (k.wrap ((BitVec.ofInt k.bits (a:Int) &&& BitVec.ofInt k.bits (b:Int)).toNat:Nat))),M);rw[znp,zali]) a b C M
 |or=>exact zaav (op := .or) (f:=fun M k a b=>xfit M k (Nat.lor (Nat.mod a (full k)) (Nat.mod b (full k)))) (fun _ _ _ _=>rfl) (fun M k a b=>by show xfit M k _=some (IVal.p (PVal.int k (k.wrap ((BitVec.ofInt k.bits (a:Int) ||| BitVec.ofInt k.bits (b:Int)).toNat:Nat))),M);rw[znp,zaqg]) a b C M
 |xor=>exact zaav (op := .xor) (f:=fun M k a b=>xfit M k (Nat.xor (Nat.mod a (full k)) (Nat.mod b (full k)))) (fun _ _ _ _=>rfl) (fun M k a b=>by show xfit M k _=some (IVal.p (PVal.int k (k.wrap ((BitVec.ofInt k.bits (a:Int) ^^^ BitVec.ofInt k.bits (b:Int)).toNat:Nat))),M);rw[znp,zalj]) a b C M
 |shl=>exact zde _ a b C M
 |shr=>exact zde _ a b C M
 |andNot=>exact zde _ a b C M
 |eql =>
  refine zrb (op := .eql) (f:=fun a b=>Nat.beq a b) (fun _ _ _ _=>rfl) (fun k a b=>(zvw .eql k a b:_)) a b C M ?_
  unfold ss
  cases ha:toS a with
  |none=>exact zde .eql a b C M
  |some s =>
   cases hb:toS b with
   |none=>exact zde .eql a b C M
   |some t =>
    rw[zuc ha,zuc hb]
    show xbool M (gstr s t)=some (IVal.p (PVal.bool (s==t)),M)
    rw[zub,zvy,show(s==t)=decide (s=t)by rw[Bool.eq_iff_iff];simp]
 |neq =>
  refine zrb (op := .neq) (f:=fun a b=>gnot (Nat.beq a b)) (fun _ _ _ _=>rfl) (fun k a b=>(zvw .neq k a b:_)) a b C M ?_
  unfold ss
  cases ha:toS a with
  |none=>exact zde .neq a b C M
  |some s =>
   cases hb:toS b with
   |none=>exact zde .neq a b C M
   |some t =>
    rw[zuc ha,zuc hb]
    show xbool M (gnot (gstr s t))=some (IVal.p (PVal.bool (!(s==t))),M)
    rw[zub,zvs,zvy,show(s==t)=decide (s=t)by rw[Bool.eq_iff_iff];simp]
 |lss=>exact zrb (op := .lss) (f:=fun a b=>Nat.ble (Nat.succ a) b) (fun _ _ _ _=>rfl) (fun k a b=>(zvw .lss k a b:_)) a b C M (zde .lss a b C M)
 |leq=>exact zrb (op := .leq) (f:=fun a b=>Nat.ble a b) (fun _ _ _ _=>rfl) (fun k a b=>(zvw .leq k a b:_)) a b C M (zde .leq a b C M)
 |gtr=>exact zrb (op := .gtr) (f:=fun a b=>Nat.ble (Nat.succ b) a) (fun _ _ _ _=>rfl) (fun k a b=>(zvw .gtr k a b:_)) a b C M (zde .gtr a b C M)
 |geq=>exact zrb (op := .geq) (f:=fun a b=>Nat.ble b a) (fun _ _ _ _=>rfl) (fun k a b=>(zvw .geq k a b:_)) a b C M (zde .geq a b C M)
end Go.Ideal

/-
  IDEAL SEMANTICS, 54: THE OTHER OPERATIONS OVER KNOWN VALUES.
-/
namespace Go.Ideal
open Go
set_option linter.unusedSectionVars false
noncomputable def pB (p:PVal):Option Bool:=PVal.rec (motive_1:=fun _=>Option Bool) (motive_2:=fun _=>PUnit) (fun b=>some b) (fun _ _=>none) (fun _=>none) (fun _ _ _ _=>none) (fun _ _=>none) (fun _=>none) none none none none none ⟨⟩ (fun _ _ _ _=>⟨⟩) p
noncomputable def toB (v:IVal):Option Bool:=Option.rec (motive:=fun _=>Option Bool) none pB (toP v)
noncomputable def toC (v:IVal):Option (List IVal):=IVal.rec (motive_1:=fun _=>Option (List IVal)) (motive_2:=fun _=>PUnit) (fun p=>some [.p p]) (fun k a b=>Key.rec (motive:=fun _=>Option (List IVal)) (fun _=>none) (fun i=>some [.ptr (.heap i) a b]) k) (fun i a b c=>some [.slice i a b c]) (fun i=>some [.map i]) (fun f l _=>some [.func f l]) (fun cs _=>some cs) (fun _ _=>none) none (fun _=>none) (fun _ _ _ _=>none) ⟨⟩ (fun _ _ _ _=>⟨⟩) v
theorem zare (v:IVal):toC v=v.cellsOf:=by
 cases v with
 |ptr k a b=>cases k<;>rfl
 |_=>rfl
noncomputable def passB (v:IVal):Bool:=IVal.rec (motive_1:=fun _=>Bool) (motive_2:=fun _=>PUnit) (fun _=>true) (fun k _ _=>Key.rec (motive:=fun _=>Bool) (fun _=>false) (fun _=>true) k) (fun _ _ _ _=>true) (fun _=>true) (fun _ _ _=>true) (fun _ _=>true) (fun _ _=>true) false (fun _=>false) (fun _ _ _ _=>false) ⟨⟩ (fun _ _ _ _=>⟨⟩) v
theorem zpf (v:IVal):passB v=v.passOK:=by
 cases v with
 |ptr k a b=>cases k<;>rfl
 |_=>rfl
noncomputable def passesB (l:List IVal):Bool:=List.rec (motive:=fun _=>Bool) true (fun v _ ih=>Bool.rec false ih (passB v)) l
theorem zaaw:∀l,passesB l=passesOK l
 | []=>rfl
 |v::r=>by
  show(Bool.rec false (passesB r) (passB v):Bool)=_
  rw[zaaw r,zpf,passesOK]
  cases v.passOK<;>rfl
inductive PV where
 |cells (cs:List PVal)
 |ref (k:Key) (v o:Nat)
 |no
noncomputable def pPtr (p:PVal):PV:=PVal.rec (motive_1:=fun _=>PV) (motive_2:=fun _=>PUnit) (fun _=>.no) (fun _ _=>.no) (fun _=>.no) (fun _ _ _ _=>.no) (fun cs _=>.cells cs) (fun _=>.no) .no .no .no .no .no ⟨⟩ (fun _ _ _ _=>⟨⟩) p
noncomputable def toPV (v:IVal):PV:=IVal.rec (motive_1:=fun _=>PV) (motive_2:=fun _=>PUnit) pPtr (fun k a b=>.ref k a b) (fun _ _ _ _=>.no) (fun _=>.no) (fun _ _ _=>.no) (fun _ _=>.no) (fun _ _=>.no) .no (fun _=>.no) (fun _ _ _ _=>.no) ⟨⟩ (fun _ _ _ _=>⟨⟩) v
inductive SW where
 |cells (e n:Nat) (cs:List PVal)
 |ref (k v o n:Nat)
 |nil
 |no
noncomputable def pSl (p:PVal):SW:=PVal.rec (motive_1:=fun _=>SW) (motive_2:=fun _=>PUnit) (fun _=>.no) (fun _ _=>.no) (fun _=>.no) (fun e n cs _=>.cells e n cs) (fun _ _=>.no) (fun _=>.no) .no .nil .no .no .no ⟨⟩ (fun _ _ _ _=>⟨⟩) p
noncomputable def toSW (v:IVal):SW:=IVal.rec (motive_1:=fun _=>SW) (motive_2:=fun _=>PUnit) pSl (fun _ _ _=>.no) (fun k a b c=>.ref k a b c) (fun _=>.no) (fun _ _ _=>.no) (fun _ _=>.no) (fun _ _=>.no) .no (fun _=>.no) (fun _ _ _ _=>.no) ⟨⟩ (fun _ _ _ _=>⟨⟩) v
noncomputable def toCells (b:Option IBlk) (f:List IVal→Nat→Nat→Bool→XR):XR:=Option.rec (motive:=fun _=>XR) none (fun b=>IBlk.rec (motive:=fun _=>XR) f (fun _ _=>none) b) b
noncomputable def zwi {α:Type} (n:Nat) (l:List α) (k:List α→XR):XR :=
 List.rec (motive:=fun _=>Nat→XR) (fun n=>Nat.rec (motive:=fun _=>XR) (k []) (fun _ _=>none) n) (fun x t ih n=>Nat.rec (motive:=fun _=>XR) (k (x::t)) (fun n' _=>ih n') n) l n
theorem zacp {α:Type}:∀(l:List α) (n:Nat) (k:List α→XR),zwi n l k=match Nat.ble n l.length with|true=>k (l.drop n)|false=>none
 | [],0,_=>rfl
 | [],_+1,_=>rfl
 |_::_,0,_=>rfl
 |_::t,n+1,k=>(zacp t n k:_)
noncomputable def boxNew (M:Mem) (s:Nat) (b:IBlk):XR:=Option.rec (motive:=fun _=>XR) (some (.ptr (.box s) 0 0,Mem.rec (fun B H=>⟨(s,b)::B,H⟩) M)) (fun _=>none) (gfindBox M.boxes s)
noncomputable def heapNew (M:Mem) (b:IBlk) (f:Nat→IVal):XR:=nforce (llen M.heap) fun n=>some (f n,gpush M b)
noncomputable def xnew (M:Mem) (s:Option Nat) (b:IBlk):XR:=Option.rec (motive:=fun _=>XR) (heapNew M b fun n=>.ptr (.heap n) 0 0) (fun s=>boxNew M s b) s
theorem zajo (M:Mem) (s:Option Nat) (b:IBlk):xnew M s b=newBlk M s b:=by
 cases s with
 |none=>show some (IVal.ptr (.heap (llen M.heap)) 0 0,gpush M b)=_;rw[zaf,zgj];rfl
 |some s =>
  show boxNew M s b=_
  unfold boxNew newBlk
  rw[zik]
  dsimp only
  cases findBox M.boxes s<;>rfl
noncomputable def zbbo (s:Option Nat) (z:List PVal):XF:=fun _ M=>lall (gpc z) fun cs=>xnew M s (.cells cs (llen z) 0 false)
noncomputable def x_box (s:Option Nat) (n:Nat) (v:IVal):XF:=fun _ M=>Option.rec (motive:=fun _=>XR) none (fun cs=>Bool.rec none (xnew M s (.cells cs n 0 false)) (Nat.beq (llen cs) n)) (toC v)
noncomputable def xfill {R:Type} (parts:List (Nat×Nat×IVal)) (cells:List IVal) (k:List IVal→Option R):Option R :=
 List.rec (motive:=fun _=>List IVal→Option R) k (fun e _ ih c=>Prod.rec (fun off q=>Prod.rec (fun n v=>Option.rec (motive:=fun _=>Option R) none (fun new=>Bool.rec none (lall (gsplice c off new) ih) (Bool.rec false (Nat.ble (Nat.add off n) (llen c)) (Nat.beq (llen new) n))) (toC v)) q) e) parts cells
theorem zacq {R:Type} (k:List IVal→Option R):∀(parts:List (Nat×Nat×Opd)) (c:List IVal),xfill (cvp parts) c k=match fillParts noRho c parts with|some cs=>k cs|none=>none
 | [],c=>rfl
 |(off,n,x)::rest,c=>by
  have ih:=zacq k rest
  show(Option.rec (motive:=fun _=>Option R) none (fun new=>Bool.rec none (lall (gsplice c off new) fun c=>xfill (cvp rest) c k) (Bool.rec false (Nat.ble (Nat.add off n) (llen c)) (Nat.beq (llen new) n))) (toC (cv x)):Option R)=_
  rw[fillParts,zare,cv_eq]
  cases(noRho x).cellsOf with
  |none=>rfl
  |some new =>
   simp only[zag,zfk,zaf,ih]
   have hb:(Bool.rec false (Nat.ble (Nat.add off n) c.length) (Nat.beq new.length n):Bool)=(Nat.beq new.length n&&Nat.ble (off+n) c.length):=by cases Nat.beq new.length n<;>rfl
   rw[hb]
   cases(Nat.beq new.length n&&Nat.ble (off+n) c.length)<;>rfl
noncomputable def zbbp (z:List PVal) (p:List (Nat×Nat×IVal)):XF:=fun _ M=>xfill p (gpc z) fun cs=>some (.agg cs,M)
noncomputable def zagj (e n:Nat) (z:List PVal) (p:List (Nat×Nat×IVal)):XF:=fun _ M=>xfill p (grepl n z) fun cs=>heapNew M (.cells cs e 0 false) fun h=>.slice h 0 0 n
noncomputable def xread (M:Mem) (n:Nat) (v:IVal) (k:List IVal→XR):XR :=
 PV.rec (motive:=fun _=>XR) (fun cs=>prd n cs k) (fun key ver off=>toCells (gget M key) fun cs _ v _=>Bool.rec none (grow cs off n k) (Nat.beq ver v)) none (toPV v)
theorem zamc (M:Mem) (n:Nat) (v:IVal) (k:List IVal→XR):xread M n v k=gread M n v k:=by
 cases v with
 |p u=>cases u<;>rfl
 |ptr key ver off =>
  show toCells (gget M key) _=_
  unfold gread
  dsimp only
  cases gget M key with
  |none=>rfl
  |some b=>cases b<;>rfl
 |_=>rfl
noncomputable def one (M:Mem) (l:List IVal):XR:=List.rec (motive:=fun _=>XR) none (fun x t _=>List.rec (motive:=fun _=>XR) (some (x,M)) (fun _ _ _=>none) t) l
noncomputable def zbhv (n:Option Nat) (v:IVal):XF:=fun _ M=>Option.rec (motive:=fun _=>XR) (xread M 1 v (one M)) (fun n=>xread M n v fun cs=>some (.agg cs,M)) n
noncomputable def xwrite (M:Mem) (a:IVal) (new:List IVal) (k:Mem→XR):XR :=
 PV.rec (motive:=fun _=>XR) (fun _=>none) (fun key ver off=>toCells (gget M key) fun cs e v o=>Bool.rec none (Bool.rec none (lall (gsplice cs off new) fun cs'=>k (gput M key (.cells cs' e v o))) (Nat.ble (Nat.add off (llen new)) (llen cs))) (Nat.beq ver v)) none (toPV a)
theorem zarf (M:Mem) (a:IVal) (new:List IVal) (k:Mem→XR):xwrite M a new k=match writeCells M a new with|some M'=>k M'|none=>none:=by
 cases a with
 |p u=>cases u<;>rfl
 |ptr key ver off =>
  show toCells (gget M key) _=_
  rw[zcn]
  unfold writeCells
  dsimp only
  cases M.get key with
  |none=>rfl
  |some b =>
   cases b with
   |map=>rfl
   |cells cs e v o =>
    show(Bool.rec none (Bool.rec none (lall (gsplice cs off new) fun cs'=>k (gput M key (.cells cs' e v o))) (Nat.ble (Nat.add off (llen new)) (llen cs))) (Nat.beq ver v):XR)=_
    simp only[zag,zfk,zaf,znl]
    cases Nat.beq ver v with
    |false=>rfl
    |true =>
     simp only[Bool.true_and]
     show(Bool.rec none (k _) (Nat.ble (off+new.length) cs.length):XR)=_
     cases Nat.ble (off+new.length) cs.length<;>rfl
 |_=>rfl
noncomputable def zbbq (n:Nat) (a x:IVal):XF:=fun _ M=>Option.rec (motive:=fun _=>XR) none (fun cs=>Bool.rec none (xwrite M a cs fun M'=>some (.tup [],M')) (Nat.beq (llen cs) n)) (toC x)
noncomputable def okNilP (p:PVal):Bool:=PVal.rec (motive_1:=fun _=>Bool) (motive_2:=fun _=>PUnit) (fun _=>false) (fun _ _=>false) (fun _=>false) (fun _ _ _ _=>false) (fun _ _=>true) (fun _=>true) false false false false false ⟨⟩ (fun _ _ _ _=>⟨⟩) p
noncomputable def okNil (v:IVal):Bool:=IVal.rec (motive_1:=fun _=>Bool) (motive_2:=fun _=>PUnit) okNilP (fun _ _ _=>true) (fun _ _ _ _=>false) (fun _=>false) (fun _ _ _=>true) (fun _ _=>false) (fun _ _=>false) false (fun _=>false) (fun _ _ _ _=>false) ⟨⟩ (fun _ _ _ _=>⟨⟩) v
noncomputable def x_nil (v:IVal):XF:=fun _ M=>Bool.rec none (some (v,M)) (okNil v)
noncomputable def znq (off:Nat) (v:IVal):XF:=fun _ M=>PV.rec (motive:=fun _=>XR) (fun cs=>zwi off cs fun cs=>some (.p (.ptr cs),M)) (fun k a o=>nforce (Nat.add o off) fun o=>some (.ptr k a o,M)) none (toPV v)
noncomputable def xidx (n:Nat) (v:IVal) (k:Nat→XR):XR:=Option.rec (motive:=fun _=>XR) none (fun p=>Prod.rec (fun _ i=>Int.rec (motive:=fun _=>XR) (fun a=>Bool.rec none (k a) (Nat.ble (Nat.succ a) n)) (fun _=>none) i) p) (toI_h v)
theorem zwj (n:Nat) (v:IVal) (k:Nat→XR):xidx n v k=match asIndex n v with|some j=>k j|none=>none:=by
 rw[← zvx]
 unfold xidx
 cases h:toI_h v with
 |none =>
  have:gidx n v=none:=by
   cases v with
   |p u=>cases u<;>first|rfl|cases h
   |_=>rfl
  rw[this]
 |some p =>
  rw[zua h]
  obtain⟨t,i⟩:=p
  cases i with
  |ofNat a =>
   show(Bool.rec none (k a) (Nat.ble (Nat.succ a) n):XR)=match(Bool.rec none (some a) (Nat.ble (Nat.succ a) n):Option Nat)with|some j=>k j|none=>none
   cases Nat.ble (Nat.succ a) n<;>rfl
  |negSucc a=>rfl
noncomputable def xbnd (n:Nat) (v:IVal) (k:Nat→XR):XR:=Option.rec (motive:=fun _=>XR) none (fun p=>Prod.rec (fun _ i=>Int.rec (motive:=fun _=>XR) (fun a=>Bool.rec none (k a) (Nat.ble a n)) (fun _=>none) i) p) (toI_h v)
theorem zarg (n:Nat) (v:IVal) (k:Nat→XR):xbnd n v k=match asBound n v with|some j=>k j|none=>none:=by
 rw[← zij]
 unfold xbnd
 cases h:toI_h v with
 |none =>
  have:gbnd n v=none:=by
   cases v with
   |p u=>cases u<;>first|rfl|cases h
   |_=>rfl
  rw[this]
 |some p =>
  rw[zua h]
  obtain⟨t,i⟩:=p
  cases i with
  |ofNat a =>
   show(Bool.rec none (k a) (Nat.ble a n):XR)=match(Bool.rec none (some a) (Nat.ble a n):Option Nat)with|some j=>k j|none=>none
   cases Nat.ble a n<;>rfl
  |negSucc a=>rfl
noncomputable def zrc (e:Nat) (x i:IVal):XF:=fun _ M =>
 SW.rec (motive:=fun _=>XR) (fun es n cs=>Bool.rec none (xidx n i fun j=>some (.p (.ptr (ldrop (j*e) cs)),M)) (Nat.beq es e)) (fun k v o n=>xidx n i fun j=>nforce (o+j*e) fun o=>some (.ptr (.heap k) v o,M)) none none (toSW x)
noncomputable def zacr (len e:Nat) (x i:IVal):XF:=fun _ M =>
 xidx len i fun j=>PV.rec (motive:=fun _=>XR) (fun cs=>zwi (j*e) cs fun cs=>some (.p (.ptr cs),M)) (fun k a o=>nforce (o+j*e) fun o=>some (.ptr k a o,M)) none (toPV x)
noncomputable def toAgg (v:IVal):Option (List IVal):=IVal.rec (motive_1:=fun _=>Option (List IVal)) (motive_2:=fun _=>PUnit) (fun _=>none) (fun _ _ _=>none) (fun _ _ _ _=>none) (fun _=>none) (fun _ _ _=>none) (fun cs _=>some cs) (fun _ _=>none) none (fun _=>none) (fun _ _ _ _=>none) ⟨⟩ (fun _ _ _ _=>⟨⟩) v
noncomputable def toTup (v:IVal):Option (List IVal):=IVal.rec (motive_1:=fun _=>Option (List IVal)) (motive_2:=fun _=>PUnit) (fun _=>none) (fun _ _ _=>none) (fun _ _ _ _=>none) (fun _=>none) (fun _ _ _=>none) (fun _ _=>none) (fun cs _=>some cs) none (fun _=>none) (fun _ _ _ _=>none) ⟨⟩ (fun _ _ _ _=>⟨⟩) v
noncomputable def xat (M:Mem) (cs:List IVal) (o:Nat) (n:Option Nat):XR:=Option.rec (motive:=fun _=>XR) (Option.rec (motive:=fun _=>XR) none (fun v=>some (v,M)) (lget cs o)) (fun n=>grow cs o n fun l=>some (.agg l,M)) n
noncomputable def zajp (n:Option Nat) (o:Nat) (x:IVal):XF:=fun _ M=>Option.rec (motive:=fun _=>XR) none (fun cs=>xat M cs o n) (toAgg x)
noncomputable def zud (len e:Nat) (n:Option Nat) (x i:IVal):XF:=fun _ M=>Option.rec (motive:=fun _=>XR) none (fun cs=>xidx len i fun j=>nforce (j*e) fun o=>xat M cs o n) (toAgg x)
noncomputable def zagk (x:IVal) (i:Nat):XF:=fun _ M=>Option.rec (motive:=fun _=>XR) none (fun cs=>Option.rec (motive:=fun _=>XR) none (fun v=>some (v,M)) (lget cs i)) (toTup x)
noncomputable def zpg (x i:IVal):XF:=fun _ M=>Option.rec (motive:=fun _=>XR) none (fun s=>xidx (llen s) i fun j=>Option.rec (motive:=fun _=>XR) none (fun b=>xnum M .u8 b.toNat) (lget s j)) (toS x)
noncomputable def xhi (n:Nat) (o:Option IVal) (k:Nat→XR):XR:=Option.rec (motive:=fun _=>XR) (k n) (fun v=>xbnd n v k) o
noncomputable def xlo (n:Nat) (o:Option IVal) (k:Nat→XR):XR:=Option.rec (motive:=fun _=>XR) (k 0) (fun v=>xbnd n v k) o
theorem zamd (n:Nat) (o:Option Opd) (k:Nat→XR):xhi n (cvo o) k=match boundHi noRho n o with|some j=>k j|none=>none:=by
 cases o with
 |none=>rfl
 |some x=>show xbnd n (cv x) k=_;rw[zarg,cv_eq];rfl
theorem zame (n:Nat) (o:Option Opd) (k:Nat→XR):xlo n (cvo o) k=match boundLo noRho n o with|some j=>k j|none=>none:=by
 cases o with
 |none=>rfl
 |some x=>show xbnd n (cv x) k=_;rw[zarg,cv_eq];rfl
noncomputable def zhg (x:IVal) (lo hi:Option IVal):XF:=fun _ M=>Option.rec (motive:=fun _=>XR) none (fun s=>xhi (llen s) hi fun h=>xlo h lo fun l=>lall (ltake (h-l) (ldrop l s)) fun s'=>some (.p (.str s'),M)) (toS x)
noncomputable def zhh (e:Nat) (x:IVal) (lo hi:Option IVal):XF:=fun _ M =>
 SW.rec (motive:=fun _=>XR) (fun es n cs=>Bool.rec none (xhi n hi fun h=>xlo h lo fun l=>lall (ltake ((h-l)*e) (ldrop (l*e) cs)) fun cs'=>nforce (h-l) fun m=>some (.p (.slice e m cs'),M)) (Nat.beq es e))
  (fun k v o n=>xhi n hi fun h=>xlo h lo fun l=>toCells (gget M (.heap k)) fun _ es w _=>Bool.rec none (Bool.rec none (nforce (o+l*e) fun o'=>nforce (h-l) fun m=>some (.slice k v o' m,M)) (Nat.beq v w)) (Nat.beq es e))
  (xhi 0 hi fun h=>xlo h lo fun _=>some (.p .nilslice,M)) none (toSW x)
noncomputable def x_not (x:IVal):XF:=fun _ M=>Option.rec (motive:=fun _=>XR) none (fun b=>xbool M (gnot b)) (toB x)
noncomputable def zfs (d:IntKind) (x:IVal):XF:=fun _ M=>Option.rec (motive:=fun _=>XR) none (fun p=>Prod.rec (fun _ n=>Int.rec (motive:=fun _=>XR) (fun a=>xfit M d a) (fun a=>xneg M d a) n) p) (toI_h x)
noncomputable def x_len (x:IVal):XF:=fun _ M=>SW.rec (motive:=fun _=>XR) (fun _ n _=>xnum M .i64 n) (fun _ _ _ n=>xnum M .i64 n) (some (.p (.int .i64 (.ofNat 0)),M)) none (toSW x)
noncomputable def zdf (x:IVal):XF:=fun _ M=>Option.rec (motive:=fun _=>XR) none (fun s=>xnum M .i64 (llen s)) (toS x)
noncomputable def zaxw (c a b:IVal):XF:=fun _ M=>Option.rec (motive:=fun _=>XR) none (fun t=>Bool.rec (some (b,M)) (some (a,M)) t) (toB c)
noncomputable def lay (r:XR):XR:=Option.rec (motive:=fun _=>XR) none (fun p=>Prod.rec (fun v M=>vforce v fun v=>some (v,M)) p) r
theorem zcg (r:XR):lay r=r:=by
 cases r with
 |none=>rfl
 |some p=>obtain⟨v,M⟩:=p;exact zpc v fun v=>some (v,M)
inductive FW where
 |one (f:FuncId)
 |with(f:FuncId) (cap:List IVal)
 |no
noncomputable def pFn (p:PVal):FW:=PVal.rec (motive_1:=fun _=>FW) (motive_2:=fun _=>PUnit) (fun _=>.no) (fun _ _=>.no) (fun _=>.no) (fun _ _ _ _=>.no) (fun _ _=>.no) (fun f=>.one f) .no .no .no .no .no ⟨⟩ (fun _ _ _ _=>⟨⟩) p
noncomputable def toFW (v:IVal):FW:=IVal.rec (motive_1:=fun _=>FW) (motive_2:=fun _=>PUnit) pFn (fun _ _ _=>.no) (fun _ _ _ _=>.no) (fun _=>.no) (fun f l _=>.with f l) (fun _ _=>.no) (fun _ _=>.no) .no (fun _=>.no) (fun _ _ _ _=>.no) ⟨⟩ (fun _ _ _ _=>⟨⟩) v
noncomputable def xret (B:List (Nat×IBlk)) (r:Option (IVal×List IBlk)):XR:=Option.rec (motive:=fun _=>XR) none (fun p=>Prod.rec (fun v H=>some (v,⟨B,H⟩)) p) r
noncomputable def zbhw (f:IVal) (l:List IVal):XF:=fun C M=>Bool.rec none (Mem.rec (motive:=fun _=>XR) (fun B H=>FW.rec (motive:=fun _=>XR) (fun g=>xret B (C g l H)) (fun g cap=>lall (lapp l cap) fun l=>xret B (C g l H)) none (toFW f)) M) (passesB l)
noncomputable def x_eqv (n:Bool) (c:KTy) (x y:Opd):XF:=fun _ M=>lay (geqvOp n c x y (fun _ _ _=>none) noRho M)
noncomputable def zgs (n:Bool) (x y:Opd):XF:=fun _ M=>lay (zaql n x y (fun _ _ _=>none) noRho M)
noncomputable def zamf (n:Bool) (x y:Opd):XF:=fun _ M=>lay (zaxi n x y (fun _ _ _=>none) noRho M)
noncomputable def x_neg (x:Opd):XF:=fun _ M=>lay (f_neg x (fun _ _ _=>none) noRho M)
noncomputable def zea (f:FuncId) (cap:List Opd):XF:=fun _ M=>lay (gmkFunc f cap (fun _ _ _=>none) noRho M)
noncomputable def zavm (e:Nat) (x y:Opd):XF:=fun _ M=>lay (gappend e x y (fun _ _ _=>none) noRho M)
noncomputable def zaax (l:List Opd):XF:=fun _ M=>lay (zaxk l (fun _ _ _=>none) noRho M)
noncomputable def zagl (l:List Opd):XF:=fun _ M=>lay (zaxl l (fun _ _ _=>none) noRho M)
noncomputable def zavn (ok:Bool) (z:IVal) (c:KTy) (x k:Opd):XF:=fun _ M=>lay (glookup ok z c x k (fun _ _ _=>none) noRho M)
noncomputable def zavo (c:KTy) (x k v:Opd):XF:=fun _ M=>lay (gmapUpd c x k v (fun _ _ _=>none) noRho M)
noncomputable def zarh (e:Nat) (z:List PVal) (n c:Opd):XF:=fun _ M=>lay (gmkSlice e z n c (fun _ _ _=>none) noRho M)
noncomputable def zavp (z:IVal) (c:KTy) (x k:Opd):XF:=fun _ M=>lay (gmapEnt z c x k (fun _ _ _=>none) noRho M)
noncomputable def zbbr (x s v:Opd):XF:=fun _ M=>lay (gentSt x s v (fun _ _ _=>none) noRho M)
noncomputable def zanu (l e:Nat) (x:Opd) (a b:Option Opd):XF:=fun _ M=>lay (gsliceArr l e x a b (fun _ _ _=>none) noRho M)
noncomputable def zbhx (e:Nat) (x y:Opd):XF:=fun _ M=>lay (gcopy e x y (fun _ _ _=>none) noRho M)
noncomputable def zbhy (e:Nat) (x h m:Opd):XF:=fun _ M=>lay (gclip e x h m (fun _ _ _=>none) noRho M)
noncomputable def zbbs (z:List PVal) (x:Opd):XF:=fun _ M=>lay (gclear z x (fun _ _ _=>none) noRho M)
noncomputable def x_del (c:KTy) (x k:Opd):XF:=fun _ M=>lay (gdel c x k (fun _ _ _=>none) noRho M)
noncomputable def zbbt (x:Opd):XF:=fun _ M=>lay (zaqm x (fun _ _ _=>none) noRho M)
noncomputable def zlu (n:Opd):XF:=fun _ M=>lay (zalr n (fun _ _ _=>none) noRho M)
noncomputable def zbbu (x:Opd):XF:=fun _ M=>lay (zaqn x (fun _ _ _=>none) noRho M)
noncomputable def x_mov (v:IVal):XF:=fun _ M=>some (v,M)
noncomputable def zbbv:XF:=fun _ M=>heapNew M (.map [] 0) fun n=>.map n
noncomputable def zavq (z:List PVal) (e:Nat):XF:=fun _ M=>lall (gpc z) fun cs=>xnew M none (.cells cs e 0 false)
noncomputable def xop (o:IOp):XF :=
 IOp.rec (motive:=fun _=>XF) (fun x=>x_mov (cv x)) (fun c a b=>zaxw (cv c) (cv a) (cv b)) zbbo (fun s n x=>x_box s n (cv x)) (fun z p=>zbbp z (cvp p)) (fun e n z p=>zagj e n z (cvp p)) (fun n a=>zbhv n (cv a)) (fun n a x=>zbbq n (cv a) (cv x))
  (fun x=>x_nil (cv x)) (fun o x=>znq o (cv x)) (fun e x i=>zrc e (cv x) (cv i)) (fun l e x i=>zacr l e (cv x) (cv i)) (fun n o x=>zajp n o (cv x)) (fun l e n x i=>zud l e n (cv x) (cv i)) (fun x i=>zpg (cv x) (cv i)) (fun x a b=>zhg (cv x) (cvo a) (cvo b)) (fun e x a b=>zhh e (cv x) (cvo a) (cvo b))
  (fun o x y=>xbin o (cv x) (cv y)) x_eqv zgs zamf (fun x=>x_not (cv x)) x_neg (fun d x=>zfs d (cv x)) (fun x i=>zagk (cv x) i)
  zea (fun x=>x_len (cv x)) (fun x=>zdf (cv x)) zavm zaax zagl zbbv
  zavn zavo zarh (fun f l=>zbhw (cv f) (cvs l)) zavq
  zavp zbbr zanu zbhx zbhy zbbs x_del zbbt zlu zbbu o
theorem zari (o:IOp) (C:Oracle) (M:Mem):xop o C M=evalOp C noRho M o:=by
 have hg:∀o:IOp,evalOpG o (fun _ _ _=>none) noRho M=evalOp (fun _ _ _=>none) noRho M o:=fun o=>zanp o _ _ _
 cases o with
 |mov x=>show some (cv x,M)=_;rw[cv_eq];rfl
 |pick c a b =>
  show(Option.rec (motive:=fun _=>XR) none (fun t=>Bool.rec (some (cv b,M)) (some (cv a,M)) t) (toB (cv c)):XR)=match noRho c with | .p (.bool true)=>some (noRho a,M) | .p (.bool false)=>some (noRho b,M)|_=>none
  rw[cv_eq,cv_eq,cv_eq]
  generalize noRho c=v
  cases v with
  |p u=>cases u with
   |bool t=>cases t<;>rfl
   |_=>rfl
  |_=>rfl
 |alloc s z=>show lall (gpc z) (fun cs=>xnew M s (.cells cs (llen z) 0 false))=newBlk M s _;rw[zag,zajo,zep,zaf]
 |box s n x =>
  show(Option.rec (motive:=fun _=>XR) none (fun cs=>Bool.rec none (xnew M s (.cells cs n 0 false)) (Nat.beq (llen cs) n)) (toC (cv x)):XR)=_
  rw[cv_eq,zare,evalOp]
  cases(noRho x).cellsOf with
  |none=>rfl
  |some cs =>
   dsimp only
   rw[zaf,zajo]
   cases Nat.beq cs.length n<;>rfl
 |build z p=>show xfill (cvp p) (gpc z) (fun cs=>some (IVal.agg cs,M))=_;rw[zacq,zep];rfl
 |buildSlice e n z p =>
  show xfill (cvp p) (grepl n z) (fun cs=>heapNew M (.cells cs e 0 false) fun h=>.slice h 0 0 n)=_
  rw[zacq,zgk,evalOp]
  cases fillParts noRho (repl n z) p with
  |none=>rfl
  |some cs=>show some (IVal.slice (llen M.heap) 0 0 n,gpush M _)=_;rw[zaf,zgj]
 |load n a =>
  have h:=hg (.load n a)
  cases n with
  |none =>
   show xread M 1 (cv a) (one M)=_
   rw[zamc,cv_eq]
   have h:gread M 1 (noRho a) (fun l=>match l with|[x]=>some (x,M)|_=>none)=_:=h
   have e:one M=(fun l=>match l with|[x]=>some (x,M)|_=>none):=by
    funext l
    cases l with
    |nil=>rfl
    |cons x t=>cases t<;>rfl
   rw[e,h]
   rfl
  |some n =>
   show xread M n (cv a) (fun cs=>some (.agg cs,M))=_
   rw[zamc,cv_eq]
   exact h
 |store n a x =>
  show(Option.rec (motive:=fun _=>XR) none (fun cs=>Bool.rec none (xwrite M (cv a) cs fun M'=>some (.tup [],M')) (Nat.beq (llen cs) n)) (toC (cv x)):XR)=_
  rw[cv_eq,cv_eq,zare,evalOp]
  cases(noRho x).cellsOf with
  |none=>rfl
  |some cs =>
   dsimp only
   rw[zaf,zarf]
   cases Nat.beq cs.length n<;>rfl
 |nilCheck x =>
  show(Bool.rec none (some (cv x,M)) (okNil (cv x)):XR)=zqx x C noRho M
  unfold zqx
  rw[cv_eq]
  generalize noRho x=v
  cases v with
  |p u=>cases u<;>rfl
  |_=>rfl
 |fieldAddr o x =>
  show(PV.rec (motive:=fun _=>XR) (fun cs=>zwi o cs fun cs=>some (.p (.ptr cs),M)) (fun k a o'=>some (.ptr k a (o'+o),M)) none (toPV (cv x)):XR)=zwa o x C noRho M
  unfold zwa
  rw[cv_eq]
  generalize noRho x=v
  cases v with
  |p u=>cases u with
   |ptr cs=>exact zacp cs o _
   |_=>rfl
  |_=>rfl
 |idxSlice e x i =>
  show(SW.rec (motive:=fun _=>XR) (fun es n cs=>Bool.rec none (xidx n (cv i) fun j=>some (.p (.ptr (ldrop (j*e) cs)),M)) (Nat.beq es e)) (fun k v o n=>xidx n (cv i) fun j=>some (.ptr (.heap k) v (o+j*e),M)) none none (toSW (cv x)):XR)=zaap e x i C noRho M
  unfold zaap
  rw[cv_eq,cv_eq]
  generalize noRho x=v
  cases v with
  |p u=>cases u with
   |slice es n cs =>
    show(Bool.rec none (xidx n (noRho i) fun j=>some (.p (.ptr (ldrop (j*e) cs)),M)) (Nat.beq es e):XR)=_
    rw[zwj]
    dsimp only
    simp only[zbg]
    cases Nat.beq es e<;>cases asIndex n (noRho i)<;>rfl
   |_=>rfl
  |slice k v o n=>exact zwj n (noRho i) _
  |_=>rfl
 |idxArr l e x i =>
  show xidx l (cv i) (fun j=>PV.rec (motive:=fun _=>XR) (fun cs=>zwi (j*e) cs fun cs=>some (.p (.ptr cs),M)) (fun k a o=>some (.ptr k a (o+j*e),M)) none (toPV (cv x)))=zaln l e x i C noRho M
  unfold zaln
  rw[cv_eq,cv_eq,zwj]
  cases asIndex l (noRho i)with
  |none=>rfl
  |some j =>
   dsimp only
   generalize noRho x=v
   cases v with
   |p u=>cases u with
    |ptr cs=>exact zacp cs (j*e) _
    |_=>rfl
   |_=>rfl
 |field n o x =>
  show(Option.rec (motive:=fun _=>XR) none (fun cs=>xat M cs o n) (toAgg (cv x)):XR)=zacj n o x C noRho M
  unfold zacj
  rw[cv_eq]
  generalize noRho x=v
  cases v with
  |agg cs =>
   cases n with
   |none=>show(Option.rec (motive:=fun _=>XR) none (fun v=>some (v,M)) (lget cs o):XR)=_;rw[zdc];dsimp only;cases cs[o]? <;> rfl
   |some n=>exact zki cs o n (fun l=>some (IVal.agg l,M))
  |p u=>rfl
  |_=>rfl
 |idxVal l e n x i =>
  show(Option.rec (motive:=fun _=>XR) none (fun cs=>xidx l (cv i) fun j=>xat M cs (j*e) n) (toAgg (cv x)):XR)=zalo l e n x i C noRho M
  unfold zalo
  rw[cv_eq,cv_eq]
  generalize noRho x=v
  cases v with
  |agg cs =>
   show xidx l (noRho i) (fun j=>xat M cs (j*e) n)=_
   rw[zwj]
   cases asIndex l (noRho i)with
   |none=>rfl
   |some j =>
    cases n with
    |none=>show(Option.rec (motive:=fun _=>XR) none (fun v=>some (v,M)) (lget cs (j*e)):XR)=_;rw[zdc];dsimp only;cases cs[j*e]? <;> rfl
    |some n=>exact zki cs (j*e) n (fun l=>some (IVal.agg l,M))
  |_=>rfl
 |idxStr x i =>
  show(Option.rec (motive:=fun _=>XR) none (fun s=>xidx (llen s) (cv i) fun j=>Option.rec (motive:=fun _=>XR) none (fun b=>some (.p (.int .u8 (.ofNat b.toNat)),M)) (lget s j)) (toS (cv x)):XR)=zalp x i C noRho M
  unfold zalp
  rw[cv_eq,cv_eq]
  generalize noRho x=v
  cases v with
  |p u=>cases u with
   |str s =>
    show xidx (llen s) (noRho i) _=_
    rw[zwj,zaf]
    dsimp only
    cases asIndex s.length (noRho i)with
    |none=>rfl
    |some j=>dsimp only;rw[zdc];cases s[j]? <;> rfl
   |_=>rfl
  |_=>rfl
 |sliceStr x lo hi =>
  show(Option.rec (motive:=fun _=>XR) none (fun s=>xhi (llen s) (cvo hi) fun h=>xlo h (cvo lo) fun l=>lall (ltake (h-l) (ldrop l s)) fun s'=>some (.p (.str s'),M)) (toS (cv x)):XR)=zaaq x lo hi C noRho M
  unfold zaaq
  rw[cv_eq]
  generalize noRho x=v
  cases v with
  |p u=>cases u with
   |str s =>
    show xhi (llen s) (cvo hi) _=_
    rw[zamd,zaf]
    dsimp only
    cases boundHi noRho s.length hi with
    |none=>rfl
    |some h =>
     dsimp only
     rw[zame]
     cases boundLo noRho h lo with
     |none=>rfl
     |some l=>dsimp only;rw[zag,zdz,zbg]
   |_=>rfl
  |_=>rfl
 |sliceSl e x lo hi =>
  show zhh e (cv x) (cvo lo) (cvo hi) C M=zafy e x lo hi C noRho M
  unfold zhh zafy
  rw[cv_eq]
  generalize noRho x=v
  cases v with
  |p u=>cases u with
   |slice es n cs =>
    show(Bool.rec none (xhi n (cvo hi) fun h=>xlo h (cvo lo) fun l=>lall (ltake ((h-l)*e) (ldrop (l*e) cs)) fun cs'=>some (.p (.slice e (h-l) cs'),M)) (Nat.beq es e):XR)=_
    rw[zamd]
    dsimp only
    cases Nat.beq es e with
    |false=>cases boundHi noRho n hi<;>rfl
    |true =>
     cases boundHi noRho n hi with
     |none=>rfl
     |some h =>
      dsimp only
      rw[zame]
      cases boundLo noRho h lo with
      |none=>rfl
      |some l=>dsimp only;rw[zag,zdz,zbg]
   |nilslice =>
    show xhi 0 (cvo hi) _=_
    rw[zamd]
    dsimp only
    cases boundHi noRho 0 hi with
    |none=>rfl
    |some h =>
     dsimp only
     rw[zame]
     cases boundLo noRho h lo<;>rfl
   |_=>rfl
  |slice k v o n =>
   show xhi n (cvo hi) _=_
   rw[zamd]
   dsimp only
   cases boundHi noRho n hi with
   |none=>rfl
   |some h =>
    dsimp only
    rw[zame]
    cases boundLo noRho h lo with
    |none=>rfl
    |some l =>
     dsimp only
     rw[zcn]
     cases M.get (.heap k)with
     |none=>rfl
     |some b =>
      cases b with
      |map=>rfl
      |cells cs es w q =>
       show(Bool.rec none (Bool.rec none (some (.slice k v (o+l*e) (h-l),M)) (Nat.beq v w)) (Nat.beq es e):XR)=_
       dsimp only
       cases Nat.beq es e<;>cases Nat.beq v w<;>rfl
  |_=>rfl
 |bin op x y=>show xbin op (cv x) (cv y) C M=_;rw[zbbn,cv_eq,cv_eq];rfl
 |eqv n c x y=>show lay (evalOpG (.eqv n c x y) (fun _ _ _=>none) noRho M)=_;rw[zcg,hg];rfl
 |eqPtr n x y=>show lay (evalOpG (.eqPtr n x y) (fun _ _ _=>none) noRho M)=_;rw[zcg,hg];rfl
 |eqSl n x y=>show lay (evalOpG (.eqSl n x y) (fun _ _ _=>none) noRho M)=_;rw[zcg,hg];rfl
 |not x =>
  show(Option.rec (motive:=fun _=>XR) none (fun b=>xbool M (gnot b)) (toB (cv x)):XR)=f_not x C noRho M
  unfold f_not
  rw[cv_eq]
  generalize noRho x=v
  cases v with
  |p u=>cases u with
   |bool t=>cases t<;>rfl
   |_=>rfl
  |_=>rfl
 |neg x=>show lay (evalOpG (.neg x) (fun _ _ _=>none) noRho M)=_;rw[zcg,hg];rfl
 |conv d x =>
  show(Option.rec (motive:=fun _=>XR) none (fun p=>Prod.rec (fun _ n=>Int.rec (motive:=fun _=>XR) (fun a=>xfit M d a) (fun a=>xneg M d a) n) p) (toI_h (cv x)):XR)=zaxj d x C noRho M
  unfold zaxj
  rw[cv_eq]
  generalize noRho x=v
  cases v with
  |p u=>cases u with
   |int k n =>
    cases n with
    |ofNat a=>exact znp M d a
    |negSucc a=>exact zard M d a
   |_=>rfl
  |_=>rfl
 |extract x i =>
  show(Option.rec (motive:=fun _=>XR) none (fun cs=>Option.rec (motive:=fun _=>XR) none (fun v=>some (v,M)) (lget cs i)) (toTup (cv x)):XR)=zafz x i C noRho M
  unfold zafz
  rw[cv_eq]
  generalize noRho x=v
  cases v with
  |tup cs=>show(Option.rec (motive:=fun _=>XR) none (fun v=>some (v,M)) (lget cs i):XR)=_;rw[zdc];dsimp only;cases cs[i]? <;> rfl
  |_=>rfl
 |mkFunc f cap=>show lay (evalOpG (.mkFunc f cap) (fun _ _ _=>none) noRho M)=_;rw[zcg,hg];rfl
 |len x =>
  show x_len (cv x) C M=f_len x C noRho M
  unfold x_len f_len
  rw[cv_eq]
  generalize noRho x=v
  cases v with
  |p u=>cases u<;>rfl
  |_=>rfl
 |lenStr x =>
  show(Option.rec (motive:=fun _=>XR) none (fun s=>some (.p (.int .i64 (.ofNat (llen s))),M)) (toS (cv x)):XR)=zalq x C noRho M
  unfold zalq
  rw[cv_eq]
  generalize noRho x=v
  cases v with
  |p u=>cases u with
   |str s=>show some (IVal.p (.int .i64 (.ofNat (llen s))),M)=_;rw[zaf];rfl
   |_=>rfl
  |_=>rfl
 |append e x y=>show lay (evalOpG (.append e x y) (fun _ _ _=>none) noRho M)=_;rw[zcg,hg];rfl
 |maxi l=>show lay (evalOpG (.maxi l) (fun _ _ _=>none) noRho M)=_;rw[zcg,hg];rfl
 |mini l=>show lay (evalOpG (.mini l) (fun _ _ _=>none) noRho M)=_;rw[zcg,hg];rfl
 |mkMap=>show some (IVal.map (llen M.heap),gpush M (.map [] 0))=_;rw[zaf,zgj];rfl
 |lookup ok z c x k=>show lay (evalOpG (.lookup ok z c x k) (fun _ _ _=>none) noRho M)=_;rw[zcg,hg];rfl
 |mapUpd c x k v=>show lay (evalOpG (.mapUpd c x k v) (fun _ _ _=>none) noRho M)=_;rw[zcg,hg];rfl
 |mkSlice e z n c=>show lay (evalOpG (.mkSlice e z n c) (fun _ _ _=>none) noRho M)=_;rw[zcg,hg];rfl
 |call f l =>
  show(Bool.rec none (FW.rec (motive:=fun _=>XR) (fun g=>xret M.boxes (C g (cvs l) M.heap)) (fun g cap=>lall (lapp (cvs l) cap) fun l=>xret M.boxes (C g l M.heap)) none (toFW (cv f))) (passesB (cvs l)):XR)=zaxm f l C noRho M
  unfold zaxm
  rw[cv_eq,zama,zaaw]
  simp only[zag,zdd]
  cases passesOK (l.map noRho)with
  |false=>rfl
  |true =>
   dsimp only
   generalize noRho f=v
   cases v with
   |p u=>cases u with
    |func g=>show xret M.boxes (C g (l.map noRho) M.heap)=_;unfold xret;dsimp only;cases C g (l.map noRho) M.heap<;>rfl
    |_=>rfl
   |func g cap=>show xret M.boxes (C g (l.map noRho++cap) M.heap)=_;unfold xret;dsimp only;cases C g (l.map noRho++cap) M.heap<;>rfl
   |_=>rfl
 |allocA z e=>show lall (gpc z) (fun cs=>xnew M none (.cells cs e 0 false))=newBlk M none _;rw[zag,zajo,zep]
 |mapEnt z c x k=>show lay (evalOpG (.mapEnt z c x k) (fun _ _ _=>none) noRho M)=_;rw[zcg,hg];rfl
 |entSt x s v=>show lay (evalOpG (.entSt x s v) (fun _ _ _=>none) noRho M)=_;rw[zcg,hg];rfl
 |sliceArr l e x a b=>show lay (evalOpG (.sliceArr l e x a b) (fun _ _ _=>none) noRho M)=_;rw[zcg,hg];rfl
 |copy e x y=>show lay (evalOpG (.copy e x y) (fun _ _ _=>none) noRho M)=_;rw[zcg,hg];rfl
 |clip e x h m=>show lay (evalOpG (.clip e x h m) (fun _ _ _=>none) noRho M)=_;rw[zcg,hg];rfl
 |clear z x=>show lay (evalOpG (.clear z x) (fun _ _ _=>none) noRho M)=_;rw[zcg,hg];rfl
 |del c x k=>show lay (evalOpG (.del c x k) (fun _ _ _=>none) noRho M)=_;rw[zcg,hg];rfl
 |first x=>show lay (evalOpG (.first x) (fun _ _ _=>none) noRho M)=_;rw[zcg,hg];rfl
 |second n=>show lay (evalOpG (.second n) (fun _ _ _=>none) noRho M)=_;rw[zcg,hg];rfl
 |still x=>show lay (evalOpG (.still x) (fun _ _ _=>none) noRho M)=_;rw[zcg,hg];rfl
end Go.Ideal

/-
  IDEAL SEMANTICS, 70: THE MEMORY AS A TREE, for the kernel.
-/
namespace Go.Ideal
open Go
set_option linter.unusedSectionVars false
section
variable {α:Type}
noncomputable def d8 (l:List α):List α :=
 List.rec (motive:=fun _=>List α) [] (fun _ t _=>List.rec (motive:=fun _=>List α) [] (fun _ t _=>List.rec (motive:=fun _=>List α) [] (fun _ t _=>List.rec (motive:=fun _=>List α) [] (fun _ t _=>List.rec (motive:=fun _=>List α) [] (fun _ t _=>List.rec (motive:=fun _=>List α) [] (fun _ t _=>List.rec (motive:=fun _=>List α) [] (fun _ t _=>List.rec (motive:=fun _=>List α) [] (fun _ t _=>t) t) t) t) t) t) t) t) l
theorem d8_eq:∀l:List α,d8 l=l.drop 8
 | []|[_]|[_,_]|[_,_,_]|[_,_,_,_]|[_,_,_,_,_]|[_,_,_,_,_,_]|[_,_,_,_,_,_,_]=>rfl
 |_::_::_::_::_::_::_::_::_=>rfl
noncomputable def qdrop (n:Nat) (l:List α):List α:=ldrop (Nat.mod n 8) (Nat.rec (motive:=fun _=>List α→List α) (fun l=>l) (fun _ ih l=>ih (d8 l)) (Nat.div n 8) l)
theorem zue (n:Nat) (l:List α):qdrop n l=l.drop n:=by
 have key:∀(q:Nat) (l:List α),(Nat.rec (motive:=fun _=>List α→List α) (fun l=>l) (fun _ ih l=>ih (d8 l)) q l:List α)=l.drop (8*q):=by
  intro q
  induction q with
  |zero=>intro l;show l=l.drop (8*0);simp
  |succ q ih =>
   intro l
   show(Nat.rec (motive:=fun _=>List α→List α) (fun l=>l) (fun _ ih l=>ih (d8 l)) q (d8 l):List α)=_
   rw[ih,d8_eq,List.drop_drop]
   congr 1;omega
 unfold qdrop
 rw[key,zbg,List.drop_drop]
 congr 1
 show 8*(n / 8)+n % 8=n
 omega
noncomputable def qhead (l:List α):Option α:=List.rec (motive:=fun _=>Option α) none (fun x _ _=>some x) l
theorem zavr (n:Nat) (l:List α):qhead (qdrop n l)=l[n]? := by
 rw[zue]
 have:∀m:List α,qhead m=m[0]? := fun m=>by cases m<;>rfl
 rw[this,List.getElem?_drop,Nat.add_zero]
end
inductive HP where
 |z|a (p:HP)|b (p:HP)|c (p:HP)|d (p:HP)
 deriving DecidableEq
inductive HT where
 |e
 |n (v:Option IBlk) (a b c d:HT)
noncomputable def hsel (r:Nat) (p:HP):HP:=Nat.rec (motive:=fun _=>HP) (.a p) (fun r _=>Nat.rec (motive:=fun _=>HP) (.b p) (fun r _=>Nat.rec (motive:=fun _=>HP) (.c p) (fun _ _=>.d p) r) r) r
noncomputable def hpt (f:Nat):Nat→HP :=
 Nat.rec (motive:=fun _=>Nat→HP) (fun _=>.z) (fun _ ih i=>Nat.rec (motive:=fun _=>HP) .z (fun j _=>hsel (Nat.mod j 4) (ih (Nat.div j 4))) i) f
def HP.val:HP→Nat
 | .z=>0 | .a p=>4*p.val+1 | .b p=>4*p.val+2 | .c p=>4*p.val+3 | .d p=>4*p.val+4
theorem zavs (p:HP):∀r,r<4→(hsel r p).val=4*p.val+r+1
 |0,_=>rfl|1,_=>rfl|2,_=>rfl|3,_=>rfl
 |n+4,h=>by omega
theorem zajq:∀(f i:Nat),i<4 ^ f→(hpt f i).val=i
 |0,i,h=>by have:i=0:=by simpa using h
            subst this;rfl
 |f+1,0,_=>rfl
 |f+1,j+1,h=>by
  have hj:j / 4<4 ^ f:=by rw[Nat.pow_succ]at h;omega
  show(hsel (j % 4) (hpt f (j / 4))).val=_
  rw[zavs _ _ (Nat.mod_lt _ (by omega)),zajq f _ hj]
  omega
noncomputable def hp (i:Nat):HP:=hpt 16 i
theorem zaxx {i j:Nat} (hi:i<4294967296) (hj:j<4294967296) (h:hp i=hp j):i=j:=by
 rw[← zajq 16 i hi,←zajq 16 j hj]
 exact congrArg HP.val h
section
variable {R:Type}
noncomputable def hopen (t:HT) (f:Option IBlk→HT→HT→HT→HT→R):R :=
 HT.rec (motive:=fun _=>(Option IBlk→HT→HT→HT→HT→R)→R) (fun f=>f none .e .e .e .e) (fun v a b c d _ _ _ _ f=>f v a b c d) t f
noncomputable def hget (p:HP):HT→Option IBlk :=
 HP.rec (motive:=fun _=>HT→Option IBlk) (fun t=>hopen t fun v _ _ _ _=>v) (fun _ ih t=>hopen t fun _ a _ _ _=>ih a) (fun _ ih t=>hopen t fun _ _ b _ _=>ih b) (fun _ ih t=>hopen t fun _ _ _ c _=>ih c) (fun _ ih t=>hopen t fun _ _ _ _ d=>ih d) p
noncomputable def hputK (x:IBlk) (p:HP):HT→(HT→R)→R :=
 HP.rec (motive:=fun _=>HT→(HT→R)→R) (fun t k=>hopen t fun _ a b c d=>k (.n (some x) a b c d)) (fun _ ih t k=>hopen t fun v a b c d=>ih a fun a=>k (.n v a b c d)) (fun _ ih t k=>hopen t fun v a b c d=>ih b fun b=>k (.n v a b c d)) (fun _ ih t k=>hopen t fun v a b c d=>ih c fun c=>k (.n v a b c d)) (fun _ ih t k=>hopen t fun v a b c d=>ih d fun d=>k (.n v a b c d)) p
theorem zeb (x:IBlk):∀(p:HP) (t:HT),∃t',(∀ (R:Type) (k:HT→R),hputK x p t k=k t')∧∀q,hget q t'=if p=q then some x else hget q t
 | .z,t=>by
   cases t with
   |e=>exact⟨.n (some x) .e .e .e .e,fun _ _=>rfl,fun q=>by cases q<;>simp[hget,hopen]⟩
   |n v a b c d=>exact⟨.n (some x) a b c d,fun _ _=>rfl,fun q=>by cases q<;>simp[hget,hopen]⟩
 | .a p,t=>by
   cases t with
   |e =>
    obtain⟨u,h1,h2⟩:=zeb x p .e
    refine⟨.n none u .e .e .e,fun R k=>h1 R fun a=>k (.n none a .e .e .e),fun q=>?_⟩
    cases q with
    |a q=>simpa[hget,hopen]using h2 q
    |_=>simp[hget,hopen]
   |n v a b c d =>
    obtain⟨u,h1,h2⟩:=zeb x p a
    refine⟨.n v u b c d,fun R k=>h1 R fun a=>k (.n v a b c d),fun q=>?_⟩
    cases q with
    |a q=>simpa[hget,hopen]using h2 q
    |_=>simp[hget,hopen]
 | .b p,t=>by
   cases t with
   |e =>
    obtain⟨u,h1,h2⟩:=zeb x p .e
    refine⟨.n none .e u .e .e,fun R k=>h1 R fun a=>k (.n none .e a .e .e),fun q=>?_⟩
    cases q with
    |b q=>simpa[hget,hopen]using h2 q
    |_=>simp[hget,hopen]
   |n v a b c d =>
    obtain⟨u,h1,h2⟩:=zeb x p b
    refine⟨.n v a u c d,fun R k=>h1 R fun b=>k (.n v a b c d),fun q=>?_⟩
    cases q with
    |b q=>simpa[hget,hopen]using h2 q
    |_=>simp[hget,hopen]
 | .c p,t=>by
   cases t with
   |e =>
    obtain⟨u,h1,h2⟩:=zeb x p .e
    refine⟨.n none .e .e u .e,fun R k=>h1 R fun a=>k (.n none .e .e a .e),fun q=>?_⟩
    cases q with
    |c q=>simpa[hget,hopen]using h2 q
    |_=>simp[hget,hopen]
   |n v a b c d =>
    obtain⟨u,h1,h2⟩:=zeb x p c
    refine⟨.n v a b u d,fun R k=>h1 R fun c=>k (.n v a b c d),fun q=>?_⟩
    cases q with
    |c q=>simpa[hget,hopen]using h2 q
    |_=>simp[hget,hopen]
 | .d p,t=>by
   cases t with
   |e =>
    obtain⟨u,h1,h2⟩:=zeb x p .e
    refine⟨.n none .e .e .e u,fun R k=>h1 R fun a=>k (.n none .e .e .e a),fun q=>?_⟩
    cases q with
    |d q=>simpa[hget,hopen]using h2 q
    |_=>simp[hget,hopen]
   |n v a b c d =>
    obtain⟨u,h1,h2⟩:=zeb x p d
    refine⟨.n v a b c u,fun R k=>h1 R fun d=>k (.n v a b c d),fun q=>?_⟩
    cases q with
    |d q=>simpa[hget,hopen]using h2 q
    |_=>simp[hget,hopen]
end
structure ME where
 f:FuncId
 a:List IVal
 r:IVal
inductive MT where
 |e
 |n (v:List ME) (a b c d:MT)
class Kept where
 ok:ME→Prop
variable [Kept]
def MT.OK:MT→Prop
 | .e=>True
 | .n v a b c d=>(∀ x∈v,Kept.ok x)∧a.OK∧b.OK∧c.OK∧d.OK
section
variable {R:Type}
noncomputable def mopen (t:MT) (f:List ME→MT→MT→MT→MT→R):R :=
 MT.rec (motive:=fun _=>(List ME→MT→MT→MT→MT→R)→R) (fun f=>f [] .e .e .e .e) (fun v a b c d _ _ _ _ f=>f v a b c d) t f
noncomputable def mtget (p:HP):MT→List ME :=
 HP.rec (motive:=fun _=>MT→List ME) (fun t=>mopen t fun v _ _ _ _=>v) (fun _ ih t=>mopen t fun _ a _ _ _=>ih a) (fun _ ih t=>mopen t fun _ _ b _ _=>ih b) (fun _ ih t=>mopen t fun _ _ _ c _=>ih c) (fun _ ih t=>mopen t fun _ _ _ _ d=>ih d) p
noncomputable def mputK (x:ME) (p:HP):MT→(MT→R)→R :=
 HP.rec (motive:=fun _=>MT→(MT→R)→R) (fun t k=>mopen t fun v a b c d=>k (.n (x::v) a b c d)) (fun _ ih t k=>mopen t fun v a b c d=>ih a fun a=>k (.n v a b c d)) (fun _ ih t k=>mopen t fun v a b c d=>ih b fun b=>k (.n v a b c d)) (fun _ ih t k=>mopen t fun v a b c d=>ih c fun c=>k (.n v a b c d)) (fun _ ih t k=>mopen t fun v a b c d=>ih d fun d=>k (.n v a b c d)) p
end
theorem MT.OK.get:∀(p:HP) {t:MT},t.OK→∀x∈mtget p t,Kept.ok x
 | .z, .e,_,x,h=>by cases h
 | .z, .n v a b c d,q,x,h=>q.1 x h
 | .a p, .e,_,x,h=>MT.OK.get p (t := .e) trivial x h
 | .a p, .n v a b c d,q,x,h=>MT.OK.get p q.2.1 x h
 | .b p, .e,_,x,h=>MT.OK.get p (t := .e) trivial x h
 | .b p, .n v a b c d,q,x,h=>MT.OK.get p q.2.2.1 x h
 | .c p, .e,_,x,h=>MT.OK.get p (t := .e) trivial x h
 | .c p, .n v a b c d,q,x,h=>MT.OK.get p q.2.2.2.1 x h
 | .d p, .e,_,x,h=>MT.OK.get p (t := .e) trivial x h
 | .d p, .n v a b c d,q,x,h=>MT.OK.get p q.2.2.2.2 x h
theorem MT.OK.put {x:ME} (hx:Kept.ok x):∀(p:HP) {t:MT},t.OK→∃t':MT,t'.OK∧∀(R:Type) (k:MT→R),mputK x p t k=k t'
 | .z, .e,_=>⟨.n [x] .e .e .e .e,⟨fun y hy=>by cases List.mem_singleton.1 hy;exact hx,trivial,trivial,trivial,trivial⟩,fun _ _=>rfl⟩
 | .z, .n v a b c d,q=>⟨.n (x::v) a b c d,⟨fun y hy=>by rcases List.mem_cons.1 hy with rfl|hy;exact hx;exact q.1 y hy,q.2⟩,fun _ _=>rfl⟩
 | .a p, .e,_=>by
   obtain⟨u,h1,h2⟩:=MT.OK.put hx p (t := .e) trivial
   exact⟨.n [] u .e .e .e,⟨fun y hy=>(by cases hy),h1,trivial,trivial,trivial⟩,fun R k=>h2 R fun a=>k (.n [] a .e .e .e)⟩
 | .a p, .n v a b c d,q=>by
   obtain⟨u,h1,h2⟩:=MT.OK.put hx p q.2.1
   exact⟨.n v u b c d,⟨q.1,h1,q.2.2⟩,fun R k=>h2 R fun a=>k (.n v a b c d)⟩
 | .b p, .e,_=>by
   obtain⟨u,h1,h2⟩:=MT.OK.put hx p (t := .e) trivial
   exact⟨.n [] .e u .e .e,⟨fun y hy=>(by cases hy),trivial,h1,trivial,trivial⟩,fun R k=>h2 R fun a=>k (.n [] .e a .e .e)⟩
 | .b p, .n v a b c d,q=>by
   obtain⟨u,h1,h2⟩:=MT.OK.put hx p q.2.2.1
   exact⟨.n v a u c d,⟨q.1,q.2.1,h1,q.2.2.2⟩,fun R k=>h2 R fun b=>k (.n v a b c d)⟩
 | .c p, .e,_=>by
   obtain⟨u,h1,h2⟩:=MT.OK.put hx p (t := .e) trivial
   exact⟨.n [] .e .e u .e,⟨fun y hy=>(by cases hy),trivial,trivial,h1,trivial⟩,fun R k=>h2 R fun a=>k (.n [] .e .e a .e)⟩
 | .c p, .n v a b c d,q=>by
   obtain⟨u,h1,h2⟩:=MT.OK.put hx p q.2.2.2.1
   exact⟨.n v a b u d,⟨q.1,q.2.1,q.2.2.1,h1,q.2.2.2.2⟩,fun R k=>h2 R fun c=>k (.n v a b c d)⟩
 | .d p, .e,_=>by
   obtain⟨u,h1,h2⟩:=MT.OK.put hx p (t := .e) trivial
   exact⟨.n [] .e .e .e u,⟨fun y hy=>(by cases hy),trivial,trivial,trivial,h1⟩,fun R k=>h2 R fun a=>k (.n [] .e .e .e a)⟩
 | .d p, .n v a b c d,q=>by
   obtain⟨u,h1,h2⟩:=MT.OK.put hx p q.2.2.2.2
   exact⟨.n v a b c u,⟨q.1,q.2.1,q.2.2.1,q.2.2.2.1,h1⟩,fun R k=>h2 R fun d=>k (.n v a b c d)⟩
structure FH where
 t:HT
 n:Nat
 c:MT
structure FM where
 bx:List (Nat×IBlk)
 h:FH
structure RH (h:FH) (H:List IBlk):Prop where
 n:h.n=H.length
 le:H.length≤4294967296
 at':∀i,i<4294967296→hget (hp i) h.t=H[i]?
 c:h.c.OK
structure RM (m:FM) (M:Mem):Prop where
 bx:m.bx=M.boxes
 h:RH m.h M.heap
section
variable {R:Type}
noncomputable def fhopen (h:FH) (f:HT→Nat→MT→R):R:=FH.rec (motive:=fun _=>(HT→Nat→MT→R)→R) (fun t n c f=>f t n c) h f
noncomputable def fopen (m:FM) (f:List (Nat×IBlk)→HT→Nat→MT→R):R:=FM.rec (motive:=fun _=>(List (Nat×IBlk)→HT→Nat→MT→R)→R) (fun b h f=>fhopen h (f b)) m f
noncomputable def fheap (m:FM) (i:Nat):Option IBlk:=fopen m fun _ t n _=>Bool.rec none (hget (hp i) t) (Nat.ble (Nat.succ i) n)
theorem zamg {m:FM} {M:Mem} (h:RM m M) (i:Nat):fheap m i=M.heap[i]? := by
 obtain⟨b,t,n,c⟩:=m
 have hn:n=M.heap.length:=h.h.n
 show(Bool.rec none (hget (hp i) t) (Nat.ble (Nat.succ i) n):Option IBlk)=_
 cases hb:Nat.ble (Nat.succ i) n with
 |true =>
  have:=Nat.le_of_ble_eq_true hb
  have:=h.h.le
  exact h.h.at' i (by omega)
 |false =>
  have:¬i<M.heap.length:=fun e=>by rw[hn,Nat.ble_eq_true_of_le (show i.succ≤_ from e)]at hb;cases hb
  rw[List.getElem?_eq_none (by omega)]
noncomputable def hgetC (p:HP):HT→(IBlk→R)→R→R :=
 HP.rec (motive:=fun _=>HT→(IBlk→R)→R→R) (fun t f e=>hopen t fun v _ _ _ _=>Option.rec (motive:=fun _=>R) e f v) (fun _ ih t f e=>hopen t fun _ a _ _ _=>ih a f e) (fun _ ih t f e=>hopen t fun _ _ b _ _=>ih b f e) (fun _ ih t f e=>hopen t fun _ _ _ c _=>ih c f e) (fun _ ih t f e=>hopen t fun _ _ _ _ d=>ih d f e) p
theorem zph (f:IBlk→R) (e:R):∀(p:HP) (t:HT),hgetC p t f e=Option.rec (motive:=fun _=>R) e f (hget p t)
 | .z,t=>by cases t<;>rfl
 | .a p,t=>by cases t<;>exact zph f e p _
 | .b p,t=>by cases t<;>exact zph f e p _
 | .c p,t=>by cases t<;>exact zph f e p _
 | .d p,t=>by cases t<;>exact zph f e p _
noncomputable def bsetK (t:Nat) (x:IBlk) (l:List (Nat×IBlk)):(List (Nat×IBlk)→R)→R :=
 List.rec (motive:=fun _=>(List (Nat×IBlk)→R)→R) (fun k=>k []) (fun p r ih k=>Prod.rec (motive:=fun _=>R) (fun s b=>Bool.rec (ih fun r=>k ((s,b)::r)) (k ((s,x)::r)) (Nat.beq s t)) p) l
theorem zamh (t:Nat) (x:IBlk):∀(l:List (Nat×IBlk)) (k:List (Nat×IBlk)→R),bsetK t x l k=k (setBox l t x)
 | [],k=>rfl
 |(s,b)::r,k=>by
  show(Bool.rec (bsetK t x r fun r=>k ((s,b)::r)) (k ((s,x)::r)) (Nat.beq s t):R)=_
  rw[setBox]
  cases Nat.beq s t with
  |true=>rfl
  |false=>exact zamh t x r _
noncomputable def fputK (m:FM) (k:Key) (x:IBlk) (f:FM→R):R :=
 fopen m fun b t n c=>Key.rec (motive:=fun _=>R) (fun s=>bsetK s x b fun b=>f ⟨b,⟨t,n,c⟩⟩) (fun i=>hputK x (hp i) t fun t=>f ⟨b,⟨t,n,c⟩⟩) k
theorem zrd {m:FM} {M:Mem} (h:RM m M) {k:Key} {x b0:IBlk} (hk:M.get k=some b0) (f:FM→R):∃m',fputK m k x f=f m'∧RM m' (M.put k x):=by
 obtain⟨b,t,n,c⟩:=m
 obtain⟨hb,hn,hle,ha,hc⟩:=h
 cases k with
 |box s =>
  refine⟨⟨setBox b s x,⟨t,n,c⟩⟩,zamh s x b _,?_,hn,hle,ha,hc⟩
  show setBox b s x=setBox M.boxes s x
  rw[← hb]
 |heap i =>
  obtain⟨t',h1,h2⟩:=zeb x (hp i) t
  have hi:i<M.heap.length:=(List.getElem?_eq_some_iff.1 (show M.heap[i]? = some b0 from hk)).1
  refine⟨⟨b,⟨t',n,c⟩⟩,h1 R _,hb,?_,?_,fun j hj=>?_,hc⟩
  ·show n=(M.heap.set i x).length
   rw[List.length_set];exact hn
  ·show(M.heap.set i x).length≤_
   rw[List.length_set];exact hle
  ·show hget (hp j) t'=(M.heap.set i x)[j]?
   rw[h2]
   by_cases e:i=j
   ·subst e
    rw[if_pos rfl,List.getElem?_set_self hi]
   ·rw[if_neg (fun e'=>e (zaxx (by omega) hj e')),List.getElem?_set_ne e]
    exact ha j hj
noncomputable def fpushK (m:FM) (x:IBlk) (f:Nat→FM→Option R):Option R :=
 fopen m fun b t n c=>Bool.rec none (hputK x (hp n) t fun t=>nforce (Nat.succ n) fun n'=>f n ⟨b,⟨t,n',c⟩⟩) (Nat.ble (Nat.succ n) 4294967296)
theorem zwk {m:FM} {M:Mem} (h:RM m M) {x:IBlk} {f:Nat→FM→Option R} {r:R} (e:fpushK m x f=some r):∃m',f M.heap.length m'=some r∧RM m' { M with heap:=M.heap++[x] }:=by
 obtain⟨b,t,n,c⟩:=m
 obtain⟨hb,hn,hle,ha,hc⟩:=h
 have hn:n=M.heap.length:=hn
 obtain⟨t',h1,h2⟩:=zeb x (hp n) t
 have e:(Bool.rec none (hputK x (hp n) t fun t=>nforce (Nat.succ n) fun n'=>f n ⟨b,⟨t,n',c⟩⟩) (Nat.ble (Nat.succ n) 4294967296):Option R)=some r:=e
 cases hd:Nat.ble (Nat.succ n) 4294967296 with
 |false=>rw[hd]at e;cases e
 |true =>
  rw[hd]at e
  have hd:=Nat.le_of_ble_eq_true hd
  have e:hputK x (hp n) t (fun t=>nforce (Nat.succ n) fun n'=>f n ⟨b,⟨t,n',c⟩⟩)=some r:=e
  rw[h1,zan]at e
  rw[hn]at e h2
  refine⟨_,e,hb,?_,?_,fun j hj=>?_,hc⟩
  ·show M.heap.length.succ=(M.heap++[x]).length
   simp
  ·show(M.heap++[x]).length≤_
   simp;omega
  ·show hget (hp j) t'=(M.heap++[x])[j]?
   rw[h2]
   by_cases e:M.heap.length=j
   ·subst e
    rw[if_pos rfl,List.getElem?_append_right (Nat.le_refl _),Nat.sub_self];rfl
   ·rw[if_neg (fun e'=>e (zaxx (by omega) hj e')),ha j hj]
    by_cases h3:j<M.heap.length
    ·rw[List.getElem?_append_left h3]
    ·rw[List.getElem?_eq_none (by omega),List.getElem?_eq_none (by simp;omega)]
end
end Go.Ideal

/-
  IDEAL SEMANTICS, 80: WHAT IS KNOWN OF A FRAME's BOXES; THE HEAP AS A TREE; VALUES TAKEN APART.
-/
namespace Go.Ideal
open Go
set_option linter.unusedSectionVars false
variable [Kept]
abbrev BXS:=List (Nat×Option IBlk)
structure WM where
 bx:BXS
 h:FH
def bfind:BXS→Nat→Option (Option IBlk)
 | [],_=>none
 |(s,o)::r,t=>match Nat.beq s t with|true=>some o|false=>bfind r t
abbrev Gh:=Nat×List (Nat×IBlk)
structure RW (G:Gh) (m:WM) (M:Mem):Prop where
 bx:∀s o,bfind m.bx s=some o→findBox M.boxes s=o
 ge:G.1≤m.bx.length
 same:m.bx.length=G.1→M.boxes=G.2
 h:RH m.h M.heap
theorem RW.box {G:Gh} {m:WM} {M:Mem} (h:RW G m M) {s:Nat} {o:Option IBlk} {B:List (Nat×IBlk)} (h1:findBox B s=o) (h2:∀t,s≠t→findBox B t=findBox M.boxes t):RW G ⟨(s,o)::m.bx,m.h⟩ ⟨B,M.heap⟩:=by
 refine⟨fun t q e=>?_,?_,fun e=>?_,h.h⟩
 ·simp only[bfind]at e
  cases hb:Nat.beq s t with
  |true =>
   rw[hb]at e
   injection e with e
   rw[← Nat.eq_of_beq_eq_true hb,h1,e]
  |false =>
   rw[hb]at e
   rw[h2 t (fun e=>by rw[e,Nat.beq_refl]at hb;cases hb)]
   exact h.bx t q e
 ·have:=h.ge
  show G.1≤m.bx.length+1
  omega
 ·have:=h.ge
  have e:m.bx.length+1=G.1:=e
  omega
theorem RW.heap {G:Gh} {m:WM} {M:Mem} (h:RW G m M) {h':FH} {H:List IBlk} (hh:RH h' H):RW G ⟨m.bx,h'⟩ ⟨M.boxes,H⟩:=⟨h.bx,h.ge,h.same,hh⟩
theorem zbh (s t:Nat) (b:IBlk) (l:List (Nat×IBlk)):findBox ((s,b)::l) t=match Nat.beq s t with|true=>some b|false=>findBox l t:=rfl
theorem zarj {s t:Nat} (h:s≠t):Nat.beq s t=false:=by
 cases hb:Nat.beq s t with
 |true=>exact absurd (Nat.eq_of_beq_eq_true hb) h
 |false=>rfl
theorem zami {s:Nat} {b c:IBlk}:∀ {l:List (Nat×IBlk)},findBox l s=some c→findBox (setBox l s b) s=some b
 | [],h=>by cases h
 |(t,d)::r,h=>by
  rw[zbh]at h
  rw[setBox]
  cases hb:Nat.beq t s with
  |true=>show findBox ((t,b)::r) s=_;rw[zbh,hb]
  |false=>rw[hb]at h;show findBox ((t,d)::setBox r s b) s=_;rw[zbh,hb];exact zami h
theorem zwl {s t:Nat} {b:IBlk} (hne:s≠t):∀ {l:List (Nat×IBlk)},findBox (setBox l s b) t=findBox l t
 | []=>rfl
 |(u,d)::r=>by
  rw[setBox]
  cases hb:Nat.beq u s with
  |true =>
   show findBox ((u,b)::r) t=_
   rw[zbh,zbh,Nat.eq_of_beq_eq_true hb,zarj hne]
  |false =>
   show findBox ((u,d)::setBox r s b) t=_
   rw[zbh,zbh,zwl hne]
theorem zwm {s:Nat}:∀ {l:List (Nat×IBlk)},findBox (dropBox l s) s=none
 | []=>rfl
 |(u,d)::r=>by
  rw[dropBox]
  cases hb:Nat.beq u s with
  |true=>exact zwm
  |false=>show findBox ((u,d)::dropBox r s) s=_;rw[zbh,hb];exact zwm
theorem zkm {s t:Nat} (hne:s≠t):∀ {l:List (Nat×IBlk)},findBox (dropBox l s) t=findBox l t
 | []=>rfl
 |(u,d)::r=>by
  rw[dropBox]
  cases hb:Nat.beq u s with
  |true =>
   show findBox (dropBox r s) t=_
   rw[zbh,Nat.eq_of_beq_eq_true hb,zarj hne]
   exact zkm hne
  |false =>
   show findBox ((u,d)::dropBox r s) t=_
   rw[zbh,zbh,zkm hne]
abbrev WR:=Option (List IVal×WM)
abbrev WX:=List IVal×WM
section
variable {R:Type}
noncomputable abbrev wP (v:IVal) (f:PVal→R) (e:R):R:=IVal.rec (motive_1:=fun _=>R) (motive_2:=fun _=>PUnit) f (fun _ _ _=>e) (fun _ _ _ _=>e) (fun _=>e) (fun _ _ _=>e) (fun _ _=>e) (fun _ _=>e) e (fun _=>e) (fun _ _ _ _=>e) ⟨⟩ (fun _ _ _ _=>⟨⟩) v
noncomputable abbrev wPI (p:PVal) (f:IntKind→Int→R) (e:R):R:=PVal.rec (motive_1:=fun _=>R) (motive_2:=fun _=>PUnit) (fun _=>e) f (fun _=>e) (fun _ _ _ _=>e) (fun _ _=>e) (fun _=>e) e e e e e ⟨⟩ (fun _ _ _ _=>⟨⟩) p
noncomputable abbrev wPB (p:PVal) (f:Bool→R) (e:R):R:=PVal.rec (motive_1:=fun _=>R) (motive_2:=fun _=>PUnit) f (fun _ _=>e) (fun _=>e) (fun _ _ _ _=>e) (fun _ _=>e) (fun _=>e) e e e e e ⟨⟩ (fun _ _ _ _=>⟨⟩) p
noncomputable abbrev wPS (p:PVal) (f:List UInt8→R) (e:R):R:=PVal.rec (motive_1:=fun _=>R) (motive_2:=fun _=>PUnit) (fun _=>e) (fun _ _=>e) f (fun _ _ _ _=>e) (fun _ _=>e) (fun _=>e) e e e e e ⟨⟩ (fun _ _ _ _=>⟨⟩) p
noncomputable abbrev wk64 (k:IntKind) (a e:R):R:=IntKind.rec (motive:=fun _=>R) e e e a e e e e k
noncomputable abbrev wI (v:IVal) (f:Int→R) (e:R):R:=wP v (fun p=>wPI p (fun k i=>wk64 k (f i) e) e) e
noncomputable abbrev wNat (i:Int) (f:Nat→R) (e:R):R:=Int.rec (motive:=fun _=>R) f (fun _=>e) i
noncomputable abbrev w64 (v:IVal) (f:Nat→R) (e:R):R:=wI v (fun i=>wNat i f e) e
noncomputable abbrev wB (v:IVal) (f:Bool→R) (e:R):R:=wP v (fun p=>wPB p f e) e
noncomputable abbrev wS (v:IVal) (f:List UInt8→R) (e:R):R:=wP v (fun p=>wPS p f e) e
noncomputable abbrev wPtr (v:IVal) (f:Key→Nat→Nat→R) (e:R):R:=IVal.rec (motive_1:=fun _=>R) (motive_2:=fun _=>PUnit) (fun _=>e) f (fun _ _ _ _=>e) (fun _=>e) (fun _ _ _=>e) (fun _ _=>e) (fun _ _=>e) e (fun _=>e) (fun _ _ _ _=>e) ⟨⟩ (fun _ _ _ _=>⟨⟩) v
noncomputable abbrev wKey (k:Key) (f:Nat→R) (g:Nat→R):R:=Key.rec (motive:=fun _=>R) f g k
noncomputable abbrev wHp (v:IVal) (f:Nat→Nat→Nat→R) (e:R):R:=wPtr v (fun k a o=>wKey k (fun _=>e) (fun i=>f i a o)) e
noncomputable abbrev wSl (v:IVal) (f:Nat→Nat→Nat→Nat→R) (e:R):R:=IVal.rec (motive_1:=fun _=>R) (motive_2:=fun _=>PUnit) (fun _=>e) (fun _ _ _=>e) f (fun _=>e) (fun _ _ _=>e) (fun _ _=>e) (fun _ _=>e) e (fun _=>e) (fun _ _ _ _=>e) ⟨⟩ (fun _ _ _ _=>⟨⟩) v
noncomputable abbrev wMap (v:IVal) (f:Nat→R) (e:R):R:=IVal.rec (motive_1:=fun _=>R) (motive_2:=fun _=>PUnit) (fun _=>e) (fun _ _ _=>e) (fun _ _ _ _=>e) f (fun _ _ _=>e) (fun _ _=>e) (fun _ _=>e) e (fun _=>e) (fun _ _ _ _=>e) ⟨⟩ (fun _ _ _ _=>⟨⟩) v
noncomputable def wAgg (v:IVal) (f:List IVal→R) (e:R):R:=IVal.rec (motive_1:=fun _=>R) (motive_2:=fun _=>PUnit) (fun _=>e) (fun _ _ _=>e) (fun _ _ _ _=>e) (fun _=>e) (fun _ _ _=>e) (fun cs _=>f cs) (fun _ _=>e) e (fun _=>e) (fun _ _ _ _=>e) ⟨⟩ (fun _ _ _ _=>⟨⟩) v
noncomputable def wTup (v:IVal) (f:List IVal→R) (e:R):R:=IVal.rec (motive_1:=fun _=>R) (motive_2:=fun _=>PUnit) (fun _=>e) (fun _ _ _=>e) (fun _ _ _ _=>e) (fun _=>e) (fun _ _ _=>e) (fun _ _=>e) (fun cs _=>f cs) e (fun _=>e) (fun _ _ _ _=>e) ⟨⟩ (fun _ _ _ _=>⟨⟩) v
noncomputable abbrev wbeq (a b:Nat) (e:WR):WR:=Bool.rec none e (Nat.beq a b)
theorem zae {a b:Nat} {e:WR} {x:WX} (h:wbeq a b e=some x):a=b∧e=some x:=by
 unfold wbeq at h
 cases hb:Nat.beq a b with
 |false=>rw[hb]at h;cases h
 |true=>rw[hb]at h;exact⟨Nat.eq_of_beq_eq_true hb,h⟩
end
theorem zacs {v:IVal} {f:PVal→WR} {x:WX} (h:wP v f none=some x):∃p,v = .p p∧f p=some x:=by
 cases v<;>first|exact⟨_,rfl,h⟩|cases h
theorem zark {v:IVal} {f:Int→WR} {x:WX} (h:wI v f none=some x):∃i,v = .p (.int .i64 i)∧f i=some x:=by
 obtain⟨p,rfl,h2⟩:=zacs h
 cases p with
 |int k i=>cases k<;>first|(cases h2;done)|exact⟨_,rfl,h2⟩
 |_=>cases h2
theorem zil {v:IVal} {f:Nat→WR} {x:WX} (h:w64 v f none=some x):∃n:Nat,v = .p (.int .i64 (.ofNat n))∧f n=some x:=by
 obtain⟨i,rfl,h2⟩:=zark h
 cases i with
 |ofNat n=>exact⟨n,rfl,h2⟩
 |negSucc n=>cases h2
theorem zact {v:IVal} {f:Bool→WR} {x:WX} (h:wB v f none=some x):∃b,v = .p (.bool b)∧f b=some x:=by
 obtain⟨p,rfl,h2⟩:=zacs h
 cases p<;>first|(cases h2;done)|exact⟨_,rfl,h2⟩
theorem zbbw {v:IVal} {f:List UInt8→WR} {x:WX} (h:wS v f none=some x):∃b,v = .p (.str b)∧f b=some x:=by
 obtain⟨p,rfl,h2⟩:=zacs h
 cases p<;>first|(cases h2;done)|exact⟨_,rfl,h2⟩
theorem zwn {v:IVal} {f:Key→Nat→Nat→WR} {x:WX} (h:wPtr v f none=some x):∃k a o,v = .ptr k a o∧f k a o=some x:=by
 cases v<;>first|exact⟨_,_,_,rfl,h⟩|cases h
theorem zamj {v:IVal} {f:Nat→Nat→Nat→WR} {x:WX} (h:wHp v f none=some x):∃i a o,v = .ptr (.heap i) a o∧f i a o=some x:=by
 obtain⟨k,a,o,rfl,h2⟩:=zwn h
 cases k with
 |box s=>cases h2
 |heap i=>exact⟨i,a,o,rfl,h2⟩
theorem zavt {v:IVal} {f:Nat→Nat→Nat→Nat→WR} {x:WX} (h:wSl v f none=some x):∃i a o n,v = .slice i a o n∧f i a o n=some x:=by
 cases v<;>first|exact⟨_,_,_,_,rfl,h⟩|cases h
theorem zarl {v:IVal} {f:Nat→WR} {x:WX} (h:wMap v f none=some x):∃i,v = .map i∧f i=some x:=by
 cases v<;>first|exact⟨_,rfl,h⟩|cases h
theorem zpi {v:IVal} {f:List IVal→WR} {x:WX} (h:wAgg v f none=some x):∃cs,v = .agg cs∧f cs=some x:=by
 cases v<;>first|exact⟨_,rfl,h⟩|cases h
theorem zagm {v:IVal} {f:List IVal→WR} {x:WX} (h:wTup v f none=some x):∃cs,v = .tup cs∧f cs=some x:=by
 cases v<;>first|exact⟨_,rfl,h⟩|cases h
noncomputable abbrev tN (v:IVal) (f:Nat→WR):WR:=IVal.rec (motive_1:=fun _=>WR) (motive_2:=fun _=>PUnit) (fun p=>PVal.rec (motive_1:=fun _=>WR) (motive_2:=fun _=>PUnit) (fun _=>none) (fun k i=>IntKind.rec (motive:=fun _=>WR) none none none (Int.rec (motive:=fun _=>WR) f (fun _=>none) i) none none none none k) (fun _=>none) (fun _ _ _ _=>none) (fun _ _=>none) (fun _=>none) none none none none none ⟨⟩ (fun _ _ _ _=>⟨⟩) p) (fun _ _ _=>none) (fun _ _ _ _=>none) (fun _=>none) (fun _ _ _=>none) (fun _ _=>none) (fun _ _=>none) none (fun _=>none) (fun _ _ _ _=>none) ⟨⟩ (fun _ _ _ _=>⟨⟩) v
noncomputable abbrev tI (v:IVal) (f:Int→WR):WR:=IVal.rec (motive_1:=fun _=>WR) (motive_2:=fun _=>PUnit) (fun p=>PVal.rec (motive_1:=fun _=>WR) (motive_2:=fun _=>PUnit) (fun _=>none) (fun k i=>IntKind.rec (motive:=fun _=>WR) none none none (f i) none none none none k) (fun _=>none) (fun _ _ _ _=>none) (fun _ _=>none) (fun _=>none) none none none none none ⟨⟩ (fun _ _ _ _=>⟨⟩) p) (fun _ _ _=>none) (fun _ _ _ _=>none) (fun _=>none) (fun _ _ _=>none) (fun _ _=>none) (fun _ _=>none) none (fun _=>none) (fun _ _ _ _=>none) ⟨⟩ (fun _ _ _ _=>⟨⟩) v
noncomputable abbrev tB (v:IVal) (f:Bool→WR):WR:=IVal.rec (motive_1:=fun _=>WR) (motive_2:=fun _=>PUnit) (fun p=>PVal.rec (motive_1:=fun _=>WR) (motive_2:=fun _=>PUnit) f (fun _ _=>none) (fun _=>none) (fun _ _ _ _=>none) (fun _ _=>none) (fun _=>none) none none none none none ⟨⟩ (fun _ _ _ _=>⟨⟩) p) (fun _ _ _=>none) (fun _ _ _ _=>none) (fun _=>none) (fun _ _ _=>none) (fun _ _=>none) (fun _ _=>none) none (fun _=>none) (fun _ _ _ _=>none) ⟨⟩ (fun _ _ _ _=>⟨⟩) v
noncomputable abbrev tS (v:IVal) (f:List UInt8→WR):WR:=IVal.rec (motive_1:=fun _=>WR) (motive_2:=fun _=>PUnit) (fun p=>PVal.rec (motive_1:=fun _=>WR) (motive_2:=fun _=>PUnit) (fun _=>none) (fun _ _=>none) f (fun _ _ _ _=>none) (fun _ _=>none) (fun _=>none) none none none none none ⟨⟩ (fun _ _ _ _=>⟨⟩) p) (fun _ _ _=>none) (fun _ _ _ _=>none) (fun _=>none) (fun _ _ _=>none) (fun _ _=>none) (fun _ _=>none) none (fun _=>none) (fun _ _ _ _=>none) ⟨⟩ (fun _ _ _ _=>⟨⟩) v
noncomputable abbrev tP (v:IVal) (f:PVal→WR):WR:=IVal.rec (motive_1:=fun _=>WR) (motive_2:=fun _=>PUnit) f (fun _ _ _=>none) (fun _ _ _ _=>none) (fun _=>none) (fun _ _ _=>none) (fun _ _=>none) (fun _ _=>none) none (fun _=>none) (fun _ _ _ _=>none) ⟨⟩ (fun _ _ _ _=>⟨⟩) v
noncomputable abbrev tH (v:IVal) (f:Nat→Nat→Nat→WR):WR:=IVal.rec (motive_1:=fun _=>WR) (motive_2:=fun _=>PUnit) (fun _=>none) (fun k a o=>Key.rec (motive:=fun _=>WR) (fun _=>none) (fun i=>f i a o) k) (fun _ _ _ _=>none) (fun _=>none) (fun _ _ _=>none) (fun _ _=>none) (fun _ _=>none) none (fun _=>none) (fun _ _ _ _=>none) ⟨⟩ (fun _ _ _ _=>⟨⟩) v
noncomputable abbrev tL (v:IVal) (f:Nat→Nat→Nat→Nat→WR):WR:=IVal.rec (motive_1:=fun _=>WR) (motive_2:=fun _=>PUnit) (fun _=>none) (fun _ _ _=>none) f (fun _=>none) (fun _ _ _=>none) (fun _ _=>none) (fun _ _=>none) none (fun _=>none) (fun _ _ _ _=>none) ⟨⟩ (fun _ _ _ _=>⟨⟩) v
noncomputable abbrev tM (v:IVal) (f:Nat→WR):WR:=IVal.rec (motive_1:=fun _=>WR) (motive_2:=fun _=>PUnit) (fun _=>none) (fun _ _ _=>none) (fun _ _ _ _=>none) f (fun _ _ _=>none) (fun _ _=>none) (fun _ _=>none) none (fun _=>none) (fun _ _ _ _=>none) ⟨⟩ (fun _ _ _ _=>⟨⟩) v
noncomputable abbrev tA (v:IVal) (f:List IVal→WR):WR:=IVal.rec (motive_1:=fun _=>WR) (motive_2:=fun _=>PUnit) (fun _=>none) (fun _ _ _=>none) (fun _ _ _ _=>none) (fun _=>none) (fun _ _ _=>none) (fun cs _=>f cs) (fun _ _=>none) none (fun _=>none) (fun _ _ _ _=>none) ⟨⟩ (fun _ _ _ _=>⟨⟩) v
noncomputable abbrev tT (v:IVal) (f:List IVal→WR):WR:=IVal.rec (motive_1:=fun _=>WR) (motive_2:=fun _=>PUnit) (fun _=>none) (fun _ _ _=>none) (fun _ _ _ _=>none) (fun _=>none) (fun _ _ _=>none) (fun _ _=>none) (fun cs _=>f cs) none (fun _=>none) (fun _ _ _ _=>none) ⟨⟩ (fun _ _ _ _=>⟨⟩) v
noncomputable abbrev tX (s o:Nat) (v:IVal) (e:WR):WR:=wPtr v (fun key a q=>wKey key (fun t=>wbeq t s (wbeq a 0 (wbeq q o e))) (fun _=>none)) none
abbrev LI:=List IVal
abbrev LB:=List UInt8
inductive Sc where
 |any|nat|int|bool|str|pv|hp|sl|map
 |bp (s o:Nat)
inductive V1 where
 |c (t:Sc)
 |agg (l:List Sc)
 |aggv
inductive Ty where
 |one (t:V1)
 |tup (l:List V1)
section
variable {R:Type}
@[reducible] def Sc.fn (R:Type):Sc→Type
 | .any=>IVal→R | .nat=>Nat→R | .int=>Int→R | .bool=>Bool→R | .str=>List UInt8→R | .pv=>PVal→R
 | .hp=>Nat→Nat→Nat→R | .sl=>Nat→Nat→Nat→Nat→R | .map=>Nat→R | .bp _ _=>R
abbrev Sc.lam:(t:Sc)→(IVal→R)→t.fn R
 | .any,f=>f
 | .nat,f=>fun c=>f (.p (.int .i64 (.ofNat c)))
 | .int,f=>fun c=>f (.p (.int .i64 c))
 | .bool,f=>fun c=>f (.p (.bool c))
 | .str,f=>fun c=>f (.p (.str c))
 | .pv,f=>fun c=>f (.p c)
 | .hp,f=>fun i a o=>f (.ptr (.heap i) a o)
 | .sl,f=>fun i a o n=>f (.slice i a o n)
 | .map,f=>fun i=>f (.map i)
 | .bp s o,f=>f (.ptr (.box s) 0 o)
noncomputable abbrev Sc.app:(t:Sc)→IVal→t.fn R→(R→WR)→WR
 | .any,v,g,k=>k (g v)
 | .nat,v,g,k=>tN v fun c=>k (g c)
 | .int,v,g,k=>tI v fun c=>k (g c)
 | .bool,v,g,k=>tB v fun c=>k (g c)
 | .str,v,g,k=>tS v fun c=>k (g c)
 | .pv,v,g,k=>tP v fun c=>k (g c)
 | .hp,v,g,k=>tH v fun i a o=>k (g i a o)
 | .sl,v,g,k=>tL v fun i a o n=>k (g i a o n)
 | .map,v,g,k=>tM v fun i=>k (g i)
 | .bp s o,v,g,k=>tX s o v (k g)
theorem Sc.zbb {f:IVal→R} {k:R→WR} {x:WX}:∀ {t:Sc} {v:IVal},t.app v (t.lam f) k=some x→k (f v)=some x
 | .any,v,h=>h
 | .nat,v,h=>by obtain⟨n,rfl,h⟩:=zil (f:=fun c=>k (f (.p (.int .i64 (.ofNat c))))) h;exact h
 | .int,v,h=>by obtain⟨n,rfl,h⟩:=zark (f:=fun c=>k (f (.p (.int .i64 c)))) h;exact h
 | .bool,v,h=>by obtain⟨n,rfl,h⟩:=zact (f:=fun c=>k (f (.p (.bool c)))) h;exact h
 | .str,v,h=>by obtain⟨n,rfl,h⟩:=zbbw (f:=fun c=>k (f (.p (.str c)))) h;exact h
 | .pv,v,h=>by obtain⟨n,rfl,h⟩:=zacs (f:=fun c=>k (f (.p c))) h;exact h
 | .hp,v,h=>by obtain⟨i,a,o,rfl,h⟩:=zamj (f:=fun i a o=>k (f (.ptr (.heap i) a o))) h;exact h
 | .sl,v,h=>by obtain⟨i,a,o,n,rfl,h⟩:=zavt (f:=fun i a o n=>k (f (.slice i a o n))) h;exact h
 | .map,v,h=>by obtain⟨i,rfl,h⟩:=zarl (f:=fun i=>k (f (.map i))) h;exact h
 | .bp s o,v,h=>by
   obtain⟨key,a,q,rfl,h1⟩:=zwn h
   cases key with
   |heap i=>cases h1
   |box t =>
    obtain⟨e1,h2⟩:=zae (show wbeq t s _=some x from h1)
    obtain⟨e2,h3⟩:=zae h2
    obtain⟨e3,h4⟩:=zae h3
    rw[e1,e2,e3]
    exact h4
@[reducible] def Scs.fn (R:Type):List Sc→Type
 | []=>R
 |t::r=>t.fn (Scs.fn R r)
abbrev Scs.lam:(l:List Sc)→(List IVal→R)→Scs.fn R l
 | [],f=>f []
 |t::r,f=>t.lam fun v=>Scs.lam r fun vs=>f (v::vs)
noncomputable abbrev wnil (l:List IVal) (e:WR):WR:=List.rec (motive:=fun _=>WR) e (fun _ _ _=>none) l
noncomputable abbrev wcons (l:List IVal) (f:IVal→List IVal→WR):WR:=List.rec (motive:=fun _=>WR) none (fun v r _=>f v r) l
noncomputable abbrev Scs.app:(l:List Sc)→List IVal→Scs.fn R l→(R→WR)→WR
 | [],vs,g,k=>wnil vs (k g)
 |t::r,vs,g,k=>wcons vs fun v vs=>t.app v g fun g=>Scs.app r vs g k
theorem zwo {l:List IVal} {e:WR} {x:WX} (h:wnil l e=some x):l=[]∧e=some x:=by
 cases l with
 |nil=>exact⟨rfl,h⟩
 |cons=>cases h
theorem zre {l:List IVal} {f:IVal→List IVal→WR} {x:WX} (h:wcons l f=some x):∃v r,l=v::r∧f v r=some x:=by
 cases l with
 |nil=>cases h
 |cons v r=>exact⟨v,r,rfl,h⟩
theorem Scs.zbb {k:R→WR} {x:WX}:∀ {l:List Sc} {vs:List IVal} {f:List IVal→R},Scs.app l vs (Scs.lam l f) k=some x→k (f vs)=some x
 | [],vs,f,h=>by obtain⟨rfl,h2⟩:=zwo h;exact h2
 |t::r,vs,f,h0=>by
  obtain⟨v,vs,rfl,h⟩:=zre h0
  exact Scs.zbb (l:=r) (vs:=vs) (f:=fun vs=>f (v::vs)) (Sc.zbb (t:=t) (f:=fun v=>Scs.lam r fun vs=>f (v::vs)) (k:=fun g=>Scs.app r vs g k) h)
@[reducible] def V1.fn (R:Type):V1→Type
 | .c t=>t.fn R
 | .agg l=>Scs.fn R l
 | .aggv=>List IVal→R
abbrev V1.lam:(t:V1)→(IVal→R)→t.fn R
 | .c t,f=>t.lam f
 | .agg l,f=>Scs.lam l fun vs=>f (.agg vs)
 | .aggv,f=>fun vs=>f (.agg vs)
noncomputable abbrev V1.app:(t:V1)→IVal→t.fn R→(R→WR)→WR
 | .c t,v,g,k=>t.app v g k
 | .agg l,v,g,k=>tA v fun vs=>Scs.app l vs g k
 | .aggv,v,g,k=>tA v fun vs=>k (g vs)
theorem V1.zbb {f:IVal→R} {k:R→WR} {x:WX}:∀ {t:V1} {v:IVal},t.app v (t.lam f) k=some x→k (f v)=some x
 | .c t,v,h=>Sc.zbb (t:=t) h
 | .agg l,v,h=>by obtain⟨vs,rfl,h⟩:=zpi (f:=fun vs=>Scs.app l vs (Scs.lam l fun vs=>f (.agg vs)) k) h;exact Scs.zbb h
 | .aggv,v,h=>by obtain⟨vs,rfl,h⟩:=zpi (f:=fun vs=>k (f (.agg vs))) h;exact h
@[reducible] def V1s.fn (R:Type):List V1→Type
 | []=>R
 |t::r=>t.fn (V1s.fn R r)
abbrev V1s.lam:(l:List V1)→(List IVal→R)→V1s.fn R l
 | [],f=>f []
 |t::r,f=>t.lam fun v=>V1s.lam r fun vs=>f (v::vs)
noncomputable abbrev V1s.app:(l:List V1)→List IVal→V1s.fn R l→(R→WR)→WR
 | [],vs,g,k=>wnil vs (k g)
 |t::r,vs,g,k=>wcons vs fun v vs=>t.app v g fun g=>V1s.app r vs g k
theorem V1s.zbb {k:R→WR} {x:WX}:∀ {l:List V1} {vs:List IVal} {f:List IVal→R},V1s.app l vs (V1s.lam l f) k=some x→k (f vs)=some x
 | [],vs,f,h=>by obtain⟨rfl,h2⟩:=zwo h;exact h2
 |t::r,vs,f,h0=>by
  obtain⟨v,vs,rfl,h⟩:=zre h0
  exact V1s.zbb (l:=r) (vs:=vs) (f:=fun vs=>f (v::vs)) (V1.zbb (t:=t) (f:=fun v=>V1s.lam r fun vs=>f (v::vs)) (k:=fun g=>V1s.app r vs g k) h)
@[reducible] def Ty.fn (R:Type):Ty→Type
 | .one t=>t.fn R
 | .tup l=>V1s.fn R l
abbrev Ty.lam:(t:Ty)→(IVal→R)→t.fn R
 | .one t,f=>t.lam f
 | .tup l,f=>V1s.lam l fun vs=>f (.tup vs)
noncomputable abbrev Ty.app:(t:Ty)→IVal→t.fn R→(R→WR)→WR
 | .one t,v,g,k=>t.app v g k
 | .tup l,v,g,k=>tT v fun vs=>V1s.app l vs g k
theorem Ty.zbb {f:IVal→R} {k:R→WR} {x:WX}:∀ {t:Ty} {v:IVal},t.app v (t.lam f) k=some x→k (f v)=some x
 | .one t,v,h=>V1.zbb (t:=t) h
 | .tup l,v,h=>by obtain⟨vs,rfl,h⟩:=zagm (f:=fun vs=>V1s.app l vs (V1s.lam l fun vs=>f (.tup vs)) k) h;exact V1s.zbb h
inductive BT where
 |no
 |cells (n:Nat) (l:List Sc)
 |lst (n:Nat)
@[reducible] def BT.fn (R:Type):BT→Type
 | .no=>R
 | .cells _ l=>Scs.fn R l
 | .lst _=>List IVal→R
def BT.lam:(t:BT)→(Option IBlk→R)→t.fn R
 | .no,f=>f none
 | .cells n l,f=>Scs.lam l fun vs=>f (some (.cells vs n 0 false))
 | .lst n,f=>fun vs=>f (some (.cells vs n 0 false))
noncomputable abbrev wblk (o:Option IBlk) (f:List IVal→Nat→Nat→Bool→WR):WR:=Option.rec (motive:=fun _=>WR) none (fun b=>IBlk.rec (motive:=fun _=>WR) f (fun _ _=>none) b) o
noncomputable abbrev wshut (op:Bool) (e:WR):WR:=Bool.rec e none op
theorem zagn {o:Option IBlk} {f:List IVal→Nat→Nat→Bool→WR} {x:WX} (h:wblk o f=some x):∃cs n v p,o=some (.cells cs n v p)∧f cs n v p=some x:=by
 cases o with
 |none=>cases h
 |some b =>
  cases b with
  |map=>cases h
  |cells cs n v p=>exact⟨cs,n,v,p,rfl,h⟩
noncomputable abbrev BT.app:(t:BT)→Option IBlk→t.fn R→(R→WR)→WR
 | .no,o,g,k=>Option.rec (motive:=fun _=>WR) (k g) (fun _=>none) o
 | .cells n l,o,g,k=>wblk o fun cs e w p=>wbeq e n (wbeq w 0 (wshut p (Scs.app l cs g k)))
 | .lst n,o,g,k=>wblk o fun cs e w p=>wbeq e n (wbeq w 0 (wshut p (k (g cs))))
theorem BT.zbb {f:Option IBlk→R} {k:R→WR} {x:WX}:∀ {t:BT} {o:Option IBlk},t.app o (t.lam f) k=some x→k (f o)=some x
 | .no,o,h=>by
   cases o with
   |none=>exact h
   |some b=>cases h
 | .cells n l,o,h=>by
   obtain⟨cs,e,w,p,rfl,h⟩:=zagn h
   obtain⟨rfl,h⟩:=zae h
   obtain⟨rfl,h⟩:=zae h
   cases p with
   |true=>cases h
   |false=>exact Scs.zbb h
 | .lst n,o,h=>by
   obtain⟨cs,e,w,p,rfl,h⟩:=zagn h
   obtain⟨rfl,h⟩:=zae h
   obtain⟨rfl,h⟩:=zae h
   cases p with
   |true=>cases h
   |false=>exact h
end
noncomputable abbrev tyr (t:Ty) (v:IVal) (k:IVal→WR):WR:=t.app v (t.lam k) fun r=>r
theorem zamk {t:Ty} {v:IVal} {k:IVal→WR} {x:WX} (h:tyr t v k=some x):k v=some x:=Ty.zbb (f:=k) (k:=fun r=>r) h
@[reducible] def qa:Ty := .one (.c .any)
@[reducible] def qn:Ty := .one (.c .nat)
@[reducible] def qi:Ty := .one (.c .int)
@[reducible] def qb:Ty := .one (.c .bool)
@[reducible] def qs:Ty := .one (.c .str)
@[reducible] def qp:Ty := .one (.c .pv)
@[reducible] def qh:Ty := .one (.c .hp)
@[reducible] def ql:Ty := .one (.c .sl)
@[reducible] def qm:Ty := .one (.c .map)
@[reducible] def qv:Ty := .one .aggv
@[reducible] def qx (s o:Nat):Ty := .one (.c (.bp s o))
@[reducible] def iN (n:Nat):IVal := .p (.int .i64 (.ofNat n))
@[reducible] def iI (n:Int):IVal := .p (.int .i64 n)
@[reducible] def iB (b:Bool):IVal := .p (.bool b)
@[reducible] def iS (s:List UInt8):IVal := .p (.str s)
@[reducible] def iH (i a o:Nat):IVal := .ptr (.heap i) a o
@[reducible] def iX (s o:Nat):IVal := .ptr (.box s) 0 o
end Go.Ideal

/-
  IDEAL SEMANTICS, 81: OPERATIONS ON VALUES, AND ON THE HEAP, each handing its value to what comes behind it.
-/
namespace Go.Ideal
open Go
set_option linter.unusedSectionVars false
variable [Kept]
def wC:Oracle:=fun _ _ _=>none
abbrev VF:=(IVal→WR)→WR
def VOK (g:VF) (o:IOp):Prop:=∀ {k x},g k=some x→∃v,(∀ C M,evalOp C noRho M o=some (v,M))∧k v=some x
noncomputable def vv (x:XF):VF:=fun k=>Option.rec (motive:=fun _=>WR) none (fun p=>Prod.rec (motive:=fun _=>WR) (fun v _=>k v) p) (x wC ⟨[],[]⟩)
theorem vv_ok {x:XF} {o:IOp} (hx:∀C M,x C M=evalOp C noRho M o) (ho:∀C M,evalOp C noRho M o=(evalOp wC noRho ⟨[],[]⟩ o).map fun p=>(p.1,M)):VOK (vv x) o:=fun {k r} e=>by
 unfold vv at e
 rw[hx]at e
 cases h:evalOp wC noRho ⟨[],[]⟩ o with
 |none=>rw[h]at e;cases e
 |some p =>
  obtain⟨v,_⟩:=p
  rw[h]at e
  exact⟨v,fun C M=>by rw[ho C M,h];rfl,e⟩
def VLe (g g':VF):Prop:=∀ {k x},g k=some x→g' k=some x
theorem vv_le {g:VF} {x:XF} {o:IOp} (hl:VLe g (vv x)) (hx:∀C M,x C M=evalOp C noRho M o) (ho:∀C M,evalOp C noRho M o=(evalOp wC noRho ⟨[],[]⟩ o).map fun p=>(p.1,M)):VOK g o:=fun {_ _} e=>vv_ok hx ho (hl e)
theorem zrf {x:XF} {v:IVal} {M:Mem} {k:IVal→WR} (h:x wC ⟨[],[]⟩=some (v,M)):vv x k=k v:=by unfold vv;rw[h]
noncomputable def bf (b:Bool) (f:Bool→WR):WR:=Bool.rec (motive:=fun _=>WR) (f false) (f true) b
theorem bf_eq (b:Bool) (f:Bool→WR):bf b f=f b:=by cases b<;>rfl
noncomputable abbrev ift (b:Bool) (e:WR):WR:=Bool.rec (motive:=fun _=>WR) none e b
theorem zak {b:Bool} {e:WR} {x:WX} (h:ift b e=some x):b=true∧e=some x:=by
 cases b with
 |false=>cases h
 |true=>exact⟨rfl,h⟩
noncomputable def v_nil (v:IVal):VF:=fun k=>wPtr v (fun _ _ _=>k v) (vv (x_nil v) k)
theorem zavu (v:IVal):VLe (v_nil v) (vv (x_nil v)):=fun {k x} h=>by
 cases v<;>exact h
noncomputable def zaa (off:Nat) (v:IVal):VF:=fun k=>wPtr v (fun key a o=>nforce (Nat.add o off) fun o=>k (.ptr key a o)) (vv (znq off v) k)
theorem zyu (off:Nat) (v:IVal):VLe (zaa off v) (vv (znq off v)):=fun {k x} h=>by
 cases v<;>exact h
noncomputable abbrev widx (n:Nat) (v:IVal) (k:Nat→WR):WR:=w64 v (fun a=>ift (Nat.ble (Nat.succ a) n) (k a)) none
theorem zarm {n:Nat} {i:IVal} {g:Nat→IVal} {x:XF} (h:x wC ⟨[],[]⟩=xidx n i fun j=>some (g j,⟨[],[]⟩)) {k:IVal→WR} {y:WX} (e:widx n i (fun j=>k (g j))=some y):vv x k=some y:=by
 obtain⟨a,rfl,e⟩:=zil e
 obtain⟨hb,e⟩:=zak e
 unfold vv
 rw[h]
 have:(xidx n (.p (.int .i64 (.ofNat a))) fun j=>some (g j,(⟨[],[]⟩:Mem)))=Bool.rec none (some (g a,⟨[],[]⟩)) (Nat.ble (Nat.succ a) n):=rfl
 rw[this,hb]
 exact e
noncomputable def zab (e:Nat) (x i:IVal):VF:=fun k=>wSl x (fun key v o n=>widx n i fun j=>nforce (Nat.add o (Nat.mul j e)) fun o=>k (.ptr (.heap key) v o)) (vv (zrc e x i) k)
theorem zacu (e:Nat) (x i:IVal):VLe (zab e x i) (vv (zrc e x i)):=fun {k y} h=>by
 cases x with
 |slice key v o n=>exact zarm (g:=fun j=>.ptr (.heap key) v (o+j*e)) rfl h
 |_=>exact h
noncomputable def zpj (len e:Nat) (x i:IVal):VF:=fun k=>wPtr x (fun key v o=>widx len i fun j=>nforce (Nat.add o (Nat.mul j e)) fun o=>k (.ptr key v o)) (vv (zacr len e x i) k)
theorem zajr (len e:Nat) (x i:IVal):VLe (zpj len e x i) (vv (zacr len e x i)):=fun {k y} h=>by
 cases x with
 |ptr key v o=>exact zarm (g:=fun j=>.ptr key v (o+j*e)) rfl h
 |_=>exact h
noncomputable def v_len (x:IVal):VF:=fun k=>wSl x (fun _ _ _ n=>k (.p (.int .i64 (.ofNat n)))) (vv (x_len x) k)
theorem zavv (x:IVal):VLe (v_len x) (vv (x_len x)):=fun {k y} h=>by
 cases x<;>exact h
noncomputable def wget {α:Type} (i:Nat) (l:List α) (f:α→WR):WR:=List.rec (motive:=fun _=>Nat→WR) (fun _=>none) (fun x _ ih k=>Nat.rec (motive:=fun _=>WR) (f x) (fun k' _=>ih k') k) l i
theorem zpk {α:Type} {f:α→WR} {y:WX}:∀ {l:List α} {i:Nat},wget i l f=some y→∃v,l[i]? = some v∧f v=some y
 | [],_,h=>by cases h
 |x::t,0,h=>⟨x,rfl,h⟩
 |x::t,i+1,h=>by
  obtain⟨v,h1,h2⟩:=zpk (l:=t) (i:=i) h
  exact⟨v,by simpa using h1,h2⟩
noncomputable def zwp (x:IVal) (i:Nat):VF:=fun k=>wTup x (fun cs=>wget i cs k) none
theorem zago (x:IVal) (i:Nat):VLe (zwp x i) (vv (zagk x i)):=fun {k y} h=>by
 obtain⟨cs,rfl,h⟩:=zagm h
 obtain⟨v,h1,h2⟩:=zpk h
 rw[zrf (v:=v) (M:=⟨[],[]⟩)]
 ·exact h2
 ·show(Option.rec none (fun v=>some (v,(⟨[],[]⟩:Mem))) (lget cs i):XR)=_
  rw[zdc,h1]
noncomputable def zajs (n:Option Nat) (o:Nat) (x:IVal):VF:=fun k=>Option.rec (motive:=fun _=>WR) (wAgg x (fun cs=>wget o cs k) none) (fun _=>vv (zajp n o x) k) n
theorem zanv (n:Option Nat) (o:Nat) (x:IVal):VLe (zajs n o x) (vv (zajp n o x)):=fun {k y} h=>by
 cases n with
 |some n=>exact h
 |none =>
  obtain⟨cs,rfl,h⟩:=zpi h
  obtain⟨v,h1,h2⟩:=zpk h
  rw[zrf (v:=v) (M:=⟨[],[]⟩)]
  ·exact h2
  ·show(Option.rec none (fun v=>some (v,(⟨[],[]⟩:Mem))) (lget cs o):XR)=_
   rw[zdc,h1]
noncomputable def v_not (x:IVal):VF:=fun k=>wB x (fun b=>bf (gnot b) fun c=>k (.p (.bool c))) none
theorem zavw (x:IVal):VLe (v_not x) (vv (x_not x)):=fun {k y} h=>by
 obtain⟨b,rfl,h⟩:=zact h
 cases b<;>exact h
noncomputable def pk (t:Bool) (a b:IVal) (k:IVal→WR):WR:=Bool.rec (motive:=fun _=>WR) (k b) (k a) t
noncomputable def zwq (c a b:IVal):VF:=fun k=>wB c (fun t=>pk t a b k) none
theorem zarn (c a b:IVal):VLe (zwq c a b) (vv (zaxw c a b)):=fun {k y} h=>by
 obtain⟨t,rfl,h⟩:=zact h
 cases t<;>exact h
noncomputable def w2 (a b:IVal) (f:Nat→Nat→WR) (e:WR):WR:=w64 a (fun x=>w64 b (fun y=>f x y) e) e
theorem w2_le {a b:IVal} {f:Nat→Nat→WR} {e:WR} {y:WX} (h:∀m n,a = .p (.int .i64 (.ofNat m))→b = .p (.int .i64 (.ofNat n))→f m n=some y→e=some y) (g:w2 a b f e=some y):e=some y:=by
 have one:∀ {v:IVal} {q:Nat→WR},(∀ n,v = .p (.int .i64 (.ofNat n))→q n=some y→e=some y)→w64 v q e=some y→e=some y:=by
  intro v q hq hv
  cases v with
  |p u =>
   cases u with
   |int kd z =>
    cases kd with
    |i64 =>
     cases z with
     |ofNat n=>exact hq n rfl hv
     |negSucc n=>exact hv
    |_=>exact hv
   |_=>exact hv
  |_=>exact hv
 exact one (fun m hm h1=>one (fun n hn h2=>h m n hm hn h2) h1) g
noncomputable def lim63:Nat:=9223372036854775808
noncomputable def v_add (a b:IVal):VF:=fun k=>w2 a b (fun x y=>nforce (Nat.add x y) fun n=>ift (Nat.ble (Nat.succ n) lim63) (k (.p (.int .i64 (.ofNat n))))) (vv (x_add a b) k)
theorem zavx (a b:IVal):VLe (v_add a b) (vv (x_add a b)):=fun {k y} g=>by
 refine w2_le (fun m n ha hb h=>?_) g
 subst ha hb
 obtain⟨hb,h⟩:=zak (show ift (Nat.ble (Nat.succ (Nat.add m n)) lim63) (k (.p (.int .i64 (.ofNat (Nat.add m n)))))=some y from h)
 rw[zrf (v := .p (.int .i64 (.ofNat (Nat.add m n)))) (M:=⟨[],[]⟩)]
 ·exact h
 ·show(Bool.rec _ (some (IVal.p (.int .i64 (.ofNat (Nat.add m n))),(⟨[],[]⟩:Mem))) (Nat.ble (Nat.succ (Nat.add m n)) (lim .i64)):XR)=_
  rw[show Nat.ble (Nat.succ (Nat.add m n)) (lim .i64)=true from hb]
noncomputable def v_sub (a b:IVal):VF:=fun k=>w2 a b (fun x y=>Bool.rec (motive:=fun _=>WR) (vv (x_sub a b) k) (nforce (Nat.sub x y) fun n=>ift (Nat.ble (Nat.succ n) lim63) (k (.p (.int .i64 (.ofNat n))))) (Nat.ble y x)) (vv (x_sub a b) k)
theorem zavy (a b:IVal):VLe (v_sub a b) (vv (x_sub a b)):=fun {k y} g=>by
 refine w2_le (fun m n ha hb h=>?_) g
 cases h0:Nat.ble n m with
 |false=>rw[h0]at h;exact h
 |true =>
  rw[h0]at h
  subst ha hb
  obtain⟨hb,h⟩:=zak (show ift (Nat.ble (Nat.succ (Nat.sub m n)) lim63) (k (.p (.int .i64 (.ofNat (Nat.sub m n)))))=some y from h)
  rw[zrf (v := .p (.int .i64 (.ofNat (Nat.sub m n)))) (M:=⟨[],[]⟩)]
  ·exact h
  ·show(Bool.rec _ (Bool.rec _ (some (IVal.p (.int .i64 (.ofNat (Nat.sub m n))),(⟨[],[]⟩:Mem))) (Nat.ble (Nat.succ (Nat.sub m n)) (lim .i64)):XR) (Nat.ble n m):XR)=_
   rw[h0,show Nat.ble (Nat.succ (Nat.sub m n)) (lim .i64)=true from hb]
noncomputable def zaml (a b:IVal):VF:=fun k=>w2 a b (fun x y=>ift (Nat.ble y x) (nforce (Nat.sub x y) fun n=>ift (Nat.ble (Nat.succ n) lim63) (k (.p (.int .i64 (.ofNat n)))))) none
theorem zaro (a b:IVal):VLe (zaml a b) (vv (x_sub a b)):=fun {k y} g=>by
 unfold zaml w2 at g
 obtain⟨m,rfl,g1⟩:=zil g
 obtain⟨n,rfl,g2⟩:=zil g1
 obtain⟨h0,g3⟩:=zak g2
 obtain⟨hb,h⟩:=zak (show ift (Nat.ble (Nat.succ (Nat.sub m n)) lim63) (k (.p (.int .i64 (.ofNat (Nat.sub m n)))))=some y from g3)
 rw[zrf (v := .p (.int .i64 (.ofNat (Nat.sub m n)))) (M:=⟨[],[]⟩)]
 ·exact h
 ·show(Bool.rec _ (Bool.rec _ (some (IVal.p (.int .i64 (.ofNat (Nat.sub m n))),(⟨[],[]⟩:Mem))) (Nat.ble (Nat.succ (Nat.sub m n)) (lim .i64)):XR) (Nat.ble n m):XR)=_
  rw[h0,show Nat.ble (Nat.succ (Nat.sub m n)) (lim .i64)=true from hb]
noncomputable def vcmp (g:Nat→Nat→Bool) (x:IVal→IVal→XF) (a b:IVal):VF:=fun k=>w2 a b (fun p q=>bf (g p q) fun c=>k (.p (.bool c))) (vv (x a b) k)
theorem zrg {g:Nat→Nat→Bool} {x:IVal→IVal→XF} (h:∀p q,x (.p (.int .i64 (.ofNat p))) (.p (.int .i64 (.ofNat q))) wC ⟨[],[]⟩=xbool ⟨[],[]⟩ (g p q)) (a b:IVal):VLe (vcmp g x a b) (vv (x a b)):=fun {k y} e=>by
 refine w2_le (fun p q hp hq e2=>?_) e
 subst hp hq
 rw[bf_eq]at e2
 rw[zrf (v := .p (.bool (g p q))) (M:=⟨[],[]⟩)]
 ·exact e2
 ·rw[h,zub]
noncomputable def v_lss:=vcmp (fun a b=>Nat.ble (Nat.succ a) b) x_lss
noncomputable def v_leq:=vcmp (fun a b=>Nat.ble a b) x_leq
noncomputable def v_gtr:=vcmp (fun a b=>Nat.ble (Nat.succ b) a) x_gtr
noncomputable def v_geq:=vcmp (fun a b=>Nat.ble b a) x_geq
noncomputable def v_eql:=vcmp (fun a b=>Nat.beq a b) x_eql
noncomputable def v_neq:=vcmp (fun a b=>gnot (Nat.beq a b)) x_neq
noncomputable def vbin (op:BinOp):IVal→IVal→VF :=
 BinOp.rec (motive:=fun _=>IVal→IVal→VF) v_add v_sub (fun a b=>vv (x_mul a b)) (fun a b=>vv (xgen .quo a b)) (fun a b=>vv (xgen .rem a b)) (fun a b=>vv (x_and a b)) (fun a b=>vv (x_or a b)) (fun a b=>vv (x_xor a b)) (fun a b=>vv (xgen .shl a b)) (fun a b=>vv (xgen .shr a b)) (fun a b=>vv (xgen .andNot a b)) v_eql v_neq v_lss v_leq v_gtr v_geq op
theorem zbbx (op:BinOp) (a b:IVal):VLe (vbin op a b) (vv (xbin op a b)):=by
 cases op with
 |add=>exact zavx a b
 |sub=>exact zavy a b
 |eql=>exact zrg (fun _ _=>rfl) a b
 |neq=>exact zrg (fun _ _=>rfl) a b
 |lss=>exact zrg (fun _ _=>rfl) a b
 |leq=>exact zrg (fun _ _=>rfl) a b
 |gtr=>exact zrg (fun _ _=>rfl) a b
 |geq=>exact zrg (fun _ _=>rfl) a b
 |_=>exact fun {_ _} h=>h
noncomputable def cof1 (v:IVal) (e:WR):WR:=IVal.rec (motive_1:=fun _=>WR) (motive_2:=fun _=>PUnit) (fun _=>e) (fun k _ _=>wKey k (fun _=>none) (fun _=>e)) (fun _ _ _ _=>e) (fun _=>e) (fun _ _ _=>e) (fun _ _=>none) (fun _ _=>none) none (fun _=>none) (fun _ _ _ _=>none) ⟨⟩ (fun _ _ _ _=>⟨⟩) v
theorem zarp {v:IVal} {e:WR} {x:WX} (h:cof1 v e=some x):v.cellsOf=some [v]∧e=some x:=by
 cases v with
 |ptr k a o=>cases k with
  |box s=>cases h
  |heap i=>exact⟨rfl,h⟩
 |p u=>exact⟨rfl,h⟩
 |slice=>exact⟨rfl,h⟩
 |map=>exact⟨rfl,h⟩
 |func=>exact⟨rfl,h⟩
 |_=>cases h
noncomputable def cofn (n:Nat) (v:IVal) (f:List IVal→WR):WR:=Bool.rec (motive:=fun _=>WR) (wAgg v (fun cs=>wbeq (llen cs) n (f cs)) none) (cof1 v (f [v])) (Nat.beq n 1)
theorem zpl {n:Nat} {v:IVal} {f:List IVal→WR} {x:WX} (h:cofn n v f=some x):∃cs,v.cellsOf=some cs∧cs.length=n∧f cs=some x:=by
 unfold cofn at h
 cases hb:Nat.beq n 1 with
 |true =>
  rw[hb]at h
  obtain⟨h1,h2⟩:=zarp h
  exact⟨[v],h1,(Nat.eq_of_beq_eq_true hb).symm,h2⟩
 |false =>
  rw[hb]at h
  obtain⟨cs,rfl,h1⟩:=zpi h
  obtain⟨h2,h3⟩:=zae h1
  rw[zaf]at h2
  exact⟨cs,rfl,h2,h3⟩
noncomputable def wov (new:List IVal):List IVal→(List IVal→WR)→WR :=
 List.rec (motive:=fun _=>List IVal→(List IVal→WR)→WR) (fun cs k=>k cs) (fun y _ ih cs k=>List.rec (motive:=fun _=>WR) none (fun _ t _=>ih t fun r=>k (y::r)) cs) new
theorem zacv {r:WX}:∀ {new cs:List IVal} {k:List IVal→WR},wov new cs k=some r→new.length≤cs.length∧k (new++cs.drop new.length)=some r
 | [],cs,k,e=>⟨Nat.zero_le _,by simpa using(show k cs=some r from e)⟩
 |y::ys,[],k,e=>by cases e
 |y::ys,x::t,k,e=>by
  obtain⟨h1,h2⟩:=zacv (show wov ys t (fun q=>k (y::q))=some r from e)
  exact⟨by simp;omega,by simpa using h2⟩
noncomputable def wspl (cs:List IVal) (off:Nat) (new:List IVal) (k:List IVal→WR):WR :=
 List.rec (motive:=fun _=>Nat→(List IVal→WR)→WR) (fun n k=>Nat.rec (motive:=fun _=>WR) (wov new [] k) (fun _ _=>none) n)
  (fun x t ih n k=>Nat.rec (motive:=fun _=>WR) (wov new (x::t) k) (fun n' _=>ih n' fun r=>k (x::r)) n) cs off k
theorem zkn {r:WX} {new:List IVal}:∀ {cs:List IVal} {off:Nat} {k:List IVal→WR},wspl cs off new k=some r→off+new.length≤cs.length∧k (splice cs off new)=some r
 | [],0,k,e=>by
   obtain⟨h1,h2⟩:=zacv (show wov new [] k=some r from e)
   exact⟨by simpa using h1,by simpa[splice]using h2⟩
 | [],n+1,k,e=>by cases e
 |x::t,0,k,e=>by
  obtain⟨h1,h2⟩:=zacv (show wov new (x::t) k=some r from e)
  exact⟨by simpa using h1,by simpa[splice]using h2⟩
 |x::t,n+1,k,e=>by
  obtain⟨h1,h2⟩:=zkn (show wspl t n new (fun q=>k (x::q))=some r from e)
  refine⟨by simp;omega,?_⟩
  rw[← h2]
  unfold splice
  rw[show n+1+new.length=(n+new.length)+1 by omega,List.drop_succ_cons,List.take_succ_cons,List.cons_append]
noncomputable def wtk (n:Nat) (cs ys:List IVal) (k:List IVal→WR):WR :=
 List.rec (motive:=fun _=>Nat→(List IVal→WR)→WR) (fun n k=>Nat.rec (motive:=fun _=>WR) (k ys) (fun _ _=>none) n)
  (fun x _ ih n k=>Nat.rec (motive:=fun _=>WR) (k ys) (fun n' _=>ih n' fun r=>k (x::r)) n) cs n k
theorem zuf {r:WX} {ys:List IVal}:∀ {cs:List IVal} {n:Nat} {k:List IVal→WR},wtk n cs ys k=some r→n≤cs.length∧k (cs.take n++ys)=some r
 | [],0,k,e=>⟨Nat.zero_le _,e⟩
 | [],n+1,k,e=>by cases e
 |x::t,0,k,e=>⟨Nat.zero_le _,e⟩
 |x::t,n+1,k,e=>by
  have h:=zuf (cs:=t) (n:=n) (k:=fun q=>k (x::q)) e
  exact⟨by simp;exact h.1,h.2⟩
noncomputable abbrev wcut (cs:List IVal) (off n:Nat) (k:List IVal→WR):WR:=wtk n (qdrop off cs) [] k
theorem zagp {r:WX} {cs:List IVal} {off n:Nat} {k:List IVal→WR} (h:wcut cs off n k=some r):n≤cs.length-off∧k ((cs.drop off).take n)=some r:=by
 obtain⟨h1,h2⟩:=zuf h
 rw[zue]at h1 h2
 rw[List.length_drop]at h1
 exact⟨h1,by simpa using h2⟩
noncomputable abbrev wg {α:Type} (off:Nat) (cs:List α) (f:α→WR):WR:=Bool.rec (motive:=fun _=>WR) (wget off cs f) (Option.rec (motive:=fun _=>WR) none f (qhead (qdrop off cs))) (Nat.ble 8 off)
theorem zbby {α:Type} {off:Nat} {cs:List α} {f:α→WR} {x:WX} (h:wg off cs f=some x):∃v,cs[off]? = some v∧f v=some x:=by
 unfold wg at h
 cases hb:Nat.ble 8 off with
 |false=>rw[hb]at h;exact zpk h
 |true =>
  rw[hb]at h
  have h:(Option.rec none f (qhead (qdrop off cs)):WR)=some x:=h
  rw[zavr]at h
  cases hc:cs[off]? with
  |none=>rw[hc]at h;cases h
  |some v=>rw[hc]at h;exact⟨v,rfl,h⟩
noncomputable def wfill (parts:List (Nat×Nat×IVal)) (cells:List IVal) (k:List IVal→WR):WR :=
 List.rec (motive:=fun _=>List IVal→WR) k (fun e _ ih c=>Prod.rec (fun off q=>Prod.rec (fun n v=>cofn n v fun new=>wspl c off new ih) q) e) parts cells
theorem zrh {r:WX} {k:List IVal→WR}:∀ {parts:List (Nat×Nat×Opd)} {c:List IVal},wfill (cvp parts) c k=some r→∃cs,fillParts noRho c parts=some cs∧k cs=some r
 | [],c,e=>⟨c,rfl,e⟩
 |(off,n,x)::rest,c,e=>by
  obtain⟨new,h1,h2,h3⟩:=zpl (show cofn n (cv x) (fun new=>wspl c off new fun c=>wfill (cvp rest) c k)=some r from e)
  obtain⟨h4,h5⟩:=zkn h3
  obtain⟨cs,g1,g2⟩:=zrh h5
  rw[cv_eq]at h1
  refine⟨cs,?_,g2⟩
  have hb:Nat.beq new.length n=true:=by rw[h2];exact Nat.beq_refl n
  have hl:Nat.ble (off+n) c.length=true:=by rw[← h2];exact Nat.ble_eq_true_of_le h4
  rw[fillParts,h1]
  simp only[hb,hl,Bool.and_self]
  exact g1
noncomputable def zri (z:List PVal) (p:List (Nat×Nat×IVal)):VF:=fun k=>wfill p (gpc z) fun cs=>k (.agg cs)
theorem zanw {z:List PVal} {p:List (Nat×Nat×Opd)}:VOK (zri z (cvp p)) (.build z p):=fun {k r} e=>by
 unfold zri at e
 obtain⟨cs,hf,e⟩:=zrh e
 rw[zep]at hf
 exact⟨_,fun C M=>by simp only[evalOp,hf],e⟩
abbrev HF:=FH→(IVal→FH→WR)→WR
def HOK3 (g:HF) (o:IOp):Prop:=∀ {h H k x},RH h H→g h k=some x→∃v H' h',(∀ C B,evalOp C noRho ⟨B,H⟩ o=some (v,⟨B,H'⟩))∧RH h' H'∧k v h'=some x
noncomputable def hblk (h:FH) (i:Nat) (f:IBlk→WR):WR:=FH.rec (motive:=fun _=>WR) (fun t n _=>ift (Nat.ble (Nat.succ i) n) (hgetC (hp i) t f none)) h
theorem zagq {h:FH} {H:List IBlk} (hh:RH h H) {i:Nat} {f:IBlk→WR} {x:WX} (e:hblk h i f=some x):∃b,H[i]? = some b∧f b=some x:=by
 obtain⟨t,n,c⟩:=h
 obtain⟨h1,h2⟩:=zak (show ift (Nat.ble (Nat.succ i) n) (hgetC (hp i) t f none)=some x from e)
 rw[zph]at h2
 have hn:n=H.length:=hh.n
 have h1:=Nat.le_of_ble_eq_true h1
 have hle:=hh.le
 have ha:=hh.at' i (by omega)
 have ha:hget (hp i) t=H[i]? := ha
 rw[ha]at h2
 cases hb:H[i]? with
 |none=>rw[hb]at h2;cases h2
 |some b=>rw[hb]at h2;exact⟨b,rfl,h2⟩
noncomputable def hcells (h:FH) (i:Nat) (f:List IVal→Nat→Nat→Bool→WR):WR:=hblk h i fun b=>IBlk.rec (motive:=fun _=>WR) f (fun _ _=>none) b
theorem zbv {h:FH} {H:List IBlk} (hh:RH h H) {i:Nat} {f:List IVal→Nat→Nat→Bool→WR} {x:WX} (e:hcells h i f=some x):∃cs n v o,H[i]? = some (.cells cs n v o)∧f cs n v o=some x:=by
 obtain⟨b,h1,h2⟩:=zagq hh e
 cases b with
 |map=>cases h2
 |cells cs n v o=>exact⟨cs,n,v,o,h1,h2⟩
noncomputable def hmap (h:FH) (i:Nat) (f:List (IVal×IVal×Nat)→Nat→WR):WR:=hblk h i fun b=>IBlk.rec (motive:=fun _=>WR) (fun _ _ _ _=>none) f b
theorem zft {h:FH} {H:List IBlk} (hh:RH h H) {i:Nat} {f:List (IVal×IVal×Nat)→Nat→WR} {x:WX} (e:hmap h i f=some x):∃es ck,H[i]? = some (.map es ck)∧f es ck=some x:=by
 obtain⟨b,h1,h2⟩:=zagq hh e
 cases b with
 |cells=>cases h2
 |map es ck=>exact⟨es,ck,h1,h2⟩
noncomputable def hset (h:FH) (i:Nat) (b:IBlk) (k:FH→WR):WR:=FH.rec (motive:=fun _=>WR) (fun t n c=>hputK b (hp i) t fun t=>k ⟨t,n,c⟩) h
theorem zch {h:FH} {H:List IBlk} (hh:RH h H) {i:Nat} {b b0:IBlk} (hb:H[i]? = some b0) {k:FH→WR} {x:WX} (e:hset h i b k=some x):∃h',RH h' (H.set i b)∧k h'=some x:=by
 obtain⟨t,n,c⟩:=h
 obtain⟨m',g1,g2⟩:=zrd (m:=⟨[],⟨t,n,c⟩⟩) (M:=⟨[],H⟩) ⟨rfl,hh⟩ (k := .heap i) (x:=b) (b0:=b0) hb (fun m=>k m.h)
 refine⟨m'.h,g2.h,?_⟩
 rw[← g1]
 exact e
noncomputable def hpush (h:FH) (b:IBlk) (k:Nat→FH→WR):WR:=FH.rec (motive:=fun _=>WR) (fun t n c=>ift (Nat.ble (Nat.succ n) 4294967296) (hputK b (hp n) t fun t=>nforce (Nat.succ n) fun n'=>k n ⟨t,n',c⟩)) h
theorem zcs {h:FH} {H:List IBlk} (hh:RH h H) {b:IBlk} {k:Nat→FH→WR} {x:WX} (e:hpush h b k=some x):∃h',RH h' (H++[b])∧k H.length h'=some x:=by
 obtain⟨t,n,c⟩:=h
 obtain⟨m',g1,g2⟩:=zwk (m:=⟨[],⟨t,n,c⟩⟩) (M:=⟨[],H⟩) ⟨rfl,hh⟩ (x:=b) (f:=fun i m=>k i m.h) (r:=x) (show fpushK _ _ _=some x from by
  show(Bool.rec none (hputK b (hp n) t fun t=>nforce (Nat.succ n) fun n'=>k n ⟨t,n',c⟩) (Nat.ble (Nat.succ n) 4294967296):WR)=some x
  exact e)
 exact⟨m'.h,g2.h,g1⟩
end Go.Ideal
