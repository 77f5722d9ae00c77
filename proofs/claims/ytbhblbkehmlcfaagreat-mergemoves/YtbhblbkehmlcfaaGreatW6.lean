/-
  WHAT THE LIBRARY's SORT AND THE MATCH SAY, RECKONED; ALL CALLS OF THIS SEAT, RECKONED.
-/
import Derived.Test.YtbhblbkehmlcfaaGreatW5
import Derived.Test.YtbhblbkehmlcfaaGreatW3
import Derived.Test.YtbhblbkehmlcfaaGreatW4
namespace Go.Ideal
open Go
set_option maxHeartbeats 4000000
set_option maxRecDepth 20000
attribute [-simp] getElem?_pos
noncomputable def rdPairs (n:Nat) (cs:List IVal):Option (List (Nat×Nat)) :=
 Nat.rec (motive:=fun _=>List IVal→Option (List (Nat×Nat))) (fun _=>some []) (fun _ ih cs=>match cs with
  | .p (.int .i64 (.ofNat a)) :: .p (.int .i64 (.ofNat b))::r=>match ih r with
    |some l=>some ((a,b)::l)
    |none=>none
  |_=>none) n cs
theorem zaba:∀(n:Nat) (cs:List IVal) (L:List (Nat×Nat)),rdPairs n cs=some L→L.length=n∧n*2≤cs.length∧cs.take (n*2)=pcells (prc L)
 |0,cs,L,h=>by injection h with h;subst h;simp[prc,pcells]
 |n+1,cs,L,h=>by
  unfold rdPairs at h
  dsimp only at h
  split at h
  ·rename_i a b r
   change (match rdPairs n r with|some l=>some ((a,b)::l)|none=>none)=some L at h
   split at h
   ·rename_i l hl
    injection h with h
    subst h
    obtain⟨h1,h2,h3⟩:=zaba n r l hl
    refine⟨by simp[h1],by simp;omega,?_⟩
    rw[show(n+1)*2=n*2+1+1 by omega,List.take_succ_cons,List.take_succ_cons,h3]
    simp[prc,pcells]
   ·cases h
  ·cases h
noncomputable def memN (a:Nat) (l:List (Nat×Nat)):Bool:=List.rec (motive:=fun _=>Bool) false (fun p _ ih=>Bool.rec ih true (Nat.beq p.1 a)) l
noncomputable def nodupN (l:List (Nat×Nat)):Bool:=List.rec (motive:=fun _=>Bool) true (fun p t ih=>Bool.rec ih false (memN p.1 t)) l
theorem zalz (a:Nat):∀l,memN a l=false→a∉l.map (·.1)
 | [],_,h=>by simp at h
 |p::l,e,h=>by
  have e:(Bool.rec (memN a l) true (Nat.beq p.1 a):Bool)=false:=e
  cases hb:Nat.beq p.1 a with
  |true=>rw[hb]at e;cases e
  |false =>
   rw[hb]at e
   rcases List.mem_cons.1 h with rfl|h
   ·rw[Nat.beq_refl]at hb;cases hb
   ·exact zalz a l e h
theorem zwp:∀l,nodupN l=true→(l.map (·.1)).Nodup
 | [],_=>by simp
 |p::l,e=>by
  have e:(Bool.rec (nodupN l) false (memN p.1 l):Bool)=true:=e
  cases hb:memN p.1 l with
  |true=>rw[hb]at e;cases e
  |false =>
   rw[hb]at e
   rw[List.map_cons,List.nodup_cons]
   exact⟨zalz _ _ hb,zwp l e⟩
noncomputable def prow (l:List (Nat×Nat)):List IVal:=List.rec (motive:=fun _=>List IVal) [] (fun p _ ih=>Prod.rec (fun a b=>.p (.int .i64 (.ofNat a)) :: .p (.int .i64 (.ofNat b))::ih) p) l
theorem zaqu:∀l,prow l=pcells (prc l)
 | []=>rfl
 |(a,b)::l=>by
  show IVal.p (.int .i64 (.ofNat a)) :: .p (.int .i64 (.ofNat b))::prow l=_
  rw[zaqu l]
  rfl
noncomputable def insN (p:Nat×Nat) (l:List (Nat×Nat)):List (Nat×Nat):=List.rec (motive:=fun _=>List (Nat×Nat)) [p] (fun q t ih=>Bool.rec (q::ih) (p::q::t) (Nat.ble p.1 q.1)) l
noncomputable def sortN (l:List (Nat×Nat)):List (Nat×Nat):=List.rec (motive:=fun _=>List (Nat×Nat)) [] (fun p _ ih=>insN p ih) l
theorem zwq (p:Nat×Nat):∀l,(insN p l).Perm (p::l)
 | []=>List.Perm.refl _
 |q::t=>by
  show(Bool.rec (q::insN p t) (p::q::t) (Nat.ble p.1 q.1):List (Nat×Nat)).Perm _
  cases Nat.ble p.1 q.1 with
  |true=>exact List.Perm.refl _
  |false=>exact((zwq p t).cons q).trans (List.Perm.swap _ _ _)
theorem zwr (p:Nat×Nat):∀l:List (Nat×Nat),(l.Pairwise fun p q=>p.1≤q.1)→(insN p l).Pairwise fun p q=>p.1≤q.1
 | [],_=>by show[p].Pairwise _;simp
 |q::t,h=>by
  show(Bool.rec (q::insN p t) (p::q::t) (Nat.ble p.1 q.1):List (Nat×Nat)).Pairwise _
  rw[List.pairwise_cons]at h
  cases hb:Nat.ble p.1 q.1 with
  |true =>
   have hle:=Nat.le_of_ble_eq_true hb
   refine List.pairwise_cons.2 ⟨fun x hx=>?_,List.pairwise_cons.2 h⟩
   rcases List.mem_cons.1 hx with rfl|hx
   ·exact hle
   ·exact Nat.le_trans hle (h.1 x hx)
  |false =>
   have hle:q.1≤p.1:=by
    rcases Nat.lt_or_ge q.1 p.1 with h'|h'
    ·omega
    ·rw[Nat.ble_eq_true_of_le h']at hb;cases hb
   refine List.pairwise_cons.2 ⟨fun x hx=>?_,zwr p t h.2⟩
   rcases List.mem_cons.1 ((zwq p t).mem_iff.1 hx)with rfl|hx
   ·exact hle
   ·exact h.1 x hx
theorem zabb:∀l,(sortN l).Perm l
 | []=>List.Perm.refl _
 |p::l=>(zwq p (sortN l)).trans ((zabb l).cons p)
theorem ztb:∀l,(sortN l).Pairwise fun p q=>p.1≤q.1
 | []=>List.Pairwise.nil
 |p::l=>zwr p _ (ztb l)
theorem zama {l:List (Nat×Nat)} (h:(l.map (·.1)).Nodup):sortN l=sortP l:=zkn h (zabb l) (ztb l)
noncomputable def isCmp (g:Nat):Bool:=Bool.rec (Bool.rec (Bool.rec (Nat.beq g F_Q135) true (Nat.beq g F_Q63)) true (Nat.beq g F_Q39)) true (Nat.beq g F_Q91)
theorem zaur {g:Nat} (h:isCmp g=true):g∈[F_Q91,F_Q39,F_Q63,F_Q135]:=by
 unfold isCmp at h
 cases h1:Nat.beq g F_Q91 with
 |true=>simp[Nat.eq_of_beq_eq_true h1]
 |false =>
  rw[h1]at h
  cases h2:Nat.beq g F_Q39 with
  |true=>simp[Nat.eq_of_beq_eq_true h2]
  |false =>
   rw[h2]at h
   cases h3:Nat.beq g F_Q63 with
   |true=>simp[Nat.eq_of_beq_eq_true h3]
   |false =>
    rw[h3]at h
    simp[Nat.eq_of_beq_eq_true h]
noncomputable def sortE (args:List IVal) (H:List IBlk):Option (IVal×List IBlk) :=
 match args with
 | [v, .p (.func g)]=>match isCmp g with
   |true=>match v with
    | .p .nilslice=>some (.tup [],H)
    | .slice k ver off n=>match Nat.beq off 0,lget H k with
      |true,some (.cells cs e w op)=>match Nat.beq ver w&&Nat.beq e 2,rdPairs n cs with
       |true,some L=>match nodupN L&&(Nat.ble (n+1) 1000000&&!(Nat.beq n 0))with
        |true=>lall (gsplice cs 0 (prow (sortN L))) fun cs'=>lall (lset H k (.cells cs' 2 w op)) fun H'=>some (.tup [],H')
        |false=>none
       |_,_=>none
      |_,_=>none
    |_=>none
   |false=>none
 |_=>none
theorem zaus {args:List IVal} {H:List IBlk} {r:IVal×List IBlk} (h:sortE args H=some r):CW tr.look F_Q38 args H=some r:=by
 unfold sortE at h
 split at h
 ·rename_i v g
  split at h
  ·rename_i hg
   have hg:=zaur hg
   split at h
   ·injection h with h
    subst h
    exact zqw none_Q38 (zko hg (zsw _ _ _))
   ·rename_i k ver off n
    split at h
    ·rename_i cs e w op h1 h2
     split at h
     ·rename_i L h3 h4
      split at h
      ·rename_i h5
       rw[zan,zan,zfp,zaqu,zacm]at h
       injection h with h
       subst h
       rw[zeq]at h2
       have ho:=Nat.eq_of_beq_eq_true h1
       rw[Bool.and_eq_true]at h3
       have hv:=Nat.eq_of_beq_eq_true h3.1
       have he:=Nat.eq_of_beq_eq_true h3.2
       subst ho hv he
       rw[Bool.and_eq_true,Bool.and_eq_true]at h5
       have hn:=zwp L h5.1
       rw[zama hn]
       have hlt:=Nat.le_of_ble_eq_true h5.2.1
       have h0:n≠0:=fun e=>by rw[e]at h5;simp at h5
       obtain⟨g1,g2,g3⟩:=zaba n cs L h4
       have hsz:(L.map toI).toArray.size=L.length:=by simp
       have hs:=zsx pairKit g (H:=H) (i:=k) (ver:=ver) (off:=0) (L.map toI).toArray h2 (by omega) (by omega) (by rw[hsz];show 0+L.length*2≤_;omega) (by
        rw[hsz,zacr,List.drop_zero,g1];exact g3)
       rw[hsz,zsz hn,zacr,g1]at hs
       exact zqw none_Q38 (zko hg hs)
      ·cases h
     ·cases h
    ·cases h
   ·cases h
  ·cases h
 ·cases h
end Go.Ideal

/-
  THE MATCH, RECKONED; ALL CALLS OF THIS SEAT, RECKONED.
-/
namespace Go.Ideal
open Go
set_option maxHeartbeats 4000000
set_option maxRecDepth 20000
attribute [-simp] getElem?_pos
noncomputable def rdEnts (es:List Ent) (n:Nat):Option (List (Nat×Nat)) :=
 List.rec (motive:=fun _=>Nat→Option (List (Nat×Nat))) (fun _=>some []) (fun e _ ih n=>match e with
  |(.p (.int .i64 (.ofNat a)), .p (.int .i64 (.ofNat b)),s)=>match Nat.beq s n with
   |true=>match ih (n+1)with
    |some l=>some ((a,b)::l)
    |none=>none
   |false=>none
  |_=>none) es n
theorem zagn:∀(es:List Ent) (n:Nat) (L:List (Nat×Nat)),rdEnts es n=some L→es=ME0 n (toE L)
 | [],n,L,h=>by injection h with h;subst h;rfl
 |e::es,n,L,h=>by
  unfold rdEnts at h
  dsimp only at h
  split at h
  ·rename_i a b s
   split at h
   ·rename_i hs
    have hs:=Nat.eq_of_beq_eq_true hs
    subst hs
    change (match rdEnts es (s+1)with|some l=>some ((a,b)::l)|none=>none)=some L at h
    split at h
    ·rename_i l hl
     injection h with h
     subst h
     rw[zagn es (s+1) l hl]
     rfl
    ·cases h
   ·cases h
  ·cases h
theorem zaqv (l:List (Nat×Nat)):(toE l).length=l.length:=by simp[toE]
theorem zaqw {args az:List IVal} {H:List IBlk} {T:List IVal} {M:Mem} {es:List Ent} {ck:Nat} {l:List (Nat×Nat)} (haz:freezeAll H args=some az) (hlen:az.length=2)
 (hW:evalCode (CW tr.look) loopW i_Q29.cut.pre ⟨az++List.replicate (i_Q29.nt-az.length) skipped,⟨[],[]⟩⟩=some (.normal,⟨T,M⟩)) (q2:T.length=i_Q29.nt) (q3:T.getD 127 .undef = .map 0) (q4:T.getD 16 .undef = .p .nilslice)
 (hmap:M.heap[0]? = some (.map es ck)) (hl:rdEnts es 0=some l) (hn:(l.map (·.1)).Nodup) (hck:ck=es.length) (hlt:l.length+1≤1000000) (h0:l≠[]) :
 CW tr.look F_Q29 args H=some (.p (.slice 2 l.length (prc (sortN l))),H):=by
 have hes:=zagn es 0 l hl
 have hek:es.length=l.length:=by rw[hes,zaxe,zaqv]
 rw[zama hn]
 refine zaxs none_Q29 ⟨rfl,rfl,az,haz,hlen, .normal,_,hW,0,es,ck,?_,hmap,?_,fun n σ hσ=>?_⟩
 ·exact q3
 ·rw[hes,hck,hek,←zaqv l]
  exact zacu (toE l)
 ·have hmem:∀e∈σ,∃p:Nat×Nat,∃s,e=(vI p.1,vI p.2,s):=fun e he=>by
   have he:=hσ.mem_iff.1 he
   rw[hes]at he
   obtain⟨p,_,s,hs⟩:=zalx l 0 e he
   exact⟨p,s,hs⟩
  have hmapp:(σ.map entP).Perm l:=by
   have:=hσ.map entP
   rw[hes,zaly]at this
   exact this
  have hsl:σ.length=l.length:=by rw[hσ.length_eq,hek]
  have hrel:RelE 143 [(128, .v (.opq n)),(16, .v (.p .nilslice))] (T.set 128 (.opq n)):=by
   refine⟨by rw[List.length_set];exact q2,fun i=>?_⟩
   rw[zvv,zaas,zaas,zapr]
   by_cases h1:128=i
   ·subst h1
    rw[if_pos rfl,if_pos ⟨rfl,by rw[q2];decide⟩]
    exact .inr rfl
   ·have h3:¬(128=i∧128<T.length):=fun x=>h1 x.1
    rw[if_neg h1,if_neg h3]
    by_cases h2:16=i
    ·subst h2
     rw[if_pos rfl,q4]
     exact .inr rfl
    ·rw[if_neg h2]
     exact .inl rfl
  have hrm:RelM ⟨[],M.heap⟩ M:=⟨fun s b hb=>(by cases hb),rfl⟩
  refine zaat (F:=i_Q29) (by decide) (by decide) (zagl n (.map es ck) _ σ [] (.p .nilslice) none M.heap _ [] hmem (by simp only[List.length_nil,hsl];omega) rfl rfl hmap ⟨rfl,rfl,rfl⟩ (by simp) fun K' lv' o' g1 g2=>?_) hrel hrm
  rw[List.nil_append]at g2
  have hnd:((σ.map entP).map (·.1)).Nodup:=(hmapp.map _).nodup_iff.2 hn
  obtain⟨K2,p1,p2⟩:=zbav (g:=F_Q63) (by simp) lv' o' _ hnd (by rw[hmapp.length_eq];omega) K' g2
  have hun:sortP (σ.map entP)=sortP l:=by
   symm
   refine zkn hnd ((zho l).trans hmapp.symm) (zsy l)
  have hlen2:(sortP l).length=l.length:=(zho l).length_eq
  have hne:sortP l≠[]:=fun e=>h0 (List.length_eq_zero_iff.1 (by rw[← hlen2,e];rfl))
  rw[hun,hmapp.length_eq,←hlen2]at p2
  exact⟨K2,p1,by rw[← hlen2];exact zagm p2 hne,zajp p2⟩
end Go.Ideal



/-
  IDEAL SEMANTICS, 54: THE OPERATIONS OVER KNOWN VALUES, AS THE KERNEL RECKONS THEM FASTEST: few and small terms; what comes out is laid out.
-/
namespace Go.Ideal
open Go
set_option linter.unusedSectionVars false
abbrev XR:=Option (IVal×Mem)
abbrev XF:=Oracle→Mem→XR
def noRho:Opd→IVal:=evalOpd [] [] []
noncomputable def cv (x:Opd):IVal:=Opd.rec (motive:=fun _=>IVal) (fun _=>.undef) (fun v=>v) (fun f=>.p (.func f)) x
theorem cv_eq:∀x:Opd,cv x=noRho x
 | .tmp _=>rfl
 | .const _=>rfl
 | .func _=>rfl
noncomputable def cvs (l:List Opd):List IVal:=List.rec (motive:=fun _=>List IVal) [] (fun x _ ih=>cv x::ih) l
theorem zaqx:∀l:List Opd,cvs l=l.map noRho
 | []=>rfl
 |x::r=>by show cv x::cvs r=_;rw[cv_eq,zaqx r];rfl
noncomputable def cvo (o:Option Opd):Option IVal:=Option.rec (motive:=fun _=>Option IVal) none (fun x=>some (cv x)) o
noncomputable def cvp (l:List (Nat×Nat×Opd)):List (Nat×Nat×IVal):=List.rec (motive:=fun _=>List (Nat×Nat×IVal)) [] (fun p _ ih=>Prod.rec (fun a q=>Prod.rec (fun b x=>(a,b,cv x)::ih) q) p) l
noncomputable def pN (p:PVal):Option (IntKind×Int):=PVal.rec (motive_1:=fun _=>Option (IntKind×Int)) (motive_2:=fun _=>PUnit) (fun _=>none) (fun k n=>some (k,n)) (fun _=>none) (fun _ _ _ _=>none) (fun _ _=>none) (fun _=>none) none none none none none ⟨⟩ (fun _ _ _ _=>⟨⟩) p
noncomputable def toP (v:IVal):Option PVal:=IVal.rec (motive_1:=fun _=>Option PVal) (motive_2:=fun _=>PUnit) (fun p=>some p) (fun _ _ _=>none) (fun _ _ _ _=>none) (fun _=>none) (fun _ _ _=>none) (fun _ _=>none) (fun _ _=>none) none (fun _=>none) (fun _ _ _ _=>none) ⟨⟩ (fun _ _ _ _=>⟨⟩) v
theorem zamb {v:IVal} {p:PVal} (h:toP v=some p):v = .p p:=by
 cases v<;>first|(injection h with h;rw[h];done)|cases h
theorem zbax {p:PVal} {r:IntKind×Int} (h:pN p=some r):p = .int r.1 r.2:=by
 cases p<;>first|(injection h with h;rw[← h];done)|cases h
noncomputable def toI_h (v:IVal):Option (IntKind×Int):=Option.rec (motive:=fun _=>Option (IntKind×Int)) none pN (toP v)
theorem zul {v:IVal} {r:IntKind×Int} (h:toI_h v=some r):v = .p (.int r.1 r.2):=by
 unfold toI_h at h
 cases hp:toP v with
 |none=>rw[hp]at h;cases h
 |some p=>rw[hp]at h;rw[zamb hp,zbax h]
noncomputable def ii (a b:IVal) (f:IntKind→IntKind→Int→Int→XR) (e:XR):XR :=
 Option.rec (motive:=fun _=>XR) e (fun p=>Option.rec (motive:=fun _=>XR) e (fun q=>Prod.rec (fun k x=>Prod.rec (fun l y=>f k l x y) q) p) (toI_h b)) (toI_h a)
theorem ii_eq {a b:IVal} {f:IntKind→IntKind→Int→Int→XR} {e r:XR} (h:∀k l x y,a = .p (.int k x)→b = .p (.int l y)→f k l x y=r) (he:e=r):ii a b f e=r:=by
 unfold ii
 cases ha:toI_h a with
 |none=>exact he
 |some p =>
  cases hb:toI_h b with
  |none=>exact he
  |some q=>exact h _ _ _ _ (zul ha) (zul hb)
noncomputable def xnum (M:Mem) (k:IntKind) (n:Nat):XR:=nforce n fun n=>some (.p (.int k (.ofNat n)),M)
noncomputable def xfit (M:Mem) (k:IntKind) (n:Nat):XR :=
 nforce n fun n=>Bool.rec (Bool.rec (some (.p (.int k (k.wrap (Int.ofNat n))),M)) (xnum M k (Nat.mod n (lim k))) (usg k)) (some (.p (.int k (.ofNat n)),M)) (Nat.ble (Nat.succ n) (lim k))
theorem znw (M:Mem) (k:IntKind) (n:Nat):xfit M k n=some (.p (.int k (k.wrap (n:Int))),M):=by
 have h:=zfw k n
 unfold gfit at h
 unfold xfit
 rw[zbb]
 cases h1:Nat.ble (Nat.succ n) (lim k)with
 |true=>rw[h1]at h;injection h with h;show some (IVal.p (PVal.int k (Int.ofNat n)),M)=_;rw[← h]
 |false =>
  rw[h1]at h
  cases h2:usg k with
  |true=>rw[h2]at h;injection h with h;show some (IVal.p (PVal.int k (Int.ofNat _)),M)=_;rw[← h]
  |false=>rfl
noncomputable def xneg (M:Mem) (k:IntKind) (n:Nat):XR :=
 nforce n fun n=>Bool.rec (Bool.rec (some (.p (.int k (.negSucc n)),M)) (some (.p (.int k (k.wrap (.negSucc n))),M)) (usg k)) (some (.p (.int k (k.wrap (.negSucc n))),M)) (Nat.ble (lim k) n)
theorem zaqy (M:Mem) (k:IntKind) (n:Nat):xneg M k n=some (.p (.int k (k.wrap (.negSucc n))),M):=by
 have h:=zacn k n
 unfold gneg at h
 unfold xneg
 rw[zbb]
 cases h1:Nat.ble (lim k) n with
 |true=>rfl
 |false =>
  rw[h1]at h
  cases h2:usg k with
  |true=>rfl
  |false=>rw[h2]at h;injection h with h;show some (IVal.p (PVal.int k (Int.negSucc n)),M)=_;rw[← h]
noncomputable def nn (x y:Int) (f:Nat→Nat→XR) (e:XR):XR:=Int.rec (motive:=fun _=>XR) (fun a=>Int.rec (motive:=fun _=>XR) (fun b=>f a b) (fun _=>e) y) (fun _=>e) x
noncomputable def xof (M:Mem) (r:Option PVal):XR:=Option.rec (motive:=fun _=>XR) none (fun v=>pforce v fun v=>some (.p v,M)) r
theorem zago (M:Mem) (r:Option PVal):xof M r=match r with|some v=>some (.p v,M)|none=>none:=by
 cases r with
 |none=>rfl
 |some v=>exact zagh v (fun v=>some (IVal.p v,M))
noncomputable def xar (op:BinOp) (f:Mem→IntKind→Nat→Nat→XR) (a b:IVal):XF:=fun _ M =>
 ii a b (fun k l x y=>Bool.rec none (nn x y (f M k) (xof M (intBin op k x y))) (kbeq k l)) (xof M (gbin op a b))
noncomputable def xbool (M:Mem) (b:Bool):XR:=Bool.rec (some (.p (.bool false),M)) (some (.p (.bool true),M)) b
theorem zacv (M:Mem) (b:Bool):xbool M b=some (.p (.bool b),M):=by cases b<;>rfl
noncomputable def pS (p:PVal):Option (List UInt8):=PVal.rec (motive_1:=fun _=>Option (List UInt8)) (motive_2:=fun _=>PUnit) (fun _=>none) (fun _ _=>none) (fun s=>some s) (fun _ _ _ _=>none) (fun _ _=>none) (fun _=>none) none none none none none ⟨⟩ (fun _ _ _ _=>⟨⟩) p
noncomputable def toS (v:IVal):Option (List UInt8):=Option.rec (motive:=fun _=>Option (List UInt8)) none pS (toP v)
theorem zum {v:IVal} {s:List UInt8} (h:toS v=some s):v = .p (.str s):=by
 unfold toS at h
 cases hp:toP v with
 |none=>rw[hp]at h;cases h
 |some p =>
  rw[hp]at h
  rw[zamb hp]
  cases p<;>first|(injection h with h;rw[h];done)|cases h
noncomputable def ss (a b:IVal) (f:List UInt8→List UInt8→XR) (e:XR):XR :=
 Option.rec (motive:=fun _=>XR) e (fun s=>Option.rec (motive:=fun _=>XR) e (fun t=>f s t) (toS b)) (toS a)
noncomputable def xcmp (op:BinOp) (f:Nat→Nat→Bool) (a b:IVal):XF:=fun _ M =>
 ii a b (fun k l x y=>Bool.rec none (nn x y (fun m n=>xbool M (f m n)) (xof M (gint op k x y))) (kbeq k l)) (xof M (gbin op a b))
noncomputable def xeq (neg:Bool) (op:BinOp) (f:Nat→Nat→Bool) (a b:IVal):XF:=fun _ M =>
 ii a b (fun k l x y=>Bool.rec none (nn x y (fun m n=>xbool M (f m n)) (xof M (gint op k x y))) (kbeq k l)) (ss a b (fun s t=>xbool M (Bool.rec (gstr s t) (gnot (gstr s t)) neg)) (xof M (gbin op a b)))
noncomputable def xgen (op:BinOp) (a b:IVal):XF:=fun _ M=>xof M (gbin op a b)
noncomputable def x_add:=xar .add fun M k a b=>xfit M k (Nat.add a b)
noncomputable def x_sub:=xar .sub fun M k a b=>Bool.rec (xneg M k (Nat.pred (Nat.sub b a))) (xfit M k (Nat.sub a b)) (Nat.ble b a)
noncomputable def x_mul:=xar .mul fun M k a b=>xfit M k (Nat.mul a b)
noncomputable def x_and:=xar .and fun M k a b=>xfit M k (Nat.land (Nat.mod a (full k)) (Nat.mod b (full k)))
noncomputable def x_or:=xar .or fun M k a b=>xfit M k (Nat.lor (Nat.mod a (full k)) (Nat.mod b (full k)))
noncomputable def x_xor:=xar .xor fun M k a b=>xfit M k (Nat.xor (Nat.mod a (full k)) (Nat.mod b (full k)))
noncomputable def x_eql:=xeq false .eql fun a b=>Nat.beq a b
noncomputable def x_neq:=xeq true .neq fun a b=>gnot (Nat.beq a b)
noncomputable def x_lss:=xcmp .lss fun a b=>Nat.ble (Nat.succ a) b
noncomputable def x_leq:=xcmp .leq fun a b=>Nat.ble a b
noncomputable def x_gtr:=xcmp .gtr fun a b=>Nat.ble (Nat.succ b) a
noncomputable def x_geq:=xcmp .geq fun a b=>Nat.ble b a
noncomputable def xbin (op:BinOp):IVal→IVal→XF :=
 BinOp.rec (motive:=fun _=>IVal→IVal→XF) x_add x_sub x_mul (xgen .quo) (xgen .rem) x_and x_or x_xor (xgen .shl) (xgen .shr) (xgen .andNot) x_eql x_neq x_lss x_leq x_gtr x_geq op
def binR (M:Mem) (op:BinOp) (a b:IVal):XR:=match evalBin op a b with|some v=>some (.p v,M)|none=>none
theorem zdj (op:BinOp) (a b:IVal) (C:Oracle) (M:Mem):xgen op a b C M=binR M op a b:=by
 unfold xgen binR
 rw[zago,zaqb]
theorem zabc {op:BinOp} {f:Mem→IntKind→Nat→Nat→XR} (ho:∀k l x y,evalBin op (.p (.int k x)) (.p (.int l y))=if k=l then intBin op k x y else none)
 (hf:∀M k (a b:Nat),f M k a b=match intBin op k (a:Int) (b:Int)with|some v=>some (.p v,M)|none=>none) (a b:IVal) (C:Oracle) (M:Mem):xar op f a b C M=binR M op a b:=by
 refine ii_eq (fun k l x y ha hb=>?_) (zdj op a b C M)
 subst ha hb
 unfold binR
 rw[ho,zwb]
 by_cases h:k=l
 ·simp only[h,decide_true,if_true]
  show nn x y (f M l) (xof M (intBin op l x y))=_
  cases x with
  |negSucc m=>exact zago M _
  |ofNat m =>
   cases y with
   |negSucc n=>exact zago M _
   |ofNat n=>exact hf M l m n
 ·simp only[h,decide_false,if_false]
theorem zrf {op:BinOp} {f:Nat→Nat→Bool} (ho:∀k l x y,evalBin op (.p (.int k x)) (.p (.int l y))=if k=l then intBin op k x y else none)
 (hf:∀k (a b:Nat),some (PVal.bool (f a b))=intBin op k (a:Int) (b:Int)) (a b:IVal) (_:Oracle) (M:Mem) {e:XR} (he:e=binR M op a b):ii a b (fun k l x y=>Bool.rec none (nn x y (fun m n=>xbool M (f m n)) (xof M (gint op k x y))) (kbeq k l)) e=binR M op a b:=by
 refine ii_eq (fun k l x y ha hb=>?_) he
 subst ha hb
 unfold binR
 rw[ho,zwb]
 by_cases h:k=l
 ·simp only[h,decide_true,if_true]
  show nn x y (fun m n=>xbool M (f m n)) (xof M (gint op l x y))=_
  cases x with
  |negSucc m=>rw[zajg];exact zago M _
  |ofNat m =>
   cases y with
   |negSucc n=>rw[zajg];exact zago M _
   |ofNat n=>show xbool M (f m n)=match intBin op l (m:Int) (n:Int)with|some v=>some (IVal.p v,M)|none=>none;rw[zacv,←hf]
 ·simp only[h,decide_false,if_false]
theorem zbay (op:BinOp) (a b:IVal) (C:Oracle) (M:Mem):xbin op a b C M=binR M op a b:=by
 cases op with
 |add=>exact zabc (op := .add) (f:=fun M k a b=>xfit M k (Nat.add a b)) (fun _ _ _ _=>rfl) (fun M k a b=>znw M k (a+b)) a b C M
 |sub =>
  refine zabc (op := .sub) (f:=fun M k a b=>Bool.rec (xneg M k (Nat.pred (Nat.sub b a))) (xfit M k (Nat.sub a b)) (Nat.ble b a)) (fun _ _ _ _=>rfl) (fun M k a b=>?_) a b C M
  have h:=zapy k a b
  unfold gsub at h
  show(Bool.rec (xneg M k (Nat.pred (Nat.sub b a))) (xfit M k (Nat.sub a b)) (Nat.ble b a):XR)=some (IVal.p (PVal.int k (k.wrap ((a:Int)-(b:Int)))),M)
  cases hb:Nat.ble b a with
  |true=>rw[hb]at h;dsimp only at h ⊢;rw[zfw]at h;rw[znw];injection h with h;rw[h]
  |false=>rw[hb]at h;dsimp only at h ⊢;rw[zacn]at h;rw[zaqy];injection h with h;rw[h]
 |mul=>exact zabc (op := .mul) (f:=fun M k a b=>xfit M k (Nat.mul a b)) (fun _ _ _ _=>rfl) (fun M k a b=>znw M k (a*b)) a b C M
 |quo=>exact zdj _ a b C M
 |rem=>exact zdj _ a b C M
 |and=>exact zabc (op := .and) (f:=fun M k a b=>xfit M k (Nat.land (Nat.mod a (full k)) (Nat.mod b (full k)))) (fun _ _ _ _=>rfl) (fun M k a b=>by show xfit M k _=some (IVal.p (PVal.int k (k.wrap ((BitVec.ofInt k.bits (a:Int) &&& BitVec.ofInt k.bits (b:Int)).toNat:Nat))),M);rw[znw,zalj]) a b C M
 |or=>exact zabc (op := .or) (f:=fun M k a b=>xfit M k (Nat.lor (Nat.mod a (full k)) (Nat.mod b (full k)))) (fun _ _ _ _=>rfl) (fun M k a b=>by show xfit M k _=some (IVal.p (PVal.int k (k.wrap ((BitVec.ofInt k.bits (a:Int) ||| BitVec.ofInt k.bits (b:Int)).toNat:Nat))),M);rw[znw,zapz]) a b C M
 |xor=>exact zabc (op := .xor) (f:=fun M k a b=>xfit M k (Nat.xor (Nat.mod a (full k)) (Nat.mod b (full k)))) (fun _ _ _ _=>rfl) (fun M k a b=>by show xfit M k _=some (IVal.p (PVal.int k (k.wrap ((BitVec.ofInt k.bits (a:Int) ^^^ BitVec.ofInt k.bits (b:Int)).toNat:Nat))),M);rw[znw,zalk]) a b C M
 |shl=>exact zdj _ a b C M
 |shr=>exact zdj _ a b C M
 |andNot=>exact zdj _ a b C M
 |eql =>
  refine zrf (op := .eql) (f:=fun a b=>Nat.beq a b) (fun _ _ _ _=>rfl) (fun k a b=>(zwg .eql k a b:_)) a b C M ?_
  unfold ss
  cases ha:toS a with
  |none=>exact zdj .eql a b C M
  |some s =>
   cases hb:toS b with
   |none=>exact zdj .eql a b C M
   |some t =>
    rw[zum ha,zum hb]
    show xbool M (gstr s t)=some (IVal.p (PVal.bool (s==t)),M)
    rw[zacv,zwi,show(s==t)=decide (s=t)by rw[Bool.eq_iff_iff];simp]
 |neq =>
  refine zrf (op := .neq) (f:=fun a b=>gnot (Nat.beq a b)) (fun _ _ _ _=>rfl) (fun k a b=>(zwg .neq k a b:_)) a b C M ?_
  unfold ss
  cases ha:toS a with
  |none=>exact zdj .neq a b C M
  |some s =>
   cases hb:toS b with
   |none=>exact zdj .neq a b C M
   |some t =>
    rw[zum ha,zum hb]
    show xbool M (gnot (gstr s t))=some (IVal.p (PVal.bool (!(s==t))),M)
    rw[zacv,zwc,zwi,show(s==t)=decide (s=t)by rw[Bool.eq_iff_iff];simp]
 |lss=>exact zrf (op := .lss) (f:=fun a b=>Nat.ble (Nat.succ a) b) (fun _ _ _ _=>rfl) (fun k a b=>(zwg .lss k a b:_)) a b C M (zdj .lss a b C M)
 |leq=>exact zrf (op := .leq) (f:=fun a b=>Nat.ble a b) (fun _ _ _ _=>rfl) (fun k a b=>(zwg .leq k a b:_)) a b C M (zdj .leq a b C M)
 |gtr=>exact zrf (op := .gtr) (f:=fun a b=>Nat.ble (Nat.succ b) a) (fun _ _ _ _=>rfl) (fun k a b=>(zwg .gtr k a b:_)) a b C M (zdj .gtr a b C M)
 |geq=>exact zrf (op := .geq) (f:=fun a b=>Nat.ble b a) (fun _ _ _ _=>rfl) (fun k a b=>(zwg .geq k a b:_)) a b C M (zdj .geq a b C M)
end Go.Ideal

/-
  IDEAL SEMANTICS, 54: THE OTHER OPERATIONS OVER KNOWN VALUES.
-/
namespace Go.Ideal
open Go
set_option linter.unusedSectionVars false
noncomputable def pB (p:PVal):Option Bool:=PVal.rec (motive_1:=fun _=>Option Bool) (motive_2:=fun _=>PUnit) (fun b=>some b) (fun _ _=>none) (fun _=>none) (fun _ _ _ _=>none) (fun _ _=>none) (fun _=>none) none none none none none ⟨⟩ (fun _ _ _ _=>⟨⟩) p
noncomputable def toB (v:IVal):Option Bool:=Option.rec (motive:=fun _=>Option Bool) none pB (toP v)
noncomputable def toC (v:IVal):Option (List IVal):=IVal.rec (motive_1:=fun _=>Option (List IVal)) (motive_2:=fun _=>PUnit) (fun p=>some [.p p]) (fun k a b=>Key.rec (motive:=fun _=>Option (List IVal)) (fun _=>none) (fun i=>some [.ptr (.heap i) a b]) k) (fun i a b c=>some [.slice i a b c]) (fun i=>some [.map i]) (fun f l _=>some [.func f l]) (fun cs _=>some cs) (fun _ _=>none) none (fun _=>none) (fun _ _ _ _=>none) ⟨⟩ (fun _ _ _ _=>⟨⟩) v
theorem zabd (v:IVal):toC v=v.cellsOf:=by
 cases v with
 |ptr k a b=>cases k<;>rfl
 |_=>rfl
noncomputable def passB (v:IVal):Bool:=IVal.rec (motive_1:=fun _=>Bool) (motive_2:=fun _=>PUnit) (fun _=>true) (fun k _ _=>Key.rec (motive:=fun _=>Bool) (fun _=>false) (fun _=>true) k) (fun _ _ _ _=>true) (fun _=>true) (fun _ _ _=>true) (fun _ _=>true) (fun _ _=>true) false (fun _=>false) (fun _ _ _ _=>false) ⟨⟩ (fun _ _ _ _=>⟨⟩) v
theorem zun (v:IVal):passB v=v.passOK:=by
 cases v with
 |ptr k a b=>cases k<;>rfl
 |_=>rfl
noncomputable def passesB (l:List IVal):Bool:=List.rec (motive:=fun _=>Bool) true (fun v _ ih=>Bool.rec false ih (passB v)) l
theorem zlz:∀l,passesB l=passesOK l
 | []=>rfl
 |v::r=>by
  show(Bool.rec false (passesB r) (passB v):Bool)=_
  rw[zlz r,zun,passesOK]
  cases v.passOK<;>rfl
inductive PV where
 |cells (cs:List PVal)
 |ref (k:Key) (v o:Nat)
 |no
noncomputable def pPtr (p:PVal):PV:=PVal.rec (motive_1:=fun _=>PV) (motive_2:=fun _=>PUnit) (fun _=>.no) (fun _ _=>.no) (fun _=>.no) (fun _ _ _ _=>.no) (fun cs _=>.cells cs) (fun _=>.no) .no .no .no .no .no ⟨⟩ (fun _ _ _ _=>⟨⟩) p
noncomputable def toPV (v:IVal):PV:=IVal.rec (motive_1:=fun _=>PV) (motive_2:=fun _=>PUnit) pPtr (fun k a b=>.ref k a b) (fun _ _ _ _=>.no) (fun _=>.no) (fun _ _ _=>.no) (fun _ _=>.no) (fun _ _=>.no) .no (fun _=>.no) (fun _ _ _ _=>.no) ⟨⟩ (fun _ _ _ _=>⟨⟩) v
inductive SW where
 |cells (e n:Nat) (cs:List PVal)
 |ref (k v o n:Nat)
 |nil
 |no
noncomputable def pSl (p:PVal):SW:=PVal.rec (motive_1:=fun _=>SW) (motive_2:=fun _=>PUnit) (fun _=>.no) (fun _ _=>.no) (fun _=>.no) (fun e n cs _=>.cells e n cs) (fun _ _=>.no) (fun _=>.no) .no .nil .no .no .no ⟨⟩ (fun _ _ _ _=>⟨⟩) p
noncomputable def toSW (v:IVal):SW:=IVal.rec (motive_1:=fun _=>SW) (motive_2:=fun _=>PUnit) pSl (fun _ _ _=>.no) (fun k a b c=>.ref k a b c) (fun _=>.no) (fun _ _ _=>.no) (fun _ _=>.no) (fun _ _=>.no) .no (fun _=>.no) (fun _ _ _ _=>.no) ⟨⟩ (fun _ _ _ _=>⟨⟩) v
noncomputable def toCells (b:Option IBlk) (f:List IVal→Nat→Nat→Bool→XR):XR:=Option.rec (motive:=fun _=>XR) none (fun b=>IBlk.rec (motive:=fun _=>XR) f (fun _ _=>none) b) b
noncomputable def zws {α:Type} (n:Nat) (l:List α) (k:List α→XR):XR :=
 List.rec (motive:=fun _=>Nat→XR) (fun n=>Nat.rec (motive:=fun _=>XR) (k []) (fun _ _=>none) n) (fun x t ih n=>Nat.rec (motive:=fun _=>XR) (k (x::t)) (fun n' _=>ih n') n) l n
theorem zacw {α:Type}:∀(l:List α) (n:Nat) (k:List α→XR),zws n l k=match Nat.ble n l.length with|true=>k (l.drop n)|false=>none
 | [],0,_=>rfl
 | [],_+1,_=>rfl
 |_::_,0,_=>rfl
 |_::t,n+1,k=>(zacw t n k:_)
noncomputable def boxNew (M:Mem) (s:Nat) (b:IBlk):XR:=Option.rec (motive:=fun _=>XR) (some (.ptr (.box s) 0 0,Mem.rec (fun B H=>⟨(s,b)::B,H⟩) M)) (fun _=>none) (gfindBox M.boxes s)
noncomputable def heapNew (M:Mem) (b:IBlk) (f:Nat→IVal):XR:=nforce (llen M.heap) fun n=>some (f n,gpush M b)
noncomputable def xnew (M:Mem) (s:Option Nat) (b:IBlk):XR:=Option.rec (motive:=fun _=>XR) (heapNew M b fun n=>.ptr (.heap n) 0 0) (fun s=>boxNew M s b) s
theorem zajq (M:Mem) (s:Option Nat) (b:IBlk):xnew M s b=newBlk M s b:=by
 cases s with
 |none=>show some (IVal.ptr (.heap (llen M.heap)) 0 0,gpush M b)=_;rw[zap,zgq];rfl
 |some s =>
  show boxNew M s b=_
  unfold boxNew newBlk
  rw[zcb]
  dsimp only
  cases findBox M.boxes s<;>rfl
noncomputable def zbaz (s:Option Nat) (z:List PVal):XF:=fun _ M=>lall (gpc z) fun cs=>xnew M s (.cells cs (llen z) 0 false)
noncomputable def x_box (s:Option Nat) (n:Nat) (v:IVal):XF:=fun _ M=>Option.rec (motive:=fun _=>XR) none (fun cs=>Bool.rec none (xnew M s (.cells cs n 0 false)) (Nat.beq (llen cs) n)) (toC v)
noncomputable def xfill {R:Type} (parts:List (Nat×Nat×IVal)) (cells:List IVal) (k:List IVal→Option R):Option R :=
 List.rec (motive:=fun _=>List IVal→Option R) k (fun e _ ih c=>Prod.rec (fun off q=>Prod.rec (fun n v=>Option.rec (motive:=fun _=>Option R) none (fun new=>Bool.rec none (lall (gsplice c off new) ih) (Bool.rec false (Nat.ble (Nat.add off n) (llen c)) (Nat.beq (llen new) n))) (toC v)) q) e) parts cells
theorem zacx {R:Type} (k:List IVal→Option R):∀(parts:List (Nat×Nat×Opd)) (c:List IVal),xfill (cvp parts) c k=match fillParts noRho c parts with|some cs=>k cs|none=>none
 | [],c=>rfl
 |(off,n,x)::rest,c=>by
  have ih:=zacx k rest
  show(Option.rec (motive:=fun _=>Option R) none (fun new=>Bool.rec none (lall (gsplice c off new) fun c=>xfill (cvp rest) c k) (Bool.rec false (Nat.ble (Nat.add off n) (llen c)) (Nat.beq (llen new) n))) (toC (cv x)):Option R)=_
  rw[fillParts,zabd,cv_eq]
  cases(noRho x).cellsOf with
  |none=>rfl
  |some new =>
   simp only[zan,zfp,zap,ih]
   have hb:(Bool.rec false (Nat.ble (Nat.add off n) c.length) (Nat.beq new.length n):Bool)=(Nat.beq new.length n&&Nat.ble (off+n) c.length):=by cases Nat.beq new.length n<;>rfl
   rw[hb]
   cases(Nat.beq new.length n&&Nat.ble (off+n) c.length)<;>rfl
noncomputable def zbba (z:List PVal) (p:List (Nat×Nat×IVal)):XF:=fun _ M=>xfill p (gpc z) fun cs=>some (.agg cs,M)
noncomputable def zagp (e n:Nat) (z:List PVal) (p:List (Nat×Nat×IVal)):XF:=fun _ M=>xfill p (grepl n z) fun cs=>heapNew M (.cells cs e 0 false) fun h=>.slice h 0 0 n
noncomputable def xread (M:Mem) (n:Nat) (v:IVal) (k:List IVal→XR):XR :=
 PV.rec (motive:=fun _=>XR) (fun cs=>prd n cs k) (fun key ver off=>toCells (gget M key) fun cs _ v _=>Bool.rec none (grow cs off n k) (Nat.beq ver v)) none (toPV v)
theorem zamc (M:Mem) (n:Nat) (v:IVal) (k:List IVal→XR):xread M n v k=gread M n v k:=by
 cases v with
 |p u=>cases u<;>rfl
 |ptr key ver off =>
  show toCells (gget M key) _=_
  unfold gread
  dsimp only
  cases gget M key with
  |none=>rfl
  |some b=>cases b<;>rfl
 |_=>rfl
noncomputable def one (M:Mem) (l:List IVal):XR:=List.rec (motive:=fun _=>XR) none (fun x t _=>List.rec (motive:=fun _=>XR) (some (x,M)) (fun _ _ _=>none) t) l
noncomputable def zbha (n:Option Nat) (v:IVal):XF:=fun _ M=>Option.rec (motive:=fun _=>XR) (xread M 1 v (one M)) (fun n=>xread M n v fun cs=>some (.agg cs,M)) n
noncomputable def xwrite (M:Mem) (a:IVal) (new:List IVal) (k:Mem→XR):XR :=
 PV.rec (motive:=fun _=>XR) (fun _=>none) (fun key ver off=>toCells (gget M key) fun cs e v o=>Bool.rec none (Bool.rec none (lall (gsplice cs off new) fun cs'=>k (gput M key (.cells cs' e v o))) (Nat.ble (Nat.add off (llen new)) (llen cs))) (Nat.beq ver v)) none (toPV a)
theorem zaqz (M:Mem) (a:IVal) (new:List IVal) (k:Mem→XR):xwrite M a new k=match writeCells M a new with|some M'=>k M'|none=>none:=by
 cases a with
 |p u=>cases u<;>rfl
 |ptr key ver off =>
  show toCells (gget M key) _=_
  rw[zcv]
  unfold writeCells
  dsimp only
  cases M.get key with
  |none=>rfl
  |some b =>
   cases b with
   |map=>rfl
   |cells cs e v o =>
    show(Bool.rec none (Bool.rec none (lall (gsplice cs off new) fun cs'=>k (gput M key (.cells cs' e v o))) (Nat.ble (Nat.add off (llen new)) (llen cs))) (Nat.beq ver v):XR)=_
    simp only[zan,zfp,zap,zns]
    cases Nat.beq ver v with
    |false=>rfl
    |true =>
     simp only[Bool.true_and]
     show(Bool.rec none (k _) (Nat.ble (off+new.length) cs.length):XR)=_
     cases Nat.ble (off+new.length) cs.length<;>rfl
 |_=>rfl
noncomputable def zbbb (n:Nat) (a x:IVal):XF:=fun _ M=>Option.rec (motive:=fun _=>XR) none (fun cs=>Bool.rec none (xwrite M a cs fun M'=>some (.tup [],M')) (Nat.beq (llen cs) n)) (toC x)
noncomputable def okNilP (p:PVal):Bool:=PVal.rec (motive_1:=fun _=>Bool) (motive_2:=fun _=>PUnit) (fun _=>false) (fun _ _=>false) (fun _=>false) (fun _ _ _ _=>false) (fun _ _=>true) (fun _=>true) false false false false false ⟨⟩ (fun _ _ _ _=>⟨⟩) p
noncomputable def okNil (v:IVal):Bool:=IVal.rec (motive_1:=fun _=>Bool) (motive_2:=fun _=>PUnit) okNilP (fun _ _ _=>true) (fun _ _ _ _=>false) (fun _=>false) (fun _ _ _=>true) (fun _ _=>false) (fun _ _=>false) false (fun _=>false) (fun _ _ _ _=>false) ⟨⟩ (fun _ _ _ _=>⟨⟩) v
noncomputable def x_nil (v:IVal):XF:=fun _ M=>Bool.rec none (some (v,M)) (okNil v)
noncomputable def znx (off:Nat) (v:IVal):XF:=fun _ M=>PV.rec (motive:=fun _=>XR) (fun cs=>zws off cs fun cs=>some (.p (.ptr cs),M)) (fun k a o=>nforce (Nat.add o off) fun o=>some (.ptr k a o,M)) none (toPV v)
noncomputable def xidx (n:Nat) (v:IVal) (k:Nat→XR):XR:=Option.rec (motive:=fun _=>XR) none (fun p=>Prod.rec (fun _ i=>Int.rec (motive:=fun _=>XR) (fun a=>Bool.rec none (k a) (Nat.ble (Nat.succ a) n)) (fun _=>none) i) p) (toI_h v)
theorem zwt (n:Nat) (v:IVal) (k:Nat→XR):xidx n v k=match asIndex n v with|some j=>k j|none=>none:=by
 rw[← zwh]
 unfold xidx
 cases h:toI_h v with
 |none =>
  have:gidx n v=none:=by
   cases v with
   |p u=>cases u<;>first|rfl|cases h
   |_=>rfl
  rw[this]
 |some p =>
  rw[zul h]
  obtain⟨t,i⟩:=p
  cases i with
  |ofNat a =>
   show(Bool.rec none (k a) (Nat.ble (Nat.succ a) n):XR)=match(Bool.rec none (some a) (Nat.ble (Nat.succ a) n):Option Nat)with|some j=>k j|none=>none
   cases Nat.ble (Nat.succ a) n<;>rfl
  |negSucc a=>rfl
noncomputable def xbnd (n:Nat) (v:IVal) (k:Nat→XR):XR:=Option.rec (motive:=fun _=>XR) none (fun p=>Prod.rec (fun _ i=>Int.rec (motive:=fun _=>XR) (fun a=>Bool.rec none (k a) (Nat.ble a n)) (fun _=>none) i) p) (toI_h v)
theorem zara (n:Nat) (v:IVal) (k:Nat→XR):xbnd n v k=match asBound n v with|some j=>k j|none=>none:=by
 rw[← zha]
 unfold xbnd
 cases h:toI_h v with
 |none =>
  have:gbnd n v=none:=by
   cases v with
   |p u=>cases u<;>first|rfl|cases h
   |_=>rfl
  rw[this]
 |some p =>
  rw[zul h]
  obtain⟨t,i⟩:=p
  cases i with
  |ofNat a =>
   show(Bool.rec none (k a) (Nat.ble a n):XR)=match(Bool.rec none (some a) (Nat.ble a n):Option Nat)with|some j=>k j|none=>none
   cases Nat.ble a n<;>rfl
  |negSucc a=>rfl
noncomputable def zrg (e:Nat) (x i:IVal):XF:=fun _ M =>
 SW.rec (motive:=fun _=>XR) (fun es n cs=>Bool.rec none (xidx n i fun j=>some (.p (.ptr (ldrop (j*e) cs)),M)) (Nat.beq es e)) (fun k v o n=>xidx n i fun j=>nforce (o+j*e) fun o=>some (.ptr (.heap k) v o,M)) none none (toSW x)
noncomputable def zacy (len e:Nat) (x i:IVal):XF:=fun _ M =>
 xidx len i fun j=>PV.rec (motive:=fun _=>XR) (fun cs=>zws (j*e) cs fun cs=>some (.p (.ptr cs),M)) (fun k a o=>nforce (o+j*e) fun o=>some (.ptr k a o,M)) none (toPV x)
noncomputable def toAgg (v:IVal):Option (List IVal):=IVal.rec (motive_1:=fun _=>Option (List IVal)) (motive_2:=fun _=>PUnit) (fun _=>none) (fun _ _ _=>none) (fun _ _ _ _=>none) (fun _=>none) (fun _ _ _=>none) (fun cs _=>some cs) (fun _ _=>none) none (fun _=>none) (fun _ _ _ _=>none) ⟨⟩ (fun _ _ _ _=>⟨⟩) v
noncomputable def toTup (v:IVal):Option (List IVal):=IVal.rec (motive_1:=fun _=>Option (List IVal)) (motive_2:=fun _=>PUnit) (fun _=>none) (fun _ _ _=>none) (fun _ _ _ _=>none) (fun _=>none) (fun _ _ _=>none) (fun _ _=>none) (fun cs _=>some cs) none (fun _=>none) (fun _ _ _ _=>none) ⟨⟩ (fun _ _ _ _=>⟨⟩) v
noncomputable def xat (M:Mem) (cs:List IVal) (o:Nat) (n:Option Nat):XR:=Option.rec (motive:=fun _=>XR) (Option.rec (motive:=fun _=>XR) none (fun v=>some (v,M)) (lget cs o)) (fun n=>grow cs o n fun l=>some (.agg l,M)) n
noncomputable def zajr (n:Option Nat) (o:Nat) (x:IVal):XF:=fun _ M=>Option.rec (motive:=fun _=>XR) none (fun cs=>xat M cs o n) (toAgg x)
noncomputable def zacz (len e:Nat) (n:Option Nat) (x i:IVal):XF:=fun _ M=>Option.rec (motive:=fun _=>XR) none (fun cs=>xidx len i fun j=>nforce (j*e) fun o=>xat M cs o n) (toAgg x)
noncomputable def zagq (x:IVal) (i:Nat):XF:=fun _ M=>Option.rec (motive:=fun _=>XR) none (fun cs=>Option.rec (motive:=fun _=>XR) none (fun v=>some (v,M)) (lget cs i)) (toTup x)
noncomputable def zuo (x i:IVal):XF:=fun _ M=>Option.rec (motive:=fun _=>XR) none (fun s=>xidx (llen s) i fun j=>Option.rec (motive:=fun _=>XR) none (fun b=>xnum M .u8 b.toNat) (lget s j)) (toS x)
noncomputable def xhi (n:Nat) (o:Option IVal) (k:Nat→XR):XR:=Option.rec (motive:=fun _=>XR) (k n) (fun v=>xbnd n v k) o
noncomputable def xlo (n:Nat) (o:Option IVal) (k:Nat→XR):XR:=Option.rec (motive:=fun _=>XR) (k 0) (fun v=>xbnd n v k) o
theorem zamd (n:Nat) (o:Option Opd) (k:Nat→XR):xhi n (cvo o) k=match boundHi noRho n o with|some j=>k j|none=>none:=by
 cases o with
 |none=>rfl
 |some x=>show xbnd n (cv x) k=_;rw[zara,cv_eq];rfl
theorem zame (n:Nat) (o:Option Opd) (k:Nat→XR):xlo n (cvo o) k=match boundLo noRho n o with|some j=>k j|none=>none:=by
 cases o with
 |none=>rfl
 |some x=>show xbnd n (cv x) k=_;rw[zara,cv_eq];rfl
noncomputable def zma (x:IVal) (lo hi:Option IVal):XF:=fun _ M=>Option.rec (motive:=fun _=>XR) none (fun s=>xhi (llen s) hi fun h=>xlo h lo fun l=>lall (ltake (h-l) (ldrop l s)) fun s'=>some (.p (.str s'),M)) (toS x)
noncomputable def zej (e:Nat) (x:IVal) (lo hi:Option IVal):XF:=fun _ M =>
 SW.rec (motive:=fun _=>XR) (fun es n cs=>Bool.rec none (xhi n hi fun h=>xlo h lo fun l=>lall (ltake ((h-l)*e) (ldrop (l*e) cs)) fun cs'=>nforce (h-l) fun m=>some (.p (.slice e m cs'),M)) (Nat.beq es e))
  (fun k v o n=>xhi n hi fun h=>xlo h lo fun l=>toCells (gget M (.heap k)) fun _ es w _=>Bool.rec none (Bool.rec none (nforce (o+l*e) fun o'=>nforce (h-l) fun m=>some (.slice k v o' m,M)) (Nat.beq v w)) (Nat.beq es e))
  (xhi 0 hi fun h=>xlo h lo fun _=>some (.p .nilslice,M)) none (toSW x)
noncomputable def x_not (x:IVal):XF:=fun _ M=>Option.rec (motive:=fun _=>XR) none (fun b=>xbool M (gnot b)) (toB x)
noncomputable def zfx (d:IntKind) (x:IVal):XF:=fun _ M=>Option.rec (motive:=fun _=>XR) none (fun p=>Prod.rec (fun _ n=>Int.rec (motive:=fun _=>XR) (fun a=>xfit M d a) (fun a=>xneg M d a) n) p) (toI_h x)
noncomputable def x_len (x:IVal):XF:=fun _ M=>SW.rec (motive:=fun _=>XR) (fun _ n _=>xnum M .i64 n) (fun _ _ _ n=>xnum M .i64 n) (some (.p (.int .i64 (.ofNat 0)),M)) none (toSW x)
noncomputable def zdk (x:IVal):XF:=fun _ M=>Option.rec (motive:=fun _=>XR) none (fun s=>xnum M .i64 (llen s)) (toS x)
noncomputable def zaxg (c a b:IVal):XF:=fun _ M=>Option.rec (motive:=fun _=>XR) none (fun t=>Bool.rec (some (b,M)) (some (a,M)) t) (toB c)
noncomputable def lay (r:XR):XR:=Option.rec (motive:=fun _=>XR) none (fun p=>Prod.rec (fun v M=>vforce v fun v=>some (v,M)) p) r
theorem zcn (r:XR):lay r=r:=by
 cases r with
 |none=>rfl
 |some p=>obtain⟨v,M⟩:=p;exact zpi v fun v=>some (v,M)
inductive FW where
 |one (f:FuncId)
 |with(f:FuncId) (cap:List IVal)
 |no
noncomputable def pFn (p:PVal):FW:=PVal.rec (motive_1:=fun _=>FW) (motive_2:=fun _=>PUnit) (fun _=>.no) (fun _ _=>.no) (fun _=>.no) (fun _ _ _ _=>.no) (fun _ _=>.no) (fun f=>.one f) .no .no .no .no .no ⟨⟩ (fun _ _ _ _=>⟨⟩) p
noncomputable def toFW (v:IVal):FW:=IVal.rec (motive_1:=fun _=>FW) (motive_2:=fun _=>PUnit) pFn (fun _ _ _=>.no) (fun _ _ _ _=>.no) (fun _=>.no) (fun f l _=>.with f l) (fun _ _=>.no) (fun _ _=>.no) .no (fun _=>.no) (fun _ _ _ _=>.no) ⟨⟩ (fun _ _ _ _=>⟨⟩) v
noncomputable def xret (B:List (Nat×IBlk)) (r:Option (IVal×List IBlk)):XR:=Option.rec (motive:=fun _=>XR) none (fun p=>Prod.rec (fun v H=>some (v,⟨B,H⟩)) p) r
noncomputable def zbhb (f:IVal) (l:List IVal):XF:=fun C M=>Bool.rec none (Mem.rec (motive:=fun _=>XR) (fun B H=>FW.rec (motive:=fun _=>XR) (fun g=>xret B (C g l H)) (fun g cap=>lall (lapp l cap) fun l=>xret B (C g l H)) none (toFW f)) M) (passesB l)
noncomputable def x_eqv (n:Bool) (c:KTy) (x y:Opd):XF:=fun _ M=>lay (geqvOp n c x y (fun _ _ _=>none) noRho M)
noncomputable def zhc (n:Bool) (x y:Opd):XF:=fun _ M=>lay (zaqf n x y (fun _ _ _=>none) noRho M)
noncomputable def zarb (n:Bool) (x y:Opd):XF:=fun _ M=>lay (zaws n x y (fun _ _ _=>none) noRho M)
noncomputable def x_neg (x:Opd):XF:=fun _ M=>lay (f_neg x (fun _ _ _=>none) noRho M)
noncomputable def zcu (f:FuncId) (cap:List Opd):XF:=fun _ M=>lay (gmkFunc f cap (fun _ _ _=>none) noRho M)
noncomputable def zaut (e:Nat) (x y:Opd):XF:=fun _ M=>lay (gappend e x y (fun _ _ _=>none) noRho M)
noncomputable def zabe (l:List Opd):XF:=fun _ M=>lay (zawu l (fun _ _ _=>none) noRho M)
noncomputable def zamf (l:List Opd):XF:=fun _ M=>lay (zawv l (fun _ _ _=>none) noRho M)
noncomputable def zauu (ok:Bool) (z:IVal) (c:KTy) (x k:Opd):XF:=fun _ M=>lay (glookup ok z c x k (fun _ _ _=>none) noRho M)
noncomputable def zauv (c:KTy) (x k v:Opd):XF:=fun _ M=>lay (gmapUpd c x k v (fun _ _ _=>none) noRho M)
noncomputable def zarc (e:Nat) (z:List PVal) (n c:Opd):XF:=fun _ M=>lay (gmkSlice e z n c (fun _ _ _=>none) noRho M)
noncomputable def zauw (z:IVal) (c:KTy) (x k:Opd):XF:=fun _ M=>lay (gmapEnt z c x k (fun _ _ _=>none) noRho M)
noncomputable def zbbc (x s v:Opd):XF:=fun _ M=>lay (gentSt x s v (fun _ _ _=>none) noRho M)
noncomputable def zano (l e:Nat) (x:Opd) (a b:Option Opd):XF:=fun _ M=>lay (gsliceArr l e x a b (fun _ _ _=>none) noRho M)
noncomputable def zbhc (e:Nat) (x y:Opd):XF:=fun _ M=>lay (gcopy e x y (fun _ _ _=>none) noRho M)
noncomputable def zbhd (e:Nat) (x h m:Opd):XF:=fun _ M=>lay (gclip e x h m (fun _ _ _=>none) noRho M)
noncomputable def zbbd (z:List PVal) (x:Opd):XF:=fun _ M=>lay (gclear z x (fun _ _ _=>none) noRho M)
noncomputable def x_del (c:KTy) (x k:Opd):XF:=fun _ M=>lay (gdel c x k (fun _ _ _=>none) noRho M)
noncomputable def zbbe (x:Opd):XF:=fun _ M=>lay (zaqg x (fun _ _ _=>none) noRho M)
noncomputable def zpl (n:Opd):XF:=fun _ M=>lay (zals n (fun _ _ _=>none) noRho M)
noncomputable def zbbf (x:Opd):XF:=fun _ M=>lay (zaqh x (fun _ _ _=>none) noRho M)
noncomputable def x_mov (v:IVal):XF:=fun _ M=>some (v,M)
noncomputable def zbbg:XF:=fun _ M=>heapNew M (.map [] 0) fun n=>.map n
noncomputable def zaux (z:List PVal) (e:Nat):XF:=fun _ M=>lall (gpc z) fun cs=>xnew M none (.cells cs e 0 false)
noncomputable def xop (o:IOp):XF :=
 IOp.rec (motive:=fun _=>XF) (fun x=>x_mov (cv x)) (fun c a b=>zaxg (cv c) (cv a) (cv b)) zbaz (fun s n x=>x_box s n (cv x)) (fun z p=>zbba z (cvp p)) (fun e n z p=>zagp e n z (cvp p)) (fun n a=>zbha n (cv a)) (fun n a x=>zbbb n (cv a) (cv x))
  (fun x=>x_nil (cv x)) (fun o x=>znx o (cv x)) (fun e x i=>zrg e (cv x) (cv i)) (fun l e x i=>zacy l e (cv x) (cv i)) (fun n o x=>zajr n o (cv x)) (fun l e n x i=>zacz l e n (cv x) (cv i)) (fun x i=>zuo (cv x) (cv i)) (fun x a b=>zma (cv x) (cvo a) (cvo b)) (fun e x a b=>zej e (cv x) (cvo a) (cvo b))
  (fun o x y=>xbin o (cv x) (cv y)) x_eqv zhc zarb (fun x=>x_not (cv x)) x_neg (fun d x=>zfx d (cv x)) (fun x i=>zagq (cv x) i)
  zcu (fun x=>x_len (cv x)) (fun x=>zdk (cv x)) zaut zabe zamf zbbg
  zauu zauv zarc (fun f l=>zbhb (cv f) (cvs l)) zaux
  zauw zbbc zano zbhc zbhd zbbd x_del zbbe zpl zbbf o
theorem zaxh (o:IOp) (C:Oracle) (M:Mem):xop o C M=evalOp C noRho M o:=by
 have hg:∀o:IOp,evalOpG o (fun _ _ _=>none) noRho M=evalOp (fun _ _ _=>none) noRho M o:=fun o=>zanj o _ _ _
 cases o with
 |mov x=>show some (cv x,M)=_;rw[cv_eq];rfl
 |pick c a b =>
  show(Option.rec (motive:=fun _=>XR) none (fun t=>Bool.rec (some (cv b,M)) (some (cv a,M)) t) (toB (cv c)):XR)=match noRho c with | .p (.bool true)=>some (noRho a,M) | .p (.bool false)=>some (noRho b,M)|_=>none
  rw[cv_eq,cv_eq,cv_eq]
  generalize noRho c=v
  cases v with
  |p u=>cases u with
   |bool t=>cases t<;>rfl
   |_=>rfl
  |_=>rfl
 |alloc s z=>show lall (gpc z) (fun cs=>xnew M s (.cells cs (llen z) 0 false))=newBlk M s _;rw[zan,zajq,zgp,zap]
 |box s n x =>
  show(Option.rec (motive:=fun _=>XR) none (fun cs=>Bool.rec none (xnew M s (.cells cs n 0 false)) (Nat.beq (llen cs) n)) (toC (cv x)):XR)=_
  rw[cv_eq,zabd,evalOp]
  cases(noRho x).cellsOf with
  |none=>rfl
  |some cs =>
   dsimp only
   rw[zap,zajq]
   cases Nat.beq cs.length n<;>rfl
 |build z p=>show xfill (cvp p) (gpc z) (fun cs=>some (IVal.agg cs,M))=_;rw[zacx,zgp];rfl
 |buildSlice e n z p =>
  show xfill (cvp p) (grepl n z) (fun cs=>heapNew M (.cells cs e 0 false) fun h=>.slice h 0 0 n)=_
  rw[zacx,zgr,evalOp]
  cases fillParts noRho (repl n z) p with
  |none=>rfl
  |some cs=>show some (IVal.slice (llen M.heap) 0 0 n,gpush M _)=_;rw[zap,zgq]
 |load n a =>
  have h:=hg (.load n a)
  cases n with
  |none =>
   show xread M 1 (cv a) (one M)=_
   rw[zamc,cv_eq]
   have h:gread M 1 (noRho a) (fun l=>match l with|[x]=>some (x,M)|_=>none)=_:=h
   have e:one M=(fun l=>match l with|[x]=>some (x,M)|_=>none):=by
    funext l
    cases l with
    |nil=>rfl
    |cons x t=>cases t<;>rfl
   rw[e,h]
   rfl
  |some n =>
   show xread M n (cv a) (fun cs=>some (.agg cs,M))=_
   rw[zamc,cv_eq]
   exact h
 |store n a x =>
  show(Option.rec (motive:=fun _=>XR) none (fun cs=>Bool.rec none (xwrite M (cv a) cs fun M'=>some (.tup [],M')) (Nat.beq (llen cs) n)) (toC (cv x)):XR)=_
  rw[cv_eq,cv_eq,zabd,evalOp]
  cases(noRho x).cellsOf with
  |none=>rfl
  |some cs =>
   dsimp only
   rw[zap,zaqz]
   cases Nat.beq cs.length n<;>rfl
 |nilCheck x =>
  show(Bool.rec none (some (cv x,M)) (okNil (cv x)):XR)=zrb x C noRho M
  unfold zrb
  rw[cv_eq]
  generalize noRho x=v
  cases v with
  |p u=>cases u<;>rfl
  |_=>rfl
 |fieldAddr o x =>
  show(PV.rec (motive:=fun _=>XR) (fun cs=>zws o cs fun cs=>some (.p (.ptr cs),M)) (fun k a o'=>some (.ptr k a (o'+o),M)) none (toPV (cv x)):XR)=zwk o x C noRho M
  unfold zwk
  rw[cv_eq]
  generalize noRho x=v
  cases v with
  |p u=>cases u with
   |ptr cs=>exact zacw cs o _
   |_=>rfl
  |_=>rfl
 |idxSlice e x i =>
  show(SW.rec (motive:=fun _=>XR) (fun es n cs=>Bool.rec none (xidx n (cv i) fun j=>some (.p (.ptr (ldrop (j*e) cs)),M)) (Nat.beq es e)) (fun k v o n=>xidx n (cv i) fun j=>some (.ptr (.heap k) v (o+j*e),M)) none none (toSW (cv x)):XR)=zaaw e x i C noRho M
  unfold zaaw
  rw[cv_eq,cv_eq]
  generalize noRho x=v
  cases v with
  |p u=>cases u with
   |slice es n cs =>
    show(Bool.rec none (xidx n (noRho i) fun j=>some (.p (.ptr (ldrop (j*e) cs)),M)) (Nat.beq es e):XR)=_
    rw[zwt]
    dsimp only
    simp only[zbd]
    cases Nat.beq es e<;>cases asIndex n (noRho i)<;>rfl
   |_=>rfl
  |slice k v o n=>exact zwt n (noRho i) _
  |_=>rfl
 |idxArr l e x i =>
  show xidx l (cv i) (fun j=>PV.rec (motive:=fun _=>XR) (fun cs=>zws (j*e) cs fun cs=>some (.p (.ptr cs),M)) (fun k a o=>some (.ptr k a (o+j*e),M)) none (toPV (cv x)))=zalo l e x i C noRho M
  unfold zalo
  rw[cv_eq,cv_eq,zwt]
  cases asIndex l (noRho i)with
  |none=>rfl
  |some j =>
   dsimp only
   generalize noRho x=v
   cases v with
   |p u=>cases u with
    |ptr cs=>exact zacw cs (j*e) _
    |_=>rfl
   |_=>rfl
 |field n o x =>
  show(Option.rec (motive:=fun _=>XR) none (fun cs=>xat M cs o n) (toAgg (cv x)):XR)=zacp n o x C noRho M
  unfold zacp
  rw[cv_eq]
  generalize noRho x=v
  cases v with
  |agg cs =>
   cases n with
   |none=>show(Option.rec (motive:=fun _=>XR) none (fun v=>some (v,M)) (lget cs o):XR)=_;rw[zeq];dsimp only;cases cs[o]? <;> rfl
   |some n=>exact zhb cs o n (fun l=>some (IVal.agg l,M))
  |p u=>rfl
  |_=>rfl
 |idxVal l e n x i =>
  show(Option.rec (motive:=fun _=>XR) none (fun cs=>xidx l (cv i) fun j=>xat M cs (j*e) n) (toAgg (cv x)):XR)=zalp l e n x i C noRho M
  unfold zalp
  rw[cv_eq,cv_eq]
  generalize noRho x=v
  cases v with
  |agg cs =>
   show xidx l (noRho i) (fun j=>xat M cs (j*e) n)=_
   rw[zwt]
   cases asIndex l (noRho i)with
   |none=>rfl
   |some j =>
    cases n with
    |none=>show(Option.rec (motive:=fun _=>XR) none (fun v=>some (v,M)) (lget cs (j*e)):XR)=_;rw[zeq];dsimp only;cases cs[j*e]? <;> rfl
    |some n=>exact zhb cs (j*e) n (fun l=>some (IVal.agg l,M))
  |_=>rfl
 |idxStr x i =>
  show(Option.rec (motive:=fun _=>XR) none (fun s=>xidx (llen s) (cv i) fun j=>Option.rec (motive:=fun _=>XR) none (fun b=>some (.p (.int .u8 (.ofNat b.toNat)),M)) (lget s j)) (toS (cv x)):XR)=zalq x i C noRho M
  unfold zalq
  rw[cv_eq,cv_eq]
  generalize noRho x=v
  cases v with
  |p u=>cases u with
   |str s =>
    show xidx (llen s) (noRho i) _=_
    rw[zwt,zap]
    dsimp only
    cases asIndex s.length (noRho i)with
    |none=>rfl
    |some j=>dsimp only;rw[zeq];cases s[j]? <;> rfl
   |_=>rfl
  |_=>rfl
 |sliceStr x lo hi =>
  show(Option.rec (motive:=fun _=>XR) none (fun s=>xhi (llen s) (cvo hi) fun h=>xlo h (cvo lo) fun l=>lall (ltake (h-l) (ldrop l s)) fun s'=>some (.p (.str s'),M)) (toS (cv x)):XR)=zaax x lo hi C noRho M
  unfold zaax
  rw[cv_eq]
  generalize noRho x=v
  cases v with
  |p u=>cases u with
   |str s =>
    show xhi (llen s) (cvo hi) _=_
    rw[zamd,zap]
    dsimp only
    cases boundHi noRho s.length hi with
    |none=>rfl
    |some h =>
     dsimp only
     rw[zame]
     cases boundLo noRho h lo with
     |none=>rfl
     |some l=>dsimp only;rw[zan,zec,zbd]
   |_=>rfl
  |_=>rfl
 |sliceSl e x lo hi =>
  show zej e (cv x) (cvo lo) (cvo hi) C M=zage e x lo hi C noRho M
  unfold zej zage
  rw[cv_eq]
  generalize noRho x=v
  cases v with
  |p u=>cases u with
   |slice es n cs =>
    show(Bool.rec none (xhi n (cvo hi) fun h=>xlo h (cvo lo) fun l=>lall (ltake ((h-l)*e) (ldrop (l*e) cs)) fun cs'=>some (.p (.slice e (h-l) cs'),M)) (Nat.beq es e):XR)=_
    rw[zamd]
    dsimp only
    cases Nat.beq es e with
    |false=>cases boundHi noRho n hi<;>rfl
    |true =>
     cases boundHi noRho n hi with
     |none=>rfl
     |some h =>
      dsimp only
      rw[zame]
      cases boundLo noRho h lo with
      |none=>rfl
      |some l=>dsimp only;rw[zan,zec,zbd]
   |nilslice =>
    show xhi 0 (cvo hi) _=_
    rw[zamd]
    dsimp only
    cases boundHi noRho 0 hi with
    |none=>rfl
    |some h =>
     dsimp only
     rw[zame]
     cases boundLo noRho h lo<;>rfl
   |_=>rfl
  |slice k v o n =>
   show xhi n (cvo hi) _=_
   rw[zamd]
   dsimp only
   cases boundHi noRho n hi with
   |none=>rfl
   |some h =>
    dsimp only
    rw[zame]
    cases boundLo noRho h lo with
    |none=>rfl
    |some l =>
     dsimp only
     rw[zcv]
     cases M.get (.heap k)with
     |none=>rfl
     |some b =>
      cases b with
      |map=>rfl
      |cells cs es w q =>
       show(Bool.rec none (Bool.rec none (some (.slice k v (o+l*e) (h-l),M)) (Nat.beq v w)) (Nat.beq es e):XR)=_
       dsimp only
       cases Nat.beq es e<;>cases Nat.beq v w<;>rfl
  |_=>rfl
 |bin op x y=>show xbin op (cv x) (cv y) C M=_;rw[zbay,cv_eq,cv_eq];rfl
 |eqv n c x y=>show lay (evalOpG (.eqv n c x y) (fun _ _ _=>none) noRho M)=_;rw[zcn,hg];rfl
 |eqPtr n x y=>show lay (evalOpG (.eqPtr n x y) (fun _ _ _=>none) noRho M)=_;rw[zcn,hg];rfl
 |eqSl n x y=>show lay (evalOpG (.eqSl n x y) (fun _ _ _=>none) noRho M)=_;rw[zcn,hg];rfl
 |not x =>
  show(Option.rec (motive:=fun _=>XR) none (fun b=>xbool M (gnot b)) (toB (cv x)):XR)=f_not x C noRho M
  unfold f_not
  rw[cv_eq]
  generalize noRho x=v
  cases v with
  |p u=>cases u with
   |bool t=>cases t<;>rfl
   |_=>rfl
  |_=>rfl
 |neg x=>show lay (evalOpG (.neg x) (fun _ _ _=>none) noRho M)=_;rw[zcn,hg];rfl
 |conv d x =>
  show(Option.rec (motive:=fun _=>XR) none (fun p=>Prod.rec (fun _ n=>Int.rec (motive:=fun _=>XR) (fun a=>xfit M d a) (fun a=>xneg M d a) n) p) (toI_h (cv x)):XR)=zawt d x C noRho M
  unfold zawt
  rw[cv_eq]
  generalize noRho x=v
  cases v with
  |p u=>cases u with
   |int k n =>
    cases n with
    |ofNat a=>exact znw M d a
    |negSucc a=>exact zaqy M d a
   |_=>rfl
  |_=>rfl
 |extract x i =>
  show(Option.rec (motive:=fun _=>XR) none (fun cs=>Option.rec (motive:=fun _=>XR) none (fun v=>some (v,M)) (lget cs i)) (toTup (cv x)):XR)=zagf x i C noRho M
  unfold zagf
  rw[cv_eq]
  generalize noRho x=v
  cases v with
  |tup cs=>show(Option.rec (motive:=fun _=>XR) none (fun v=>some (v,M)) (lget cs i):XR)=_;rw[zeq];dsimp only;cases cs[i]? <;> rfl
  |_=>rfl
 |mkFunc f cap=>show lay (evalOpG (.mkFunc f cap) (fun _ _ _=>none) noRho M)=_;rw[zcn,hg];rfl
 |len x =>
  show x_len (cv x) C M=f_len x C noRho M
  unfold x_len f_len
  rw[cv_eq]
  generalize noRho x=v
  cases v with
  |p u=>cases u<;>rfl
  |_=>rfl
 |lenStr x =>
  show(Option.rec (motive:=fun _=>XR) none (fun s=>some (.p (.int .i64 (.ofNat (llen s))),M)) (toS (cv x)):XR)=zalr x C noRho M
  unfold zalr
  rw[cv_eq]
  generalize noRho x=v
  cases v with
  |p u=>cases u with
   |str s=>show some (IVal.p (.int .i64 (.ofNat (llen s))),M)=_;rw[zap];rfl
   |_=>rfl
  |_=>rfl
 |append e x y=>show lay (evalOpG (.append e x y) (fun _ _ _=>none) noRho M)=_;rw[zcn,hg];rfl
 |maxi l=>show lay (evalOpG (.maxi l) (fun _ _ _=>none) noRho M)=_;rw[zcn,hg];rfl
 |mini l=>show lay (evalOpG (.mini l) (fun _ _ _=>none) noRho M)=_;rw[zcn,hg];rfl
 |mkMap=>show some (IVal.map (llen M.heap),gpush M (.map [] 0))=_;rw[zap,zgq];rfl
 |lookup ok z c x k=>show lay (evalOpG (.lookup ok z c x k) (fun _ _ _=>none) noRho M)=_;rw[zcn,hg];rfl
 |mapUpd c x k v=>show lay (evalOpG (.mapUpd c x k v) (fun _ _ _=>none) noRho M)=_;rw[zcn,hg];rfl
 |mkSlice e z n c=>show lay (evalOpG (.mkSlice e z n c) (fun _ _ _=>none) noRho M)=_;rw[zcn,hg];rfl
 |call f l =>
  show(Bool.rec none (FW.rec (motive:=fun _=>XR) (fun g=>xret M.boxes (C g (cvs l) M.heap)) (fun g cap=>lall (lapp (cvs l) cap) fun l=>xret M.boxes (C g l M.heap)) none (toFW (cv f))) (passesB (cvs l)):XR)=zaww f l C noRho M
  unfold zaww
  rw[cv_eq,zaqx,zlz]
  simp only[zan,zdi]
  cases passesOK (l.map noRho)with
  |false=>rfl
  |true =>
   dsimp only
   generalize noRho f=v
   cases v with
   |p u=>cases u with
    |func g=>show xret M.boxes (C g (l.map noRho) M.heap)=_;unfold xret;dsimp only;cases C g (l.map noRho) M.heap<;>rfl
    |_=>rfl
   |func g cap=>show xret M.boxes (C g (l.map noRho++cap) M.heap)=_;unfold xret;dsimp only;cases C g (l.map noRho++cap) M.heap<;>rfl
   |_=>rfl
 |allocA z e=>show lall (gpc z) (fun cs=>xnew M none (.cells cs e 0 false))=newBlk M none _;rw[zan,zajq,zgp]
 |mapEnt z c x k=>show lay (evalOpG (.mapEnt z c x k) (fun _ _ _=>none) noRho M)=_;rw[zcn,hg];rfl
 |entSt x s v=>show lay (evalOpG (.entSt x s v) (fun _ _ _=>none) noRho M)=_;rw[zcn,hg];rfl
 |sliceArr l e x a b=>show lay (evalOpG (.sliceArr l e x a b) (fun _ _ _=>none) noRho M)=_;rw[zcn,hg];rfl
 |copy e x y=>show lay (evalOpG (.copy e x y) (fun _ _ _=>none) noRho M)=_;rw[zcn,hg];rfl
 |clip e x h m=>show lay (evalOpG (.clip e x h m) (fun _ _ _=>none) noRho M)=_;rw[zcn,hg];rfl
 |clear z x=>show lay (evalOpG (.clear z x) (fun _ _ _=>none) noRho M)=_;rw[zcn,hg];rfl
 |del c x k=>show lay (evalOpG (.del c x k) (fun _ _ _=>none) noRho M)=_;rw[zcn,hg];rfl
 |first x=>show lay (evalOpG (.first x) (fun _ _ _=>none) noRho M)=_;rw[zcn,hg];rfl
 |second n=>show lay (evalOpG (.second n) (fun _ _ _=>none) noRho M)=_;rw[zcn,hg];rfl
 |still x=>show lay (evalOpG (.still x) (fun _ _ _=>none) noRho M)=_;rw[zcn,hg];rfl
end Go.Ideal

/-
  IDEAL SEMANTICS, 70: THE MEMORY AS A TREE, for the kernel.
-/
namespace Go.Ideal
open Go
set_option linter.unusedSectionVars false
section
variable {α:Type}
noncomputable def d8 (l:List α):List α :=
 List.rec (motive:=fun _=>List α) [] (fun _ t _=>List.rec (motive:=fun _=>List α) [] (fun _ t _=>List.rec (motive:=fun _=>List α) [] (fun _ t _=>List.rec (motive:=fun _=>List α) [] (fun _ t _=>List.rec (motive:=fun _=>List α) [] (fun _ t _=>List.rec (motive:=fun _=>List α) [] (fun _ t _=>List.rec (motive:=fun _=>List α) [] (fun _ t _=>List.rec (motive:=fun _=>List α) [] (fun _ t _=>t) t) t) t) t) t) t) t) l
theorem d8_eq:∀l:List α,d8 l=l.drop 8
 | []|[_]|[_,_]|[_,_,_]|[_,_,_,_]|[_,_,_,_,_]|[_,_,_,_,_,_]|[_,_,_,_,_,_,_]=>rfl
 |_::_::_::_::_::_::_::_::_=>rfl
noncomputable def qdrop (n:Nat) (l:List α):List α:=ldrop (Nat.mod n 8) (Nat.rec (motive:=fun _=>List α→List α) (fun l=>l) (fun _ ih l=>ih (d8 l)) (Nat.div n 8) l)
theorem zauy (n:Nat) (l:List α):qdrop n l=l.drop n:=by
 have key:∀(q:Nat) (l:List α),(Nat.rec (motive:=fun _=>List α→List α) (fun l=>l) (fun _ ih l=>ih (d8 l)) q l:List α)=l.drop (8*q):=by
  intro q
  induction q with
  |zero=>intro l;show l=l.drop (8*0);simp
  |succ q ih =>
   intro l
   show(Nat.rec (motive:=fun _=>List α→List α) (fun l=>l) (fun _ ih l=>ih (d8 l)) q (d8 l):List α)=_
   rw[ih,d8_eq,List.drop_drop]
   congr 1;omega
 unfold qdrop
 rw[key,zbd,List.drop_drop]
 congr 1
 show 8*(n / 8)+n % 8=n
 omega
noncomputable def qhead (l:List α):Option α:=List.rec (motive:=fun _=>Option α) none (fun x _ _=>some x) l
theorem zauz (n:Nat) (l:List α):qhead (qdrop n l)=l[n]? := by
 rw[zauy]
 have:∀m:List α,qhead m=m[0]? := fun m=>by cases m<;>rfl
 rw[this,List.getElem?_drop,Nat.add_zero]
end
inductive HP where
 |z|a (p:HP)|b (p:HP)|c (p:HP)|d (p:HP)
 deriving DecidableEq
inductive HT where
 |e
 |n (v:Option IBlk) (a b c d:HT)
noncomputable def hsel (r:Nat) (p:HP):HP:=Nat.rec (motive:=fun _=>HP) (.a p) (fun r _=>Nat.rec (motive:=fun _=>HP) (.b p) (fun r _=>Nat.rec (motive:=fun _=>HP) (.c p) (fun _ _=>.d p) r) r) r
noncomputable def hpt (f:Nat):Nat→HP :=
 Nat.rec (motive:=fun _=>Nat→HP) (fun _=>.z) (fun _ ih i=>Nat.rec (motive:=fun _=>HP) .z (fun j _=>hsel (Nat.mod j 4) (ih (Nat.div j 4))) i) f
def HP.val:HP→Nat
 | .z=>0 | .a p=>4*p.val+1 | .b p=>4*p.val+2 | .c p=>4*p.val+3 | .d p=>4*p.val+4
theorem zava (p:HP):∀r,r<4→(hsel r p).val=4*p.val+r+1
 |0,_=>rfl|1,_=>rfl|2,_=>rfl|3,_=>rfl
 |n+4,h=>by omega
theorem zajs:∀(f i:Nat),i<4 ^ f→(hpt f i).val=i
 |0,i,h=>by have:i=0:=by simpa using h
            subst this;rfl
 |f+1,0,_=>rfl
 |f+1,j+1,h=>by
  have hj:j / 4<4 ^ f:=by rw[Nat.pow_succ]at h;omega
  show(hsel (j % 4) (hpt f (j / 4))).val=_
  rw[zava _ _ (Nat.mod_lt _ (by omega)),zajs f _ hj]
  omega
noncomputable def hp (i:Nat):HP:=hpt 16 i
theorem zaxi {i j:Nat} (hi:i<4294967296) (hj:j<4294967296) (h:hp i=hp j):i=j:=by
 rw[← zajs 16 i hi,←zajs 16 j hj]
 exact congrArg HP.val h
section
variable {R:Type}
noncomputable def hopen (t:HT) (f:Option IBlk→HT→HT→HT→HT→R):R :=
 HT.rec (motive:=fun _=>(Option IBlk→HT→HT→HT→HT→R)→R) (fun f=>f none .e .e .e .e) (fun v a b c d _ _ _ _ f=>f v a b c d) t f
noncomputable def hget (p:HP):HT→Option IBlk :=
 HP.rec (motive:=fun _=>HT→Option IBlk) (fun t=>hopen t fun v _ _ _ _=>v) (fun _ ih t=>hopen t fun _ a _ _ _=>ih a) (fun _ ih t=>hopen t fun _ _ b _ _=>ih b) (fun _ ih t=>hopen t fun _ _ _ c _=>ih c) (fun _ ih t=>hopen t fun _ _ _ _ d=>ih d) p
noncomputable def hputK (x:IBlk) (p:HP):HT→(HT→R)→R :=
 HP.rec (motive:=fun _=>HT→(HT→R)→R) (fun t k=>hopen t fun _ a b c d=>k (.n (some x) a b c d)) (fun _ ih t k=>hopen t fun v a b c d=>ih a fun a=>k (.n v a b c d)) (fun _ ih t k=>hopen t fun v a b c d=>ih b fun b=>k (.n v a b c d)) (fun _ ih t k=>hopen t fun v a b c d=>ih c fun c=>k (.n v a b c d)) (fun _ ih t k=>hopen t fun v a b c d=>ih d fun d=>k (.n v a b c d)) p
theorem zed (x:IBlk):∀(p:HP) (t:HT),∃t',(∀ (R:Type) (k:HT→R),hputK x p t k=k t')∧∀q,hget q t'=if p=q then some x else hget q t
 | .z,t=>by
   cases t with
   |e=>exact⟨.n (some x) .e .e .e .e,fun _ _=>rfl,fun q=>by cases q<;>simp[hget,hopen]⟩
   |n v a b c d=>exact⟨.n (some x) a b c d,fun _ _=>rfl,fun q=>by cases q<;>simp[hget,hopen]⟩
 | .a p,t=>by
   cases t with
   |e =>
    obtain⟨u,h1,h2⟩:=zed x p .e
    refine⟨.n none u .e .e .e,fun R k=>h1 R fun a=>k (.n none a .e .e .e),fun q=>?_⟩
    cases q with
    |a q=>simpa[hget,hopen]using h2 q
    |_=>simp[hget,hopen]
   |n v a b c d =>
    obtain⟨u,h1,h2⟩:=zed x p a
    refine⟨.n v u b c d,fun R k=>h1 R fun a=>k (.n v a b c d),fun q=>?_⟩
    cases q with
    |a q=>simpa[hget,hopen]using h2 q
    |_=>simp[hget,hopen]
 | .b p,t=>by
   cases t with
   |e =>
    obtain⟨u,h1,h2⟩:=zed x p .e
    refine⟨.n none .e u .e .e,fun R k=>h1 R fun a=>k (.n none .e a .e .e),fun q=>?_⟩
    cases q with
    |b q=>simpa[hget,hopen]using h2 q
    |_=>simp[hget,hopen]
   |n v a b c d =>
    obtain⟨u,h1,h2⟩:=zed x p b
    refine⟨.n v a u c d,fun R k=>h1 R fun b=>k (.n v a b c d),fun q=>?_⟩
    cases q with
    |b q=>simpa[hget,hopen]using h2 q
    |_=>simp[hget,hopen]
 | .c p,t=>by
   cases t with
   |e =>
    obtain⟨u,h1,h2⟩:=zed x p .e
    refine⟨.n none .e .e u .e,fun R k=>h1 R fun a=>k (.n none .e .e a .e),fun q=>?_⟩
    cases q with
    |c q=>simpa[hget,hopen]using h2 q
    |_=>simp[hget,hopen]
   |n v a b c d =>
    obtain⟨u,h1,h2⟩:=zed x p c
    refine⟨.n v a b u d,fun R k=>h1 R fun c=>k (.n v a b c d),fun q=>?_⟩
    cases q with
    |c q=>simpa[hget,hopen]using h2 q
    |_=>simp[hget,hopen]
 | .d p,t=>by
   cases t with
   |e =>
    obtain⟨u,h1,h2⟩:=zed x p .e
    refine⟨.n none .e .e .e u,fun R k=>h1 R fun a=>k (.n none .e .e .e a),fun q=>?_⟩
    cases q with
    |d q=>simpa[hget,hopen]using h2 q
    |_=>simp[hget,hopen]
   |n v a b c d =>
    obtain⟨u,h1,h2⟩:=zed x p d
    refine⟨.n v a b c u,fun R k=>h1 R fun d=>k (.n v a b c d),fun q=>?_⟩
    cases q with
    |d q=>simpa[hget,hopen]using h2 q
    |_=>simp[hget,hopen]
end
structure ME where
 f:FuncId
 a:List IVal
 r:IVal
inductive MT where
 |e
 |n (v:List ME) (a b c d:MT)
class Kept where
 ok:ME→Prop
variable [Kept]
def MT.OK:MT→Prop
 | .e=>True
 | .n v a b c d=>(∀ x∈v,Kept.ok x)∧a.OK∧b.OK∧c.OK∧d.OK
section
variable {R:Type}
noncomputable def mopen (t:MT) (f:List ME→MT→MT→MT→MT→R):R :=
 MT.rec (motive:=fun _=>(List ME→MT→MT→MT→MT→R)→R) (fun f=>f [] .e .e .e .e) (fun v a b c d _ _ _ _ f=>f v a b c d) t f
noncomputable def mtget (p:HP):MT→List ME :=
 HP.rec (motive:=fun _=>MT→List ME) (fun t=>mopen t fun v _ _ _ _=>v) (fun _ ih t=>mopen t fun _ a _ _ _=>ih a) (fun _ ih t=>mopen t fun _ _ b _ _=>ih b) (fun _ ih t=>mopen t fun _ _ _ c _=>ih c) (fun _ ih t=>mopen t fun _ _ _ _ d=>ih d) p
noncomputable def mputK (x:ME) (p:HP):MT→(MT→R)→R :=
 HP.rec (motive:=fun _=>MT→(MT→R)→R) (fun t k=>mopen t fun v a b c d=>k (.n (x::v) a b c d)) (fun _ ih t k=>mopen t fun v a b c d=>ih a fun a=>k (.n v a b c d)) (fun _ ih t k=>mopen t fun v a b c d=>ih b fun b=>k (.n v a b c d)) (fun _ ih t k=>mopen t fun v a b c d=>ih c fun c=>k (.n v a b c d)) (fun _ ih t k=>mopen t fun v a b c d=>ih d fun d=>k (.n v a b c d)) p
end
theorem MT.OK.get:∀(p:HP) {t:MT},t.OK→∀x∈mtget p t,Kept.ok x
 | .z, .e,_,x,h=>by cases h
 | .z, .n v a b c d,q,x,h=>q.1 x h
 | .a p, .e,_,x,h=>MT.OK.get p (t := .e) trivial x h
 | .a p, .n v a b c d,q,x,h=>MT.OK.get p q.2.1 x h
 | .b p, .e,_,x,h=>MT.OK.get p (t := .e) trivial x h
 | .b p, .n v a b c d,q,x,h=>MT.OK.get p q.2.2.1 x h
 | .c p, .e,_,x,h=>MT.OK.get p (t := .e) trivial x h
 | .c p, .n v a b c d,q,x,h=>MT.OK.get p q.2.2.2.1 x h
 | .d p, .e,_,x,h=>MT.OK.get p (t := .e) trivial x h
 | .d p, .n v a b c d,q,x,h=>MT.OK.get p q.2.2.2.2 x h
theorem MT.OK.put {x:ME} (hx:Kept.ok x):∀(p:HP) {t:MT},t.OK→∃t':MT,t'.OK∧∀(R:Type) (k:MT→R),mputK x p t k=k t'
 | .z, .e,_=>⟨.n [x] .e .e .e .e,⟨fun y hy=>by cases List.mem_singleton.1 hy;exact hx,trivial,trivial,trivial,trivial⟩,fun _ _=>rfl⟩
 | .z, .n v a b c d,q=>⟨.n (x::v) a b c d,⟨fun y hy=>by rcases List.mem_cons.1 hy with rfl|hy;exact hx;exact q.1 y hy,q.2⟩,fun _ _=>rfl⟩
 | .a p, .e,_=>by
   obtain⟨u,h1,h2⟩:=MT.OK.put hx p (t := .e) trivial
   exact⟨.n [] u .e .e .e,⟨fun y hy=>(by cases hy),h1,trivial,trivial,trivial⟩,fun R k=>h2 R fun a=>k (.n [] a .e .e .e)⟩
 | .a p, .n v a b c d,q=>by
   obtain⟨u,h1,h2⟩:=MT.OK.put hx p q.2.1
   exact⟨.n v u b c d,⟨q.1,h1,q.2.2⟩,fun R k=>h2 R fun a=>k (.n v a b c d)⟩
 | .b p, .e,_=>by
   obtain⟨u,h1,h2⟩:=MT.OK.put hx p (t := .e) trivial
   exact⟨.n [] .e u .e .e,⟨fun y hy=>(by cases hy),trivial,h1,trivial,trivial⟩,fun R k=>h2 R fun a=>k (.n [] .e a .e .e)⟩
 | .b p, .n v a b c d,q=>by
   obtain⟨u,h1,h2⟩:=MT.OK.put hx p q.2.2.1
   exact⟨.n v a u c d,⟨q.1,q.2.1,h1,q.2.2.2⟩,fun R k=>h2 R fun b=>k (.n v a b c d)⟩
 | .c p, .e,_=>by
   obtain⟨u,h1,h2⟩:=MT.OK.put hx p (t := .e) trivial
   exact⟨.n [] .e .e u .e,⟨fun y hy=>(by cases hy),trivial,trivial,h1,trivial⟩,fun R k=>h2 R fun a=>k (.n [] .e .e a .e)⟩
 | .c p, .n v a b c d,q=>by
   obtain⟨u,h1,h2⟩:=MT.OK.put hx p q.2.2.2.1
   exact⟨.n v a b u d,⟨q.1,q.2.1,q.2.2.1,h1,q.2.2.2.2⟩,fun R k=>h2 R fun c=>k (.n v a b c d)⟩
 | .d p, .e,_=>by
   obtain⟨u,h1,h2⟩:=MT.OK.put hx p (t := .e) trivial
   exact⟨.n [] .e .e .e u,⟨fun y hy=>(by cases hy),trivial,trivial,trivial,h1⟩,fun R k=>h2 R fun a=>k (.n [] .e .e .e a)⟩
 | .d p, .n v a b c d,q=>by
   obtain⟨u,h1,h2⟩:=MT.OK.put hx p q.2.2.2.2
   exact⟨.n v a b c u,⟨q.1,q.2.1,q.2.2.1,q.2.2.2.1,h1⟩,fun R k=>h2 R fun d=>k (.n v a b c d)⟩
structure FH where
 t:HT
 n:Nat
 c:MT
structure FM where
 bx:List (Nat×IBlk)
 h:FH
structure RH (h:FH) (H:List IBlk):Prop where
 n:h.n=H.length
 le:H.length≤4294967296
 at':∀i,i<4294967296→hget (hp i) h.t=H[i]?
 c:h.c.OK
structure RM (m:FM) (M:Mem):Prop where
 bx:m.bx=M.boxes
 h:RH m.h M.heap
section
variable {R:Type}
noncomputable def fhopen (h:FH) (f:HT→Nat→MT→R):R:=FH.rec (motive:=fun _=>(HT→Nat→MT→R)→R) (fun t n c f=>f t n c) h f
noncomputable def fopen (m:FM) (f:List (Nat×IBlk)→HT→Nat→MT→R):R:=FM.rec (motive:=fun _=>(List (Nat×IBlk)→HT→Nat→MT→R)→R) (fun b h f=>fhopen h (f b)) m f
noncomputable def fheap (m:FM) (i:Nat):Option IBlk:=fopen m fun _ t n _=>Bool.rec none (hget (hp i) t) (Nat.ble (Nat.succ i) n)
noncomputable def ftget (m:FM) (k:Key):Option IBlk:=Key.rec (motive:=fun _=>FM→Option IBlk) (fun s m=>gfindBox m.bx s) (fun i m=>fheap m i) k m
theorem zada {m:FM} {M:Mem} (h:RM m M) (i:Nat):fheap m i=M.heap[i]? := by
 obtain⟨b,t,n,c⟩:=m
 have hn:n=M.heap.length:=h.h.n
 show(Bool.rec none (hget (hp i) t) (Nat.ble (Nat.succ i) n):Option IBlk)=_
 cases hb:Nat.ble (Nat.succ i) n with
 |true =>
  have:=Nat.le_of_ble_eq_true hb
  have:=h.h.le
  exact h.h.at' i (by omega)
 |false =>
  have:¬i<M.heap.length:=fun e=>by rw[hn,Nat.ble_eq_true_of_le (show i.succ≤_ from e)]at hb;cases hb
  rw[List.getElem?_eq_none (by omega)]
theorem zadb {m:FM} {M:Mem} (h:RM m M) (k:Key):ftget m k=M.get k:=by
 cases k with
 |box s=>show gfindBox m.bx s=_;rw[zcb,h.bx];rfl
 |heap i=>exact zada h i
noncomputable def hgetC (p:HP):HT→(IBlk→R)→R→R :=
 HP.rec (motive:=fun _=>HT→(IBlk→R)→R→R) (fun t f e=>hopen t fun v _ _ _ _=>Option.rec (motive:=fun _=>R) e f v) (fun _ ih t f e=>hopen t fun _ a _ _ _=>ih a f e) (fun _ ih t f e=>hopen t fun _ _ b _ _=>ih b f e) (fun _ ih t f e=>hopen t fun _ _ _ c _=>ih c f e) (fun _ ih t f e=>hopen t fun _ _ _ _ d=>ih d f e) p
theorem zpm (f:IBlk→R) (e:R):∀(p:HP) (t:HT),hgetC p t f e=Option.rec (motive:=fun _=>R) e f (hget p t)
 | .z,t=>by cases t<;>rfl
 | .a p,t=>by cases t<;>exact zpm f e p _
 | .b p,t=>by cases t<;>exact zpm f e p _
 | .c p,t=>by cases t<;>exact zpm f e p _
 | .d p,t=>by cases t<;>exact zpm f e p _
noncomputable def bgetC (s:Nat) (l:List (Nat×IBlk)) (f:IBlk→R) (e:R):R :=
 List.rec (motive:=fun _=>R) e (fun p _ ih=>Prod.rec (motive:=fun _=>R) (fun t b=>Bool.rec ih (f b) (Nat.beq t s)) p) l
theorem zamg (s:Nat) (f:IBlk→R) (e:R):∀l:List (Nat×IBlk),bgetC s l f e=Option.rec (motive:=fun _=>R) e f (findBox l s)
 | []=>rfl
 |(t,b)::r=>by
  show(Bool.rec (bgetC s r f e) (f b) (Nat.beq t s):R)=_
  rw[findBox]
  cases Nat.beq t s with
  |true=>rfl
  |false=>exact zamg s f e r
noncomputable def ftgetC (m:FM) (k:Key) (f:IBlk→R) (e:R):R :=
 fopen m fun b t n _=>Key.rec (motive:=fun _=>R) (fun s=>bgetC s b f e) (fun i=>Bool.rec e (hgetC (hp i) t f e) (Nat.ble (Nat.succ i) n)) k
theorem zagr (m:FM) (k:Key) (f:IBlk→R) (e:R):ftgetC m k f e=Option.rec (motive:=fun _=>R) e f (ftget m k):=by
 obtain⟨b,t,n,c⟩:=m
 cases k with
 |box s=>show bgetC s b f e=Option.rec e f (gfindBox b s);rw[zamg,zcb]
 |heap i =>
  show(Bool.rec e (hgetC (hp i) t f e) (Nat.ble (Nat.succ i) n):R)=Option.rec e f (Bool.rec none (hget (hp i) t) (Nat.ble (Nat.succ i) n):Option IBlk)
  cases Nat.ble (Nat.succ i) n with
  |true=>exact zpm f e (hp i) t
  |false=>rfl
noncomputable def fcells (m:FM) (k:Key) (f:List IVal→Nat→Nat→Bool→Option R):Option R:=ftgetC m k (fun b=>IBlk.rec (motive:=fun _=>Option R) f (fun _ _=>none) b) none
noncomputable def fmap (m:FM) (i:Nat) (f:List (IVal×IVal×Nat)→Nat→Option R):Option R:=ftgetC m (.heap i) (fun b=>IBlk.rec (motive:=fun _=>Option R) (fun _ _ _ _=>none) f b) none
theorem zbt {m:FM} {M:Mem} (h:RM m M) {k:Key} {f:List IVal→Nat→Nat→Bool→Option R} {r:R} (e:fcells m k f=some r):∃cs n v o,M.get k=some (.cells cs n v o)∧f cs n v o=some r:=by
 unfold fcells at e
 rw[zagr,zadb h]at e
 cases hg:M.get k with
 |none=>rw[hg]at e;cases e
 |some b =>
  rw[hg]at e
  cases b with
  |cells cs n v o=>exact⟨cs,n,v,o,rfl,e⟩
  |map=>cases e
theorem zfy {m:FM} {M:Mem} (h:RM m M) {i:Nat} {f:List (IVal×IVal×Nat)→Nat→Option R} {r:R} (e:fmap m i f=some r):∃es ck,M.get (.heap i)=some (.map es ck)∧f es ck=some r:=by
 unfold fmap at e
 rw[zagr,zadb h]at e
 change (Option.rec (motive:=fun _=>Option R) none (fun b=>IBlk.rec (motive:=fun _=>Option R) (fun _ _ _ _=>none) f b) M.heap[i]?)=some r at e
 show ∃es ck,M.heap[i]? = some (.map es ck)∧_
 cases hg:M.heap[i]? with
 |none=>rw[hg]at e;cases e
 |some b =>
  rw[hg]at e
  cases b with
  |cells=>cases e
  |map es ck=>exact⟨es,ck,rfl,e⟩
noncomputable def bsetK (t:Nat) (x:IBlk) (l:List (Nat×IBlk)):(List (Nat×IBlk)→R)→R :=
 List.rec (motive:=fun _=>(List (Nat×IBlk)→R)→R) (fun k=>k []) (fun p r ih k=>Prod.rec (motive:=fun _=>R) (fun s b=>Bool.rec (ih fun r=>k ((s,b)::r)) (k ((s,x)::r)) (Nat.beq s t)) p) l
theorem zamh (t:Nat) (x:IBlk):∀(l:List (Nat×IBlk)) (k:List (Nat×IBlk)→R),bsetK t x l k=k (setBox l t x)
 | [],k=>rfl
 |(s,b)::r,k=>by
  show(Bool.rec (bsetK t x r fun r=>k ((s,b)::r)) (k ((s,x)::r)) (Nat.beq s t):R)=_
  rw[setBox]
  cases Nat.beq s t with
  |true=>rfl
  |false=>exact zamh t x r _
noncomputable def fputK (m:FM) (k:Key) (x:IBlk) (f:FM→R):R :=
 fopen m fun b t n c=>Key.rec (motive:=fun _=>R) (fun s=>bsetK s x b fun b=>f ⟨b,⟨t,n,c⟩⟩) (fun i=>hputK x (hp i) t fun t=>f ⟨b,⟨t,n,c⟩⟩) k
theorem zbe {m:FM} {M:Mem} (h:RM m M) {k:Key} {x b0:IBlk} (hk:M.get k=some b0) (f:FM→R):∃m',fputK m k x f=f m'∧RM m' (M.put k x):=by
 obtain⟨b,t,n,c⟩:=m
 obtain⟨hb,hn,hle,ha,hc⟩:=h
 cases k with
 |box s =>
  refine⟨⟨setBox b s x,⟨t,n,c⟩⟩,zamh s x b _,?_,hn,hle,ha,hc⟩
  show setBox b s x=setBox M.boxes s x
  rw[← hb]
 |heap i =>
  obtain⟨t',h1,h2⟩:=zed x (hp i) t
  have hi:i<M.heap.length:=(List.getElem?_eq_some_iff.1 (show M.heap[i]? = some b0 from hk)).1
  refine⟨⟨b,⟨t',n,c⟩⟩,h1 R _,hb,?_,?_,fun j hj=>?_,hc⟩
  ·show n=(M.heap.set i x).length
   rw[List.length_set];exact hn
  ·show(M.heap.set i x).length≤_
   rw[List.length_set];exact hle
  ·show hget (hp j) t'=(M.heap.set i x)[j]?
   rw[h2]
   by_cases e:i=j
   ·subst e
    rw[if_pos rfl,List.getElem?_set_self hi]
   ·rw[if_neg (fun e'=>e (zaxi (by omega) hj e')),List.getElem?_set_ne e]
    exact ha j hj
noncomputable def fpushK (m:FM) (x:IBlk) (f:Nat→FM→Option R):Option R :=
 fopen m fun b t n c=>Bool.rec none (hputK x (hp n) t fun t=>nforce (Nat.succ n) fun n'=>f n ⟨b,⟨t,n',c⟩⟩) (Nat.ble (Nat.succ n) 4294967296)
theorem zcw {m:FM} {M:Mem} (h:RM m M) {x:IBlk} {f:Nat→FM→Option R} {r:R} (e:fpushK m x f=some r):∃m',f M.heap.length m'=some r∧RM m' { M with heap:=M.heap++[x] }:=by
 obtain⟨b,t,n,c⟩:=m
 obtain⟨hb,hn,hle,ha,hc⟩:=h
 have hn:n=M.heap.length:=hn
 obtain⟨t',h1,h2⟩:=zed x (hp n) t
 have e:(Bool.rec none (hputK x (hp n) t fun t=>nforce (Nat.succ n) fun n'=>f n ⟨b,⟨t,n',c⟩⟩) (Nat.ble (Nat.succ n) 4294967296):Option R)=some r:=e
 cases hd:Nat.ble (Nat.succ n) 4294967296 with
 |false=>rw[hd]at e;cases e
 |true =>
  rw[hd]at e
  have hd:=Nat.le_of_ble_eq_true hd
  have e:hputK x (hp n) t (fun t=>nforce (Nat.succ n) fun n'=>f n ⟨b,⟨t,n',c⟩⟩)=some r:=e
  rw[h1,zbb]at e
  rw[hn]at e h2
  refine⟨_,e,hb,?_,?_,fun j hj=>?_,hc⟩
  ·show M.heap.length.succ=(M.heap++[x]).length
   simp
  ·show(M.heap++[x]).length≤_
   simp;omega
  ·show hget (hp j) t'=(M.heap++[x])[j]?
   rw[h2]
   by_cases e:M.heap.length=j
   ·subst e
    rw[if_pos rfl,List.getElem?_append_right (Nat.le_refl _),Nat.sub_self];rfl
   ·rw[if_neg (fun e'=>e (zaxi (by omega) hj e')),ha j hj]
    by_cases h3:j<M.heap.length
    ·rw[List.getElem?_append_left h3]
    ·rw[List.getElem?_eq_none (by omega),List.getElem?_eq_none (by simp;omega)]
noncomputable def fboxK (m:FM) (s:Nat) (x:IBlk) (f:FM→Option R):Option R :=
 fopen m fun b t n c=>Option.rec (motive:=fun _=>Option R) (f ⟨(s,x)::b,⟨t,n,c⟩⟩) (fun _=>none) (gfindBox b s)
theorem zanp {m:FM} {M:Mem} (h:RM m M) {s:Nat} {x:IBlk} {f:FM→Option R} {r:R} (e:fboxK m s x f=some r):findBox M.boxes s=none∧∃m',f m'=some r∧RM m' { M with boxes:=(s,x)::M.boxes }:=by
 obtain⟨b,t,n,c⟩:=m
 have hb:b=M.boxes:=h.bx
 have e:(Option.rec (motive:=fun _=>Option R) (f ⟨(s,x)::b,⟨t,n,c⟩⟩) (fun _=>none) (gfindBox b s):Option R)=some r:=e
 rw[zcb,hb]at e
 cases hf:findBox M.boxes s with
 |some _=>rw[hf]at e;cases e
 |none =>
  rw[hf]at e
  exact⟨rfl,_,e,rfl,h.h⟩
noncomputable def fnewK (m:FM) (s:Option Nat) (x:IBlk) (k:IVal→FM→Option R):Option R :=
 Option.rec (motive:=fun _=>Option R) (fpushK m x fun i m=>k (.ptr (.heap i) 0 0) m) (fun s=>fboxK m s x fun m=>k (.ptr (.box s) 0 0) m) s
theorem zrh {m:FM} {M:Mem} (h:RM m M) {s:Option Nat} {x:IBlk} {k:IVal→FM→Option R} {r:R} (e:fnewK m s x k=some r):∃v M' m',newBlk M s x=some (v,M')∧k v m'=some r∧RM m' M':=by
 cases s with
 |none =>
  obtain⟨m',h1,h2⟩:=zcw h (show fpushK m x _=some r from e)
  exact⟨_,_,m',rfl,h1,h2⟩
 |some s =>
  obtain⟨h0,m',h1,h2⟩:=zanp h (show fboxK m s x _=some r from e)
  exact⟨_,_,m',by simp only[newBlk,h0],h1,h2⟩
end
end Go.Ideal

/-
  IDEAL SEMANTICS, 71: THE OPERATIONS OVER THE MEMORY AS A TREE, each with what comes behind it.
-/
namespace Go.Ideal
open Go
set_option linter.unusedSectionVars false
variable [Kept]
abbrev YR:=Option (IExit×List IVal×FM)
abbrev FOr:=FuncId→List IVal→FH→(IVal→FH→YR)→YR
abbrev SK:=IVal→FM→YR
abbrev SF:=FOr→FM→SK→YR
def noC:Oracle:=fun _ _ _=>none
def FLe (F:FOr) (C:Oracle):Prop:=∀f a h H k r,RH h H→F f a h k=some r→∃v h' H',C f a H=some (v,H')∧RH h' H'∧k v h'=some r
def SOK (F:FOr) (C:Oracle) (g:SF) (o:IOp):Prop:=∀ {m M k r},RM m M→g F m k=some r→∃v M' m',evalOp C noRho M o=some (v,M')∧k v m'=some r∧RM m' M'
noncomputable def yv (x:XF):SF:=fun _ m k=>Option.rec (motive:=fun _=>YR) none (fun p=>Prod.rec (motive:=fun _=>YR) (fun v _=>k v m) p) (x noC ⟨[],[]⟩)
theorem yv_ok {F:FOr} {C:Oracle} {x:XF} {o:IOp} (hx:∀C M,x C M=evalOp C noRho M o) (ho:∀M,evalOp C noRho M o=(evalOp noC noRho ⟨[],[]⟩ o).map fun p=>(p.1,M)):SOK F C (yv x) o:=fun {m M k r} hm e=>by
 unfold yv at e
 rw[hx]at e
 rw[ho M]
 cases h:evalOp noC noRho ⟨[],[]⟩ o with
 |none=>rw[h]at e;cases e
 |some p=>obtain⟨v,_⟩:=p;rw[h]at e;exact⟨v,M,m,rfl,e,hm⟩
section
variable {R:Type}
noncomputable def ovK (new:List IVal):List IVal→(List IVal→Option R)→Option R :=
 List.rec (motive:=fun _=>List IVal→(List IVal→Option R)→Option R) (fun cs k=>k cs) (fun y _ ih cs k=>List.rec (motive:=fun _=>Option R) none (fun _ t _=>ih t fun r=>k (y::r)) cs) new
theorem zadc {r:R}:∀ {new cs:List IVal} {k:List IVal→Option R},ovK new cs k=some r→new.length≤cs.length∧k (new++cs.drop new.length)=some r
 | [],cs,k,e=>⟨Nat.zero_le _,by simpa using(show k cs=some r from e)⟩
 |y::ys,[],k,e=>by cases e
 |y::ys,x::t,k,e=>by
  obtain⟨h1,h2⟩:=zadc (show ovK ys t (fun q=>k (y::q))=some r from e)
  exact⟨by simp;omega,by simpa using h2⟩
noncomputable def splK (cs:List IVal) (off:Nat) (new:List IVal) (k:List IVal→Option R):Option R :=
 List.rec (motive:=fun _=>Nat→(List IVal→Option R)→Option R) (fun n k=>Nat.rec (motive:=fun _=>Option R) (ovK new [] k) (fun _ _=>none) n)
  (fun x t ih n k=>Nat.rec (motive:=fun _=>Option R) (ovK new (x::t) k) (fun n' _=>ih n' fun r=>k (x::r)) n) cs off k
theorem zpn {r:R} {new:List IVal}:∀ {cs:List IVal} {off:Nat} {k:List IVal→Option R},splK cs off new k=some r→off+new.length≤cs.length∧k (splice cs off new)=some r
 | [],0,k,e=>by
   obtain⟨h1,h2⟩:=zadc (show ovK new [] k=some r from e)
   exact⟨by simpa using h1,by simpa[splice]using h2⟩
 | [],n+1,k,e=>by cases e
 |x::t,0,k,e=>by
  obtain⟨h1,h2⟩:=zadc (show ovK new (x::t) k=some r from e)
  exact⟨by simpa using h1,by simpa[splice]using h2⟩
 |x::t,n+1,k,e=>by
  obtain⟨h1,h2⟩:=zpn (show splK t n new (fun q=>k (x::q))=some r from e)
  refine⟨by simp;omega,?_⟩
  rw[← h2]
  unfold splice
  rw[show n+1+new.length=(n+new.length)+1 by omega,List.drop_succ_cons,List.take_succ_cons,List.cons_append]
noncomputable def tkK (n:Nat) (cs ys:List IVal) (k:List IVal→Option R):Option R :=
 List.rec (motive:=fun _=>Nat→(List IVal→Option R)→Option R) (fun n k=>Nat.rec (motive:=fun _=>Option R) (k ys) (fun _ _=>none) n)
  (fun x _ ih n k=>Nat.rec (motive:=fun _=>Option R) (k ys) (fun n' _=>ih n' fun r=>k (x::r)) n) cs n k
theorem zadd {r:R} {ys:List IVal}:∀ {cs:List IVal} {n:Nat} {k:List IVal→Option R},tkK n cs ys k=some r→k (cs.take n++ys)=some r
 | [],0,k,e=>e
 | [],n+1,k,e=>by cases e
 |x::t,0,k,e=>e
 |x::t,n+1,k,e=>by
  have h:=zadd (cs:=t) (n:=n) (k:=fun q=>k (x::q)) e
  exact h
end
noncomputable def bfill {R:Type} (parts:List (Nat×Nat×IVal)) (cells:List IVal) (k:List IVal→Option R):Option R :=
 List.rec (motive:=fun _=>List IVal→Option R) k (fun e _ ih c=>Prod.rec (fun off q=>Prod.rec (fun n v=>Option.rec (motive:=fun _=>Option R) none (fun new=>Bool.rec none (splK c off new ih) (Nat.beq (llen new) n)) (toC v)) q) e) parts cells
theorem zri {R:Type} {r:R} {k:List IVal→Option R}:∀ {parts:List (Nat×Nat×Opd)} {c:List IVal},bfill (cvp parts) c k=some r→∃cs,fillParts noRho c parts=some cs∧k cs=some r
 | [],c,e=>⟨c,rfl,e⟩
 |(off,n,x)::rest,c,e=>by
  have e:(Option.rec (motive:=fun _=>Option R) none (fun new=>Bool.rec none (splK c off new fun c=>bfill (cvp rest) c k) (Nat.beq (llen new) n)) (toC (cv x)):Option R)=some r:=e
  rw[zabd,cv_eq]at e
  rw[fillParts]
  cases hc:(noRho x).cellsOf with
  |none=>rw[hc]at e;cases e
  |some new =>
   rw[hc]at e
   dsimp only at e ⊢
   rw[zap]at e
   cases hb:Nat.beq new.length n with
   |false=>rw[hb]at e;cases e
   |true =>
    rw[hb]at e
    obtain⟨h1,h2⟩:=zpn e
    have h3:Nat.ble (off+n) c.length=true:=by rw[← Nat.eq_of_beq_eq_true hb];exact Nat.ble_eq_true_of_le h1
    obtain⟨cs,g1,g2⟩:=zri h2
    exact⟨cs,by rw[h3];exact g1,g2⟩
section
variable {R:Type}
noncomputable def yread (m:FM) (n:Nat) (v:IVal) (k:List IVal→Option R):Option R :=
 PV.rec (motive:=fun _=>Option R) (fun cs=>prd n cs k) (fun key ver off=>fcells m key fun cs _ w _=>Bool.rec none (grow cs off n k) (Nat.beq ver w)) none (toPV v)
theorem zrj {m:FM} {M:Mem} (h:RM m M) {n:Nat} {v:IVal} {k:List IVal→Option R} {r:R} (e:yread m n v k=some r):∃cs,readCells M n v=some cs∧k cs=some r:=by
 cases v with
 |p u =>
  cases u with
  |ptr cs =>
   have e:prd n cs k=some r:=e
   rw[zaqd]at e
   by_cases hl:n≤cs.length
   ·rw[if_pos hl]at e
    exact⟨_,by simp only[readCells,Nat.ble_eq_true_of_le hl],e⟩
   ·rw[if_neg hl]at e;cases e
  |_=>cases e
 |ptr key ver off =>
  obtain⟨cs,es,w,o,h1,h2⟩:=zbt h (show fcells m key _=some r from e)
  cases hb:Nat.beq ver w with
  |false=>rw[hb]at h2;cases h2
  |true =>
   rw[hb]at h2
   have h2:grow cs off n k=some r:=h2
   rw[zhb]at h2
   cases hl:Nat.ble (off+n) cs.length with
   |false=>rw[hl]at h2;cases h2
   |true=>rw[hl]at h2;exact⟨_,by simp only[readCells,h1,hb,hl,Bool.and_self],h2⟩
 |_=>cases e
noncomputable def ywrite (m:FM) (a:IVal) (new:List IVal) (k:FM→Option R):Option R :=
 PV.rec (motive:=fun _=>Option R) (fun _=>none) (fun key ver off=>fcells m key fun cs e w o=>Bool.rec none (splK cs off new fun cs'=>fputK m key (.cells cs' e w o) k) (Nat.beq ver w)) none (toPV a)
theorem zny {m:FM} {M:Mem} (h:RM m M) {a:IVal} {new:List IVal} {k:FM→Option R} {r:R} (e:ywrite m a new k=some r):∃M' m',writeCells M a new=some M'∧k m'=some r∧RM m' M':=by
 cases a with
 |p u=>cases u<;>cases e
 |ptr key ver off =>
  obtain⟨cs,es,w,o,h1,h2⟩:=zbt h (show fcells m key _=some r from e)
  cases hb:Nat.beq ver w with
  |false=>rw[hb]at h2;cases h2
  |true =>
   rw[hb]at h2
   obtain⟨hl,h2⟩:=zpn (show splK cs off new (fun cs'=>fputK m key (.cells cs' es w o) k)=some r from h2)
   have hl:Nat.ble (off+new.length) cs.length=true:=Nat.ble_eq_true_of_le hl
   obtain⟨m',g1,g2⟩:=zbe h h1 (x := .cells (splice cs off new) es w o) k
   exact⟨_,m',by simp only[writeCells,h1,hb,hl,Bool.and_self],by rw[← g1];exact h2,g2⟩
 |_=>cases e
end
section
variable {F:FOr} {C:Oracle}
noncomputable def zah (s:Option Nat) (z:List PVal):SF:=fun _ m k=>lall (gpc z) fun cs=>fnewK m s (.cells cs (llen z) 0 false) k
theorem zanq {s:Option Nat} {z:List PVal}:SOK F C (zah s z) (.alloc s z):=fun {m M k r} hm e=>by
 unfold zah at e
 rw[zan,zgp,zap]at e
 exact zrh hm e
noncomputable def zup (z:List PVal) (es:Nat):SF:=fun _ m k=>lall (gpc z) fun cs=>fnewK m none (.cells cs es 0 false) k
theorem zajt {z:List PVal} {es:Nat}:SOK F C (zup z es) (.allocA z es):=fun {m M k r} hm e=>by
 unfold zup at e
 rw[zan,zgp]at e
 exact zrh hm e
noncomputable def y_box (s:Option Nat) (n:Nat) (v:IVal):SF:=fun _ m k=>Option.rec (motive:=fun _=>YR) none (fun cs=>Bool.rec none (fnewK m s (.cells cs n 0 false) k) (Nat.beq (llen cs) n)) (toC v)
theorem zavb {s:Option Nat} {n:Nat} {x:Opd}:SOK F C (y_box s n (cv x)) (.box s n x):=fun {m M k r} hm e=>by
 unfold y_box at e
 rw[cv_eq,zabd]at e
 simp only[evalOp]
 cases hc:(noRho x).cellsOf with
 |none=>rw[hc]at e;cases e
 |some cs =>
  rw[hc]at e
  dsimp only at e ⊢
  rw[zap]at e
  cases hb:Nat.beq cs.length n with
  |false=>rw[hb]at e;cases e
  |true=>rw[hb]at e;exact zrh hm e
noncomputable def zag (es n:Nat) (z:List PVal) (p:List (Nat×Nat×IVal)):SF:=fun _ m k=>bfill p (grepl n z) fun cs=>fpushK m (.cells cs es 0 false) fun i m=>k (.slice i 0 0 n) m
theorem zwu {es n:Nat} {z:List PVal} {p:List (Nat×Nat×Opd)}:SOK F C (zag es n z (cvp p)) (.buildSlice es n z p):=fun {m M k r} hm e=>by
 unfold zag at e
 obtain⟨cs,hf,e⟩:=zri e
 rw[zgr]at hf
 simp only[evalOp,hf]
 obtain⟨m',h1,h2⟩:=zcw hm e
 exact⟨_,_,m',rfl,h1,h2⟩
noncomputable def kg {α:Type} (off:Nat) (cs:List α) (f:α→YR) (e:YR):YR:=Bool.rec (List.rec (motive:=fun _=>Nat→YR) (fun _=>e) (fun x _ ih k=>Nat.rec (motive:=fun _=>YR) (f x) (fun k' _=>ih k') k) cs off) (Option.rec (motive:=fun _=>YR) e f (qhead (qdrop off cs))) (Nat.ble 8 off)
theorem kg_eq {α:Type} (off:Nat) (cs:List α) (f:α→YR) (e:YR):kg off cs f e=Option.rec (motive:=fun _=>YR) e f cs[off]? := by
 have key:∀(l:List α) (i:Nat),(List.rec (motive:=fun _=>Nat→YR) (fun _=>e) (fun x _ ih k=>Nat.rec (motive:=fun _=>YR) (f x) (fun k' _=>ih k') k) l i:YR)=Option.rec (motive:=fun _=>YR) e f l[i]? := by
  intro l
  induction l with
  |nil=>intro i;rfl
  |cons x l ih =>
   intro i
   cases i with
   |zero=>rfl
   |succ i=>exact ih i
 unfold kg
 cases Nat.ble 8 off with
 |false=>exact key cs off
 |true=>rw[zauz]
noncomputable def yload1 (m:FM) (v:IVal) (k:SK):YR :=
 IVal.rec (motive_1:=fun _=>YR) (motive_2:=fun _=>PUnit) (fun u=>PV.rec (motive:=fun _=>YR) (fun cs=>kg 0 cs (fun x=>k (.p x) m) none) (fun _ _ _=>none) none (pPtr u)) (fun key ver off=>fcells m key fun cs _ w _=>Bool.rec none (kg off cs (fun x=>k x m) none) (Nat.beq ver w)) (fun _ _ _ _=>none) (fun _=>none) (fun _ _ _=>none) (fun _ _=>none) (fun _ _=>none) none (fun _=>none) (fun _ _ _ _=>none) ⟨⟩ (fun _ _ _ _=>⟨⟩) v
theorem zaju {m:FM} {M:Mem} (h:RM m M) {v:IVal} {k:SK} {r} (e:yload1 m v k=some r):∃x,loadVal M none v=some x∧k x m=some r:=by
 cases v with
 |p u =>
  cases u with
  |ptr cs =>
   cases cs with
   |nil=>cases e
   |cons x t=>exact⟨.p x,by simp[loadVal,readCells,pcells],e⟩
  |_=>cases e
 |ptr key ver off =>
  obtain⟨cs,es,w,o,h1,h2⟩:=zbt h (show fcells m key _=some r from e)
  cases hb:Nat.beq ver w with
  |false=>rw[hb]at h2;cases h2
  |true =>
   rw[hb]at h2
   have h2:kg off cs (fun x=>k x m) none=some r:=h2
   rw[kg_eq]at h2
   cases hx:cs[off]? with
   |none=>rw[hx]at h2;cases h2
   |some x =>
    rw[hx]at h2
    refine⟨x,?_,h2⟩
    have hl:=(List.getElem?_eq_some_iff.1 hx).1
    have hd:(cs.drop off).take 1=[x]:=by
     refine List.ext_getElem? fun i=>?_
     rw[List.getElem?_take]
     cases i with
     |zero=>rw[if_pos (by omega),List.getElem?_drop,Nat.add_zero,hx];rfl
     |succ i=>rw[if_neg (by omega)];rfl
    have hb2:Nat.ble (off+1) cs.length=true:=Nat.ble_eq_true_of_le hl
    simp only[loadVal,readCells,h1,hb,hb2,Bool.and_self,hd]
 |_=>cases e
noncomputable def zab (n:Option Nat) (v:IVal):SF:=fun _ m k=>Option.rec (motive:=fun _=>YR) (yload1 m v k) (fun n=>yread m n v fun cs=>k (.agg cs) m) n
theorem zard {n:Option Nat} {a:Opd}:SOK F C (zab n (cv a)) (.load n a):=fun {m M k r} hm e=>by
 simp only[evalOp]
 rw[cv_eq]at e
 cases n with
 |none =>
  obtain⟨x,h1,h2⟩:=zaju hm (show yload1 m (noRho a) k=some r from e)
  exact⟨x,M,m,by simp only[h1],h2,hm⟩
 |some n =>
  obtain⟨cs,h1,h2⟩:=zrj hm (show yread m n (noRho a) _=some r from e)
  exact⟨_,M,m,by simp only[loadVal,h1],h2,hm⟩
noncomputable def zae (n:Nat) (a x:IVal):SF:=fun _ m k=>Option.rec (motive:=fun _=>YR) none (fun cs=>Bool.rec none (ywrite m a cs fun m=>k (.tup []) m) (Nat.beq (llen cs) n)) (toC x)
theorem zanr {n:Nat} {a x:Opd}:SOK F C (zae n (cv a) (cv x)) (.store n a x):=fun {m M k r} hm e=>by
 unfold zae at e
 rw[cv_eq,cv_eq,zabd]at e
 simp only[evalOp]
 cases hc:(noRho x).cellsOf with
 |none=>rw[hc]at e;cases e
 |some cs =>
  rw[hc]at e
  dsimp only at e ⊢
  rw[zap]at e
  cases hb:Nat.beq cs.length n with
  |false=>rw[hb]at e;cases e
  |true =>
   rw[hb]at e
   obtain⟨M',m',h1,h2,h3⟩:=zny hm (show ywrite m (noRho a) cs _=some r from e)
   exact⟨_,M',m',by simp only[h1],h2,h3⟩
noncomputable def zbw:SF:=fun _ m k=>fpushK m (.map [] 0) fun i m=>k (.map i) m
theorem zans:SOK F C zbw .mkMap:=fun {m M k r} hm e=>by
 obtain⟨m',h1,h2⟩:=zcw hm (show fpushK m _ _=some r from e)
 exact⟨_,_,m',rfl,h1,h2⟩
noncomputable def zco (es:Nat) (z:List PVal) (n c:IVal):SF:=fun _ m k=>match n,c with
 | .p (.int .i64 a), .p (.int .i64 b)=>if 0≤a∧a≤b∧b≤4294967296 then lall (grepl b.toNat z) fun cs=>nforce a.toNat fun n=>fpushK m (.cells cs es 0 false) fun i m=>k (.slice i 0 0 n) m else none
 |_,_=>none
theorem zags {es:Nat} {z:List PVal} {n c:Opd}:SOK F C (zco es z (cv n) (cv c)) (.mkSlice es z n c):=fun {m M k r} hm e=>by
 unfold zco at e
 rw[cv_eq,cv_eq]at e
 simp only[evalOp]
 split at e
 ·rename_i a b h1 h2
  simp only[h1,h2]
  split at e
  ·rename_i hc
   rw[zan,zbb,zgr]at e
   obtain⟨m',g1,g2⟩:=zcw hm e
   exact⟨_,_,m',by rw[if_pos hc],g1,g2⟩
  ·cases e
 ·cases e
noncomputable def zfz (es:Nat) (x:IVal) (lo hi:Option IVal):SF:=fun F m k=>SW.rec (motive:=fun _=>YR) (fun _ _ _=>yv (zej es x lo hi) F m k) (fun i v o n=>Option.rec (motive:=fun _=>YR) none (fun h=>Option.rec (motive:=fun _=>YR) none (fun l=>fcells m (.heap i) fun _ e w _=>Bool.rec none (nforce (o+l*es) fun a=>nforce (h-l) fun b=>k (.slice i v a b) m) (Nat.beq e es&&Nat.beq v w)) (Option.rec (motive:=fun _=>Option Nat) (some 0) (fun v=>gbnd h v) lo)) (Option.rec (motive:=fun _=>Option Nat) (some n) (fun v=>gbnd n v) hi)) (yv (zej es x lo hi) F m k) none (toSW x)
theorem lo_eq (h:Nat) (o:Option Opd):(Option.rec (motive:=fun _=>Option Nat) (some 0) (fun v=>gbnd h v) (cvo o):Option Nat)=boundLo noRho h o:=by
 cases o with
 |none=>rfl
 |some x=>show gbnd h (cv x)=_;rw[zha,cv_eq];rfl
theorem hi_eq (h:Nat) (o:Option Opd):(Option.rec (motive:=fun _=>Option Nat) (some h) (fun v=>gbnd h v) (cvo o):Option Nat)=boundHi noRho h o:=by
 cases o with
 |none=>rfl
 |some x=>show gbnd h (cv x)=_;rw[zha,cv_eq];rfl
theorem zagt {es:Nat} {x:Opd} {lo hi:Option Opd}:SOK F C (zfz es (cv x) (cvo lo) (cvo hi)) (.sliceSl es x lo hi):=fun {m M k r} hm e=>by
 have hx:∀C M,zej es (cv x) (cvo lo) (cvo hi) C M=evalOp C noRho M (.sliceSl es x lo hi):=fun C M=>zaxh (.sliceSl es x lo hi) C M
 have fz:(∀ M,evalOp C noRho M (.sliceSl es x lo hi)=(evalOp noC noRho ⟨[],[]⟩ (.sliceSl es x lo hi)).map fun p=>(p.1,M))→yv (zej es (cv x) (cvo lo) (cvo hi)) F m k=some r→∃v M' m',evalOp C noRho M (.sliceSl es x lo hi)=some (v,M')∧k v m'=some r∧RM m' M':=fun h g=>yv_ok hx h hm g
 unfold zfz at e
 generalize hg:yv (zej es (cv x) (cvo lo) (cvo hi)) F m k=g at e
 simp only[evalOp]at fz ⊢
 rw[cv_eq]at e
 cases hv:noRho x with
 |p u =>
  rw[hv]at e
  simp only[hv]at fz
  cases u with
  |nilslice=>exact fz (fun M=>by cases hh:boundHi noRho 0 hi<;>simp only[Option.map_none]<;>(rename_i h;cases boundLo noRho h lo<;>rfl)) (hg.trans e)
  |slice e' n cs=>exact fz (fun M=>by cases hb:Nat.beq e' es<;>cases hh:boundHi noRho n hi<;>simp only[hb,hh,Option.map_none]<;>(rename_i h;cases boundLo noRho h lo<;>rfl)) (hg.trans e)
  |_=>cases e
 |slice i v o n =>
  rw[hv]at e
  have e:(Option.rec (motive:=fun _=>YR) none (fun h=>Option.rec (motive:=fun _=>YR) none (fun l=>fcells m (.heap i) fun _ e w _=>Bool.rec none (nforce (o+l*es) fun a=>nforce (h-l) fun b=>k (.slice i v a b) m) (Nat.beq e es&&Nat.beq v w)) (Option.rec (motive:=fun _=>Option Nat) (some 0) (fun v=>gbnd h v) (cvo lo))) (Option.rec (motive:=fun _=>Option Nat) (some n) (fun v=>gbnd n v) (cvo hi)):YR)=some r:=e
  rw[hi_eq]at e
  dsimp only
  cases h1:boundHi noRho n hi with
  |none=>rw[h1]at e;cases e
  |some h =>
   rw[h1]at e
   dsimp only at e ⊢
   rw[lo_eq]at e
   cases h2:boundLo noRho h lo with
   |none=>rw[h2]at e;cases e
   |some l =>
    rw[h2]at e
    obtain⟨cs,e',w,op,g1,g2⟩:=zbt hm (show fcells m (.heap i) _=some r from e)
    simp only[g1]
    cases hb:(Nat.beq e' es&&Nat.beq v w)with
    |false=>rw[hb]at g2;cases g2
    |true=>rw[hb]at g2;exact⟨_,M,m,rfl,g2,hm⟩
 |_=>rw[hv]at e;cases e
noncomputable def zmb (len es:Nat) (x:IVal) (lo hi:Option IVal):SF:=fun _ m k=>match x with
 | .ptr (.heap i) v o=>Option.rec (motive:=fun _=>YR) none (fun h=>Option.rec (motive:=fun _=>YR) none (fun l=>fcells m (.heap i) fun cs e w op=>Bool.rec none (nforce (o+l*es) fun a=>nforce (h-l) fun b=>k (.slice i v a b) m) ((Nat.beq e es&&Nat.beq v w)&&(Nat.beq (o+len*es) (llen cs)&&!op))) (Option.rec (motive:=fun _=>Option Nat) (some 0) (fun v=>gbnd h v) lo)) (Option.rec (motive:=fun _=>Option Nat) (some len) (fun v=>gbnd len v) hi)
 |_=>none
theorem zade {len es:Nat} {x:Opd} {lo hi:Option Opd}:SOK F C (zmb len es (cv x) (cvo lo) (cvo hi)) (.sliceArr len es x lo hi):=fun {m M k r} hm e=>by
 unfold zmb at e
 rw[cv_eq]at e
 simp only[evalOp]
 split at e
 ·rename_i i v o hv
  rw[hi_eq]at e
  simp only[hv]
  cases h1:boundHi noRho len hi with
  |none=>rw[h1]at e;cases e
  |some h =>
   rw[h1]at e
   dsimp only at e ⊢
   rw[lo_eq]at e
   cases h2:boundLo noRho h lo with
   |none=>rw[h2]at e;cases e
   |some l =>
    rw[h2]at e
    obtain⟨cs,e',w,op,g1,g2⟩:=zbt hm (show fcells m (.heap i) _=some r from e)
    simp only[g1]
    rw[zap]at g2
    cases hb:((Nat.beq e' es&&Nat.beq v w)&&(Nat.beq (o+len*es) cs.length&&!op))with
    |false=>rw[hb]at g2;cases g2
    |true=>rw[hb]at g2;exact⟨_,M,m,rfl,g2,hm⟩
 ·cases e
noncomputable def ysrc (m:FM) (es:Nat) (y:IVal) (f:List IVal→Nat→YR):YR:=match y with
 | .p .nilslice=>f [] 0
 | .p (.slice e n cs)=>Bool.rec none (lall (gpc cs) fun l=>f l n) (Nat.beq e es)
 | .p (.str s)=>Bool.rec none (lall (gbytes s) fun l=>nforce (llen s) fun n=>f l n) (Nat.beq 1 es)
 | .slice k ver off n=>fcells m (.heap k) fun cs e v _=>Bool.rec none (grow cs off (n*es) fun l=>f l n) (Nat.beq ver v&&Nat.beq e es)
 |_=>none
theorem zagu {m:FM} {M:Mem} (h:RM m M) {es:Nat} {y:IVal} {f:List IVal→Nat→YR} {r} (e:ysrc m es y f=some r):∃ys n,srcCells M es y=some ys∧srcLen y=some n∧f ys n=some r:=by
 unfold ysrc at e
 split at e
 ·exact⟨_,_,rfl,rfl,e⟩
 ·rename_i e' n cs
  cases hb:Nat.beq e' es with
  |false=>rw[hb]at e;cases e
  |true=>rw[hb]at e;rw[zan,zgp]at e;exact⟨_,_,by simp only[srcCells,hb],rfl,e⟩
 ·rename_i s
  cases hb:Nat.beq 1 es with
  |false=>rw[hb]at e;cases e
  |true=>rw[hb]at e;rw[zan,zwl,zbb,zap]at e;exact⟨_,_,by simp only[srcCells,hb],rfl,e⟩
 ·rename_i k ver off n
  obtain⟨cs,e',w,o,g1,g2⟩:=zbt h e
  cases hb:(Nat.beq ver w&&Nat.beq e' es)with
  |false=>rw[hb]at g2;cases g2
  |true =>
   rw[hb]at g2
   have g2:grow cs off (n*es) (fun l=>f l n)=some r:=g2
   rw[zhb]at g2
   cases hl:Nat.ble (off+n*es) cs.length with
   |false=>rw[hl]at g2;cases g2
   |true=>rw[hl]at g2;exact⟨_,_,by simp only[srcCells,g1,hb,hl,Bool.and_self],rfl,g2⟩
 ·cases e
noncomputable def zam (es:Nat) (x y:IVal):SF:=fun _ m k=>ysrc m es y fun ys ny=>match x with
 | .p .nilslice=>Bool.rec none (Bool.rec (lall ys fun ys=>fpushK m (.cells ys es 0 true) fun i m=>k (.slice i 0 0 ny) m) (k x m) (Nat.beq ny 0)) (Nat.ble (0+ny) maxAppend)
 | .slice i ver off n=>Bool.rec none (fcells m (.heap i) fun cs e v o=>Bool.rec none (Bool.rec (nforce (n+ny) fun nn=>Bool.rec (tkK (n*es) (ldrop off cs) ys fun cs'=>nforce (v+1) fun v'=>fputK m (.heap i) (.cells cs' e v' true) fun m=>k (.slice i v' 0 nn) m) (splK cs (off+n*es) ys fun cs'=>fputK m (.heap i) (.cells cs' e v o) fun m=>k (.slice i ver off nn) m) (Nat.ble (off+(n+ny)*es) (llen cs))) (k x m) (Nat.beq ny 0)) ((Nat.beq ver v&&Nat.beq e es)&&Nat.ble (off+n*es) (llen cs))) (Nat.ble (n+ny) maxAppend)
 | .clip i ver off n=>Bool.rec none (fcells m (.heap i) fun cs e v _=>Bool.rec none (nforce (n+ny) fun nn=>tkK (n*es) (ldrop off cs) ys fun cs'=>fpushK m (.cells cs' es 0 true) fun j m=>k (.slice j 0 0 nn) m) ((Nat.beq ver v&&Nat.beq e es)&&Nat.ble (off+n*es) (llen cs))) (Nat.ble (n+ny) maxAppend&&!(Nat.beq ny 0))
 |_=>none
theorem zajv {es:Nat} {x y:Opd}:SOK F C (zam es (cv x) (cv y)) (.append es x y):=fun {m M k r} hm e=>by
 unfold zam at e
 rw[cv_eq,cv_eq]at e
 obtain⟨ys,ny,g1,g2,e⟩:=zagu hm e
 simp only[evalOp]
 split at e
 ·rename_i hx
  rw[hx]
  simp only[evalAppend,evalAppend0,g1,g2,sliceLen]
  cases hb:Nat.ble (0+ny) maxAppend with
  |false=>rw[hb]at e;cases e
  |true =>
   rw[hb]at e
   cases h0:Nat.beq ny 0 with
   |true=>rw[h0,hx]at e;exact⟨_,M,m,rfl,e,hm⟩
   |false =>
    rw[h0]at e
    rw[zan]at e
    obtain⟨m',k1,k2⟩:=zcw hm e
    exact⟨_,_,m',rfl,k1,k2⟩
 ·rename_i i ver off n hx
  rw[hx]
  simp only[evalAppend,evalAppend0,g1,g2,sliceLen]
  cases hb:Nat.ble (n+ny) maxAppend with
  |false=>rw[hb]at e;cases e
  |true =>
   rw[hb]at e
   obtain⟨cs,e',v,o,k1,e⟩:=zbt hm (show fcells m (.heap i) _=some r from e)
   simp only[k1]
   rw[zap]at e
   cases hc:((Nat.beq ver v&&Nat.beq e' es)&&Nat.ble (off+n*es) cs.length)with
   |false=>rw[hc]at e;cases e
   |true =>
    rw[hc]at e
    cases h0:Nat.beq ny 0 with
    |true=>rw[h0,hx]at e;exact⟨_,M,m,rfl,e,hm⟩
    |false =>
     rw[h0]at e
     dsimp only at e ⊢
     rw[zbb]at e
     cases hd:Nat.ble (off+(n+ny)*es) cs.length with
     |true =>
      rw[hd]at e
      dsimp only at e ⊢
      have e:=(zpn e).2
      obtain⟨m',j1,j2⟩:=zbe hm k1 (x := .cells (splice cs (off+n*es) ys) e' v o) fun m=>k (.slice i ver off (n+ny)) m
      exact⟨_,_,m',rfl,by rw[← j1];exact e,j2⟩
     |false =>
      rw[hd]at e
      dsimp only at e ⊢
      have e:=zadd e
      rw[zbb,zbd]at e
      obtain⟨m',j1,j2⟩:=zbe hm k1 (x := .cells ((cs.drop off).take (n*es)++ys) e' (v+1) true) fun m=>k (.slice i (v+1) 0 (n+ny)) m
      exact⟨_,_,m',rfl,by rw[← j1];exact e,j2⟩
 ·rename_i i ver off n hx
  rw[hx]
  simp only[evalAppend,g1,g2]
  cases hb:(Nat.ble (n+ny) maxAppend&&!(Nat.beq ny 0))with
  |false=>rw[hb]at e;cases e
  |true =>
   rw[hb]at e
   obtain⟨cs,e',v,o,k1,e⟩:=zbt hm (show fcells m (.heap i) _=some r from e)
   simp only[k1]
   rw[zap]at e
   cases hc:((Nat.beq ver v&&Nat.beq e' es)&&Nat.ble (off+n*es) cs.length)with
   |false=>rw[hc]at e;cases e
   |true =>
    rw[hc]at e
    dsimp only at e ⊢
    rw[zbb]at e
    have e:=zadd e
    rw[zbd]at e
    obtain⟨m',j1,j2⟩:=zcw hm e
    exact⟨_,_,m',rfl,j1,j2⟩
 ·cases e
noncomputable def ylook (ok:Bool) (v:IVal) (b:Bool) (m:FM) (k:SK):YR:=Bool.rec (k v m) (k (.tup [v, .p (.bool b)]) m) ok
theorem zrk {ok:Bool} {v:IVal} {b:Bool} {m:FM} {M:Mem} {k:SK} {r} (hm:RM m M) (e:ylook ok v b m k=some r):∃u M' m',lookRes M ok v b=some (u,M')∧k u m'=some r∧RM m' M':=by
 cases ok with
 |true=>exact⟨_,M,m,rfl,e,hm⟩
 |false=>exact⟨_,M,m,rfl,e,hm⟩
noncomputable def zaq (ok:Bool) (z:IVal) (c:KTy) (x key:IVal):SF:=fun _ m k=>Bool.rec none (match x with
 | .p .nilmap=>ylook ok z false m k
 | .map i=>fmap m i fun es _=>match gfindEnt c key es 0 with
   |some (some (_,v))=>ylook ok v true m k
   |some none=>ylook ok z false m k
   |none=>none
 |_=>none) (gisKey c key)
theorem zajw {ok:Bool} {z:IVal} {c:KTy} {x key:Opd}:SOK F C (zaq ok z c (cv x) (cv key)) (.lookup ok z c x key):=fun {m M k r} hm e=>by
 unfold zaq at e
 rw[cv_eq,cv_eq,zei]at e
 simp only[evalOp]
 cases hk:isKey c (noRho key)with
 |false=>rw[hk]at e;cases e
 |true =>
  rw[hk]at e
  dsimp only at e ⊢
  split at e
  ·rename_i hx;rw[hx];exact zrk hm e
  ·rename_i i hx
   rw[hx]
   obtain⟨es,ck,h1,h2⟩:=zfy hm e
   simp only[h1]
   rw[zbs]at h2
   cases hf:findEnt c (noRho key) es 0 with
   |none=>rw[hf]at h2;cases h2
   |some q =>
    rw[hf]at h2
    cases q with
    |none=>exact zrk hm h2
    |some p=>obtain⟨j,v⟩:=p;exact zrk hm h2
  ·cases e
noncomputable def zbl (c:KTy) (x key v:IVal):SF:=fun _ m k=>Bool.rec none (match x with
 | .map i=>fmap m i fun es clock=>match gfindEnt c key es 0 with
   |some (some (j,_))=>lall (gmodify es j fun e=>(key,v,e.2.2)) fun es=>fputK m (.heap i) (.map es clock) fun m=>k (.tup []) m
   |some none=>lall (lapp es [(key,v,clock)]) fun es=>nforce (clock+1) fun ck=>fputK m (.heap i) (.map es ck) fun m=>k (.tup []) m
   |none=>none
 |_=>none) (gisKey c key&&passB v)
theorem zajx {c:KTy} {x key v:Opd}:SOK F C (zbl c (cv x) (cv key) (cv v)) (.mapUpd c x key v):=fun {m M k r} hm e=>by
 unfold zbl at e
 rw[cv_eq,cv_eq,cv_eq,zei,zun]at e
 simp only[evalOp]
 cases hk:isKey c (noRho key)with
 |false=>rw[hk]at e;cases e
 |true =>
  cases hp:(noRho v).passOK with
  |false=>rw[hk,hp]at e;cases e
  |true =>
   rw[hk,hp]at e
   have e:=show(match noRho x with
    | .map i=>fmap m i fun es clock=>match gfindEnt c (noRho key) es 0 with
      |some (some (j,_))=>lall (gmodify es j fun e=>(noRho key,noRho v,e.2.2)) fun es=>fputK m (.heap i) (.map es clock) fun m=>k (.tup []) m
      |some none=>lall (lapp es [(noRho key,noRho v,clock)]) fun es=>nforce (clock+1) fun ck=>fputK m (.heap i) (.map es ck) fun m=>k (.tup []) m
      |none=>none
    |_=>none)=some r from e
   dsimp only
   split at e
   ·rename_i i hx
    rw[hx]
    obtain⟨es,ck,h1,h2⟩:=zfy hm e
    simp only[h1]
    rw[zbs]at h2
    cases hf:findEnt c (noRho key) es 0 with
    |none=>rw[hf]at h2;cases h2
    |some q =>
     rw[hf]at h2
     cases q with
     |none =>
      dsimp only at h2
      rw[zan,zbb,zdi]at h2
      obtain⟨m',j1,j2⟩:=zbe hm h1 (x := .map (es++[(noRho key,noRho v,ck)]) (ck+1)) fun m=>k (.tup []) m
      exact⟨_,_,m',rfl,by rw[← j1];exact h2,j2⟩
     |some p =>
      obtain⟨j,u⟩:=p
      dsimp only at h2
      rw[zan,zdy]at h2
      obtain⟨m',j1,j2⟩:=zbe hm h1 (x := .map (es.modify j fun e=>(noRho key,noRho v,e.2.2)) ck) fun m=>k (.tup []) m
      exact⟨_,_,m',rfl,by rw[← j1];exact h2,j2⟩
   ·cases e
end
end Go.Ideal
