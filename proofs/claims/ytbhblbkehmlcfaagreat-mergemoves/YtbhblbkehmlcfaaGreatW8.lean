/-
  IDEAL SEMANTICS, 75: FUNCTIONS, CALLS, over the memory as a tree.
-/
import Derived.Test.YtbhblbkehmlcfaaGreatW7
import Derived.Test.YtbhblbkehmlcfaaGreatW3
namespace Go.Ideal
open Go
set_option linter.unusedSectionVars false
variable [Kept]
structure SFun where
 np:Nat
 code:FOr→Nat→(List IVal→SC)→List IVal→SC
 res:List IRes
 pure:Bool
 memo:Bool
def resSlot:IRes→Nat | .tmp t=>t | .cell t _=>t
def resSlots:List IRes→List Nat
 | []=>[]
 |r::l=>resSlot r::resSlots l
def skips:List Nat→SE
 | []=>[]
 |t::l=>(t,skipped)::skips l
def skOK (np nt:Nat):List Nat→Bool
 | []=>true
 |t::l=>Nat.ble np t&&(Nat.blt t nt&&skOK np nt l)
noncomputable def sbody (F:IFun) (an:An) (ext:List Nat):FOr→Nat→(List IVal→SC)→List IVal→SC:=fun O L kr =>
 slamV F.np fun args=>tcode O L F.nt (resSlots F.res) kr [] F.code an (tfin kr (resSlots F.res)) (zipSS (upto F.np 0) args++skips ext)
noncomputable def yloadv (m:FM) (n:Option Nat) (v:IVal):Option IVal:=Option.rec (motive:=fun _=>Option IVal) (yread m 1 v fun l=>match l with|[x]=>some x|_=>none) (fun n=>yread m n v fun cs=>some (.agg cs)) n
theorem zakd {m:FM} {M:Mem} (hm:RM m M) {n:Option Nat} {v u:IVal} (h:yloadv m n v=some u):loadVal M n v=some u:=by
 cases n with
 |none =>
  obtain⟨cs,h1,h2⟩:=zrj hm (show yread m 1 v _=some u from h)
  simp only[loadVal,h1]
  match cs,h2 with
  | [x],h2=>exact h2
 |some n =>
  obtain⟨cs,h1,h2⟩:=zrj hm (show yread m n v _=some u from h)
  simp only[loadVal,h1]
  exact h2
noncomputable def yout (m:FM) (l:List IRes) (vs:List IVal):Option (List IVal) :=
 List.rec (motive:=fun _=>List IVal→Option (List IVal)) (fun _=>some []) (fun r _ ih vs=>match vs with
  |v::vs=>match(IRes.rec (motive:=fun _=>Option IVal) (fun _=>some v) (fun _ n=>yloadv m n v) r:Option IVal),ih vs with
   |some v,some l=>some (v::l)
   |_,_=>none
  | []=>none) l vs
noncomputable def youtK (m:FM) (l:List IRes) (vs:List IVal) (k:List IVal→YR):YR :=
 List.rec (motive:=fun _=>List IVal→(List IVal→YR)→YR) (fun _ k=>k []) (fun r _ ih vs k=>List.rec (motive:=fun _=>YR) none (fun v vs _=>IRes.rec (motive:=fun _=>YR) (fun _=>ih vs fun ws=>k (v::ws)) (fun _ n=>Option.rec (motive:=fun _=>YR) none (fun v=>ih vs fun ws=>k (v::ws)) (yloadv m n v)) r) vs) l vs k
theorem zrq {m:FM} {x:XS}:∀ {l:List IRes} {vs:List IVal} {k:List IVal→YR},youtK m l vs k=some x→∃ws,yout m l vs=some ws∧k ws=some x
 | [],vs,k,e=>⟨[],rfl,e⟩
 |r::l,[],k,e=>by cases e
 |r::l,v::vs,k,e=>by
  have h:yout m (r::l) (v::vs)=match(IRes.rec (motive:=fun _=>Option IVal) (fun _=>some v) (fun _ n=>yloadv m n v) r:Option IVal),yout m l vs with
   |some v,some l=>some (v::l)
   |_,_=>none:=rfl
  rw[h]
  cases r with
  |tmp t =>
   obtain⟨ws,h1,h2⟩:=zrq (l:=l) (vs:=vs) (k:=fun ws=>k (v::ws)) e
   exact⟨v::ws,by rw[h1],h2⟩
  |cell t n =>
   have e:(Option.rec (motive:=fun _=>YR) none (fun v=>youtK m l vs fun ws=>k (v::ws)) (yloadv m n v):YR)=some x:=e
   dsimp only
   cases hq:yloadv m n v with
   |none=>rw[hq]at e;cases e
   |some u =>
    rw[hq]at e
    obtain⟨ws,h1,h2⟩:=zrq (l:=l) (vs:=vs) (k:=fun ws=>k (u::ws)) e
    exact⟨u::ws,by rw[h1],h2⟩
noncomputable def foutK (ws:List IVal) (k:IVal→YR):YR:=List.rec (motive:=fun _=>YR) (k (.tup [])) (fun v t _=>List.rec (motive:=fun _=>YR) (Bool.rec none (k v) (passB v)) (fun _ _ _=>Bool.rec none (k (.tup ws)) (passesB ws)) t) ws
theorem zavj (ws:List IVal) (k:IVal→YR):foutK ws k=Option.rec (motive:=fun _=>YR) none k (fout (some ws)):=by
 match ws with
 | []=>rfl
 | [v] =>
   show(Bool.rec none (k v) (passB v):YR)=Option.rec none k (match v.passOK with|true=>some v|false=>none)
   rw[zun]
   cases v.passOK<;>rfl
 |v::w::t =>
  show(Bool.rec none (k (.tup (v::w::t))) (passesB (v::w::t)):YR)=Option.rec none k (match passesOK (v::w::t)with|true=>some (IVal.tup (v::w::t))|false=>none)
  rw[zlz]
  cases passesOK (v::w::t)<;>rfl
noncomputable def yend (h:SFun) (k:IVal→FH→YR) (vs:List IVal):SC:=fun m=>youtK m h.res vs fun ws=>foutK ws fun v=>fopen m fun _ t n mm=>k v ⟨t,n,mm⟩
noncomputable def sfrun (F:FOr) (L:Nat) (h:SFun) (args:List IVal) (H:FH) (k:IVal→FH→YR):YR :=
 Bool.rec none (h.code F L (yend h k) args ⟨[],H⟩) (Nat.beq (llen args) h.np)
structure SFOK (Γ:Prog) (f:FuncId) (h:SFun):Prop where
 ok:∃F an ext,Γ f=some F∧h.np=F.np∧h.res=F.res∧h.pure=F.pure∧Nat.ble F.np F.nt=true∧skOK F.np F.nt ext=true∧h.code=sbody F an ext
theorem zarq {A B:SE} {t:Nat}:sfind (A++B) t=match sfind A t with|some v=>some v|none=>sfind B t:=by
 induction A with
 |nil=>rfl
 |cons x A ih =>
  obtain⟨s,v⟩:=x
  simp only[List.cons_append,sfind]
  cases Nat.beq s t with
  |true=>rfl
  |false=>exact ih
theorem zamn:∀(l:List IVal) (i t:Nat) (v:IVal),sfind (zipSS (upto l.length i) l) t=some v→i≤t∧l[t-i]? = some v
 | [],i,t,v,h=>by cases h
 |x::l,i,t,v,h=>by
  simp only[List.length_cons,upto,zipSS,sfind]at h
  cases hb:Nat.beq i t with
  |true =>
   rw[hb]at h
   have:=Nat.eq_of_beq_eq_true hb
   subst this
   injection h with h
   subst h
   exact⟨Nat.le_refl _,by simp⟩
  |false =>
   rw[hb]at h
   have hne:i≠t:=fun e=>by rw[e,Nat.beq_refl]at hb;cases hb
   obtain⟨h1,h2⟩:=zamn l (i+1) t v h
   exact⟨by omega,by rw[show t-i=(t-(i+1))+1 by omega,List.getElem?_cons_succ];exact h2⟩
theorem zabk {np nt:Nat}:∀ {l:List Nat},skOK np nt l=true→∀ {t:Nat} {v:IVal},sfind (skips l) t=some v→np≤t∧t<nt∧v=skipped
 | [],_,t,v,h=>by cases h
 |s::l,hk,t,v,h=>by
  simp only[skOK,Bool.and_eq_true,Nat.blt_eq]at hk
  simp only[skips,sfind]at h
  cases hb:Nat.beq s t with
  |true =>
   rw[hb]at h
   have:=Nat.eq_of_beq_eq_true hb
   subst this
   injection h with h
   exact⟨Nat.le_of_ble_eq_true hk.1,hk.2.1,h.symm⟩
  |false=>rw[hb]at h;exact zabk hk.2.2 h
theorem zabl {np nt:Nat} {args:List IVal} {ext:List Nat} (hn:args.length=np) (hle:np≤nt) (hk:skOK np nt ext=true):RelTS nt (zipSS (upto np 0) args++skips ext) (args++List.replicate (nt-args.length) skipped):=by
 refine⟨by simp;omega,fun t v e=>?_⟩
 rw[zarq]at e
 split at e
 ·rename_i u hu
  injection e with e
  subst e
  rw[← hn]at hu
  obtain⟨_,h2⟩:=zamn args 0 t u hu
  rw[Nat.sub_zero]at h2
  rw[List.getElem?_append_left (List.getElem?_eq_some_iff.1 h2).1]
  exact h2
 ·obtain⟨h1,h2,rfl⟩:=zabk hk e
  rw[List.getElem?_append_right (by omega),List.getElem?_replicate,if_pos (by omega)]
theorem zagz {T:List IVal} {m:FM} {M:Mem} (hm:RM m M):∀ {l:List IRes} {vs ws:List IVal},RelPS (resSlots l) vs T→yout m l vs=some ws→allRes ⟨T,M⟩ l=some ws
 | [],vs,ws,h,e=>by injection e with e;subst e;rfl
 |r::l,vs,ws,h,e=>by
  obtain⟨v,us,rfl,h1,h2⟩:=h
  have e:(match(IRes.rec (motive:=fun _=>Option IVal) (fun _=>some v) (fun _ n=>yloadv m n v) r:Option IVal),yout m l us with
   |some v,some l=>some (v::l)
   |_,_=>none)=some ws:=e
  split at e
  ·rename_i w l' hw hl
   injection e with e
   subst e
   rw[allRes,zagz hm h2 hl]
   have hg:T.getD (resSlot r) .undef=v:=by rw[List.getD_eq_getElem?_getD,h1];rfl
   cases r with
   |tmp t =>
    injection hw with hw
    simp only[oneRes]
    rw[show T.getD t .undef=v from hg,hw]
   |cell t n =>
    simp only[oneRes]
    rw[show T.getD t .undef=v from hg,zakd hm hw]
  ·cases e
noncomputable def zlist (g:IVal→Option PVal) (l:List IVal):Option (List PVal):=List.rec (motive:=fun _=>Option (List PVal)) (some []) (fun v _ ih=>Option.rec (motive:=fun _=>Option (List PVal)) none (fun x=>Option.rec (motive:=fun _=>Option (List PVal)) none (fun l=>some (x::l)) ih) (g v)) l
theorem zadm {g f:IVal→Option PVal} (h:∀v,g v=f v):∀l,zlist g l=freezeList f l
 | []=>rfl
 |v::r=>by
  rw[freezeList,←h v,←zadm h r]
  show(Option.rec (motive:=fun _=>Option (List PVal)) none (fun x=>Option.rec (motive:=fun _=>Option (List PVal)) none (fun l=>some (x::l)) (zlist g r)) (g v):Option (List PVal))=_
  cases g v with
  |none=>rfl
  |some x=>cases zlist g r<;>rfl
noncomputable def hfetch (h:FH) (i:Nat):Option IBlk:=fhopen h fun t n _=>Bool.rec none (hget (hp i) t) (Nat.ble (Nat.succ i) n)
theorem zkr {h:FH} {H:List IBlk} (hh:RH h H) (i:Nat):hfetch h i=H[i]? := zada (m:=⟨[],h⟩) (M:=⟨[],H⟩) ⟨rfl,hh⟩ i
noncomputable def zcell (h:FH) (n:Nat):IVal→Option PVal :=
 Nat.rec (motive:=fun _=>IVal→Option PVal) (fun _=>none) (fun _ ih v=>match v with
  | .p v=>some v
  | .slice k ver off len=>match hfetch h k with
    |some (.cells cs e w _)=>match Nat.beq ver w&&Nat.ble (off+len*e) (llen cs)with
     |true=>match zlist ih (ltake (len*e) (ldrop off cs))with
      |some l=>some (.slice e len l)
      |none=>none
     |false=>none
    |_=>none
  |_=>none) n
theorem zadn {h:FH} {H:List IBlk} (hh:RH h H):∀n v,zcell h n v=freezeCell H n v
 |0,v=>rfl
 |n+1,v=>by
  cases v with
  |slice k ver off len =>
   show(match hfetch h k with
   |some (.cells cs e w _)=>match Nat.beq ver w&&Nat.ble (off+len*e) (llen cs)with
    |true=>match zlist (zcell h n) (ltake (len*e) (ldrop off cs))with
     |some l=>some (PVal.slice e len l)
     |none=>none
    |false=>none
   |_=>none)=_
   rw[freezeCell,zkr hh]
   simp only[zap,zec,zbd,zadm (zadn hh n)]
   rfl
  |_=>rfl
noncomputable def zone (h:FH) (v:IVal):Option IVal :=
 match v with
 | .p v=>some (.p v)
 | .agg cs=>match zlist (zcell h 100) cs with
   |some l=>some (.agg (gpc l))
   |none=>none
 |v=>match zcell h 100 v with
  |some x=>some (.p x)
  |none=>none
theorem zarr {h:FH} {H:List IBlk} (hh:RH h H) (v:IVal):zone h v=freezeOne H v:=by
 cases v with
 |p v=>rfl
 |agg cs =>
  show(match zlist (zcell h 100) cs with|some l=>some (IVal.agg (gpc l))|none=>none)=_
  rw[zadm (zadn hh 100)]
  simp only[zgp]
  rfl
 |_=>(simp only[zone,freezeOne,zadn hh];rfl)
noncomputable def zall (h:FH) (l:List IVal):Option (List IVal):=List.rec (motive:=fun _=>Option (List IVal)) (some []) (fun v _ ih=>Option.rec (motive:=fun _=>Option (List IVal)) none (fun x=>Option.rec (motive:=fun _=>Option (List IVal)) none (fun l=>some (x::l)) ih) (zone h v)) l
theorem zado {h:FH} {H:List IBlk} (hh:RH h H):∀l,zall h l=freezeAll H l
 | []=>rfl
 |v::r=>by
  rw[freezeAll,←zarr hh v,←zado hh r]
  show(Option.rec (motive:=fun _=>Option (List IVal)) none (fun x=>Option.rec (motive:=fun _=>Option (List IVal)) none (fun l=>some (x::l)) (zall h r)) (zone h v):Option (List IVal))=_
  cases zone h v with
  |none=>rfl
  |some x=>cases zall h r<;>rfl
noncomputable def zres (h:FH) (v:IVal):Option IVal :=
 match v with
 | .tup vs=>match zall h vs with
   |some l=>some (.tup l)
   |none=>none
 |v=>zone h v
theorem zars {h:FH} {H:List IBlk} (hh:RH h H) (v:IVal):zres h v=freezeRes H v:=by
 cases v with
 |tup vs=>show(match zall h vs with|some l=>some (IVal.tup l)|none=>none)=_;rw[zado hh];rfl
 |_=>(simp only[zres,freezeRes,zarr hh])
noncomputable def nlist (g:IVal→Bool) (l:List IVal):Bool:=List.rec (motive:=fun _=>Bool) true (fun v _ ih=>Bool.rec false ih (g v)) l
theorem zur {g f:IVal→Bool} (h:∀v,g v=f v):∀l,nlist g l=freshCells f l
 | []=>rfl
 |v::r=>by
  rw[freshCells,←h v,←zur h r]
  show(Bool.rec false (nlist g r) (g v):Bool)=_
  cases g v<;>rfl
noncomputable def ncell (h:FH) (n:Nat):IVal→Bool :=
 Nat.rec (motive:=fun _=>IVal→Bool) (fun _=>false) (fun _ ih v=>match v with
  | .p (.bool _) | .p (.int _ _) | .p (.str _) | .p .nilslice | .p .nilptr=>true
  | .slice k _ off len=>match hfetch h k with
    |some (.cells cs e _ _)=>nlist ih (ltake (len*e) (ldrop off cs))
    |_=>false
  |_=>false) n
theorem zadp {h:FH} {H:List IBlk} (hh:RH h H):∀n v,ncell h n v=freshCell H n v
 |0,v=>rfl
 |n+1,v=>by
  cases v with
  |p u=>cases u<;>rfl
  |slice k ver off len =>
   show(match hfetch h k with
   |some (.cells cs e _ _)=>nlist (ncell h n) (ltake (len*e) (ldrop off cs))
   |_=>false)=_
   rw[freshCell,zkr hh]
   simp only[zec,zbd,zur (zadp hh n)]
   rfl
  |_=>rfl
noncomputable def none1 (h:FH) (v:IVal):Bool :=
 match v with
 | .agg cs=>nlist (ncell h 100) cs
 |v=>ncell h 100 v
theorem zamo {h:FH} {H:List IBlk} (hh:RH h H) (v:IVal):none1 h v=freshOne H v:=by
 cases v with
 |agg cs=>exact zur (zadp hh 100) cs
 |_=>(simp only[none1,freshOne,zadp hh])
noncomputable def nres (h:FH) (v:IVal):Bool :=
 match v with
 | .tup vs=>nlist (none1 h) vs
 |v=>none1 h v
theorem zart {h:FH} {H:List IBlk} (hh:RH h H) (v:IVal):nres h v=freshRes H v:=by
 cases v with
 |tup vs=>exact zur (zamo hh) vs
 |_=>(simp only[nres,freshRes,zamo hh])
noncomputable def pqB (w:PVal) (f:Bool→Bool):Bool:=PVal.rec (motive_1:=fun _=>Bool) (motive_2:=fun _=>PUnit) f (fun _ _=>false) (fun _=>false) (fun _ _ _ _=>false) (fun _ _=>false) (fun _=>false) false false false false false ⟨⟩ (fun _ _ _ _=>⟨⟩) w
noncomputable def pqI (w:PVal) (f:IntKind→Int→Bool):Bool:=PVal.rec (motive_1:=fun _=>Bool) (motive_2:=fun _=>PUnit) (fun _=>false) f (fun _=>false) (fun _ _ _ _=>false) (fun _ _=>false) (fun _=>false) false false false false false ⟨⟩ (fun _ _ _ _=>⟨⟩) w
noncomputable def pqS (w:PVal) (f:List UInt8→Bool):Bool:=PVal.rec (motive_1:=fun _=>Bool) (motive_2:=fun _=>PUnit) (fun _=>false) (fun _ _=>false) f (fun _ _ _ _=>false) (fun _ _=>false) (fun _=>false) false false false false false ⟨⟩ (fun _ _ _ _=>⟨⟩) w
noncomputable def pqL (w:PVal) (f:Nat→Nat→List PVal→Bool):Bool:=PVal.rec (motive_1:=fun _=>Bool) (motive_2:=fun _=>PUnit) (fun _=>false) (fun _ _=>false) (fun _=>false) (fun e n cs _=>f e n cs) (fun _ _=>false) (fun _=>false) false false false false false ⟨⟩ (fun _ _ _ _=>⟨⟩) w
noncomputable def pqN (w:PVal):Bool:=PVal.rec (motive_1:=fun _=>Bool) (motive_2:=fun _=>PUnit) (fun _=>false) (fun _ _=>false) (fun _=>false) (fun _ _ _ _=>false) (fun _ _=>false) (fun _=>false) false true false false false ⟨⟩ (fun _ _ _ _=>⟨⟩) w
noncomputable def ieq (a b:Int):Bool:=Int.rec (motive:=fun _=>Bool) (fun m=>Int.rec (motive:=fun _=>Bool) (fun n=>Nat.beq m n) (fun _=>false) b) (fun m=>Int.rec (motive:=fun _=>Bool) (fun _=>false) (fun n=>Nat.beq m n) b) a
theorem zbhf {a b:Int} (h:ieq a b=true):a=b:=by
 cases a<;>cases b<;>first|(cases h;done)|exact congrArg _ (Nat.eq_of_beq_eq_true h)
noncomputable def peq (v:PVal):PVal→Bool :=
 PVal.rec (motive_1:=fun _=>PVal→Bool) (motive_2:=fun _=>List PVal→Bool)
  (fun b w=>pqB w fun c=>Bool.rec (gnot c) c b)
  (fun k n w=>pqI w fun l m=>Bool.rec false (kbeq k l) (ieq n m))
  (fun s w=>pqS w fun t=>gstr s t)
  (fun e n _ ih w=>pqL w fun f m ds=>Bool.rec false (Bool.rec false (ih ds) (Nat.beq e f)) (Nat.beq n m))
  (fun _ _ _=>false) (fun _ _=>false) (fun _=>false) (fun w=>pqN w) (fun _=>false) (fun _=>false) (fun _=>false)
  (fun m=>List.rec (motive:=fun _=>Bool) true (fun _ _ _=>false) m)
  (fun _ _ ih ihl m=>List.rec (motive:=fun _=>Bool) false (fun w ws _=>Bool.rec false (ihl ws) (ih w)) m) v
noncomputable def peqs (l:List PVal):List PVal→Bool:=fun m=>peq (.slice 0 0 l) (.slice 0 0 m)
theorem zavk {w:PVal} {f:Nat→Nat→List PVal→Bool} (h:pqL w f=true):∃e n cs,w = .slice e n cs∧f e n cs=true:=by
 cases w<;>first|exact⟨_,_,_,rfl,h⟩|cases h
theorem zaxl:∀n:Nat,(∀ v w:PVal,SizeOf.sizeOf v≤n→peq v w=true→v=w)∧(∀ l m:List PVal,SizeOf.sizeOf l≤n→peqs l m=true→l=m):=by
 intro n
 induction n with
 |zero =>
  refine⟨fun v w hs _=>?_,fun l m hs _=>?_⟩
  ·exfalso;cases v<;>simp at hs
  ·exfalso;cases l<;>simp at hs
 |succ n ih =>
  obtain⟨ih1,ih2⟩:=ih
  refine⟨fun v w hs h=>?_,fun l m hs h=>?_⟩
  ·cases v with
   |bool b =>
    cases w<;>first|(cases h;done)|skip
    rename_i c
    cases b<;>cases c<;>first|rfl|cases h
   |int k a =>
    cases w<;>first|(cases h;done)|skip
    rename_i l b
    have h:(Bool.rec false (kbeq k l) (ieq a b):Bool)=true:=h
    cases hb:ieq a b with
    |false=>rw[hb]at h;cases h
    |true =>
     rw[hb]at h
     have h:kbeq k l=true:=h
     rw[zwb]at h
     rw[zbhf hb,of_decide_eq_true h]
   |str s =>
    cases w<;>first|(cases h;done)|skip
    rename_i t
    have h:gstr s t=true:=h
    rw[zwi]at h
    rw[of_decide_eq_true h]
   |slice e k cs =>
    obtain⟨f,m,ds,rfl,h2⟩:=zavk (show pqL w _=true from h)
    cases hm:Nat.beq k m with
    |false=>rw[hm]at h2;cases h2
    |true =>
     rw[hm]at h2
     have h:(Bool.rec false (peqs cs ds) (Nat.beq e f):Bool)=true:=h2
     cases hf:Nat.beq e f with
     |false=>rw[hf]at h;cases h
     |true =>
      rw[hf]at h
      have:=ih2 cs ds (by simp at hs;omega) h
      rw[Nat.eq_of_beq_eq_true hm,Nat.eq_of_beq_eq_true hf,this]
   |nilslice=>cases w<;>first|rfl|cases h
   |_=>cases h
  ·cases l with
   |nil=>cases m<;>first|rfl|cases h
   |cons x l =>
    cases m with
    |nil=>cases h
    |cons y m =>
     have h:(Bool.rec false (peqs l m) (peq x y):Bool)=true:=h
     cases hb:peq x y with
     |false=>rw[hb]at h;cases h
     |true =>
      rw[hb]at h
      rw[ih1 x y (by simp at hs;omega) hb,ih2 l m (by simp at hs;omega) h]
noncomputable def toAP (w:IVal) (f:PVal→Bool):Bool:=IVal.rec (motive_1:=fun _=>Bool) (motive_2:=fun _=>PUnit) f (fun _ _ _=>false) (fun _ _ _ _=>false) (fun _=>false) (fun _ _ _=>false) (fun _ _=>false) (fun _ _=>false) false (fun _=>false) (fun _ _ _ _=>false) ⟨⟩ (fun _ _ _ _=>⟨⟩) w
noncomputable def toAA (w:IVal) (f:List IVal→Bool):Bool:=IVal.rec (motive_1:=fun _=>Bool) (motive_2:=fun _=>PUnit) (fun _=>false) (fun _ _ _=>false) (fun _ _ _ _=>false) (fun _=>false) (fun _ _ _=>false) (fun cs _=>f cs) (fun _ _=>false) false (fun _=>false) (fun _ _ _ _=>false) ⟨⟩ (fun _ _ _ _=>⟨⟩) w
noncomputable def ceqs (l:List IVal):List IVal→Bool :=
 List.rec (motive:=fun _=>List IVal→Bool) (fun m=>List.rec (motive:=fun _=>Bool) true (fun _ _ _=>false) m) (fun x _ ih m=>List.rec (motive:=fun _=>Bool) false (fun y ys _=>Bool.rec false (ih ys) (toAP x fun p=>toAP y fun q=>peq p q)) m) l
noncomputable def veq (v w:IVal):Bool:=IVal.rec (motive_1:=fun _=>Bool) (motive_2:=fun _=>PUnit) (fun p=>toAP w fun q=>peq p q) (fun _ _ _=>false) (fun _ _ _ _=>false) (fun _=>false) (fun _ _ _=>false) (fun cs _=>toAA w fun ds=>ceqs cs ds) (fun _ _=>false) false (fun _=>false) (fun _ _ _ _=>false) ⟨⟩ (fun _ _ _ _=>⟨⟩) v
noncomputable def veqs (l:List IVal):List IVal→Bool :=
 List.rec (motive:=fun _=>List IVal→Bool) (fun m=>List.rec (motive:=fun _=>Bool) true (fun _ _ _=>false) m) (fun x _ ih m=>List.rec (motive:=fun _=>Bool) false (fun y ys _=>Bool.rec false (ih ys) (veq x y)) m) l
theorem zxb {w:IVal} {f:PVal→Bool} (h:toAP w f=true):∃p,w = .p p∧f p=true:=by
 cases w<;>first|exact⟨_,rfl,h⟩|cases h
theorem zaru {w:IVal} {f:List IVal→Bool} (h:toAA w f=true):∃p,w = .agg p∧f p=true:=by
 cases w<;>first|exact⟨_,rfl,h⟩|cases h
theorem zarv:∀ {l m:List IVal},ceqs l m=true→l=m
 | [],[],_=>rfl
 | [],_::_,h=>by cases h
 |_::_,[],h=>by cases h
 |x::l,y::m,h=>by
  have h:(Bool.rec false (ceqs l m) (toAP x fun p=>toAP y fun q=>peq p q):Bool)=true:=h
  cases hb:(toAP x fun p=>toAP y fun q=>peq p q)with
  |false=>rw[hb]at h;cases h
  |true =>
   rw[hb]at h
   obtain⟨p,e1,hb1⟩:=zxb hb
   obtain⟨q,e2,hb2⟩:=zxb hb1
   rw[e1,e2,(zaxl _).1 p q (Nat.le_refl _) hb2,zarv (show ceqs l m=true from h)]
theorem zbhg {v w:IVal} (h:veq v w=true):v=w:=by
 cases v<;>first|(cases h;done)|skip
 ·obtain⟨q,rfl,hb⟩:=zxb (show toAP w _=true from h)
  rw[(zaxl _).1 _ q (Nat.le_refl _) hb]
 ·obtain⟨q,rfl,hb⟩:=zaru (show toAA w _=true from h)
  rw[zarv hb]
theorem zarw:∀ {l m:List IVal},veqs l m=true→l=m
 | [],[],_=>rfl
 | [],_::_,h=>by cases h
 |_::_,[],h=>by cases h
 |x::l,y::m,h=>by
  have h:(Bool.rec false (veqs l m) (veq x y):Bool)=true:=h
  cases hb:veq x y with
  |false=>rw[hb]at h;cases h
  |true =>
   rw[hb]at h
   rw[zbhg hb,zarw (show veqs l m=true from h)]
section
variable {R:Type}
noncomputable def mlook (f:FuncId) (az:List IVal) (l:List ME) (k:IVal→R) (other:R):R :=
 List.rec (motive:=fun _=>R) other (fun e _ ih=>ME.rec (motive:=fun _=>R) (fun g a r=>Bool.rec ih (Bool.rec ih (k r) (veqs az a)) (Nat.beq g f)) e) l
theorem zrr (f:FuncId) (az:List IVal) (k:IVal→R) (other:R):∀l:List ME,mlook f az l k other=other∨∃r,⟨f,az,r⟩∈l∧mlook f az l k other=k r
 | []=>.inl rfl
 |⟨g,a,r⟩::l=>by
  have h:mlook f az (⟨g,a,r⟩::l) k other=(Bool.rec (mlook f az l k other) (Bool.rec (mlook f az l k other) (k r) (veqs az a)) (Nat.beq g f):R):=rfl
  rw[h]
  have ih:=zrr f az k other l
  have ih':mlook f az l k other=other∨∃r',⟨f,az,r'⟩∈(⟨g,a,r⟩:ME)::l∧mlook f az l k other=k r':=by
   rcases ih with ih|⟨r',h1,h2⟩
   ·exact .inl ih
   ·exact .inr ⟨r',List.mem_cons_of_mem _ h1,h2⟩
  cases hg:Nat.beq g f with
  |false=>exact ih'
  |true =>
   cases ha:veqs az a with
   |false=>exact ih'
   |true =>
    have h1:=Nat.eq_of_beq_eq_true hg
    have h2:=zarw ha
    subst h1 h2
    exact .inr ⟨r,List.mem_cons_self,rfl⟩
end
noncomputable def mkey (f:FuncId):HP:=hp f
noncomputable def hnew (H:FH):FH:=fhopen H fun _ _ c=>⟨.e,0,c⟩
noncomputable def hmm (H:FH):MT:=fhopen H fun _ _ c=>c
noncomputable def hkeep (H:FH) (c:MT) (k:FH→YR):YR:=fhopen H fun t n _=>k ⟨t,n,c⟩
noncomputable def zback (H H':FH) (args:List IVal) (v:IVal) (k:IVal→FH→YR) (other:YR):YR :=
 match zres H' v with
 |none=>none
 |some r=>match plainArgs args||(scalRes r||nres H' v)with
  |true=>vforce r fun r=>fhopen H' fun _ _ c=>hkeep H c fun H=>k r H
  |false=>other
noncomputable def mback (f:FuncId) (az:List IVal) (H H':FH) (args:List IVal) (v:IVal) (k:IVal→FH→YR) (other:YR):YR :=
 match zres H' v with
 |none=>none
 |some r=>match scalRes r||nres H' v with
  |true=>vforce r fun r=>fhopen H' fun _ _ c=>mputK ⟨f,az,r⟩ (mkey f) c fun c=>hkeep H c fun H=>k r H
  |false=>match plainArgs args with
   |true=>vforce r fun r=>fhopen H' fun _ _ c=>hkeep H c fun H=>k r H
   |false=>other
noncomputable def spure (F:FOr) (L:Nat) (f:FuncId) (h:SFun) (args:List IVal) (H:FH) (k:IVal→FH→YR):YR :=
 match zall H args with
 |none=>sfrun F L h args H k
 |some az=>Bool.rec (sfrun F L h az (hnew H) fun v H'=>zback H H' args v k (sfrun F L h args H k))
  (fhopen H fun _ _ c=>mlook f az (mtget (mkey f) c) (fun r=>k r H) (sfrun F L h az (hnew H) fun v H'=>mback f az H H' args v k (sfrun F L h args H k))) h.memo
noncomputable def sstep (J:Nat→Option SFun) (D:FOr→FOr) (L:Nat) (F:FOr):FOr:=fun f args H k =>
 Option.rec (motive:=fun _=>YR) (D F f args H k) (fun h=>Bool.rec (sfrun F L h args H k) (spure F L f h args H k) h.pure) (J f)
noncomputable def scall (J:Nat→Option SFun) (D:FOr→FOr) (L:Nat) (n:Nat):FOr :=
 Nat.rec (motive:=fun _=>FOr) (fun _ _ _ _=>none) (fun _ ih=>sstep J D L ih) n
theorem RH.new {K:FH} {H:List IBlk} (hK:RH K H):RH (hnew K) []:=⟨rfl,by simp,fun i hi=>by
 have:∀p:HP,hget p .e=none:=fun p=>by induction p with|z=>rfl|a p ih=>exact ih|b p ih=>exact ih|c p ih=>exact ih|d p ih=>exact ih
 show hget (hp i) .e=_
 rw[this];rfl,hK.c⟩
theorem RH.keep {K K':FH} {H H':List IBlk} (h:RH K H) (h':RH K' H'):RH ⟨K.t,K.n,K'.c⟩ H:=⟨h.n,h.le,h.at',h'.c⟩
def Memo (Γ:Prog) [Tabs] [Base] (e:ME):Prop:=∀args H,freezeAll H args=some e.a→CW Γ e.f args H=some (e.r,H)
section
variable [Tabs] [B:Base] {Γ:Prog}
theorem zaha {f:FuncId} {h:SFun} (hk:SFOK Γ f h) {F:FOr} (hF:FLe F (CW Γ)) {L:Nat} {args:List IVal} {K:FH} {H:List IBlk} (hH:RH K H) {k:IVal→FH→YR} {x:XS} (e:sfrun F L h args K k=some x) :
 ∃Fn v K' H',Γ f=some Fn∧h.pure=Fn.pure∧runBody (CW Γ) loopW Fn args H=some (v,H')∧RH K' H'∧k v K'=some x:=by
 obtain⟨Fn,an,ext,h1,h2,h3,h4,h5,h6,h7⟩:=hk.ok
 unfold sfrun at e
 rw[zap,h2]at e
 cases hn:Nat.beq args.length Fn.np with
 |false=>rw[hn]at e;cases e
 |true =>
  rw[hn]at e
  dsimp only at e
  have hn':=Nat.eq_of_beq_eq_true hn
  rw[h7]at e
  have hm0:RM ⟨[],K⟩ ⟨[],H⟩:=⟨rfl,hH⟩
  have hr:=zpr (show(slamV Fn.np _ args) ⟨[],K⟩=some x from e)
  rw[List.take_of_length_le (by omega)]at hr
  obtain⟨e',T',M',q1,q2⟩:=zcp hF (resSlots Fn.res) (yend h k) Fn.code hm0 hr (zabl hn' (Nat.le_of_ble_eq_true h5) h6)
  have q1:=zar (fun _ _ _ _ h=>h) (zaao (n:=L)) q1
  have key:∀vs m,yend h k vs m=some x→RM m M'→RelPS (resSlots Fn.res) vs T'→∃v K' H',(match Ideal.results ⟨T',M'⟩ Fn.res with|some v=>some (v,M'.heap)|none=>none)=some (v,H')∧RH K' H'∧k v K'=some x:=by
   intro vs m hx hm hp
   obtain⟨bx,t,n,mm⟩:=m
   have e:youtK ⟨bx,⟨t,n,mm⟩⟩ h.res vs (fun ws=>foutK ws fun v=>k v ⟨t,n,mm⟩)=some x:=hx
   rw[h3]at e
   obtain⟨ws,hy,e⟩:=zrq e
   rw[zavj]at e
   have hq:Ideal.results ⟨T',M'⟩ Fn.res=fout (some ws):=by
    show fout (allRes ⟨T',M'⟩ Fn.res)=_
    rw[zagz hm hp hy]
   rw[hq]
   cases hf:fout (some ws)with
   |none=>rw[hf]at e;cases e
   |some u =>
    rw[hf]at e
    exact⟨u,_,_,rfl,hm.h,e⟩
  have fin:∃v K' H',(match Ideal.results ⟨T',M'⟩ Fn.res with|some v=>some (v,M'.heap)|none=>none)=some (v,H')∧RH K' H'∧k v K'=some x∧(e' = .normal∨e' = .ret):=by
   cases e' with
   |normal =>
    obtain⟨E',m,hm,g1,g2⟩:=q2
    obtain⟨vs,g3,_,g4⟩:=zio g1 g2
    obtain⟨v,K',H',a,b,c⟩:=key vs m g3 hm g4
    exact⟨v,K',H',a,b,c, .inl rfl⟩
   |exit i =>
    obtain⟨l,j,vs,m,g1,_⟩:=q2
    cases g1
   |ret =>
    obtain⟨vs,m,g1,hm,_,g2⟩:=q2
    obtain⟨v,K',H',a,b,c⟩:=key vs m g1 hm g2
    exact⟨v,K',H',a,b,c, .inr rfl⟩
  obtain⟨v,K',H',a,b,d,c⟩:=fin
  refine⟨Fn,v,K',H',h1,h4,?_,b,d⟩
  unfold runBody
  rw[hn,q1]
  rcases c with c|c<;>(subst c;exact a)
theorem zanz {H H':FH} {HL HL':List IBlk} (hH:RH H HL) (hH':RH H' HL') {args:List IVal} {v:IVal} {k:IVal→FH→YR} {other:YR} {x:XS} (e:zback H H' args v k other=some x) :
 ∃r,freezeRes HL' v=some r∧(((plainArgs args||(scalRes r||freshRes HL' v))=true∧∃K,RH K HL∧k r K=some x)∨((plainArgs args||(scalRes r||freshRes HL' v))=false∧other=some x)):=by
 unfold zback at e
 rw[zars hH',zart hH']at e
 cases hz:freezeRes HL' v with
 |none=>rw[hz]at e;cases e
 |some r =>
  rw[hz]at e
  dsimp only at e
  refine⟨r,rfl,?_⟩
  cases hb:(plainArgs args||(scalRes r||freshRes HL' v))with
  |true=>rw[hb]at e;dsimp only at e;rw[zpi]at e;exact .inl ⟨rfl,_,hH.keep hH',e⟩
  |false=>rw[hb]at e;exact .inr ⟨rfl,e⟩
theorem zaoa (f:FuncId) (az:List IVal) {H H':FH} {HL HL':List IBlk} (hH:RH H HL) (hH':RH H' HL') {args:List IVal} {v:IVal} {k:IVal→FH→YR} {other:YR} {x:XS}
 (hok:∀r,freezeRes HL' v=some r→(scalRes r||freshRes HL' v)=true→Kept.ok ⟨f,az,r⟩) (e:mback f az H H' args v k other=some x) :
 ∃r,freezeRes HL' v=some r∧(((plainArgs args||(scalRes r||freshRes HL' v))=true∧∃K,RH K HL∧k r K=some x)∨((plainArgs args||(scalRes r||freshRes HL' v))=false∧other=some x)):=by
 unfold mback at e
 rw[zars hH',zart hH']at e
 cases hz:freezeRes HL' v with
 |none=>rw[hz]at e;cases e
 |some r =>
  rw[hz]at e
  dsimp only at e
  refine⟨r,rfl,?_⟩
  cases hb:(scalRes r||freshRes HL' v)with
  |true =>
   rw[hb]at e
   dsimp only at e
   rw[zpi]at e
   obtain⟨c',h1,h2⟩:=MT.OK.put (hok r hz hb) (mkey f) hH'.c
   have e:mputK ⟨f,az,r⟩ (mkey f) H'.c (fun c=>hkeep H c fun H=>k r H)=some x:=e
   rw[h2]at e
   exact .inl ⟨by simp,⟨H.t,H.n,c'⟩,⟨hH.n,hH.le,hH.at',h1⟩,e⟩
  |false =>
   rw[hb]at e
   dsimp only at e
   cases hp:plainArgs args with
   |true=>rw[hp]at e;dsimp only at e;rw[zpi]at e;exact .inl ⟨rfl,_,hH.keep hH',e⟩
   |false=>rw[hp]at e;exact .inr ⟨rfl,e⟩
theorem zavl (hM:∀e:ME,Kept.ok e↔Memo Γ e) {J:Nat→Option SFun} {D:FOr→FOr} {L:Nat} (hJ:∀f h,J f=some h→SFOK Γ f h) (hD:∀F:FOr,FLe F (CW Γ)→FLe (D F) (CW Γ)) {F:FOr} (hF:FLe F (CW Γ)):FLe (sstep J D L F) (CW Γ):=fun f args K H k x hH e=>by
 unfold sstep at e
 cases hj:J f with
 |none=>rw[hj]at e;exact hD _ hF _ _ _ _ _ _ hH e
 |some h =>
  rw[hj]at e
  have hk:=hJ f h hj
  have e:(Bool.rec (sfrun F L h args K k) (spure F L f h args K k) h.pure:YR)=some x:=e
  obtain⟨Fn,an,ext,g0,_,_,gp,_⟩:=hk.ok
  have run:∀ {az Ka Ha k x},RH Ka Ha→sfrun F L h az Ka k=some x→∃v K2 H2,runBody (CW Γ) loopW Fn az Ha=some (v,H2)∧RH K2 H2∧k v K2=some x:=fun {_ _ _ _ _} hq q=>by
   obtain⟨F',v,K2,H2,q1,_,q3,q4,q5⟩:=zaha hk hF hq q
   rw[g0]at q1
   injection q1 with q1
   rw[q1]
   exact⟨v,K2,H2,q3,q4,q5⟩
  cases hp:h.pure with
  |false =>
   rw[hp]at e
   obtain⟨v,K',H',h1,h2,h3⟩:=run hH e
   refine⟨v,K',H',CW_of ?_,h2,h3⟩
   unfold callBody
   simp only[g0]
   rw[← gp,hp]
   exact h1
  |true =>
   rw[hp]at e
   have e:spure F L f h args K k=some x:=e
   unfold spure at e
   rw[zado hH]at e
   cases ha:freezeAll H args with
   |none =>
    rw[ha]at e
    obtain⟨v,K',H',h1,h2,h3⟩:=run hH e
    refine⟨v,K',H',CW_of ?_,h2,h3⟩
    unfold callBody
    simp only[g0]
    rw[← gp,hp]
    dsimp only
    rw[ha]
    exact h1
   |some az =>
    rw[ha]at e
    have e:(Bool.rec (sfrun F L h az (hnew K) fun v H'=>zback K H' args v k (sfrun F L h args K k))
     (mlook f az (mtget (mkey f) K.c) (fun r=>k r K) (sfrun F L h az (hnew K) fun v H'=>mback f az K H' args v k (sfrun F L h args K k))) h.memo:YR)=some x:=e
    have fin:∀ {v H2},runBody (CW Γ) loopW Fn az []=some (v,H2)→(∃ r,freezeRes H2 v=some r∧(((plainArgs args||(scalRes r||freshRes H2 v))=true∧∃K,RH K H∧k r K=some x)∨((plainArgs args||(scalRes r||freshRes H2 v))=false∧sfrun F L h args K k=some x))) →
     ∃v h' H',CW Γ f args H=some (v,H')∧RH h' H'∧k v h'=some x:=by
     intro v H2 q1 ⟨r,z1,z2⟩
     rcases z2 with⟨z2,K',hK',z3⟩|⟨z2,z3⟩
     ·refine⟨r,K',H,CW_of ?_,hK',z3⟩
      unfold callBody
      simp only[g0]
      rw[← gp,hp]
      dsimp only
      rw[ha]
      dsimp only
      rw[q1]
      dsimp only
      rw[z1]
      dsimp only
      rw[z2]
     ·obtain⟨w,K',H',h1,h2,h3⟩:=run hH z3
      refine⟨w,K',H',CW_of ?_,h2,h3⟩
      unfold callBody
      simp only[g0]
      rw[← gp,hp]
      dsimp only
      rw[ha]
      dsimp only
      rw[q1]
      dsimp only
      rw[z1]
      dsimp only
      rw[z2]
      exact h1
    cases hm:h.memo with
    |false =>
     rw[hm]at e
     obtain⟨v,K2,H2,q1,q2,q3⟩:=run (RH.new hH) e
     exact fin q1 (zanz hH q2 q3)
    |true =>
     rw[hm]at e
     have e:mlook f az (mtget (mkey f) K.c) (fun r=>k r K) (sfrun F L h az (hnew K) fun v H'=>mback f az K H' args v k (sfrun F L h args K k))=some x:=e
     rcases zrr f az (fun r=>k r K) (sfrun F L h az (hnew K) fun v H'=>mback f az K H' args v k (sfrun F L h args K k)) (mtget (mkey f) K.c)with h0|⟨r,h1,h2⟩
     ·rw[h0]at e
      obtain⟨v,K2,H2,q1,q2,q3⟩:=run (RH.new hH) e
      refine fin q1 (zaoa f az hH q2 (fun r hr hs=>(hM _).2 fun args' H' ha'=>CW_of ?_) q3)
      unfold callBody
      simp only[g0]
      rw[← gp,hp]
      dsimp only
      rw[ha']
      dsimp only
      rw[q1]
      dsimp only
      rw[hr]
      dsimp only
      rw[hs,Bool.or_true]
     ·rw[h2]at e
      exact⟨r,K,H,(hM _).1 (MT.OK.get _ hH.c _ h1) args H ha,hH,e⟩
theorem zamp (hM:∀e:ME,Kept.ok e↔Memo Γ e) {J:Nat→Option SFun} {D:FOr→FOr} {L:Nat} (hJ:∀f h,J f=some h→SFOK Γ f h) (hD:∀F:FOr,FLe F (CW Γ)→FLe (D F) (CW Γ)):∀n,FLe (scall J D L n) (CW Γ)
 |0=>fun _ _ _ _ _ _ _ e=>(by cases e)
 |n+1=>zavl hM hJ hD (zamp hM hJ hD n)
end
inductive STr where
 |leaf
 |one (f:Nat) (h:SFun)
 |node (k:Nat) (a b:STr)
noncomputable def STr.look (t:STr) (f:Nat):Option SFun :=
 STr.rec (motive:=fun _=>Option SFun) none (fun g h=>Bool.rec none (some h) (Nat.beq f g)) (fun k _ _ a b=>Bool.rec b a (Nat.ble (Nat.succ f) k)) t
def STr.all (p:Nat→SFun→Prop):STr→Prop
 | .leaf=>True
 | .one g h=>p g h
 | .node _ a b=>a.all p∧b.all p
theorem STr.zij {p:Nat→SFun→Prop}:∀ {t:STr} {f:Nat} {h:SFun},t.all p→t.look f=some h→p f h
 | .leaf,_,_,_,e=>by cases e
 | .one g h,f,h',a,e=>by
   have e:(Bool.rec none (some h) (Nat.beq f g):Option SFun)=some h':=e
   cases hb:Nat.beq f g with
   |true=>rw[hb]at e;injection e with e;rw[Nat.eq_of_beq_eq_true hb,←e];exact a
   |false=>rw[hb]at e;cases e
 | .node k a b,f,h',p,e=>by
   have e:(Bool.rec (b.look f) (a.look f) (Nat.ble (Nat.succ f) k):Option SFun)=some h':=e
   cases hb:Nat.ble (Nat.succ f) k with
   |true=>rw[hb]at e;exact STr.zij p.1 e
   |false=>rw[hb]at e;exact STr.zij p.2 e
end Go.Ideal

/-
  IDEAL SEMANTICS, 76: WHAT STANDS AHEAD OF A RANGE OVER A MAP, over the memory as a tree.
-/
namespace Go.Ideal
open Go
set_option linter.unusedSectionVars false
variable [Kept]
variable [Tabs]
noncomputable def spre (R:RFun) (an:An) (sl ext:List Nat):FOr→Nat→(List IVal→SC)→List IVal→SC:=fun O L kr =>
 slamV R.np fun args=>tcode O L R.nt [] (fun _=>sstuck) [] R.cut.pre an (tfin kr sl) (zipSS (upto R.np 0) args++skips ext)
theorem zavm {R:RFun} {an:An} {sl ext:List Nat} {F:FOr} {C:Oracle} (hF:FLe F C) {L:Nat} {kr:List IVal→SC} {args:List IVal} {x:XS} (hn:args.length=R.np) (hle:R.np≤R.nt) (hk:skOK R.np R.nt ext=true)
 {K:FH} {HK:List IBlk} (hK:RH K HK) (h:spre R an sl ext F L kr args ⟨[],hnew K⟩=some x):∃vs m T M,kr vs m=some x∧evalCode C (loopN L) R.cut.pre ⟨args++List.replicate (R.nt-args.length) skipped,⟨[],[]⟩⟩=some (.normal,⟨T,M⟩)∧RM m M∧T.length=R.nt∧RelPS sl vs T:=by
 have hr:=zpr (show slamV R.np _ args ⟨[],hnew K⟩=some x from h)
 rw[List.take_of_length_le (by omega)]at hr
 obtain⟨e,T,M',q1,q2⟩:=zcp hF [] (fun _=>sstuck) R.cut.pre (M:=⟨[],[]⟩) ⟨rfl,RH.new hK⟩ hr (zabl hn hle hk)
 cases e with
 |normal =>
  obtain⟨E',m2,hm,g1,g2⟩:=q2
  obtain⟨ws,g3,_,g4⟩:=zio g1 g2
  exact⟨ws,m2,T,M',g3,q1,hm,g1.len,g4⟩
 |exit i =>
  obtain⟨l,j,ws,_,g1,_⟩:=q2
  cases g1
 |ret =>
  obtain⟨ws,_,g1,_⟩:=q2
  cases g1
end Go.Ideal
