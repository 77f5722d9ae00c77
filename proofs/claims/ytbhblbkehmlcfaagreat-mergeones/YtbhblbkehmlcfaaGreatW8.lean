/-
  IDEAL SEMANTICS, 75: FUNCTIONS, CALLS, over the memory as a tree.
-/
import Derived.Test.YtbhblbkehmlcfaaGreatW7
import Derived.Test.YtbhblbkehmlcfaaGreatW3
namespace Go.Ideal
open Go
set_option linter.unusedSectionVars false
variable [Kept]
structure SFun where
 np:Nat
 code:FOr→Nat→(List IVal→SC)→List IVal→SC
 res:List IRes
 pure:Bool
 memo:Bool
def skips:List Nat→SE
 | []=>[]
 |t::l=>(t,skipped)::skips l
def skOK (np nt:Nat):List Nat→Bool
 | []=>true
 |t::l=>Nat.ble np t&&(Nat.blt t nt&&skOK np nt l)
theorem zasd {A B:SE} {t:Nat}:sfind (A++B) t=match sfind A t with|some v=>some v|none=>sfind B t:=by
 induction A with
 |nil=>rfl
 |cons x A ih =>
  obtain⟨s,v⟩:=x
  simp only[List.cons_append,sfind]
  cases Nat.beq s t with
  |true=>rfl
  |false=>exact ih
theorem zams:∀(l:List IVal) (i t:Nat) (v:IVal),sfind (zipSS (upto l.length i) l) t=some v→i≤t∧l[t-i]? = some v
 | [],i,t,v,h=>by cases h
 |x::l,i,t,v,h=>by
  simp only[List.length_cons,upto,zipSS,sfind]at h
  cases hb:Nat.beq i t with
  |true =>
   rw[hb]at h
   have:=Nat.eq_of_beq_eq_true hb
   subst this
   injection h with h
   subst h
   exact⟨Nat.le_refl _,by simp⟩
  |false =>
   rw[hb]at h
   have hne:i≠t:=fun e=>by rw[e,Nat.beq_refl]at hb;cases hb
   obtain⟨h1,h2⟩:=zams l (i+1) t v h
   exact⟨by omega,by rw[show t-i=(t-(i+1))+1 by omega,List.getElem?_cons_succ];exact h2⟩
theorem zabd {np nt:Nat}:∀ {l:List Nat},skOK np nt l=true→∀ {t:Nat} {v:IVal},sfind (skips l) t=some v→np≤t∧t<nt∧v=skipped
 | [],_,t,v,h=>by cases h
 |s::l,hk,t,v,h=>by
  simp only[skOK,Bool.and_eq_true,Nat.blt_eq]at hk
  simp only[skips,sfind]at h
  cases hb:Nat.beq s t with
  |true =>
   rw[hb]at h
   have:=Nat.eq_of_beq_eq_true hb
   subst this
   injection h with h
   exact⟨Nat.le_of_ble_eq_true hk.1,hk.2.1,h.symm⟩
  |false=>rw[hb]at h;exact zabd hk.2.2 h
theorem zabe {np nt:Nat} {args:List IVal} {ext:List Nat} (hn:args.length=np) (hle:np≤nt) (hk:skOK np nt ext=true):RelTS nt (zipSS (upto np 0) args++skips ext) (args++List.replicate (nt-args.length) skipped):=by
 refine⟨by simp;omega,fun t v e=>?_⟩
 rw[zasd]at e
 split at e
 ·rename_i u hu
  injection e with e
  subst e
  rw[← hn]at hu
  obtain⟨_,h2⟩:=zams args 0 t u hu
  rw[Nat.sub_zero]at h2
  rw[List.getElem?_append_left (List.getElem?_eq_some_iff.1 h2).1]
  exact h2
 ·obtain⟨h1,h2,rfl⟩:=zabd hk e
  rw[List.getElem?_append_right (by omega),List.getElem?_replicate,if_pos (by omega)]
noncomputable def zlist (g:IVal→Option PVal) (l:List IVal):Option (List PVal):=List.rec (motive:=fun _=>Option (List PVal)) (some []) (fun v _ ih=>Option.rec (motive:=fun _=>Option (List PVal)) none (fun x=>Option.rec (motive:=fun _=>Option (List PVal)) none (fun l=>some (x::l)) ih) (g v)) l
theorem zadi {g f:IVal→Option PVal} (h:∀v,g v=f v):∀l,zlist g l=freezeList f l
 | []=>rfl
 |v::r=>by
  rw[freezeList,←h v,←zadi h r]
  show(Option.rec (motive:=fun _=>Option (List PVal)) none (fun x=>Option.rec (motive:=fun _=>Option (List PVal)) none (fun l=>some (x::l)) (zlist g r)) (g v):Option (List PVal))=_
  cases g v with
  |none=>rfl
  |some x=>cases zlist g r<;>rfl
noncomputable def hfetch (h:FH) (i:Nat):Option IBlk:=fhopen h fun t n _=>Bool.rec none (hget (hp i) t) (Nat.ble (Nat.succ i) n)
theorem zhk {h:FH} {H:List IBlk} (hh:RH h H) (i:Nat):hfetch h i=H[i]? := zamg (m:=⟨[],h⟩) (M:=⟨[],H⟩) ⟨rfl,hh⟩ i
noncomputable def zcell (h:FH) (n:Nat):IVal→Option PVal :=
 Nat.rec (motive:=fun _=>IVal→Option PVal) (fun _=>none) (fun _ ih v=>match v with
  | .p v=>some v
  | .slice k ver off len=>match hfetch h k with
    |some (.cells cs e w _)=>match Nat.beq ver w&&Nat.ble (off+len*e) (llen cs)with
     |true=>match zlist ih (ltake (len*e) (ldrop off cs))with
      |some l=>some (.slice e len l)
      |none=>none
     |false=>none
    |_=>none
  |_=>none) n
theorem zadj {h:FH} {H:List IBlk} (hh:RH h H):∀n v,zcell h n v=freezeCell H n v
 |0,v=>rfl
 |n+1,v=>by
  cases v with
  |slice k ver off len =>
   show(match hfetch h k with
   |some (.cells cs e w _)=>match Nat.beq ver w&&Nat.ble (off+len*e) (llen cs)with
    |true=>match zlist (zcell h n) (ltake (len*e) (ldrop off cs))with
     |some l=>some (PVal.slice e len l)
     |none=>none
    |false=>none
   |_=>none)=_
   rw[freezeCell,zhk hh]
   simp only[zaf,zdz,zbg,zadi (zadj hh n)]
   rfl
  |_=>rfl
noncomputable def zone (h:FH) (v:IVal):Option IVal :=
 match v with
 | .p v=>some (.p v)
 | .agg cs=>match zlist (zcell h 100) cs with
   |some l=>some (.agg (gpc l))
   |none=>none
 |v=>match zcell h 100 v with
  |some x=>some (.p x)
  |none=>none
theorem zase {h:FH} {H:List IBlk} (hh:RH h H) (v:IVal):zone h v=freezeOne H v:=by
 cases v with
 |p v=>rfl
 |agg cs =>
  show(match zlist (zcell h 100) cs with|some l=>some (IVal.agg (gpc l))|none=>none)=_
  rw[zadi (zadj hh 100)]
  simp only[zep]
  rfl
 |_=>(simp only[zone,freezeOne,zadj hh];rfl)
noncomputable def zall (h:FH) (l:List IVal):Option (List IVal):=List.rec (motive:=fun _=>Option (List IVal)) (some []) (fun v _ ih=>Option.rec (motive:=fun _=>Option (List IVal)) none (fun x=>Option.rec (motive:=fun _=>Option (List IVal)) none (fun l=>some (x::l)) ih) (zone h v)) l
theorem zadk {h:FH} {H:List IBlk} (hh:RH h H):∀l,zall h l=freezeAll H l
 | []=>rfl
 |v::r=>by
  rw[freezeAll,←zase hh v,←zadk hh r]
  show(Option.rec (motive:=fun _=>Option (List IVal)) none (fun x=>Option.rec (motive:=fun _=>Option (List IVal)) none (fun l=>some (x::l)) (zall h r)) (zone h v):Option (List IVal))=_
  cases zone h v with
  |none=>rfl
  |some x=>cases zall h r<;>rfl
noncomputable def zres (h:FH) (v:IVal):Option IVal :=
 match v with
 | .tup vs=>match zall h vs with
   |some l=>some (.tup l)
   |none=>none
 |v=>zone h v
theorem zasf {h:FH} {H:List IBlk} (hh:RH h H) (v:IVal):zres h v=freezeRes H v:=by
 cases v with
 |tup vs=>show(match zall h vs with|some l=>some (IVal.tup l)|none=>none)=_;rw[zadk hh];rfl
 |_=>(simp only[zres,freezeRes,zase hh])
noncomputable def nlist (g:IVal→Bool) (l:List IVal):Bool:=List.rec (motive:=fun _=>Bool) true (fun v _ ih=>Bool.rec false ih (g v)) l
theorem zuh {g f:IVal→Bool} (h:∀v,g v=f v):∀l,nlist g l=freshCells f l
 | []=>rfl
 |v::r=>by
  rw[freshCells,←h v,←zuh h r]
  show(Bool.rec false (nlist g r) (g v):Bool)=_
  cases g v<;>rfl
noncomputable def ncell (h:FH) (n:Nat):IVal→Bool :=
 Nat.rec (motive:=fun _=>IVal→Bool) (fun _=>false) (fun _ ih v=>match v with
  | .p (.bool _) | .p (.int _ _) | .p (.str _) | .p .nilslice | .p .nilptr=>true
  | .slice k _ off len=>match hfetch h k with
    |some (.cells cs e _ _)=>nlist ih (ltake (len*e) (ldrop off cs))
    |_=>false
  |_=>false) n
theorem zadl {h:FH} {H:List IBlk} (hh:RH h H):∀n v,ncell h n v=freshCell H n v
 |0,v=>rfl
 |n+1,v=>by
  cases v with
  |p u=>cases u<;>rfl
  |slice k ver off len =>
   show(match hfetch h k with
   |some (.cells cs e _ _)=>nlist (ncell h n) (ltake (len*e) (ldrop off cs))
   |_=>false)=_
   rw[freshCell,zhk hh]
   simp only[zdz,zbg,zuh (zadl hh n)]
   rfl
  |_=>rfl
noncomputable def none1 (h:FH) (v:IVal):Bool :=
 match v with
 | .agg cs=>nlist (ncell h 100) cs
 |v=>ncell h 100 v
theorem zamt {h:FH} {H:List IBlk} (hh:RH h H) (v:IVal):none1 h v=freshOne H v:=by
 cases v with
 |agg cs=>exact zuh (zadl hh 100) cs
 |_=>(simp only[none1,freshOne,zadl hh])
noncomputable def nres (h:FH) (v:IVal):Bool :=
 match v with
 | .tup vs=>nlist (none1 h) vs
 |v=>none1 h v
theorem zasg {h:FH} {H:List IBlk} (hh:RH h H) (v:IVal):nres h v=freshRes H v:=by
 cases v with
 |tup vs=>exact zuh (zamt hh) vs
 |_=>(simp only[nres,freshRes,zamt hh])
noncomputable def pqB (w:PVal) (f:Bool→Bool):Bool:=PVal.rec (motive_1:=fun _=>Bool) (motive_2:=fun _=>PUnit) f (fun _ _=>false) (fun _=>false) (fun _ _ _ _=>false) (fun _ _=>false) (fun _=>false) false false false false false ⟨⟩ (fun _ _ _ _=>⟨⟩) w
noncomputable def pqI (w:PVal) (f:IntKind→Int→Bool):Bool:=PVal.rec (motive_1:=fun _=>Bool) (motive_2:=fun _=>PUnit) (fun _=>false) f (fun _=>false) (fun _ _ _ _=>false) (fun _ _=>false) (fun _=>false) false false false false false ⟨⟩ (fun _ _ _ _=>⟨⟩) w
noncomputable def pqS (w:PVal) (f:List UInt8→Bool):Bool:=PVal.rec (motive_1:=fun _=>Bool) (motive_2:=fun _=>PUnit) (fun _=>false) (fun _ _=>false) f (fun _ _ _ _=>false) (fun _ _=>false) (fun _=>false) false false false false false ⟨⟩ (fun _ _ _ _=>⟨⟩) w
noncomputable def pqL (w:PVal) (f:Nat→Nat→List PVal→Bool):Bool:=PVal.rec (motive_1:=fun _=>Bool) (motive_2:=fun _=>PUnit) (fun _=>false) (fun _ _=>false) (fun _=>false) (fun e n cs _=>f e n cs) (fun _ _=>false) (fun _=>false) false false false false false ⟨⟩ (fun _ _ _ _=>⟨⟩) w
noncomputable def pqN (w:PVal):Bool:=PVal.rec (motive_1:=fun _=>Bool) (motive_2:=fun _=>PUnit) (fun _=>false) (fun _ _=>false) (fun _=>false) (fun _ _ _ _=>false) (fun _ _=>false) (fun _=>false) false true false false false ⟨⟩ (fun _ _ _ _=>⟨⟩) w
noncomputable def ieq (a b:Int):Bool:=Int.rec (motive:=fun _=>Bool) (fun m=>Int.rec (motive:=fun _=>Bool) (fun n=>Nat.beq m n) (fun _=>false) b) (fun m=>Int.rec (motive:=fun _=>Bool) (fun _=>false) (fun n=>Nat.beq m n) b) a
theorem zbib {a b:Int} (h:ieq a b=true):a=b:=by
 cases a<;>cases b<;>first|(cases h;done)|exact congrArg _ (Nat.eq_of_beq_eq_true h)
noncomputable def peq (v:PVal):PVal→Bool :=
 PVal.rec (motive_1:=fun _=>PVal→Bool) (motive_2:=fun _=>List PVal→Bool)
  (fun b w=>pqB w fun c=>Bool.rec (gnot c) c b)
  (fun k n w=>pqI w fun l m=>Bool.rec false (kbeq k l) (ieq n m))
  (fun s w=>pqS w fun t=>gstr s t)
  (fun e n _ ih w=>pqL w fun f m ds=>Bool.rec false (Bool.rec false (ih ds) (Nat.beq e f)) (Nat.beq n m))
  (fun _ _ _=>false) (fun _ _=>false) (fun _=>false) (fun w=>pqN w) (fun _=>false) (fun _=>false) (fun _=>false)
  (fun m=>List.rec (motive:=fun _=>Bool) true (fun _ _ _=>false) m)
  (fun _ _ ih ihl m=>List.rec (motive:=fun _=>Bool) false (fun w ws _=>Bool.rec false (ihl ws) (ih w)) m) v
noncomputable def peqs (l:List PVal):List PVal→Bool:=fun m=>peq (.slice 0 0 l) (.slice 0 0 m)
theorem zawb {w:PVal} {f:Nat→Nat→List PVal→Bool} (h:pqL w f=true):∃e n cs,w = .slice e n cs∧f e n cs=true:=by
 cases w<;>first|exact⟨_,_,_,rfl,h⟩|cases h
theorem zaya:∀n:Nat,(∀ v w:PVal,SizeOf.sizeOf v≤n→peq v w=true→v=w)∧(∀ l m:List PVal,SizeOf.sizeOf l≤n→peqs l m=true→l=m):=by
 intro n
 induction n with
 |zero =>
  refine⟨fun v w hs _=>?_,fun l m hs _=>?_⟩
  ·exfalso;cases v<;>simp at hs
  ·exfalso;cases l<;>simp at hs
 |succ n ih =>
  obtain⟨ih1,ih2⟩:=ih
  refine⟨fun v w hs h=>?_,fun l m hs h=>?_⟩
  ·cases v with
   |bool b =>
    cases w<;>first|(cases h;done)|skip
    rename_i c
    cases b<;>cases c<;>first|rfl|cases h
   |int k a =>
    cases w<;>first|(cases h;done)|skip
    rename_i l b
    have h:(Bool.rec false (kbeq k l) (ieq a b):Bool)=true:=h
    cases hb:ieq a b with
    |false=>rw[hb]at h;cases h
    |true =>
     rw[hb]at h
     have h:kbeq k l=true:=h
     rw[zvr]at h
     rw[zbib hb,of_decide_eq_true h]
   |str s =>
    cases w<;>first|(cases h;done)|skip
    rename_i t
    have h:gstr s t=true:=h
    rw[zvy]at h
    rw[of_decide_eq_true h]
   |slice e k cs =>
    obtain⟨f,m,ds,rfl,h2⟩:=zawb (show pqL w _=true from h)
    cases hm:Nat.beq k m with
    |false=>rw[hm]at h2;cases h2
    |true =>
     rw[hm]at h2
     have h:(Bool.rec false (peqs cs ds) (Nat.beq e f):Bool)=true:=h2
     cases hf:Nat.beq e f with
     |false=>rw[hf]at h;cases h
     |true =>
      rw[hf]at h
      have:=ih2 cs ds (by simp at hs;omega) h
      rw[Nat.eq_of_beq_eq_true hm,Nat.eq_of_beq_eq_true hf,this]
   |nilslice=>cases w<;>first|rfl|cases h
   |_=>cases h
  ·cases l with
   |nil=>cases m<;>first|rfl|cases h
   |cons x l =>
    cases m with
    |nil=>cases h
    |cons y m =>
     have h:(Bool.rec false (peqs l m) (peq x y):Bool)=true:=h
     cases hb:peq x y with
     |false=>rw[hb]at h;cases h
     |true =>
      rw[hb]at h
      rw[ih1 x y (by simp at hs;omega) hb,ih2 l m (by simp at hs;omega) h]
noncomputable def toAP (w:IVal) (f:PVal→Bool):Bool:=IVal.rec (motive_1:=fun _=>Bool) (motive_2:=fun _=>PUnit) f (fun _ _ _=>false) (fun _ _ _ _=>false) (fun _=>false) (fun _ _ _=>false) (fun _ _=>false) (fun _ _=>false) false (fun _=>false) (fun _ _ _ _=>false) ⟨⟩ (fun _ _ _ _=>⟨⟩) w
noncomputable def toAA (w:IVal) (f:List IVal→Bool):Bool:=IVal.rec (motive_1:=fun _=>Bool) (motive_2:=fun _=>PUnit) (fun _=>false) (fun _ _ _=>false) (fun _ _ _ _=>false) (fun _=>false) (fun _ _ _=>false) (fun cs _=>f cs) (fun _ _=>false) false (fun _=>false) (fun _ _ _ _=>false) ⟨⟩ (fun _ _ _ _=>⟨⟩) w
noncomputable def ceqs (l:List IVal):List IVal→Bool :=
 List.rec (motive:=fun _=>List IVal→Bool) (fun m=>List.rec (motive:=fun _=>Bool) true (fun _ _ _=>false) m) (fun x _ ih m=>List.rec (motive:=fun _=>Bool) false (fun y ys _=>Bool.rec false (ih ys) (toAP x fun p=>toAP y fun q=>peq p q)) m) l
noncomputable def veq (v w:IVal):Bool:=IVal.rec (motive_1:=fun _=>Bool) (motive_2:=fun _=>PUnit) (fun p=>toAP w fun q=>peq p q) (fun _ _ _=>false) (fun _ _ _ _=>false) (fun _=>false) (fun _ _ _=>false) (fun cs _=>toAA w fun ds=>ceqs cs ds) (fun _ _=>false) false (fun _=>false) (fun _ _ _ _=>false) ⟨⟩ (fun _ _ _ _=>⟨⟩) v
noncomputable def veqs (l:List IVal):List IVal→Bool :=
 List.rec (motive:=fun _=>List IVal→Bool) (fun m=>List.rec (motive:=fun _=>Bool) true (fun _ _ _=>false) m) (fun x _ ih m=>List.rec (motive:=fun _=>Bool) false (fun y ys _=>Bool.rec false (ih ys) (veq x y)) m) l
theorem zwy {w:IVal} {f:PVal→Bool} (h:toAP w f=true):∃p,w = .p p∧f p=true:=by
 cases w<;>first|exact⟨_,rfl,h⟩|cases h
theorem zash {w:IVal} {f:List IVal→Bool} (h:toAA w f=true):∃p,w = .agg p∧f p=true:=by
 cases w<;>first|exact⟨_,rfl,h⟩|cases h
theorem zasi:∀ {l m:List IVal},ceqs l m=true→l=m
 | [],[],_=>rfl
 | [],_::_,h=>by cases h
 |_::_,[],h=>by cases h
 |x::l,y::m,h=>by
  have h:(Bool.rec false (ceqs l m) (toAP x fun p=>toAP y fun q=>peq p q):Bool)=true:=h
  cases hb:(toAP x fun p=>toAP y fun q=>peq p q)with
  |false=>rw[hb]at h;cases h
  |true =>
   rw[hb]at h
   obtain⟨p,e1,hb1⟩:=zwy hb
   obtain⟨q,e2,hb2⟩:=zwy hb1
   rw[e1,e2,(zaya _).1 p q (Nat.le_refl _) hb2,zasi (show ceqs l m=true from h)]
theorem zbic {v w:IVal} (h:veq v w=true):v=w:=by
 cases v<;>first|(cases h;done)|skip
 ·obtain⟨q,rfl,hb⟩:=zwy (show toAP w _=true from h)
  rw[(zaya _).1 _ q (Nat.le_refl _) hb]
 ·obtain⟨q,rfl,hb⟩:=zash (show toAA w _=true from h)
  rw[zasi hb]
theorem zasj:∀ {l m:List IVal},veqs l m=true→l=m
 | [],[],_=>rfl
 | [],_::_,h=>by cases h
 |_::_,[],h=>by cases h
 |x::l,y::m,h=>by
  have h:(Bool.rec false (veqs l m) (veq x y):Bool)=true:=h
  cases hb:veq x y with
  |false=>rw[hb]at h;cases h
  |true =>
   rw[hb]at h
   rw[zbic hb,zasj (show veqs l m=true from h)]
section
variable {R:Type}
noncomputable def mlook (f:FuncId) (az:List IVal) (l:List ME) (k:IVal→R) (other:R):R :=
 List.rec (motive:=fun _=>R) other (fun e _ ih=>ME.rec (motive:=fun _=>R) (fun g a r=>Bool.rec ih (Bool.rec ih (k r) (veqs az a)) (Nat.beq g f)) e) l
theorem zrm (f:FuncId) (az:List IVal) (k:IVal→R) (other:R):∀l:List ME,mlook f az l k other=other∨∃r,⟨f,az,r⟩∈l∧mlook f az l k other=k r
 | []=>.inl rfl
 |⟨g,a,r⟩::l=>by
  have h:mlook f az (⟨g,a,r⟩::l) k other=(Bool.rec (mlook f az l k other) (Bool.rec (mlook f az l k other) (k r) (veqs az a)) (Nat.beq g f):R):=rfl
  rw[h]
  have ih:=zrm f az k other l
  have ih':mlook f az l k other=other∨∃r',⟨f,az,r'⟩∈(⟨g,a,r⟩:ME)::l∧mlook f az l k other=k r':=by
   rcases ih with ih|⟨r',h1,h2⟩
   ·exact .inl ih
   ·exact .inr ⟨r',List.mem_cons_of_mem _ h1,h2⟩
  cases hg:Nat.beq g f with
  |false=>exact ih'
  |true =>
   cases ha:veqs az a with
   |false=>exact ih'
   |true =>
    have h1:=Nat.eq_of_beq_eq_true hg
    have h2:=zasj ha
    subst h1 h2
    exact .inr ⟨r,List.mem_cons_self,rfl⟩
end
noncomputable def mkey (f:FuncId):HP:=hp f
noncomputable def hnew (H:FH):FH:=fhopen H fun _ _ c=>⟨.e,0,c⟩
theorem RH.new {K:FH} {H:List IBlk} (hK:RH K H):RH (hnew K) []:=⟨rfl,by simp,fun i hi=>by
 have:∀p:HP,hget p .e=none:=fun p=>by induction p with|z=>rfl|a p ih=>exact ih|b p ih=>exact ih|c p ih=>exact ih|d p ih=>exact ih
 show hget (hp i) .e=_
 rw[this];rfl,hK.c⟩
theorem RH.keep {K K':FH} {H H':List IBlk} (h:RH K H) (h':RH K' H'):RH ⟨K.t,K.n,K'.c⟩ H:=⟨h.n,h.le,h.at',h'.c⟩
def Memo (Γ:Prog) [Tabs] [Base] (e:ME):Prop:=∀args H,freezeAll H args=some e.a→CW Γ e.f args H=some (e.r,H)
section
variable [Tabs] [B:Base] {Γ:Prog}
end
inductive STr where
 |leaf
 |one (f:Nat) (h:SFun)
 |node (k:Nat) (a b:STr)
noncomputable def STr.look (t:STr) (f:Nat):Option SFun :=
 STr.rec (motive:=fun _=>Option SFun) none (fun g h=>Bool.rec none (some h) (Nat.beq f g)) (fun k _ _ a b=>Bool.rec b a (Nat.ble (Nat.succ f) k)) t
def STr.all (p:Nat→SFun→Prop):STr→Prop
 | .leaf=>True
 | .one g h=>p g h
 | .node _ a b=>a.all p∧b.all p
theorem STr.zdy {p:Nat→SFun→Prop}:∀ {t:STr} {f:Nat} {h:SFun},t.all p→t.look f=some h→p f h
 | .leaf,_,_,_,e=>by cases e
 | .one g h,f,h',a,e=>by
   have e:(Bool.rec none (some h) (Nat.beq f g):Option SFun)=some h':=e
   cases hb:Nat.beq f g with
   |true=>rw[hb]at e;injection e with e;rw[Nat.eq_of_beq_eq_true hb,←e];exact a
   |false=>rw[hb]at e;cases e
 | .node k a b,f,h',p,e=>by
   have e:(Bool.rec (b.look f) (a.look f) (Nat.ble (Nat.succ f) k):Option SFun)=some h':=e
   cases hb:Nat.ble (Nat.succ f) k with
   |true=>rw[hb]at e;exact STr.zdy p.1 e
   |false=>rw[hb]at e;exact STr.zdy p.2 e
end Go.Ideal

/-
  IDEAL SEMANTICS, 86: CODE; FUNCTIONS; CALLS, what is remembered.
-/
namespace Go.Ideal
open Go
set_option linter.unusedSectionVars false
variable [Kept]
section
variable {F:WO} {C:Oracle} {L nt:Nat}
theorem zabf {v:IVal} {a b:WR} {x:WX} (h:wcond v a b=some x):(v = .p (.bool true)∧a=some x)∨(v = .p (.bool false)∧b=some x):=by
 obtain⟨t,rfl,h2⟩:=zact (f:=fun t=>wif t a b) h
 cases t with
 |true=>exact .inl ⟨rfl,h2⟩
 |false=>exact .inr ⟨rfl,h2⟩
theorem zci (hF:WLe F C) (kr:SE→WC):∀(c:ICode) {Δ:List TE} {an:WA} {k:SE→WC} {E:SE} {T:List IVal} {G:Gh} {m:WM} {M:Mem} {x:WX},RW G m M→(wcode F L nt kr Δ c an k E) m=some x→RelTS nt E T →
 ∃e T' M',evalCode C (loopN L) c ⟨T,M⟩=some (e,⟨T',M'⟩)∧EndW nt kr Δ k x e T' M'
 | .skip,Δ,an,k,E,T,G,m,M,x,hm,h,hE=>by
   cases an<;>exact⟨.normal,T,M,rfl,E,m,G,hm,hE,by simpa only[wcode]using h⟩
 | .seq a b,Δ,an,k,E,T,G,m,M,x,hm,h,hE=>by
   cases an with
   |sq y z =>
    simp only[wcode]at h
    obtain⟨e,T',M',h1,h2⟩:=zci hF kr a hm h hE
    rw[evalCode,h1]
    cases e with
    |normal =>
     obtain⟨E',m2,G2,hm2,h3,h4⟩:=h2
     exact zci hF kr b hm2 h4 h3
    |exit i=>exact⟨_,_,_,rfl,h2⟩
    |ret=>exact⟨_,_,_,rfl,h2⟩
   |_=>simp only[wcode]at h;cases h
 | .cond c a b,Δ,an,k,E,T,G,m,M,x,hm,h,hE=>by
   cases an with
   |cj y z =>
    simp only[wcode]at h
    split at h
    ·rename_i v hv
     have hev:evalOpd T [] [] c=v:=zcd (zrk T [] []) hE.s hv
     rw[evalCode,hev]
     rcases zabf h with⟨rfl,h2⟩|⟨rfl,h2⟩
     ·exact zci hF kr a hm h2 hE
     ·exact zci hF kr b hm h2 hE
    ·cases h
   |cd J y z =>
    simp only[wcode]at h
    split at h
    ·rename_i v hv
     have hev:evalOpd T [] [] c=v:=zcd (zrk T [] []) hE.s hv
     rw[evalCode,hev]
     have fin:∀e' T' M2,EndW nt kr Δ (jgo J (jto J k)) x e' T' M2→EndW nt kr Δ k x e' T' M2:=by
      intro e' T' M2 hq
      cases e' with
      |normal =>
       obtain⟨E',m2,G2,hm2,g1,g2⟩:=hq
       obtain⟨E3,m3,G3,g3,g4,g5,_⟩:=zadh g1 hm2 g2
       exact⟨E3,m3,G3,g5,g4,g3⟩
      |exit i=>exact hq
      |ret=>exact hq
     rcases zabf (show wcond v (wcode F L nt kr Δ a y (jgo J (jto J k)) E m) (wcode F L nt kr Δ b z (jgo J (jto J k)) E m)=some x from h)with⟨rfl,h2⟩|⟨rfl,h2⟩
     ·obtain⟨e',T',M2,q1,q2⟩:=zci hF kr a hm h2 hE
      exact⟨e',T',M2,q1,fin _ _ _ q2⟩
     ·obtain⟨e',T',M2,q1,q2⟩:=zci hF kr b hm h2 hE
      exact⟨e',T',M2,q1,fin _ _ _ q2⟩
    ·cases h
   |_=>simp only[wcode]at h;cases h
 | .block id mk c,Δ,an,k,E,T,G,m,M,x,hm,h,hE=>by
   cases an with
   |bk J y =>
    simp only[wcode]at h
    split at h
    ·rename_i hmk
     have h:wcode F L nt kr (⟨id,J,jto J k⟩::Δ) c y (jgo J (jto J k)) E m=some x:=h
     obtain⟨e',T',M2,q1,q2⟩:=zci hF kr c hm h hE
     rw[evalCode,q1]
     cases e' with
     |normal =>
      obtain⟨E',m2,G2,hm2,g1,g2⟩:=q2
      obtain⟨E3,m3,G3,g3,g4,g5,_⟩:=zadh g1 hm2 g2
      exact⟨_,_,_,rfl,E3,m3,G3,g5,g4,g3⟩
     |exit i =>
      obtain⟨te,E',m2,G2,g1,g2,hm2,g3⟩:=q2
      dsimp only
      simp only[tefind]at g1
      cases hb:Nat.beq i id with
      |true =>
       have hb':Nat.beq id i=true:=by have:=Nat.eq_of_beq_eq_true hb;subst this;exact Nat.beq_refl _
       rw[hb']at g1
       injection g1 with g1
       subst g1
       obtain⟨E3,m3,G3,g4,_,g5,g6⟩:=zadh g3 hm2 g2
       exact⟨_,_,_,rfl,E3,m3,G3,g5,g6 mk hmk,g4⟩
      |false =>
       have hb':Nat.beq id i=false:=by
        cases hq:Nat.beq id i with
        |true=>rw[Nat.eq_of_beq_eq_true hq,Nat.beq_refl]at hb;cases hb
        |false=>rfl
       rw[hb']at g1
       exact⟨_,_,_,rfl,te,E',m2,G2,g1,g2,hm2,g3⟩
     |ret=>exact⟨_,_,_,rfl,q2⟩
    ·cases h
   |_=>simp only[wcode]at h;cases h
 | .loop mk c,Δ,an,k,E,T,G,m,M,x,hm,h,hE=>by
   cases an with
   |lp J y =>
    simp only[wcode]at h
    split at h
    ·rename_i hmk
     have ih:=fun(k:SE→WC) E G m M x (hm:RW G m M) (h:(wcode F L nt kr Δ c y k E) m=some x) T (hT:RelTS nt E T)=>zci hF kr c hm h hT
     have key:∀(n:Nat) (E:SE) (G:Gh) (m:WM) (M:Mem) (T:List IVal),RW G m M→jgo J (wloop (jnone J) (fun j=>jto J (wcode F L nt kr Δ c y (jgo J j))) n) E m=some x→RelTS nt E T →
      ∃e T' M',loopN n (fun S=>evalCode C (loopN L) c ⟨maskT mk S.T,S.M⟩) ⟨T,M⟩=some (e,⟨T',M'⟩)∧EndW nt kr Δ k x e T' M':=by
      intro n
      induction n with
      |zero =>
       intro E G m M T _ h _
       obtain⟨E',b',h1,_⟩:=zpo (show japp J (jlam J fun _ _ _=>none) E m=some x from h)
       cases h1
      |succ n ihn =>
       intro E G m M T hm h hE
       obtain⟨E',m',G',g1,g2,g3,g4⟩:=zadh (k:=wcode F L nt kr Δ c y (jgo J (wloop (jnone J) (fun j=>jto J (wcode F L nt kr Δ c y (jgo J j))) n))) hE hm h
       obtain⟨e',T',M3,q1,q2⟩:=ih _ _ _ _ _ _ g3 g1 _ (g4 mk hmk)
       rw[loopN,q1]
       cases e' with
       |normal =>
        obtain⟨E2,m2,G2,hm2,p1,p2⟩:=q2
        exact ihn _ _ _ _ _ hm2 p2 p1
       |exit i=>exact⟨_,_,_,rfl,q2⟩
       |ret=>exact⟨_,_,_,rfl,q2⟩
     rw[evalCode]
     exact key L E G m M T hm h hE
    ·cases h
   |_=>simp only[wcode]at h;cases h
 | .exit i,Δ,an,k,E,T,G,m,M,x,hm,h,hE=>by
   have h:(match tefind Δ i with|some e=>jgo e.J e.j E m|none=>none)=some x:=by cases an<;>(simp only[wcode]at h;exact h)
   split at h
   ·rename_i e he
    exact⟨.exit i,T,M,rfl,e,E,m,G,he,h,hm,hE⟩
   ·cases h
 | .ret,Δ,an,k,E,T,G,m,M,x,hm,h,hE=>by
   have h:kr E m=some x:=by cases an<;>(simp only[wcode]at h;exact h)
   exact⟨.ret,T,M,rfl,E,m,G,h,hm,hE⟩
 | .reg fr ops,Δ,an,k,E,T,G,m,M,x,hm,h,hE=>by
   cases an with
   |rg hs =>
    simp only[wcode]at h
    obtain⟨T1,M1,m1,h1,h2,hm1,h3⟩:=zhj (c:=fun m=>wreg F nt k hs ops E m) hm h hE
    obtain⟨T2,M2,m2,E2,h4,h5,hm2,h6⟩:=zadf hF hm1 h3 h2
    rw[evalCode,h1,h4]
    exact⟨.normal,T2,M2,rfl,E2,m2,G,hm2,h5,h6⟩
   |_=>simp only[wcode]at h;cases h
 | .draw fr ops pl,Δ,an,k,E,T,G,m,M,x,hm,h,hE=>by
   cases an with
   |rg hs =>
    simp only[wcode]at h
    obtain⟨T1,M1,m1,h1,h2,hm1,h3⟩:=zhj (c:=fun m=>wdraw F nt hs ops pl k E m) hm h hE
    obtain⟨T2,M2,m2,E2,h4,h5,hm2,h6⟩:=zasc hF h2 hm1 h3
    rw[evalCode,h1,h4]
    exact⟨.normal,T2,M2,rfl,E2,m2,G,hm2,h5,h6⟩
   |_=>simp only[wcode]at h;cases h
end
abbrev KC:=WO→Nat→List IVal→FH→(IVal→FH→WR)→WR
structure KFun where
 code:KC
 pure:Bool
 memo:Bool
noncomputable def wres:List IRes→SE→WM→(List IVal→WR)→WR
 | [],_,_,k=>k []
 | .tmp t::r,E,m,k=>match sfind E t with
   |some v=>wres r E m fun l=>k (v::l)
   |none=>none
 | .cell t n::r,E,m,k=>match sfind E t with
   |some v=>zac n v m fun u=>wres r E m fun l=>k (u::l)
   |none=>none
theorem zwz {nt:Nat} {E:SE} {T:List IVal} {G:Gh} {m:WM} {M:Mem} (hE:RelTS nt E T) (hm:RW G m M) {x:WX}:∀ {l:List IRes} {k:List IVal→WR},wres l E m k=some x→∃ws,allRes ⟨T,M⟩ l=some ws∧k ws=some x
 | [],k,h=>⟨[],rfl,by simpa only[wres]using h⟩
 | .tmp t::r,k,h=>by
   simp only[wres]at h
   split at h
   ·rename_i v hv
    obtain⟨ws,h1,h2⟩:=zwz hE hm h
    have hg:T.getD t .undef=v:=by rw[List.getD_eq_getElem?_getD,hE.at' t v hv];rfl
    refine⟨v::ws,?_,h2⟩
    rw[allRes,h1]
    simp only[oneRes,hg]
   ·cases h
 | .cell t n::r,k,h=>by
   simp only[wres]at h
   split at h
   ·rename_i v hv
    obtain⟨u,h3,h4⟩:=zwv hm h
    obtain⟨ws,h1,h2⟩:=zwz hE hm h4
    have hg:T.getD t .undef=v:=by rw[List.getD_eq_getElem?_getD,hE.at' t v hv];rfl
    refine⟨u::ws,?_,h2⟩
    rw[allRes,h1]
    simp only[oneRes,hg,h3]
   ·cases h
noncomputable def wout (ws:List IVal) (k:IVal→WR):WR:=match ws with
 | [v]=>ift (passB v) (k v)
 |l=>wpass l (k (.tup l))
theorem zask {ws:List IVal} {k:IVal→WR} {x:WX} (h:wout ws k=some x):∃v,fout (some ws)=some v∧k v=some x:=by
 unfold wout at h
 split at h
 ·rename_i v
  obtain⟨h1,h2⟩:=zak h
  rw[zpf]at h1
  exact⟨v,by simp only[fout,h1],h2⟩
 ·rename_i hne
  obtain⟨h1,h2⟩:=zrl h
  refine⟨.tup ws,?_,h2⟩
  match ws,hne,h1 with
  | [],_,_=>rfl
  | [v],hne,_=>exact absurd rfl (hne v)
  |v::w::r,_,h1=>simp only[fout,h1]
noncomputable def wabsent:List Nat→BXS
 | []=>[]
 |s::r=>(s,none)::wabsent r
theorem zkp:∀ {l:List Nat} {s:Nat} {o:Option IBlk},bfind (wabsent l) s=some o→o=none
 | [],s,o,h=>by cases h
 |t::r,s,o,h=>by
  simp only[wabsent,bfind]at h
  cases hb:Nat.beq t s with
  |true=>rw[hb]at h;injection h with h;exact h.symm
  |false=>rw[hb]at h;exact zkp h
noncomputable def wend (res:List IRes) (kr:IVal→FH→WR):SE→WC:=fun E m=>wres res E m fun ws=>wout ws fun v=>WM.rec (motive:=fun _=>WR) (fun _ h=>kr v h) m
noncomputable def wbody (Fn:IFun) (an:WA) (hs:List Ty) (bs ext:List Nat):KC:=fun O L args H kr =>
 tyrs hs args fun args=>wcode O L Fn.nt (wend Fn.res kr) [] Fn.code an (wend Fn.res kr) (zipSS (upto Fn.np 0) args++skips ext) ⟨wabsent bs,H⟩
structure KOK (Γ:Prog) (f:FuncId) (h:KFun):Prop where
 ok:∃Fn an hs bs ext,Γ f=some Fn∧h.pure=Fn.pure∧Nat.beq hs.length Fn.np=true∧Nat.ble Fn.np Fn.nt=true∧skOK Fn.np Fn.nt ext=true∧h.code=wbody Fn an hs bs ext
section
variable [Tabs] [B:Base] {Γ:Prog}
theorem zamu {nt:Nat} {res:List IRes} {kr:IVal→FH→WR} {E:SE} {T:List IVal} {G:Gh} {m:WM} {M:Mem} (hE:RelTS nt E T) (hm:RW G m M) {x:WX} (h:wend res kr E m=some x):∃v K',Ideal.results ⟨T,M⟩ res=some v∧RH K' M.heap∧kr v K'=some x:=by
 obtain⟨b,hh⟩:=m
 obtain⟨ws,h1,h2⟩:=zwz hE hm h
 obtain⟨v,h3,h4⟩:=zask h2
 refine⟨v,hh,?_,hm.h,h4⟩
 show fout (allRes ⟨T,M⟩ res)=_
 rw[h1,h3]
theorem zamv {f:FuncId} {h:KFun} (hk:KOK Γ f h) {F:WO} (hF:WLe F (CW Γ)) {L:Nat} {args:List IVal} {K:FH} {H:List IBlk} (hH:RH K H) {k:IVal→FH→WR} {x:WX} (e:h.code F L args K k=some x) :
 ∃Fn v K' H',Γ f=some Fn∧h.pure=Fn.pure∧runBody (CW Γ) loopW Fn args H=some (v,H')∧RH K' H'∧k v K'=some x:=by
 obtain⟨Fn,an,hs,bs,ext,h1,h2,h3,h4,h5,h6⟩:=hk.ok
 rw[h6]at e
 obtain⟨e,hl⟩:=zpq e
 have hn:args.length=Fn.np:=hl.trans (Nat.eq_of_beq_eq_true h3)
 have hm0:RW ((wabsent bs).length,[]) ⟨wabsent bs,K⟩ ⟨[],H⟩:=⟨fun s o q=>(zkp q).symm,Nat.le_refl _,fun _=>rfl,hH⟩
 obtain⟨e',T',M',q1,q2⟩:=zci hF (wend Fn.res k) Fn.code hm0 e (zabe hn (Nat.le_of_ble_eq_true h4) h5)
 have q1:=zai (fun _ _ _ _ h=>h) (zaah (n:=L)) q1
 have fin:∃v K',Ideal.results ⟨T',M'⟩ Fn.res=some v∧RH K' M'.heap∧k v K'=some x∧(e' = .normal∨e' = .ret):=by
  cases e' with
  |normal =>
   obtain⟨E',m,G,hm,g1,g2⟩:=q2
   obtain⟨v,K',a,b,c⟩:=zamu g1 hm g2
   exact⟨v,K',a,b,c, .inl rfl⟩
  |exit i =>
   obtain⟨e,E',m,G,g1,_⟩:=q2
   cases g1
  |ret =>
   obtain⟨E',m,G,g2,hm,g1⟩:=q2
   obtain⟨v,K',a,b,c⟩:=zamu g1 hm g2
   exact⟨v,K',a,b,c, .inr rfl⟩
 obtain⟨v,K',a,b,d,c⟩:=fin
 refine⟨Fn,v,K',M'.heap,h1,h2,?_,b,d⟩
 unfold runBody
 have hb:Nat.beq args.length Fn.np=true:=by rw[hn];exact Nat.beq_refl _
 rw[hb,q1]
 rcases c with c|c<;>(subst c;simp only[a])
noncomputable def kkeep (H:FH) (c:MT) (k:FH→WR):WR:=FH.rec (motive:=fun _=>WR) (fun t n _=>k ⟨t,n,c⟩) H
noncomputable def kmm (H:FH) (k:MT→WR):WR:=FH.rec (motive:=fun _=>WR) (fun _ _ c=>k c) H
noncomputable def kback (H H':FH) (args:List IVal) (v:IVal) (k:IVal→FH→WR) (other:WR):WR :=
 match zres H' v with
 |none=>none
 |some r=>match plainArgs args||(scalRes r||nres H' v)with
  |true=>vforce r fun r=>kmm H' fun c=>kkeep H c fun H=>k r H
  |false=>other
noncomputable def kmback (f:FuncId) (az:List IVal) (H H':FH) (args:List IVal) (v:IVal) (k:IVal→FH→WR) (other:WR):WR :=
 match zres H' v with
 |none=>none
 |some r=>match scalRes r||nres H' v with
  |true=>vforce r fun r=>kmm H' fun c=>mputK ⟨f,az,r⟩ (mkey f) c fun c=>kkeep H c fun H=>k r H
  |false=>match plainArgs args with
   |true=>vforce r fun r=>kmm H' fun c=>kkeep H c fun H=>k r H
   |false=>other
noncomputable def kpure (F:WO) (L:Nat) (f:FuncId) (h:KFun) (args:List IVal) (H:FH) (k:IVal→FH→WR):WR :=
 match zall H args with
 |none=>h.code F L args H k
 |some az=>Bool.rec (motive:=fun _=>WR) (h.code F L az (hnew H) fun v H'=>kback H H' args v k (h.code F L args H k))
  (kmm H fun c=>mlook f az (mtget (mkey f) c) (fun r=>k r H) (h.code F L az (hnew H) fun v H'=>kmback f az H H' args v k (h.code F L args H k))) h.memo
noncomputable def kstep (J:Nat→Option KFun) (D:WO→WO) (L:Nat) (F:WO):WO:=fun f args H k =>
 Option.rec (motive:=fun _=>WR) (D F f args H k) (fun h=>Bool.rec (motive:=fun _=>WR) (h.code F L args H k) (kpure F L f h args H k) h.pure) (J f)
noncomputable def kcall (J:Nat→Option KFun) (D:WO→WO) (L:Nat) (n:Nat):WO :=
 Nat.rec (motive:=fun _=>WO) (fun _ _ _ _=>none) (fun _ ih=>kstep J D L ih) n
theorem zaoh {H H':FH} {HL HL':List IBlk} (hH:RH H HL) (hH':RH H' HL') {args:List IVal} {v:IVal} {k:IVal→FH→WR} {other:WR} {x:WX} (e:kback H H' args v k other=some x) :
 ∃r,freezeRes HL' v=some r∧(((plainArgs args||(scalRes r||freshRes HL' v))=true∧∃K,RH K HL∧k r K=some x)∨((plainArgs args||(scalRes r||freshRes HL' v))=false∧other=some x)):=by
 unfold kback at e
 rw[zasf hH',zasg hH']at e
 cases hz:freezeRes HL' v with
 |none=>rw[hz]at e;cases e
 |some r =>
  rw[hz]at e
  dsimp only at e
  refine⟨r,rfl,?_⟩
  cases hb:(plainArgs args||(scalRes r||freshRes HL' v))with
  |true=>rw[hb]at e;dsimp only at e;rw[zpc]at e;exact .inl ⟨rfl,_,hH.keep hH',e⟩
  |false=>rw[hb]at e;exact .inr ⟨rfl,e⟩
theorem zakc (f:FuncId) (az:List IVal) {H H':FH} {HL HL':List IBlk} (hH:RH H HL) (hH':RH H' HL') {args:List IVal} {v:IVal} {k:IVal→FH→WR} {other:WR} {x:WX}
 (hok:∀r,freezeRes HL' v=some r→(scalRes r||freshRes HL' v)=true→Kept.ok ⟨f,az,r⟩) (e:kmback f az H H' args v k other=some x) :
 ∃r,freezeRes HL' v=some r∧(((plainArgs args||(scalRes r||freshRes HL' v))=true∧∃K,RH K HL∧k r K=some x)∨((plainArgs args||(scalRes r||freshRes HL' v))=false∧other=some x)):=by
 unfold kmback at e
 rw[zasf hH',zasg hH']at e
 cases hz:freezeRes HL' v with
 |none=>rw[hz]at e;cases e
 |some r =>
  rw[hz]at e
  dsimp only at e
  refine⟨r,rfl,?_⟩
  cases hb:(scalRes r||freshRes HL' v)with
  |true =>
   rw[hb]at e
   dsimp only at e
   rw[zpc]at e
   obtain⟨c',h1,h2⟩:=MT.OK.put (hok r hz hb) (mkey f) hH'.c
   have e:mputK ⟨f,az,r⟩ (mkey f) H'.c (fun c=>kkeep H c fun H=>k r H)=some x:=e
   rw[h2]at e
   exact .inl ⟨by simp,⟨H.t,H.n,c'⟩,⟨hH.n,hH.le,hH.at',h1⟩,e⟩
  |false =>
   rw[hb]at e
   dsimp only at e
   cases hp:plainArgs args with
   |true=>rw[hp]at e;dsimp only at e;rw[zpc]at e;exact .inl ⟨rfl,_,hH.keep hH',e⟩
   |false=>rw[hp]at e;exact .inr ⟨rfl,e⟩
theorem zawc (hM:∀e:ME,Kept.ok e↔Memo Γ e) {J:Nat→Option KFun} {D:WO→WO} {L:Nat} (hJ:∀f h,J f=some h→KOK Γ f h) (hD:∀F:WO,WLe F (CW Γ)→WLe (D F) (CW Γ)) {F:WO} (hF:WLe F (CW Γ)):WLe (kstep J D L F) (CW Γ):=fun f args K H k x hH e=>by
 unfold kstep at e
 cases hj:J f with
 |none=>rw[hj]at e;exact hD _ hF _ _ _ _ _ _ hH e
 |some h =>
  rw[hj]at e
  have hk:=hJ f h hj
  have e:(Bool.rec (h.code F L args K k) (kpure F L f h args K k) h.pure:WR)=some x:=e
  obtain⟨Fn,an,hs,bs,ext,g0,gp,_⟩:=hk.ok
  have run:∀ {az Ka Ha k x},RH Ka Ha→h.code F L az Ka k=some x→∃v K2 H2,runBody (CW Γ) loopW Fn az Ha=some (v,H2)∧RH K2 H2∧k v K2=some x:=fun {_ _ _ _ _} hq q=>by
   obtain⟨F',v,K2,H2,q1,_,q3,q4,q5⟩:=zamv hk hF hq q
   rw[g0]at q1
   injection q1 with q1
   rw[q1]
   exact⟨v,K2,H2,q3,q4,q5⟩
  cases hp:h.pure with
  |false =>
   rw[hp]at e
   obtain⟨v,K',H',h1,h2,h3⟩:=run hH e
   refine⟨v,K',H',CW_of ?_,h2,h3⟩
   unfold callBody
   simp only[g0]
   rw[← gp,hp]
   exact h1
  |true =>
   rw[hp]at e
   have e:kpure F L f h args K k=some x:=e
   unfold kpure at e
   rw[zadk hH]at e
   cases ha:freezeAll H args with
   |none =>
    rw[ha]at e
    obtain⟨v,K',H',h1,h2,h3⟩:=run hH e
    refine⟨v,K',H',CW_of ?_,h2,h3⟩
    unfold callBody
    simp only[g0]
    rw[← gp,hp]
    dsimp only
    rw[ha]
    exact h1
   |some az =>
    rw[ha]at e
    have e:(Bool.rec (h.code F L az (hnew K) fun v H'=>kback K H' args v k (h.code F L args K k))
     (mlook f az (mtget (mkey f) K.c) (fun r=>k r K) (h.code F L az (hnew K) fun v H'=>kmback f az K H' args v k (h.code F L args K k))) h.memo:WR)=some x:=e
    have fin:∀ {v H2},runBody (CW Γ) loopW Fn az []=some (v,H2)→(∃ r,freezeRes H2 v=some r∧(((plainArgs args||(scalRes r||freshRes H2 v))=true∧∃K,RH K H∧k r K=some x)∨((plainArgs args||(scalRes r||freshRes H2 v))=false∧h.code F L args K k=some x))) →
     ∃v h' H',CW Γ f args H=some (v,H')∧RH h' H'∧k v h'=some x:=by
     intro v H2 q1 ⟨r,z1,z2⟩
     rcases z2 with⟨z2,K',hK',z3⟩|⟨z2,z3⟩
     ·refine⟨r,K',H,CW_of ?_,hK',z3⟩
      unfold callBody
      simp only[g0]
      rw[← gp,hp]
      dsimp only
      rw[ha]
      dsimp only
      rw[q1]
      dsimp only
      rw[z1]
      dsimp only
      rw[z2]
     ·obtain⟨w,K',H',h1,h2,h3⟩:=run hH z3
      refine⟨w,K',H',CW_of ?_,h2,h3⟩
      unfold callBody
      simp only[g0]
      rw[← gp,hp]
      dsimp only
      rw[ha]
      dsimp only
      rw[q1]
      dsimp only
      rw[z1]
      dsimp only
      rw[z2]
      exact h1
    cases hm:h.memo with
    |false =>
     rw[hm]at e
     obtain⟨v,K2,H2,q1,q2,q3⟩:=run (RH.new hH) e
     exact fin q1 (zaoh hH q2 q3)
    |true =>
     rw[hm]at e
     have e:mlook f az (mtget (mkey f) K.c) (fun r=>k r K) (h.code F L az (hnew K) fun v H'=>kmback f az K H' args v k (h.code F L args K k))=some x:=e
     rcases zrm f az (fun r=>k r K) (h.code F L az (hnew K) fun v H'=>kmback f az K H' args v k (h.code F L args K k)) (mtget (mkey f) K.c)with h0|⟨r,h1,h2⟩
     ·rw[h0]at e
      obtain⟨v,K2,H2,q1,q2,q3⟩:=run (RH.new hH) e
      refine fin q1 (zakc f az hH q2 (fun r hr hs=>(hM _).2 fun args' H' ha'=>CW_of ?_) q3)
      unfold callBody
      simp only[g0]
      rw[← gp,hp]
      dsimp only
      rw[ha']
      dsimp only
      rw[q1]
      dsimp only
      rw[hr]
      dsimp only
      rw[hs,Bool.or_true]
     ·rw[h2]at e
      exact⟨r,K,H,(hM _).1 (MT.OK.get _ hH.c _ h1) args H ha,hH,e⟩
theorem zamw (hM:∀e:ME,Kept.ok e↔Memo Γ e) {J:Nat→Option KFun} {D:WO→WO} {L:Nat} (hJ:∀f h,J f=some h→KOK Γ f h) (hD:∀F:WO,WLe F (CW Γ)→WLe (D F) (CW Γ)):∀n,WLe (kcall J D L n) (CW Γ)
 |0=>fun _ _ _ _ _ _ _ e=>(by cases e)
 |n+1=>zawc hM hJ hD (zamw hM hJ hD n)
end
inductive KTr where
 |leaf
 |one (f:Nat) (h:KFun)
 |node (k:Nat) (a b:KTr)
noncomputable def KTr.look (t:KTr) (f:Nat):Option KFun :=
 KTr.rec (motive:=fun _=>Option KFun) none (fun g h=>Bool.rec none (some h) (Nat.beq f g)) (fun k _ _ a b=>Bool.rec b a (Nat.ble (Nat.succ f) k)) t
def KTr.all (p:Nat→KFun→Prop):KTr→Prop
 | .leaf=>True
 | .one g h=>p g h
 | .node _ a b=>a.all p∧b.all p
theorem KTr.zdy {p:Nat→KFun→Prop}:∀ {t:KTr} {f:Nat} {h:KFun},t.all p→t.look f=some h→p f h
 | .leaf,_,_,_,e=>by cases e
 | .one g h,f,h',a,e=>by
   have e:(Bool.rec none (some h) (Nat.beq f g):Option KFun)=some h':=e
   cases hb:Nat.beq f g with
   |true=>rw[hb]at e;injection e with e;rw[Nat.eq_of_beq_eq_true hb,←e];exact a
   |false=>rw[hb]at e;cases e
 | .node k a b,f,h',p,e=>by
   have e:(Bool.rec (b.look f) (a.look f) (Nat.ble (Nat.succ f) k):Option KFun)=some h':=e
   cases hb:Nat.ble (Nat.succ f) k with
   |true=>rw[hb]at e;exact KTr.zdy p.1 e
   |false=>rw[hb]at e;exact KTr.zdy p.2 e
end Go.Ideal

/-
  IDEAL SEMANTICS, 87: WHAT STANDS AHEAD OF A RANGE OVER A MAP.
-/
namespace Go.Ideal
open Go
set_option linter.unusedSectionVars false
variable [Kept]
noncomputable def wpre (R:RFun) (an:WA) (hs:List Ty) (bs sl ext:List Nat):WO→Nat→(List IVal→WC)→List IVal→FH→WR:=fun O L kr args H =>
 tyrs hs args fun args=>wcode O L R.nt (fun _ _=>none) [] R.cut.pre an (fun E m=>match vecS E sl with|some vs=>kr vs m|none=>none) (zipSS (upto R.np 0) args++skips ext) ⟨wabsent bs,H⟩
theorem zawd {R:RFun} {an:WA} {hs:List Ty} {bs sl ext:List Nat} {F:WO} {C:Oracle} (hF:WLe F C) {L:Nat} {kr:List IVal→WC} {args:List IVal} {x:WX} (hn:hs.length=R.np) (hle:R.np≤R.nt) (hk:skOK R.np R.nt ext=true)
 {K:FH} {HK:List IBlk} (hK:RH K HK) (h:wpre R an hs bs sl ext F L kr args (hnew K)=some x):∃vs m G T M,kr vs m=some x∧evalCode C (loopN L) R.cut.pre ⟨args++List.replicate (R.nt-args.length) skipped,⟨[],[]⟩⟩=some (.normal,⟨T,M⟩)∧RW G m M∧T.length=R.nt∧RelPS sl vs T:=by
 obtain⟨e,hl⟩:=zpq h
 have hm0:RW ((wabsent bs).length,[]) ⟨wabsent bs,hnew K⟩ ⟨[],[]⟩:=⟨fun s o q=>(zkp q).symm,Nat.le_refl _,fun _=>rfl,RH.new hK⟩
 obtain⟨e',T',M',q1,q2⟩:=zci hF (fun _ _=>none) R.cut.pre hm0 e (zabe (hl.trans hn) hle hk)
 cases e' with
 |normal =>
  obtain⟨E',m,G,hm,g1,g2⟩:=q2
  dsimp only at g2
  split at g2
  ·rename_i vs hv
   exact⟨vs,m,G,T',M',g2,q1,hm,g1.len,g1.pos hv⟩
  ·cases g2
 |exit i =>
  obtain⟨e,E',m,G,g1,_⟩:=q2
  cases g1
 |ret =>
  obtain⟨E',m,G,g2,_⟩:=q2
  cases g2
end Go.Ideal
