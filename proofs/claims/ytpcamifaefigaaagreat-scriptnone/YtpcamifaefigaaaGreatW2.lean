/-
  IDEAL SEMANTICS, 36: REGIONS, CODE, FUNCTIONS BY TYPED VALUES; SOUND.
-/
import Derived.Test.YtpcamifaefigaaaGreatW1
namespace Go.Ideal
open Go
set_option linter.unusedSectionVars false
variable [Tabs]
abbrev Env:=List (Nat×SV)
def lookE:Env→Nat→SV
 | [],_=>.U
 |(i,v)::r,j=>if i=j then v else lookE r j
def putK (n:Nat) (E:Env) (d:Option Nat) (v:SV):Env :=
 match d with
 |some d=>if d<n then(d,v)::E else E
 |none=>E
structure RelE (n:Nat) (E:Env) (R:List IVal):Prop where
 len:R.length=n
 at':∀i,RelV (lookE E i) (R.getD i .undef)
theorem zpd {α:Type} (l:List α) (i j:Nat) (v d:α):(l.set i v).getD j d=if i=j∧i<l.length then v else l.getD j d:=by
 simp only[List.getD_eq_getElem?_getD,List.getElem?_set]
 by_cases h:i=j
 ·subst h
  by_cases h2:i<l.length
  ·simp[h2]
  ·simp[h2]
 ·simp[h]
theorem RelE.put {n:Nat} {E:Env} {R:List IVal} (h:RelE n E R) {d:Option Nat} {s:SV} {v:IVal} (hv:RelV s v):RelE n (putK n E d s) (putDst R d v):=by
 cases d with
 |none=>exact h
 |some d =>
  simp only[putK,putDst]
  by_cases hd:d<n
  ·rw[if_pos hd]
   refine⟨by simp[h.len],fun j=>?_⟩
   rw[zpd,h.len,lookE]
   by_cases e:d=j
   ·rw[if_pos e,if_pos ⟨e,hd⟩];exact hv
   ·rw[if_neg e,if_neg (fun x=>e x.1)];exact h.at' j
  ·rw[if_neg hd]
   refine⟨by simp[h.len],fun j=>?_⟩
   rw[zpd,h.len,if_neg (fun x=>hd x.2)];exact h.at' j
theorem RelE.know {n:Nat} {E:Env} {R:List IVal} (h:RelE n E R) {i:Nat} {s:SV} (hv:RelV s (R.getD i .undef)):RelE n ((i,s)::E) R:=by
 refine⟨h.len,fun j=>?_⟩
 rw[lookE]
 by_cases e:i=j
 ·subst e;rw[if_pos rfl];exact hv
 ·rw[if_neg e];exact h.at' j
def opdK (E R:Env) (sub:List (Nat×Nat)):Opd→SV
 | .tmp t=>match findSub sub t with
   |some j=>lookE R j
   |none=>lookE E t
 | .const v=>up v
 | .func f=>.v (.p (.func f))
theorem zek {n m:Nat} {T R:Env} {T' R':List IVal} (hT:RelE n T T') (hR:RelE m R R') (sub:List (Nat×Nat)):∀o,RelV (opdK T R sub o) (evalOpd T' R' sub o)
 | .tmp t=>by
   simp only[opdK,evalOpd,Ideal.look]
   cases findSub sub t with
   |none=>exact hT.at' t
   |some j=>exact hR.at' j
 | .const v=>RelV.up v
 | .func f=>.inr rfl
theorem RelE.nil:RelE 0 [] []:=⟨rfl,fun _=>.inl rfl⟩
def guardK (g:Option (Nat×Bool)) (T:Env) (run skip:Env→Prop):Prop :=
 match g with
 |none=>run T
 |some (x,want)=>match lookE T x with
  | .bool b=>(b=want→run ((x, .bool want)::T))∧(b=(!want)→skip ((x, .bool (!want))::T))
  | .tup []=>skip T
  |_=>False
def wpReg (C:Oracle) (n:Nat) (T:Env) (M:KM) (l:List IOper) (k:Env→KM→Prop):Prop :=
 match l with
 | []=>k T M
 |o::r=>guardK o.guard T (fun T=>wpOp C (opdK T [] []) M o.op fun v M=>wpReg C n (putK n T o.dst v) M r k) (fun T=>wpReg C n (putK n T o.dst (.tup [])) M r k)
theorem RelE.bool {n:Nat} {T:Env} {R:List IVal} (h:RelE n T R) {x:Nat} {b:Bool} (e:lookE T x = .bool b):R.getD x .undef = .p (.bool b):=by
 have:=h.at' x
 rw[e]at this
 exact(this.eq (by simp[SV.den])).symm
theorem RelE.tup {n:Nat} {T:Env} {R:List IVal} (h:RelE n T R) {x:Nat} {l:List SV} (e:lookE T x = .tup l):R.getD x .undef = .tup (SV.dens l):=by
 have:=h.at' x
 rw[e]at this
 exact(this.eq (by simp[SV.den])).symm
theorem zvz {n:Nat} {g:Option (Nat×Bool)} {T:Env} {run skip:Env→Prop} (h:guardK g T run skip) {T':List IVal} (hT:RelE n T T'):(wantedI T' [] [] g=some true∧∃T,RelE n T T'∧run T)∨(wantedI T' [] [] g=some false∧∃T,RelE n T T'∧skip T):=by
 unfold guardK at h
 split at h
 ·exact .inl ⟨rfl,T,hT,h⟩
 ·rename_i x want
  split at h
  ·rename_i b e
   have hb:=hT.bool e
   have hw:wantedI T' [] [] (some (x,want))=some (b==want):=by simp only[wantedI,Ideal.look,findSub,hb]
   rw[hw]
   by_cases e2:b=want
   ·left
    subst e2
    exact⟨by simp,_,hT.know (.inr (by rw[hb];rfl)),h.1 rfl⟩
   ·right
    have e3:b=!want:=by cases b<;>cases want<;>simp_all
    exact⟨by simp[e2],_,hT.know (.inr (by rw[hb,e3];rfl)),h.2 e3⟩
  ·rename_i e
   have hb:=hT.tup e
   exact .inr ⟨by simp only[wantedI,Ideal.look,findSub,hb,SV.dens],T,hT,h⟩
  ·cases h
theorem zkd {C:Oracle} {n:Nat}:∀ {l:List IOper} {T:Env} {M:KM} {k:Env→KM→Prop},wpReg C n T M l k→∀ {T':List IVal} {M':Mem},RelE n T T'→RelM M M'→∃S',evalReg C ⟨T',M'⟩ l=some S'∧∃T M,RelE n T S'.T∧RelM M S'.M∧k T M
 | [],T,M,k,h,T',M',hT,hM=>⟨_,rfl,T,M,hT,hM,h⟩
 |o::r,T,M,k,h,T',M',hT,hM=>by
  rw[wpReg]at h
  rw[evalReg]
  rcases zvz h hT with⟨hw,T1,hT1,h⟩|⟨hw,T1,hT1,h⟩
  ·simp only[hw]
   obtain⟨v,R',h1,sv,M2,h2,h3,h4⟩:=ziv h (fun o=>zek hT1 RelE.nil [] o) hM
   simp only[h1]
   exact zkd h4 (hT1.put h2) h3
  ·simp only[hw]
   exact zkd h (hT1.put (.inr rfl)) hM
def guardD (g:Option (Nat×Bool)) (x:SV) (run skip:Prop):Prop :=
 match g with
 |none=>run
 |some (_,want)=>match x with
  | .bool b=>(b=want→run)∧(b=(!want)→skip)
  | .tup []=>skip
  |_=>False
def gslot:Option (Nat×Bool)→Nat
 |none=>0
 |some (x,_)=>x
def operK (C:Oracle) (m:Nat) (T R:Env) (M:KM) (i:Nat) (o:IOper) (k:Env→KM→Prop):Prop :=
 guardD o.guard (opdK T R o.sub (.tmp (gslot o.guard))) (wpOp C (opdK T R o.sub) M o.op fun v M=>k (putK m R (some i) v) M) (k (putK m R (some i) (.tup [])) M)
def wpAt (C:Oracle) (ops:List IOper) (T R:Env) (M:KM) (i:Nat) (k:Env→KM→Prop):Prop:=gets ops[i]? fun o=>operK C ops.length T R M i o k
def wpQs (C:Oracle) (ops:List IOper) (T R:Env) (M:KM) (l:List Nat) (k:Env→KM→Prop):Prop :=
 match l with
 | []=>k R M
 |i::r=>wpAt C ops T R M i fun R M=>wpQs C ops T R M r k
def blkAt (M:KM):SV→Option IBlk
 | .box s _=>match findK M.B s with
   |some (some b)=>some b.den
   |_=>none
 | .v (.ptr (.heap i) _ _)=>M.H[i]?
 | .v (.slice i _ _ _)=>M.H[i]?
 | .v (.map i)=>M.H[i]?
 |_=>none
def reOper (C:Oracle) (T R:Env) (M:KM) (i:Nat) (o:IOper):Prop :=
 guardD o.guard (opdK T R o.sub (.tmp (gslot o.guard))) (match isAlloc o.op with
  |true=>gets (contentOf (fun x=>(opdK T R o.sub x).den) o.op) fun b=>gets (blkAt M (lookE R i)) fun c=>b=c
  |false=>wpOp C (opdK T R o.sub) M o.op fun v _=>v.den=(lookE R i).den∧v.den≠.undef) True
def wpRcs (C:Oracle) (ops:List IOper) (T R:Env) (M:KM) (l:List Nat):Prop :=
 match l with
 | []=>True
 |i::r=>gets ops[i]? (reOper C T R M i)∧wpRcs C ops T R M r
def wpPlan (C:Oracle) (ops:List IOper) (T R:Env) (M:KM) (l:List Stage) (k:Env→KM→Prop):Prop :=
 match l with
 | []=>k R M
 |g::r=>wpQs C ops T R M g.qs fun R M=>wpRcs C ops T R M g.rc∧match g.e with
  |none=>wpPlan C ops T R M r k
  |some i=>wpAt C ops T R M i fun R M=>wpPlan C ops T R M r k
def putAllK (n:Nat) (T R:Env) (i:Nat):List IOper→Env
 |o::r=>putAllK n (putK n T o.dst (lookE R i)) R (i+1) r
 | []=>T
def heapOnly (ρ:Opd→SV):IOp→Bool
 | .alloc (some _) _=>false
 | .box (some _) _ _=>false
 | .store _ a _=>match(ρ a).den with
   | .ptr (.heap _) _ _=>true
   |_=>false
 |_=>true
def wpAtH (C:Oracle) (ops:List IOper) (T R:Env) (M:KM) (i:Nat) (k:Env→KM→Prop):Prop:=gets ops[i]? fun o=>heapOnly (opdK T R o.sub) o.op=true∧operK C ops.length T R M i o k
def wpQsH (C:Oracle) (ops:List IOper) (T R:Env) (M:KM) (l:List Nat) (k:Env→KM→Prop):Prop :=
 match l with
 | []=>k R M
 |i::r=>wpAtH C ops T R M i fun R M=>wpQsH C ops T R M r k
def wpPlanH (C:Oracle) (ops:List IOper) (T R:Env) (M:KM) (l:List Stage) (k:Env→KM→Prop):Prop :=
 match l with
 | []=>k R M
 |g::r=>wpQsH C ops T R M g.qs fun R M=>wpRcs C ops T R M g.rc∧match g.e with
  |none=>wpPlanH C ops T R M r k
  |some i=>wpAtH C ops T R M i fun R M=>wpPlanH C ops T R M r k
def sameR (n:Nat) (R R':Env):Prop:=∀i,i<n→(lookE R i).den≠.undef∧(lookE R i).den=(lookE R' i).den
def wpRest (C:Oracle) (ops:List IOper) (T:Env) (M0:KM) (R:Env) (H:List IBlk):List (List Stage)→Prop
 | []=>True
 |g::r=>wpPlanH C ops T [] M0 g (fun R' M'=>sameR ops.length R R'∧M'.H=H)∧wpRest C ops T M0 R H r
def wpDraw (C:Oracle) (n:Nat) (ops:List IOper) (plans:List (List Stage)) (T:Env) (M:KM) (k:Env→KM→Prop):Prop :=
 match plans with
 | []=>False
 | [g]=>dstsFit n ops=true∧wpPlan C ops T [] M g fun R M=>k (putAllK n T R 0 ops) M
 |g::r=>dstsFit n ops=true∧wpPlanH C ops T [] M g fun R M'=>wpRest C ops T M R M'.H r∧k (putAllK n T R 0 ops) M'
mutual
theorem PVal.zcj:∀v:PVal,PVal.beq v v=true
 | .bool b=>by simp[PVal.beq]
 | .int k n=>by simp[PVal.beq]
 | .str s=>by simp[PVal.beq]
 | .slice e n cs=>by simp[PVal.beq,Nat.beq_refl,PVal.zcf cs]
 | .ptr cs=>by simp[PVal.beq,PVal.zcf cs]
 | .func f=>by simp[PVal.beq,Nat.beq_refl]
 | .nilptr=>rfl
 | .nilslice=>rfl
 | .nilmap=>rfl
 | .nilfunc=>rfl
 | .niliface=>rfl
theorem PVal.zcf:∀l:List PVal,PVal.beqs l l=true
 | []=>rfl
 |a::r=>by simp[PVal.beqs,PVal.zcj a,PVal.zcf r]
end
mutual
theorem IVal.zcj:∀v:IVal,IVal.beq v v=true
 | .p v=>by simp[IVal.beq,PVal.zcj v]
 | .ptr k v o=>by simp[IVal.beq,Nat.beq_refl]
 | .slice k v o n=>by simp[IVal.beq,Nat.beq_refl]
 | .map i=>by simp[IVal.beq,Nat.beq_refl]
 | .func f c=>by simp[IVal.beq,Nat.beq_refl,IVal.zcf c]
 | .agg cs=>by simp[IVal.beq,IVal.zcf cs]
 | .tup cs=>by simp[IVal.beq,IVal.zcf cs]
 | .undef=>rfl
 | .opq n=>by simp[IVal.beq,Nat.beq_refl]
 | .clip k v o n=>by simp[IVal.beq,Nat.beq_refl]
theorem IVal.zcf:∀l:List IVal,IVal.beqs l l=true
 | []=>rfl
 |a::r=>by simp[IVal.beqs,IVal.zcj a,IVal.zcf r]
end
theorem znd:∀l:List (IVal×IVal×Nat),entsBeq l l=true
 | []=>rfl
 |(k,v,n)::r=>by simp[entsBeq,IVal.zcj,Nat.beq_refl,znd r]
theorem IBlk.zcj:∀b:IBlk,IBlk.beq b b=true
 | .cells a e v o=>by simp[IBlk.beq,IVal.zcf,Nat.beq_refl]
 | .map es c=>by simp[IBlk.beq,znd,Nat.beq_refl]
theorem zhs {n m:Nat} {g:Option (Nat×Bool)} {T R:Env} {sub:List (Nat×Nat)} {run skip:Prop} (h:guardD g (opdK T R sub (.tmp (gslot g))) run skip) {T' R':List IVal} (hT:RelE n T T') (hR:RelE m R R'):(wantedI T' R' sub g=some true∧run)∨(wantedI T' R' sub g=some false∧skip):=by
 unfold guardD at h
 split at h
 ·exact .inl ⟨rfl,h⟩
 ·rename_i x want
  have hr:=zek hT hR sub (.tmp x)
  simp only[gslot]at h
  generalize hx:opdK T R sub (.tmp x)=s at h hr
  have hlook:wantedI T' R' sub (some (x,want))=match evalOpd T' R' sub (.tmp x)with
   | .p (.bool b)=>some (b==want)
   | .tup []=>some false
   |_=>none:=rfl
  rw[hlook]
  split at h
  ·rename_i b
   rw[← hr.eq (by simp[SV.den])]
   simp only[SV.den]
   by_cases e2:b=want
   ·left
    subst e2
    exact⟨by simp,h.1 rfl⟩
   ·right
    have e3:b=!want:=by cases b<;>cases want<;>simp_all
    exact⟨by simp[e2],h.2 e3⟩
  ·rw[← hr.eq (by simp[SV.den])]
   exact .inr ⟨rfl,h⟩
  ·cases h
theorem zrw {C:Oracle} {n:Nat} {ops:List IOper} {T R:Env} {M:KM} {i:Nat} {k:Env→KM→Prop} (h:wpAt C ops T R M i k) {T' R':List IVal} {M':Mem} (hT:RelE n T T') (hR:RelE ops.length R R') (hM:RelM M M'):∃R2 M2,evalAt C ops T' R' M' i=some (R2,M2)∧∃R M,RelE ops.length R R2∧RelM M M2∧k R M:=by
 obtain⟨o,h1,h2⟩:=h
 unfold evalAt
 simp only[h1]
 rcases zhs h2 hT hR with⟨hw,h⟩|⟨hw,h⟩
 ·simp only[hw]
  obtain⟨v,R2,h3,sv,M2,h4,h5,h6⟩:=ziv h (fun o=>zek hT hR _ o) hM
  simp only[h3]
  exact⟨_,_,rfl,_,_,hR.put (d:=some i) h4,h5,h6⟩
 ·simp only[hw]
  exact⟨_,_,rfl,_,_,hR.put (d:=some i) (.inr rfl),hM,h⟩
theorem zrx {C:Oracle} {n:Nat} {ops:List IOper} {T:Env} {T':List IVal} (hT:RelE n T T'):∀ {l:List Nat} {R:Env} {M:KM} {k:Env→KM→Prop},wpQs C ops T R M l k→∀ {R':List IVal} {M':Mem},RelE ops.length R R'→RelM M M'→∃R2 M2,evalQs C ops T' R' M' l=some (R2,M2)∧∃R M,RelE ops.length R R2∧RelM M M2∧k R M
 | [],R,M,k,h,R',M',hR,hM=>⟨_,_,rfl,R,M,hR,hM,h⟩
 |i::r,R,M,k,h,R',M',hR,hM=>by
  obtain⟨R2,M2,h1,R3,M3,h2,h3,h4⟩:=zrw h hT hR hM
  rw[evalQs]
  simp only[h1]
  exact zrx hT h4 h2 h3
theorem zpe {ρ ρ':Opd→IVal} (hρ:∀o,Below (ρ o) (ρ' o)) {op:IOp} {b:IBlk} (h:contentOf ρ op=some b):contentOf ρ' op=some b:=by
 cases op<;>simp only[contentOf]at h ⊢ <;> first|exact h|skip
 ·rename_i s n x
  rcases hρ x with e|e
  ·rw[e]at h;simp[IVal.cellsOf,IVal.cellOK]at h
  ·rw[← e];exact h
 ·split at h
  ·rename_i e
   rw[ziu hρ e];exact h
  ·cases h
 ·rename_i c
  rcases hρ c with e|e
  ·rw[e]at h;cases h
  ·rw[← e];exact h
theorem zwa {C:Oracle} {n:Nat} {ops:List IOper} {T R:Env} {M:KM} {i:Nat} (h:gets ops[i]? (reOper C T R M i)) {T' R':List IVal} {M':Mem} (hT:RelE n T T') (hR:RelE ops.length R R') (hM:RelM M M'):recheck C ops T' R' M' i=true:=by
 obtain⟨o,h1,h2⟩:=h
 unfold recheck
 simp only[h1]
 rcases zhs h2 hT hR with⟨hw,h⟩|⟨hw,h⟩
 ·simp only[hw]
  split at h
  ·rename_i ha
   simp only[ha]
   obtain⟨b,h3,c,h4,rfl⟩:=h
   have h5:=zpe (fun o'=>zek hT hR o.sub o') h3
   simp only[h5]
   have hri:=hR.at' i
   generalize hs:lookE R i=s at h4 hri
   unfold blkAt at h4
   split at h4
   ·split at h4
    ·rename_i b' hb
     have h6:=hM.box _ _ hb
     rw[← hri.eq (by simp[SV.den])]
     injection h4 with h4
     simp only[SV.den,keyOf,Mem.get,h6,Option.map_some,h4,IBlk.zcj]
    ·cases h4
   ·rw[← hri.eq (by simp[SV.den])]
    rw[hM.heap]at h4
    simp only[SV.den,keyOf,Mem.get,h4,IBlk.zcj]
   ·rw[← hri.eq (by simp[SV.den])]
    rw[hM.heap]at h4
    simp only[SV.den,keyOf,Mem.get,h4,IBlk.zcj]
   ·rw[← hri.eq (by simp[SV.den])]
    rw[hM.heap]at h4
    simp only[SV.den,keyOf,Mem.get,h4,IBlk.zcj]
   ·cases h4
  ·rename_i ha
   simp only[ha]
   obtain⟨v,R2,h3,sv,M2,h4,h5,h6,h7⟩:=ziv h (fun o=>zek hT hR _ o) hM
   simp only[h3]
   have hri:=hR.at' i
   rw[← hri.eq (by rw[← h6];exact h7),←h4.eq h7,h6]
   exact IVal.zcj _
 ·simp only[hw]
theorem zke {C:Oracle} {n:Nat} {ops:List IOper} {T R:Env} {M:KM} {T' R':List IVal} {M':Mem} (hT:RelE n T T') (hR:RelE ops.length R R') (hM:RelM M M'):∀ {l:List Nat},wpRcs C ops T R M l→rechecks C ops T' R' M' l=true
 | [],_=>rfl
 |i::r,h=>by
  rw[rechecks,zwa h.1 hT hR hM]
  exact zke hT hR hM h.2
theorem zht {C:Oracle} {n:Nat} {ops:List IOper} {T:Env} {T':List IVal} (hT:RelE n T T'):∀ {l:List Stage} {R:Env} {M:KM} {k:Env→KM→Prop},wpPlan C ops T R M l k→∀ {R':List IVal} {M':Mem},RelE ops.length R R'→RelM M M'→∃R2 M2,evalPlan C ops T' R' M' l=some (R2,M2)∧∃R M,RelE ops.length R R2∧RelM M M2∧k R M
 | [],R,M,k,h,R',M',hR,hM=>⟨_,_,rfl,R,M,hR,hM,h⟩
 |g::r,R,M,k,h,R',M',hR,hM=>by
  obtain⟨R2,M2,h1,R3,M3,h2,h3,h4,h5⟩:=zrx hT h hR hM
  rw[evalPlan]
  simp only[h1,zke hT h2 h3 h4]
  split at h5
  ·rename_i hg
   simp only[hg]
   exact zht hT h5 h2 h3
  ·rename_i i hg
   obtain⟨R4,M4,h6,R5,M5,h7,h8,h9⟩:=zrw h5 hT h2 h3
   simp only[hg,h6]
   exact zht hT h9 h7 h8
theorem zhu:∀ {l:List IOper},RelE l.length [] (noRes l)
 | []=>RelE.nil
 |o::r=>by
  have:=zhu (l:=r)
  refine⟨by simp only[noRes,List.length_cons,this.len],fun i=>.inl rfl⟩
theorem zmi {n:Nat} {R:Env}:∀ {l:List IOper} {i:Nat} {T:Env} {T' R':List IVal},RelE n T T'→(∀ j,RelV (lookE R (i+j)) (R'.getD j .undef))→R'.length=l.length→RelE n (putAllK n T R i l) (putAll T' l R')
 | [],i,T,T',R',hT,hR,hl=>by cases R'<;>exact hT
 |o::r,i,T,T',[],hT,hR,hl=>by simp at hl
 |o::r,i,T,T',w::ws,hT,hR,hl=>by
  rw[putAllK,putAll]
  refine zmi (hT.put (hR 0)) (fun j=>?_) (by simpa using hl)
  have:=hR (j+1)
  rw[Nat.add_assoc,Nat.add_comm 1 j]
  exact this
theorem zwb {C:Oracle} {ρ:Opd→IVal} {M:Mem} {op:IOp} {v:IVal} {M':Mem} (h:evalOp C ρ M op=some (v,M')) (h1:∀s z,op≠.alloc (some s) z) (h2:∀s n x,op≠.box (some s) n x) (h3:∀n a x,op = .store n a x→∃i v o,ρ a = .ptr (.heap i) v o):M'.boxes=M.boxes:=by
 cases op<;>simp only[evalOp]at h
 case alloc s z =>
  cases s with
  |some s=>exact absurd rfl (h1 s z)
  |none=>simp only[newBlk]at h;injection h with h;injection h with _ h;rw[← h]
 case box s n x =>
  cases s with
  |some s=>exact absurd rfl (h2 s n x)
  |none =>
   split at h
   ·split at h
    ·simp only[newBlk]at h;injection h with h;injection h with _ h;rw[← h]
    ·cases h
   ·cases h
 case store n a x =>
  obtain⟨i,ver,o,e⟩:=h3 n a x rfl
  rw[e]at h
  split at h
  ·split at h
   ·split at h
    ·rename_i M2 hw
     injection h with h;injection h with _ h
     rw[← h]
     simp only[writeCells]at hw
     split at hw
     ·split at hw
      ·injection hw with hw;rw[← hw];rfl
      ·cases hw
     ·cases hw
    ·cases h
   ·cases h
  ·cases h
 case copy esz x y =>
  unfold evalCopy at h
  split at h
  ·split at h
   ·split at h
    ·injection h with h;injection h with _ h;rw[← h]
    ·split at h
     ·rename_i M2 hw
      injection h with h;injection h with _ h
      rw[← h]
      simp only[writeCells]at hw
      split at hw
      ·split at hw
       ·injection hw with hw;rw[← hw];rfl
       ·cases hw
      ·cases hw
     ·cases h
   ·cases h
  ·cases h
 case append esz x y =>
  unfold evalAppend evalAppend0 at h
  repeat' split at h
  all_goals first|(cases h;done)|(injection h with h;injection h with _ h;rw[← h];first|done|rfl)
 case eqv neg c x y =>
  generalize eqVals c (ρ x) (ρ y)=b at h
  cases b<;>simp only[Ideal.sayBool]at h
  ·cases h
  ·injection h with h;injection h with _ h;rw[← h]
 case eqPtr neg x y =>
  generalize evalNilPtr (ρ x) (ρ y)=b at h
  cases b<;>simp only[Ideal.sayBool]at h
  ·cases h
  ·injection h with h;injection h with _ h;rw[← h]
 case eqSl neg x y =>
  generalize evalNilSl (ρ x) (ρ y)=b at h
  cases b<;>simp only[Ideal.sayBool]at h
  ·cases h
  ·injection h with h;injection h with _ h;rw[← h]
 case lookup ok zero cls x k =>
  simp only[lookRes]at h
  repeat' split at h
  all_goals first|(cases h;done)|(injection h with h;injection h with _ h;rw[← h])
 case clear z x =>
  split at h
  ·injection h with h;injection h with _ h;rw[← h]
  ·split at h
   ·injection h with h;injection h with _ h;rw[← h]
   ·split at h
    ·rename_i M2 hw
     injection h with h;injection h with _ h
     rw[← h]
     simp only[writeCells]at hw
     split at hw
     ·split at hw
      ·injection hw with hw;rw[← hw];rfl
      ·cases hw
     ·cases hw
    ·cases h
  ·cases h
 all_goals
  repeat' split at h
  all_goals first|(cases h;done)|(injection h with h;injection h with _ h;rw[← h];first|done|rfl)
theorem zra {C:Oracle} {ρ:Opd→SV} {ρ':Opd→IVal} (hρ:∀o,RelV (ρ o) (ρ' o)) {op:IOp} (ho:heapOnly ρ op=true) {M M':Mem} {v:IVal} (h:evalOp C ρ' M op=some (v,M')):M'.boxes=M.boxes:=by
 refine zwb h ?_ ?_ ?_
 ·rintro s z rfl;cases ho
 ·rintro s n x rfl;cases ho
 ·rintro n a x rfl
  simp only[heapOnly]at ho
  split at ho
  ·rename_i i v o e
   exact⟨i,v,o,by rw[← (hρ a).eq (by rw[e];simp),e]⟩
  ·cases ho
theorem zpf {C:Oracle} {n:Nat} {ops:List IOper} {T R:Env} {M:KM} {i:Nat} {k:Env→KM→Prop} (h:wpAtH C ops T R M i k) {T' R':List IVal} {M':Mem} (hT:RelE n T T') (hR:RelE ops.length R R') (hM:RelM M M'):∃R2 M2,evalAt C ops T' R' M' i=some (R2,M2)∧M2.boxes=M'.boxes∧∃R M,RelE ops.length R R2∧RelM M M2∧k R M:=by
 obtain⟨o,h1,h0,h2⟩:=h
 unfold evalAt
 simp only[h1]
 rcases zhs h2 hT hR with⟨hw,h⟩|⟨hw,h⟩
 ·simp only[hw]
  obtain⟨v,R2,h3,sv,M2,h4,h5,h6⟩:=ziv h (fun o=>zek hT hR _ o) hM
  have hb:=zra (fun o=>zek hT hR _ o) h0 h3
  simp only[h3]
  exact⟨_,_,rfl,hb,_,_,hR.put (d:=some i) h4,h5,h6⟩
 ·simp only[hw]
  exact⟨_,_,rfl,rfl,_,_,hR.put (d:=some i) (.inr rfl),hM,h⟩
theorem zpg {C:Oracle} {n:Nat} {ops:List IOper} {T:Env} {T':List IVal} (hT:RelE n T T'):∀ {l:List Nat} {R:Env} {M:KM} {k:Env→KM→Prop},wpQsH C ops T R M l k→∀ {R':List IVal} {M':Mem},RelE ops.length R R'→RelM M M'→∃R2 M2,evalQs C ops T' R' M' l=some (R2,M2)∧M2.boxes=M'.boxes∧∃R M,RelE ops.length R R2∧RelM M M2∧k R M
 | [],R,M,k,h,R',M',hR,hM=>⟨_,_,rfl,rfl,R,M,hR,hM,h⟩
 |i::r,R,M,k,h,R',M',hR,hM=>by
  obtain⟨R2,M2,h1,hb,R3,M3,h2,h3,h4⟩:=zpf h hT hR hM
  rw[evalQs]
  simp only[h1]
  obtain⟨R5,M5,g1,gb,g2⟩:=zpg hT h4 h2 h3
  exact⟨R5,M5,g1,gb.trans hb,g2⟩
theorem zdb {C:Oracle} {n:Nat} {ops:List IOper} {T:Env} {T':List IVal} (hT:RelE n T T'):∀ {l:List Stage} {R:Env} {M:KM} {k:Env→KM→Prop},wpPlanH C ops T R M l k→∀ {R':List IVal} {M':Mem},RelE ops.length R R'→RelM M M'→∃R2 M2,evalPlan C ops T' R' M' l=some (R2,M2)∧M2.boxes=M'.boxes∧∃R M,RelE ops.length R R2∧RelM M M2∧k R M
 | [],R,M,k,h,R',M',hR,hM=>⟨_,_,rfl,rfl,R,M,hR,hM,h⟩
 |g::r,R,M,k,h,R',M',hR,hM=>by
  obtain⟨R2,M2,h1,hb,R3,M3,h2,h3,h4,h5⟩:=zpg hT h hR hM
  rw[evalPlan]
  simp only[h1,zke hT h2 h3 h4]
  split at h5
  ·rename_i hg
   simp only[hg]
   obtain⟨R5,M5,g1,gb,g2⟩:=zdb hT h5 h2 h3
   exact⟨R5,M5,g1,gb.trans hb,g2⟩
  ·rename_i i hg
   obtain⟨R4,M4,h6,hb2,R5,M5,h7,h8,h9⟩:=zpf h5 hT h2 h3
   simp only[hg,h6]
   obtain⟨R6,M6,g1,gb,g2⟩:=zdb hT h9 h7 h8
   exact⟨R6,M6,g1,gb.trans (hb2.trans hb),g2⟩
theorem zaaw {n:Nat} {R R':Env} {r r':List IVal} (h:sameR n R R') (h1:RelE n R r) (h2:RelE n R' r'):r=r':=by
 apply List.ext_getElem
 ·rw[h1.len,h2.len]
 ·intro i hi hi'
  have hn:i<n:=by rw[← h1.len];exact hi
  obtain⟨a,b⟩:=h i hn
  have e1:=(h1.at' i).eq a
  have e2:=(h2.at' i).eq (by rw[← b];exact a)
  rw[List.getD_eq_getElem?_getD,List.getElem?_eq_getElem hi,Option.getD_some]at e1
  rw[List.getD_eq_getElem?_getD,List.getElem?_eq_getElem hi',Option.getD_some]at e2
  rw[← e1,←e2,b]
theorem zgs:∀l:List (Nat×IBlk),boxesBeq l l=true
 | []=>rfl
 |(s,b)::r=>by simp[boxesBeq,Nat.beq_refl,IBlk.zcj,zgs r]
theorem zhv:∀l:List IBlk,heapBeq l l=true
 | []=>rfl
 |b::r=>by simp[heapBeq,IBlk.zcj,zhv r]
theorem zne {C:Oracle} {n:Nat} {ops:List IOper} {T:Env} {T':List IVal} (hT:RelE n T T') {M0:KM} {M':Mem} (hM:RelM M0 M') {R:Env} {r:List IVal} {X:Mem} (hR:RelE ops.length R r) (hb:X.boxes=M'.boxes):∀ {l:List (List Stage)},wpRest C ops T M0 R X.heap l→l≠[]→evalPlans C ops ⟨T',M'⟩ l=some (r,X)
 | [],_,hn=>absurd rfl hn
 | [g],h,_=>by
   obtain⟨h1,_⟩:=h
   obtain⟨R2,M2,h2,h3,R3,M3,h4,h5,h6,h7⟩:=zdb hT h1 zhu hM
   rw[evalPlans,h2,zaaw h6 hR h4]
   have:M2=X:=by
    cases M2;cases X
    simp only at h3 hb h7
    simp only[Mem.mk.injEq]
    exact⟨h3.trans hb.symm,h5.heap.symm.trans h7⟩
   rw[this]
 |g::g2::l,h,_=>by
  obtain⟨h1,h0⟩:=h
  obtain⟨R2,M2,h2,h3,R3,M3,h4,h5,h6,h7⟩:=zdb hT h1 zhu hM
  have ih:=zne hT hM hR hb h0 (by simp)
  have hr:=zaaw h6 hR h4
  have:M2=X:=by
   cases M2;cases X
   simp only at h3 hb h7
   simp only[Mem.mk.injEq]
   exact⟨h3.trans hb.symm,h5.heap.symm.trans h7⟩
  rw[evalPlans]
  ·simp only[h2,ih,this,←hr,IVal.zcf,zgs,zhv,Bool.and_self]
  ·simp
theorem zwc {C:Oracle} {n:Nat} {ops:List IOper} {plans:List (List Stage)} {T:Env} {M:KM} {k:Env→KM→Prop} (h:wpDraw C n ops plans T M k) {T':List IVal} {M':Mem} (hT:RelE n T T') (hM:RelM M M'):∃S',evalDraw C ops plans ⟨T',M'⟩=some S'∧∃T M,RelE n T S'.T∧RelM M S'.M∧k T M:=by
 unfold wpDraw at h
 split at h
 ·cases h
 ·rename_i g
  obtain⟨h1,h2⟩:=h
  obtain⟨R2,M2,h3,R3,M3,h4,h5,h6⟩:=zht hT h2 zhu hM
  rw[← hT.len]at h1
  unfold evalDraw
  simp only[h1,evalPlans,h3]
  exact⟨_,rfl,_,_,zmi hT (fun j=>by rw[Nat.zero_add];exact h4.at' j) h4.len,h5,h6⟩
 ·rename_i g r hr
  obtain⟨h1,h2⟩:=h
  obtain⟨R2,M2,h3,hb,R3,M3,h4,h5,h6,h7⟩:=zdb hT h2 zhu hM
  rw[← hT.len]at h1
  rw[h5.heap]at h6
  have hrest:=zne hT hM h4 hb h6 (by rintro rfl;exact hr rfl)
  cases r with
  |nil=>exact absurd rfl hr
  |cons g2 r =>
   unfold evalDraw
   simp only[h1]
   rw[evalPlans]
   ·simp only[h3,hrest,IVal.zcf,zgs,zhv,Bool.and_self]
    exact⟨_,rfl,_,_,zmi hT (fun j=>by rw[Nat.zero_add];exact h4.at' j) h4.len,h5,h7⟩
   ·simp
def killSV (s:Nat):SV→SV
 | .box t o=>if s=t then .U else .box t o
 | .v x=>.v (killV s x)
 |x=>x
def killE (s:Nat):Env→Env
 | []=>[]
 |(i,v)::r=>(i,killSV s v)::killE s r
def freshT (T:Env):List Nat→Env
 | []=>T
 |s::r=>freshT (killE s T) r
def freshB (B:List (Nat×Option KB)):List Nat→List (Nat×Option KB)
 | []=>B
 |s::r=>freshB ((s,none)::dropK B s) r
theorem zmj {s:Nat}:∀ {E:Env} {i:Nat},lookE (killE s E) i=killSV s (lookE E i)
 | [],i=>rfl
 |(j,v)::r,i=>by
  simp only[killE,lookE]
  by_cases h:j=i
  ·rw[if_pos h,if_pos h]
  ·rw[if_neg h,if_neg h,zmj]
theorem getD_map {α β:Type} (f:α→β) (l:List α) (i:Nat) (d:α) (e:β) (h:f d=e):(l.map f).getD i e=f (l.getD i d):=by
 simp only[List.getD_eq_getElem?_getD,List.getElem?_map]
 cases l[i]? <;> simp[h]
theorem zaax {s:Nat} {x:SV} {v:IVal} (h:RelV x v):RelV (killSV s x) v∧RelV (killSV s x) (killV s v):=by
 rcases h with h|h
 ·have:x = .v .undef:=by cases x<;>simp[SV.den]at h;rw[h]
  subst this
  exact⟨.inl rfl, .inl rfl⟩
 ·subst h
  cases x with
  |box t o =>
   simp only[killSV]
   by_cases e:s=t
   ·rw[if_pos e];exact⟨.inl rfl, .inl rfl⟩
   ·rw[if_neg e]
    have:Nat.beq s t=false:=by rw[zfq];simp[e]
    exact⟨.inr rfl, .inr (by simp only[SV.den,killV,this])⟩
  |v x =>
   simp only[killSV]
   refine⟨?_, .inr rfl⟩
   unfold RelV
   simp only[SV.den]
   unfold killV
   split
   ·split
    ·exact .inl rfl
    ·exact .inr rfl
   ·exact .inr rfl
  |_=>exact⟨.inr rfl, .inr rfl⟩
theorem zle {n:Nat}:∀ {fr:List Nat} {T:Env} {B:List (Nat×Option KB)} {H:List IBlk} {S:St},RelE n T S.T→RelM ⟨B,H⟩ S.M→RelE n (freshT T fr) (freshen S fr).T∧RelM ⟨freshB B fr,H⟩ (freshen S fr).M
 | [],T,B,H,S,hT,hM=>⟨hT,hM⟩
 |s::r,T,B,H,S,hT,hM=>by
  rw[freshT,freshB,freshen]
  split
  ·rename_i e
   refine zle ⟨hT.len,fun i=>?_⟩ ⟨fun t b hb=>?_,hM.heap⟩
   ·rw[zmj]
    exact(zaax (hT.at' i)).1
   ·simp only[findK,zeo]at hb
    by_cases e2:s=t
    ·subst e2
     rw[if_pos rfl]at hb
     injection hb with hb
     rw[← hb];exact e
    ·rw[if_neg e2,if_neg e2]at hb
     exact hM.box t b hb
  ·rename_i b0 e
   refine zle ⟨by simp[hT.len,kill],fun i=>?_⟩ ⟨fun t b hb=>?_,hM.heap⟩
   ·rw[zmj]
    show RelV _ ((S.T.map (killV s)).getD i .undef)
    rw[getD_map (killV s) S.T i .undef .undef rfl]
    exact(zaax (hT.at' i)).2
   ·simp only[findK,zeo]at hb
    simp only[zho]
    by_cases e2:s=t
    ·subst e2
     rw[if_pos rfl]at hb
     injection hb with hb
     rw[← hb,if_pos rfl];rfl
    ·rw[if_neg e2,if_neg e2]at hb
     rw[if_neg e2]
     exact hM.box t b hb
def maskK (T:Env) (i:Nat):List Bool→Env
 |true::m=>(i,lookE T i)::maskK T (i+1) m
 |false::m=>maskK T (i+1) m
 | []=>[]
def pointsTo (s:Nat):Env→Bool
 |(_, .box t _)::r=>if t=s then true else pointsTo s r
 |_::r=>pointsTo s r
 | []=>false
def trimB (T:Env):List (Nat×Option KB)→List (Nat×Option KB)
 | []=>[]
 |(s,some b)::r=>bif pointsTo s T then(s,some b)::trimB T r else dropK (trimB T r) s
 |(s,none)::r=>dropK (trimB T r) s
theorem ziw {T:Env}:∀ {m:List Bool} {i j:Nat},lookE (maskK T i m) j = .U∨(lookE (maskK T i m) j=lookE T j∧i≤j∧m.getD (j-i) true=true)
 | [],i,j=>.inl rfl
 |true::m,i,j=>by
  simp only[maskK,lookE]
  by_cases h:i=j
  ·subst h;rw[if_pos rfl];right;simp
  ·rw[if_neg h]
   rcases ziw (T:=T) (m:=m) (i:=i+1) (j:=j)with e|⟨e,h2,h3⟩
   ·exact .inl e
   ·refine .inr ⟨e,by omega,?_⟩
    rw[show j-i=(j-(i+1))+1 by omega,List.getD_cons_succ];exact h3
 |false::m,i,j=>by
  simp only[maskK]
  rcases ziw (T:=T) (m:=m) (i:=i+1) (j:=j)with e|⟨e,h2,h3⟩
  ·exact .inl e
  ·refine .inr ⟨e,by omega,?_⟩
   rw[show j-i=(j-(i+1))+1 by omega,List.getD_cons_succ];exact h3
theorem zhw:∀(m:List Bool) (T:List IVal),(maskT m T).length=T.length
 | [],T=>by cases T<;>rfl
 |true::m,[]=>rfl
 |false::m,[]=>rfl
 |true::m,v::T=>by simp only[maskT,List.length_cons,zhw m T]
 |false::m,v::T=>by simp only[maskT,List.length_cons,zhw m T]
theorem ztq:∀ {m:List Bool} {T:List IVal} {j:Nat},m.getD j true=true→(maskT m T).getD j .undef=T.getD j .undef
 | [],T,j,_=>by cases T<;>rfl
 |true::m,[],j,_=>rfl
 |false::m,[],j,_=>rfl
 |true::m,v::T,0,_=>rfl
 |false::m,v::T,0,h=>by simp at h
 |true::m,v::T,j+1,h=>by simp only[maskT,List.getD_cons_succ]at h ⊢;exact ztq h
 |false::m,v::T,j+1,h=>by simp only[maskT,List.getD_cons_succ]at h ⊢;exact ztq h
theorem zgt {n:Nat} {m:List Bool} {T:Env} {R:List IVal} (h:RelE n T R):RelE n (maskK T 0 m) R∧RelE n (maskK T 0 m) (maskT m R):=by
 refine⟨⟨h.len,fun i=>?_⟩,⟨by rw[zhw];exact h.len,fun i=>?_⟩⟩
 ·rcases ziw (T:=T) (m:=m) (i:=0) (j:=i)with e|⟨e,_,_⟩
  ·rw[e];exact .inl rfl
  ·rw[e];exact h.at' i
 ·rcases ziw (T:=T) (m:=m) (i:=0) (j:=i)with e|⟨e,_,h3⟩
  ·rw[e];exact .inl rfl
  ·rw[e,ztq (by simpa using h3)];exact h.at' i
theorem zaay {n:Nat} {T:Env} {R:List IVal} (h:RelE n T R):RelE n T (maskT [] R):=by cases R<;>exact h
theorem zix {T:Env}:∀ {B:List (Nat×Option KB)} {s:Nat} {b:Option KB},findK (trimB T B) s=some b→findK B s=some b
 | [],s,b,h=>by cases h
 |(t,some c)::r,s,b,h=>by
  simp only[trimB]at h
  rw[findK]
  cases e:pointsTo t T with
  |true =>
   rw[e]at h
   simp only[cond_true,findK]at h
   split at h
   ·rename_i e2;rw[if_pos e2];exact h
   ·rename_i e2;rw[if_neg e2];exact zix h
  |false =>
   rw[e]at h
   simp only[cond_false,zeo]at h
   split at h
   ·cases h
   ·rename_i e2;rw[if_neg e2];exact zix h
 |(t,none)::r,s,b,h=>by
  rw[findK]
  simp only[trimB,zeo]at h
  split at h
  ·cases h
  ·rename_i e2;rw[if_neg e2];exact zix h
def maskS (m:List Bool) (T:Env) (M:KM) (k:Env→KM→Prop):Prop:=k (maskK T 0 m) ⟨trimB (maskK T 0 m) M.B,M.H⟩
theorem zfk {T:Env} {M:KM} {M':Mem} (h:RelM M M'):RelM ⟨trimB T M.B,M.H⟩ M':=⟨fun s b hb=>h.box s b (zix hb),h.heap⟩
def wpLoop (C:Oracle) (n:Nat) (m:List Bool) (c:ICode) (Q:IExit→Env→KM→Prop) (T:Env) (M:KM):Prop :=
 ∀T' M',RelE n T T'→RelM M M'→∃e S',evalLoop C loopW m c ⟨T',M'⟩=some (e,S')∧∃T M,RelE n T S'.T∧RelM M S'.M∧Q e T M
def blkK (id:Nat) (m:List Bool) (Q:IExit→Env→KM→Prop) (e:IExit) (T:Env) (M:KM):Prop :=
 match e with
 | .exit i=>if i=id then(match m with
   | []=>Q .normal T M
   |m=>maskS m T M (Q .normal))else Q (.exit i) T M
 |e=>Q e T M
def seqK (Q:IExit→Env→KM→Prop) (n:Env→KM→Prop) (e:IExit) (T:Env) (M:KM):Prop :=
 match e with
 | .normal=>n T M
 |e=>Q e T M
def wp (C:Oracle) (n:Nat) (c:ICode) (Q:IExit→Env→KM→Prop) (T:Env) (M:KM):Prop :=
 match c with
 | .skip=>Q .normal T M
 | .seq a b=>wp C n a (seqK Q fun T M=>wp C n b Q T M) T M
 | .cond c a b=>gets (asBool (opdK T [] [] c)) fun t=>br t (wp C n a Q T M) (wp C n b Q T M)
 | .block id m c=>wp C n c (blkK id m Q) T M
 | .loop m c=>maskS m T M (wpLoop C n m c Q)
 | .exit id=>Q (.exit id) T M
 | .ret=>Q .ret T M
 | .reg fr ops=>wpReg C n (freshT T fr) ⟨freshB M.B fr,M.H⟩ ops (Q .normal)
 | .draw fr ops plans=>wpDraw C n ops plans (freshT T fr) ⟨freshB M.B fr,M.H⟩ (Q .normal)
theorem zcr {C:Oracle} {n:Nat}:∀ {c:ICode} {Q:IExit→Env→KM→Prop} {T:Env} {M:KM},wp C n c Q T M→∀ {S:St},RelE n T S.T→RelM M S.M→∃e S',evalCode C loopW c S=some (e,S')∧∃T M,RelE n T S'.T∧RelM M S'.M∧Q e T M
 | .skip,Q,T,M,h,S,hT,hM=>⟨_,_,rfl,T,M,hT,hM,h⟩
 | .exit _,Q,T,M,h,S,hT,hM=>⟨_,_,rfl,T,M,hT,hM,h⟩
 | .ret,Q,T,M,h,S,hT,hM=>⟨_,_,rfl,T,M,hT,hM,h⟩
 | .seq a b,Q,T,M,h,S,hT,hM=>by
   rw[wp]at h
   obtain⟨e,S',h1,T2,M2,h2,h3,h4⟩:=zcr h hT hM
   rw[evalCode,h1]
   cases e with
   |normal=>exact zcr h4 h2 h3
   |exit i=>exact⟨_,_,rfl,_,_,h2,h3,h4⟩
   |ret=>exact⟨_,_,rfl,_,_,h2,h3,h4⟩
 | .cond c a b,Q,T,M,h,S,hT,hM=>by
   rw[wp]at h
   obtain⟨t,h1,h2⟩:=h
   have hc:=(zek hT RelE.nil [] c).eq (by rw[zep h1];simp)
   rw[zep h1]at hc
   rw[evalCode,←hc]
   rcases zaav h2 with⟨rfl,h3⟩|⟨rfl,h3⟩
   ·exact zcr h3 hT hM
   ·exact zcr h3 hT hM
 | .block id m c,Q,T,M,h,S,hT,hM=>by
   rw[wp]at h
   obtain⟨e,S',h1,T2,M2,h2,h3,h4⟩:=zcr h hT hM
   rw[evalCode,h1]
   cases e with
   |normal=>exact⟨_,_,rfl,_,_,h2,h3,h4⟩
   |ret=>exact⟨_,_,rfl,_,_,h2,h3,h4⟩
   |exit i =>
    simp only[blkK]at h4
    simp only[zfq]
    by_cases e:i=id
    ·rw[if_pos e]at h4
     simp only[e,decide_true]
     refine⟨_,_,rfl,?_⟩
     split at h4
     ·exact⟨_,_,zaay h2,h3,h4⟩
     ·exact⟨_,_,(zgt h2).2,zfk h3,h4⟩
    ·rw[if_neg e]at h4
     simp only[e,decide_false]
     exact⟨_,_,rfl,_,_,h2,h3,h4⟩
 | .loop m c,Q,T,M,h,S,hT,hM=>by
   rw[wp]at h
   exact h S.T S.M (zgt hT).1 (zfk hM)
 | .reg fr ops,Q,T,M,h,S,hT,hM=>by
   rw[wp]at h
   obtain⟨h1,h2⟩:=zle (fr:=fr) (B:=M.B) (H:=M.H) hT hM
   obtain⟨S',h3,h4⟩:=zkd h h1 h2
   rw[evalCode,h3]
   exact⟨_,_,rfl,h4⟩
 | .draw fr ops plans,Q,T,M,h,S,hT,hM=>by
   rw[wp]at h
   obtain⟨h1,h2⟩:=zle (fr:=fr) (B:=M.B) (H:=M.H) hT hM
   obtain⟨S',h3,h4⟩:=zwc h h1 h2
   rw[evalCode,h3]
   exact⟨_,_,rfl,h4⟩
theorem zcg {C:Oracle} {n:Nat} {m:List Bool} {c:ICode} {Q:IExit→Env→KM→Prop} {T:Env} {M:KM} (h:maskS m T M (wp C n c (seqK Q fun T M=>maskS m T M (wpLoop C n m c Q)))):wpLoop C n m c Q T M:=by
 intro T' M' hT hM
 obtain⟨e,S',h1,T2,M2,h2,h3,h4⟩:=zcr (S:=⟨maskT m T',M'⟩) h (zgt hT).2 (zfk hM)
 cases e with
 |normal =>
  obtain⟨e,S2,h5,h6⟩:=h4 S'.T S'.M (zgt h2).1 (zfk h3)
  exact⟨e,S2,ztj h1 h5,h6⟩
 |exit i=>exact⟨_,_,ztk h1,_,_,h2,h3,h4⟩
 |ret=>exact⟨_,_,zvn h1,_,_,h2,h3,h4⟩
def resK (T:Env) (M:KM) (r:IRes) (k:SV→Prop):Prop :=
 match r with
 | .tmp t=>k (lookE T t)
 | .cell t n=>readK M n (lookE T t) k
def resAllK (T:Env) (M:KM) (l:List IRes) (k:List SV→Prop):Prop :=
 match l with
 | []=>k []
 |r::rs=>resK T M r fun v=>resAllK T M rs fun vs=>k (v::vs)
def outK (M:KM) (Q:IVal→List IBlk→Prop) (l:List SV):Prop :=
 match l with
 | [v]=>v.den.passOK=true∧Q v.den M.H
 |vs=>passesOK (SV.dens vs)=true∧Q (.tup (SV.dens vs)) M.H
def retK (res:List IRes) (Q:IVal→List IBlk→Prop) (e:IExit) (T:Env) (M:KM):Prop :=
 match e with
 | .exit _=>False
 |_=>resAllK T M res (outK M Q)
def RelR:List SV→List IVal→Prop
 | [],[]=>True
 |a::x,b::y=>RelV a b∧RelR x y
 |_,_=>False
theorem zacr {n:Nat} {T:Env} {M:KM} {r:IRes} {k:SV→Prop} (h:resK T M r k) {S:St} (hT:RelE n T S.T) (hM:RelM M S.M):∃v sv,oneRes S r=some v∧RelV sv v∧k sv:=by
 cases r with
 |tmp t=>exact⟨_,_,rfl,hT.at' t,h⟩
 |cell t n =>
  obtain⟨v,sv,h1,h2,h3⟩:=zpc h hM (hT.at' t)
  exact⟨v,sv,h1,h2,h3⟩
theorem zlf {n:Nat} {T:Env} {M:KM} {S:St} (hT:RelE n T S.T) (hM:RelM M S.M):∀ {l:List IRes} {k:List SV→Prop},resAllK T M l k→∃vs svs,allRes S l=some vs∧RelR svs vs∧k svs
 | [],k,h=>⟨[],[],rfl,trivial,h⟩
 |r::rs,k,h=>by
  obtain⟨v,sv,h1,h2,h3⟩:=zacr h hT hM
  obtain⟨vs,svs,h4,h5,h6⟩:=zlf hT hM h3
  exact⟨v::vs,sv::svs,by rw[allRes,h1,h4],⟨h2,h5⟩,h6⟩
theorem zaff:∀ {x:List SV} {y:List IVal},RelR x y→passesOK (SV.dens x)=true→SV.dens x=y
 | [],[],_,_=>rfl
 |a::x,b::y,h,hp=>by
  simp only[SV.dens,passesOK]at hp ⊢
  split at hp
  ·rename_i h1
   rw[h.1.eq (by intro e;rw[e]at h1;simp[IVal.passOK,IVal.cellOK]at h1),zaff h.2 hp]
  ·cases hp
theorem zgc {n:Nat} {res:List IRes} {Q:IVal→List IBlk→Prop} {e:IExit} {T:Env} {M:KM} (h:retK res Q e T M) {S:St} (hT:RelE n T S.T) (hM:RelM M S.M):(e = .ret∨e = .normal)∧∃v,Ideal.results S res=some v∧Q v S.M.heap:=by
 have key:resAllK T M res (outK M Q)→∃v,Ideal.results S res=some v∧Q v S.M.heap:=by
  intro h
  obtain⟨vs,svs,h1,h2,h3⟩:=zlf hT hM h
  unfold outK at h3
  split at h3
  ·rename_i sv
   obtain⟨h3,h4⟩:=h3
   cases vs with
   |nil=>cases h2
   |cons v vs =>
   cases vs with
   |cons w ws=>cases h2.2
   |nil =>
   have hv:=h2.1.eq (by intro e;rw[e]at h3;simp[IVal.passOK,IVal.cellOK]at h3)
   rw[hv]at h3 h4
   refine⟨v,?_,by rw[← hM.heap];exact h4⟩
   unfold Ideal.results
   rw[h1]
   simp only[h3]
  ·rename_i hne
   obtain⟨h3,h4⟩:=h3
   have hv:=zaff h2 h3
   rw[hv]at h3 h4
   refine⟨_,?_,by rw[← hM.heap];exact h4⟩
   unfold Ideal.results
   rw[h1]
   cases vs with
   |nil=>simp only[h3]
   |cons v vs =>
   cases vs with
   |cons w ws=>simp only[h3]
   |nil =>
    cases svs with
    |nil=>cases h2
    |cons s ss =>
    cases ss with
    |nil=>exact absurd rfl (hne s)
    |cons s2 ss=>cases h2.2
 cases e with
 |exit i=>cases h
 |ret=>exact⟨.inl rfl,key h⟩
 |normal=>exact⟨.inr rfl,key h⟩
def startE (i:Nat):List IVal→Env
 | []=>[]
 |a::r=>(i,up a)::startE (i+1) r
theorem zph:∀ {l:List IVal} {i j:Nat},RelV (lookE (startE i l) (i+j)) (l.getD j .undef)
 | [],i,j=>.inl rfl
 |a::r,i,0=>by simp only[startE,lookE,Nat.add_zero,if_true];exact RelV.up a
 |a::r,i,j+1=>by
  simp only[startE,lookE]
  rw[if_neg (by omega),List.getD_cons_succ,show i+(j+1)=i+1+j by omega]
  exact zph
theorem zwd:∀ {l:List IVal} {i j:Nat},l.length≤j→lookE (startE i l) (i+j) = .U
 | [],i,j,_=>rfl
 |a::r,i,0,h=>by simp at h
 |a::r,i,j+1,h=>by
  simp only[startE,lookE]
  rw[if_neg (by omega),show i+(j+1)=i+1+j by omega]
  exact zwd (by simpa using h)
theorem zlg {args:List IVal} {n:Nat} (h:args.length≤n):RelE n (startE 0 args) (args++List.replicate (n-args.length) skipped):=by
 refine⟨by simp;omega,fun i=>?_⟩
 by_cases hi:i<args.length
 ·have:=zph (l:=args) (i:=0) (j:=i)
  rw[Nat.zero_add]at this
  rw[List.getD_eq_getElem?_getD,List.getElem?_append_left hi,←List.getD_eq_getElem?_getD]
  exact this
 ·have:=zwd (l:=args) (i:=0) (j:=i) (by omega)
  rw[Nat.zero_add]at this
  rw[this]
  exact .inl rfl
variable [B:Base] {Γ:Prog} {k:Nat} {args as:List IVal} {H:List IBlk} {F:IFun}
theorem zaw {Q:IVal→List IBlk→Prop} (hk:Γ k=some F) (hp:F.pure=false) (hn:(Nat.beq args.length F.np&&Nat.ble args.length F.nt)=true)
 (h:wp (CW Γ) F.nt F.code (retK F.res Q) (startE 0 args) ⟨[],H⟩):∃r H',CW Γ k args H=some (r,H')∧Q r H':=by
 obtain⟨hn,hl⟩:=(Bool.and_eq_true _ _).mp hn
 have hl:=Nat.le_of_ble_eq_true hl
 obtain⟨e,S',h1,T,M,h2,h3,h4⟩:=zcr h (S:=⟨args++List.replicate (F.nt-args.length) skipped,⟨[],H⟩⟩) (zlg hl) ⟨fun s b hb=>(by cases hb),rfl⟩
 obtain⟨he,v,h5,h6⟩:=zgc h4 h2 h3
 refine⟨v,S'.M.heap,CW_of (zvo hk hp hn ⟨(e,S'),h1,he,v,h5,rfl,rfl⟩),h6⟩
theorem zgd {Q:IVal→Prop} (hk:Γ k=some F) (hp:F.pure=true) (hf:freezeAll H args=some as) (hn:(Nat.beq as.length F.np&&Nat.ble as.length F.nt)=true)
 (h:wp (CW Γ) F.nt F.code (retK F.res fun v H'=>gets (freezeRes H' v) fun r=>(plainArgs args||(scalRes r||freshRes H' v))=true∧Q r) (startE 0 as) ⟨[],[]⟩):∃r,CW Γ k args H=some (r,H)∧Q r:=by
 obtain⟨hn,hl⟩:=(Bool.and_eq_true _ _).mp hn
 have hl:=Nat.le_of_ble_eq_true hl
 obtain⟨e,S',h1,T,M,h2,h3,h4⟩:=zcr h (S:=⟨as++List.replicate (F.nt-as.length) skipped,⟨[],[]⟩⟩) (zlg hl) ⟨fun s b hb=>(by cases hb),rfl⟩
 obtain⟨he,v,h5,r,h6,h7,h8⟩:=zgc h4 h2 h3
 refine⟨r,CW_of ?_,h8⟩
 have hrun:runBody (CW Γ) loopW F as []=some (v,S'.M.heap):=by
  unfold runBody
  rw[hn,h1]
  rcases he with he|he<;>(subst he;simp only[h5])
 unfold callBody
 simp only[hk,hp,hf,hrun,h6,h7]
theorem zai {r:IVal} (hk:Γ k=some F) (hp:F.pure=true) (hpl:plainArgs args=true) (hn:(Nat.beq args.length F.np&&Nat.ble args.length F.nt)=true)
 (h:wp (CW Γ) F.nt F.code (retK F.res fun v H'=>freezeRes H' v=some r) (startE 0 args) ⟨[],[]⟩):CW Γ k args H=some (r,H):=by
 obtain⟨hn,hl⟩:=(Bool.and_eq_true _ _).mp hn
 have hl:=Nat.le_of_ble_eq_true hl
 obtain⟨e,S',h1,T,M,h2,h3,h4⟩:=zcr h (S:=⟨args++List.replicate (F.nt-args.length) skipped,⟨[],[]⟩⟩) (zlg hl) ⟨fun s b hb=>(by cases hb),rfl⟩
 obtain⟨he,v,h5,h6⟩:=zgc h4 h2 h3
 exact CW_of (ztl hk hp hpl hn ⟨(e,S'),h1,he,v,h5,h6⟩)
end Go.Ideal

/-
  IDEAL SEMANTICS, 37: WHAT CODE COMES TO, FOR 'simp': the data first, what comes behind later.
-/
namespace Go.Ideal
open Go
set_option linter.unusedSectionVars false
variable [Tabs]
section
variable {C:Oracle} {ρ:Opd→SV} {n:Nat} {T T' R R':Env} {M M':KM} {k:SV→KM→Prop} {kt:Env→KM→Prop} {Q:IExit→Env→KM→Prop}
universe u v
class Bx (α:Sort u) where
 val:α
def hid {α:Sort u} [b:Bx α]:α:=b.val
@[simp ↓] theorem zyv {α:Sort u} {β:Sort v} {f:α→β} {a:α} : @hid (α→β) ⟨f⟩ a=f a:=(rfl)
@[simp ↓] theorem zasm {α:Type} {a:α} {P:α→Prop}:gets (some a) P=P a:=zex
@[simp ↓] theorem zavl {α:Type} {P:α→Prop}:gets none P=False:=by simp[gets]
def nth {α:Type} (l:List α) (i:Nat):Option α:=l[i]?
@[simp ↓] theorem zayg {α:Type} {a:α} {l:List α}:nth (a::l) 0=some a:=(rfl)
@[simp ↓] theorem zayh {α:Type} {a:α} {l:List α} {i:Nat}:nth (a::l) (i+1)=nth l i:=(rfl)
@[simp] theorem zayi {v:PVal}:IVal.passOK (.p v)=true:=(rfl)
@[simp] theorem zasn {l:List IVal}:IVal.passOK (.agg l)=true:=(rfl)
@[simp] theorem zaso {l:List IVal}:IVal.passOK (.tup l)=true:=(rfl)
@[simp] theorem zanc {a b c d:Nat}:IVal.passOK (.slice a b c d)=true:=(rfl)
@[simp] theorem zasp {a:Nat}:IVal.passOK (.map a)=true:=(rfl)
@[simp] theorem zaol {f:FuncId} {l:List IVal}:IVal.passOK (.func f l)=true:=(rfl)
@[simp] theorem zasq {a b c:Nat}:IVal.passOK (.ptr (.heap a) b c)=true:=(rfl)
@[simp] theorem zand:passesOK []=true:=(rfl)
@[simp] theorem zajq {v:IVal} {l:List IVal}:passesOK (v::l)=(v.passOK&&passesOK l):=by
 simp only[passesOK];cases v.passOK<;>rfl
@[simp] theorem zayj {v:PVal}:IVal.cellOK (.p v)=true:=(rfl)
@[simp] theorem zane {a b c d:Nat}:IVal.cellOK (.slice a b c d)=true:=(rfl)
@[simp] theorem zasr {a:Nat}:IVal.cellOK (.map a)=true:=(rfl)
@[simp] theorem zaom {f:FuncId} {l:List IVal}:IVal.cellOK (.func f l)=true:=(rfl)
@[simp] theorem zass {a b c:Nat}:IVal.cellOK (.ptr (.heap a) b c)=true:=(rfl)
@[simp] theorem zaon:cellsOK []=true:=(rfl)
@[simp] theorem zanf {v:IVal} {l:List IVal}:cellsOK (v::l)=(v.cellOK&&cellsOK l):=by
 simp only[cellsOK];cases v.cellOK<;>rfl
@[simp] theorem zaoo {H:List IBlk} {v:PVal}:freezeRes H (.p v)=some (.p v):=(rfl)
@[simp] theorem zajr {H:List IBlk} {l:List IVal}:freezeRes H (.agg l)=freezeOne H (.agg l):=(rfl)
@[simp] theorem zez {H:List IBlk} {a b c d:Nat}:freezeRes H (.slice a b c d)=freezeOne H (.slice a b c d):=(rfl)
@[simp] theorem zfa {H:List IBlk} {a b c d:Nat}:freezeOne H (.slice a b c d)=(freezeCell H 100 (.slice a b c d)).map .p:=by
 simp only[freezeOne];cases freezeCell H 100 (.slice a b c d)<;>rfl
@[simp] theorem zajs {H:List IBlk} {l:List IVal}:freezeRes H (.tup l)=(freezeAll H l).map .tup:=by
 simp only[freezeRes];cases freezeAll H l<;>rfl
@[simp] theorem zajt {H:List IBlk}:freezeAll H []=some []:=(rfl)
@[simp] theorem zain {H:List IBlk} {v:IVal} {l:List IVal}:freezeAll H (v::l)=(freezeOne H v).bind fun x=>(freezeAll H l).map fun y=>x::y:=by
 simp only[freezeAll];cases freezeOne H v<;>cases freezeAll H l<;>rfl
theorem zgz {H:List IBlk} {l:List PVal}:freezeOne H (.agg (pcells l))=some (.agg (pcells l)):=by
 have:cellsPlain (pcells l)=true:=by
  induction l with
  |nil=>rfl
  |cons a l ih=>exact ih
 obtain⟨xs,h1,h2⟩:=freezePlain (H:=H) this
 rw[freezeOne,h2,h1]
@[simp] theorem zazw {a b:Nat}:Nat.ble a b=decide (a≤b):=by
 by_cases h:a≤b
 ·rw[Nat.ble_eq_true_of_le h];simp[h]
 ·cases e:Nat.ble a b with
  |false=>simp[h]
  |true=>exact absurd (Nat.le_of_ble_eq_true e) h
attribute [simp] zfq
def onSome (x:SV) (f:Nat→Nat→Prop) (e:Unit→Prop):Prop :=
 match x with
 | .box s o=>f s o
 |_=>e ()
@[simp] theorem zast {s o:Nat} {f:Nat→Nat→Prop} {e:Unit→Prop}:onSome (.box s o) f e=f s o:=(rfl)
@[simp] theorem zayk {x:IVal} {f:Nat→Nat→Prop} {e:Unit→Prop}:onSome (.v x) f e=e ():=(rfl)
@[simp] theorem zasu {cs:List SV} {f:Nat→Nat→Prop} {e:Unit→Prop}:onSome (.agg cs) f e=e ():=(rfl)
def onAgg (x:SV) (f:List SV→Prop) (e:Unit→Prop):Prop :=
 match x with
 | .agg cs=>f cs
 |_=>e ()
@[simp] theorem zazx {x:IVal} {f:List SV→Prop} {e:Unit→Prop}:onAgg (.v x) f e=e ():=(rfl)
@[simp] theorem zavm {cs:List SV} {f:List SV→Prop} {e:Unit→Prop}:onAgg (.agg cs) f e=f cs:=(rfl)
def onTup (x:SV) (f:List SV→Prop) (e:Unit→Prop):Prop :=
 match x with
 | .tup cs=>f cs
 |_=>e ()
@[simp] theorem zazy {x:IVal} {f:List SV→Prop} {e:Unit→Prop}:onTup (.v x) f e=e ():=(rfl)
@[simp] theorem zavn {cs:List SV} {f:List SV→Prop} {e:Unit→Prop}:onTup (.tup cs) f e=f cs:=(rfl)
@[simp ↓] theorem zayl {x:Opd}:wpOp C ρ M (.mov x) k=k (ρ x) M:=(rfl)
@[simp ↓] theorem zavo {c a b:Opd}:wpOp C ρ M (.pick c a b) k=gets ((asBool (ρ c))) (@hid _ ⟨fun t=>pickK (t) ((ρ a)) ((ρ b)) (@hid _ ⟨fun v=>k v M⟩)⟩):=(rfl)
@[simp ↓] theorem zaop {s:Nat} {z:List PVal}:wpOp C ρ M (.alloc (some s) z) k=(findK M.B s=some none∧k (.box s 0) ⟨setK M.B s (some ⟨ups (pcells z),z.length⟩),M.H⟩):=(rfl)
@[simp ↓] theorem zaoq {z:List PVal}:wpOp C ρ M (.alloc none z) k=k (.v (.ptr (.heap M.H.length) 0 0)) ⟨M.B,M.H++[.cells (pcells z) z.length 0 false]⟩:=by
 simp[wpOp,plainK,evalOp,newBlk,up]
@[simp ↓] theorem zavp {s n:Nat} {x:Opd}:wpOp C ρ M (.box (some s) n x) k=cellsK ((ρ x)) n (@hid _ ⟨fun cs=>findK M.B s=some none∧k (.box s 0) ⟨setK M.B s (some ⟨cs,n⟩),M.H⟩⟩):=(rfl)
@[simp ↓] theorem zavq {n:Nat} {x:Opd}:wpOp C ρ M (.box none n x) k=cellsK ((ρ x)) n (@hid _ ⟨fun cs=>k (.v (.ptr (.heap M.H.length) 0 0)) ⟨M.B,M.H++[.cells (SV.dens cs) n 0 false]⟩⟩):=(rfl)
@[simp ↓] theorem zasv {z:List PVal} {ps:List (Nat×Nat×Opd)}:wpOp C ρ M (.build z ps) k=fillK ρ ((ups (pcells z))) ps (@hid _ ⟨fun cs=>k (.agg cs) M⟩):=(rfl)
@[simp ↓] theorem zafg {e n:Nat} {z:List PVal} {ps:List (Nat×Nat×Opd)}:wpOp C ρ M (.buildSlice e n z ps) k=fillK ρ ((ups (repl n z))) ps (@hid _ ⟨fun cs=>k (.v (.slice M.H.length 0 0 n)) ⟨M.B,M.H++[.cells (SV.dens cs) e 0 false]⟩⟩):=(rfl)
@[simp ↓] theorem zavr {n:Option Nat} {a:Opd}:wpOp C ρ M (.load n a) k=readK M n ((ρ a)) (@hid _ ⟨fun v=>k v M⟩):=(rfl)
def storeH (M:KM) (y:IVal) (cs:List IVal) (k:SV→KM→Prop):Prop:=gets (writeCells ⟨[],M.H⟩ y cs) fun M'=>k (.tup []) ⟨M.B,M'.heap⟩
@[simp ↓] theorem zasw {n:Nat} {a x:Opd}:wpOp C ρ M (.store n a x) k=cellsK (ρ x) n (@hid _ ⟨fun cs=>onSome (ρ a)
 (@hid _ ⟨fun s off=>onBox M s (@hid _ ⟨fun b=>off+cs.length≤b.cs.length∧k (.tup []) ⟨setK M.B s (some ⟨spliceK b.cs off cs,b.e⟩),M.H⟩⟩)⟩)
 (@hid _ ⟨fun _=>storeH M (ρ a).den (SV.dens cs) k⟩)⟩):=by
 simp only[wpOp,hid]
 congr 1
 funext cs
 unfold onSome
 cases ρ a<;>rfl
@[simp ↓] theorem zaju {x:Opd}:wpOp C ρ M (.nilCheck x) k=onSome ((ρ x)) ((@hid _ ⟨fun s o=>k (.box s o) M⟩)) (@hid _ ⟨fun _=>plainK C ρ M (.nilCheck x) k⟩):=by
 simp only[wpOp];unfold onSome;cases ρ x<;>rfl
def fieldF (off:Nat) (x:IVal):Option IVal :=
 match x with
 | .p (.ptr cs)=>if off≤cs.length then some (.p (.ptr (cs.drop off)))else none
 | .ptr k v o=>some (.ptr k v (o+off))
 |_=>none
@[simp] theorem zaym {off:Nat} {cs:List PVal}:fieldF off (.p (.ptr cs))=if off≤cs.length then some (.p (.ptr (cs.drop off)))else none:=(rfl)
@[simp] theorem zasx {off:Nat} {k:Key} {v o:Nat}:fieldF off (.ptr k v o)=some (.ptr k v (o+off)):=(rfl)
theorem znq {α β:Type} {X:Option α} {f:α→β} {Q:β→Prop}:gets (X.map f) Q=gets X fun a=>Q (f a):=by
 cases X<;>simp
theorem ztr {ρ:Opd→IVal} {M:Mem} {off:Nat} {x:Opd}:evalOp C ρ M (.fieldAddr off x)=(fieldF off (ρ x)).map fun v=>(v,M):=by
 simp only[evalOp,fieldF]
 generalize ρ x=u
 cases u with
 |p v =>
  cases v with
  |ptr cs=>by_cases h:off≤cs.length<;>simp[h]
  |_=>rfl
 |_=>rfl
@[simp ↓] theorem zaio {off:Nat} {x:Opd}:wpOp C ρ M (.fieldAddr off x) k=onSome (ρ x) (@hid _ ⟨fun s o=>k (.box s (o+off)) M⟩) (@hid _ ⟨fun _=>gets (fieldF off (ρ x).den) (@hid _ ⟨fun v=>k (up v) M⟩)⟩):=by
 have:(gets (fieldF off (ρ x).den) fun v=>k (up v) M)=plainK C ρ M (.fieldAddr off x) k:=by
  rw[plainK,ztr,znq]
 simp only[hid,this]
 simp only[wpOp];unfold onSome;cases ρ x<;>rfl
@[simp ↓] theorem zaor {len esz:Nat} {x i:Opd}:wpOp C ρ M (.idxArr len esz x i) k=onSome ((ρ x)) ((@hid _ ⟨fun s o=>gets ((asIndex len (ρ i).den)) (@hid _ ⟨fun j=>k (.box s (o+j*esz)) M⟩)⟩)) (@hid _ ⟨fun _=>plainK C ρ M (.idxArr len esz x i) k⟩):=by
 simp only[wpOp];unfold onSome;cases ρ x<;>rfl
@[simp ↓] theorem zasy {n:Option Nat} {off:Nat} {x:Opd}:wpOp C ρ M (.field n off x) k=onAgg ((ρ x)) ((@hid _ ⟨fun cs=>loadK n (off) cs (@hid _ ⟨fun v=>k v M⟩)⟩)) (@hid _ ⟨fun _=>plainK C ρ M (.field n off x) k⟩):=by
 simp only[wpOp];unfold onAgg;cases ρ x<;>rfl
@[simp ↓] theorem zaos {len esz:Nat} {n:Option Nat} {x i:Opd}:wpOp C ρ M (.idxVal len esz n x i) k=onAgg ((ρ x)) ((@hid _ ⟨fun cs=>gets ((asIndex len (ρ i).den)) (@hid _ ⟨fun j=>loadK n ((j*esz)) cs (@hid _ ⟨fun v=>k v M⟩)⟩)⟩)) (@hid _ ⟨fun _=>plainK C ρ M (.idxVal len esz n x i) k⟩):=by
 simp only[wpOp];unfold onAgg;cases ρ x<;>rfl
@[simp ↓] theorem zayn {op:BinOp} {x y:Opd}:wpOp C ρ M (.bin op x y) k=binK op ((ρ x)) ((ρ y)) (@hid _ ⟨fun v=>k v M⟩):=(rfl)
@[simp ↓] theorem zayo {x:Opd}:wpOp C ρ M (.not x) k=gets ((asBool (ρ x))) (@hid _ ⟨fun b=>k (.bool (!b)) M⟩):=(rfl)
@[simp ↓] theorem zayp {x:Opd}:wpOp C ρ M (.neg x) k=gets ((asInt (ρ x))) (@hid _ ⟨fun p=>fitK p.1 ((0-p.2)) (@hid _ ⟨fun v=>k v M⟩)⟩):=(rfl)
@[simp ↓] theorem zavs {d:IntKind} {x:Opd}:wpOp C ρ M (.conv d x) k=gets ((asInt (ρ x))) (@hid _ ⟨fun p=>k (.int d (d.wrap p.2)) M⟩):=(rfl)
@[simp ↓] theorem zang {x:Opd} {i:Nat}:wpOp C ρ M (.extract x i) k=onTup ((ρ x)) ((@hid _ ⟨fun vs=>gets ((nth vs i)) (@hid _ ⟨fun v=>k v M⟩)⟩)) (@hid _ ⟨fun _=>plainK C ρ M (.extract x i) k⟩):=by
 simp only[wpOp];unfold onTup;cases ρ x<;>rfl
@[simp ↓] theorem zavt {f:Opd} {args:List Opd}:wpOp C ρ M (.call f args) k=(passesOK (args.map (@hid _ ⟨fun o=>(ρ o).den⟩))=true∧callK C ((ρ f).den) (args.map (@hid _ ⟨fun o=>(ρ o).den⟩)) M.H (@hid _ ⟨fun v H=>k (up v) ⟨M.B,H⟩⟩)):=(rfl)
def idxS (e:Nat) (x i:IVal):Option IVal :=
 match x with
 | .p (.slice f n cs)=>match Nat.beq f e,asIndex n i with
   |true,some j=>some (.p (.ptr (cs.drop (j*e))))
   |_,_=>none
 | .slice k v o n=>match asIndex n i with
   |some j=>some (.ptr (.heap k) v (o+j*e))
   |none=>none
 |_=>none
theorem zyw {ρ:Opd→IVal} {M:Mem} {e:Nat} {x i:Opd}:evalOp C ρ M (.idxSlice e x i)=(idxS e (ρ x) (ρ i)).map fun v=>(v,M):=by
 simp only[evalOp,idxS]
 generalize ρ x=u
 generalize ρ i=w
 cases u with
 |p v =>
  cases v with
  |slice f n cs =>
   generalize hb:Nat.beq f e=b
   generalize ho:asIndex n w=o
   cases b<;>cases o<;>simp only[hb,ho]<;>rfl
  |_=>rfl
 |slice k v o n =>
  generalize ho:asIndex n w=o
  cases o<;>simp only[ho]<;>rfl
 |_=>rfl
@[simp ↓] theorem zajv {e:Nat} {x i:Opd}:wpOp C ρ M (.idxSlice e x i) k=gets ((idxS e (ρ x).den (ρ i).den)) (@hid _ ⟨fun v=>k (up v) M⟩):=by
 have:wpOp C ρ M (.idxSlice e x i) k=plainK C ρ M (.idxSlice e x i) k:=rfl
 rw[this,plainK,zyw,znq]
 rfl
theorem zau {e k v o n j:Nat} (h:j<n):idxS e (.slice k v o n) (.p (.int .i64 j))=some (.ptr (.heap k) v (o+j*e)):=by
 simp only[idxS,asIndex]
 rw[if_pos (by omega)]
 rfl
theorem zcb {e n j:Nat} {cs:List PVal} (h:j<n):idxS e (.p (.slice e n cs)) (.p (.int .i64 j))=some (.p (.ptr (cs.drop (j*e)))):=by
 simp only[idxS,asIndex,Nat.beq_refl]
 rw[if_pos (by omega)]
 rfl
@[simp ↓] theorem zajw {x:Opd} {l h:Option Opd}:wpOp C ρ M (.sliceStr x l h) k=plainK C ρ M (.sliceStr x l h) k:=(rfl)
@[simp ↓] theorem zanh {e:Nat} {x:Opd} {l h:Option Opd}:wpOp C ρ M (.sliceSl e x l h) k=plainK C ρ M (.sliceSl e x l h) k:=(rfl)
@[simp ↓] theorem zayq {n:Bool} {c:KTy} {x y:Opd}:wpOp C ρ M (.eqv n c x y) k=gets ((eqVals c (ρ x).den (ρ y).den)) (@hid _ ⟨fun b=>k (.bool (negIf n b)) M⟩):=by
 simp only[wpOp,plainK,evalOp,gets]
 apply propext
 constructor
 ·rintro⟨⟨v,M'⟩,h1,h2⟩
  cases h:eqVals c (ρ x).den (ρ y).den with
  |none=>rw[h]at h1;cases h1
  |some b =>
   rw[h]at h1
   simp only[Ideal.sayBool]at h1
   injection h1 with h1;injection h1 with ha hb
   refine⟨b,rfl,?_⟩
   rw[← ha,←hb]at h2
   exact h2
 ·rintro⟨b,h1,h2⟩
  exact⟨(.p (.bool (negIf n b)),⟨[],M.H⟩),by rw[h1];rfl,h2⟩
@[simp ↓] theorem zasz {n:Bool} {x y:Opd}:wpOp C ρ M (.eqPtr n x y) k=plainK C ρ M (.eqPtr n x y) k:=(rfl)
@[simp ↓] theorem zavu {n:Bool} {x y:Opd}:wpOp C ρ M (.eqSl n x y) k=plainK C ρ M (.eqSl n x y) k:=(rfl)
@[simp ↓] theorem zaot {f:FuncId} {c:List Opd}:wpOp C ρ M (.mkFunc f c) k=plainK C ρ M (.mkFunc f c) k:=(rfl)
@[simp ↓] theorem zayr {x:Opd}:wpOp C ρ M (.len x) k=gets ((sliceLen (ρ x).den)) (@hid _ ⟨fun n=>k (.int .i64 n) M⟩):=by
 simp only[wpOp,plainK,evalOp,gets]
 apply propext
 constructor
 ·rintro⟨⟨v,M'⟩,h1,h2⟩
  cases h:sliceLen (ρ x).den with
  |none=>rw[h]at h1;cases h1
  |some b =>
   rw[h]at h1
   injection h1 with h1;injection h1 with ha hb
   refine⟨b,rfl,?_⟩
   rw[← ha,←hb]at h2
   exact h2
 ·rintro⟨b,h1,h2⟩
  exact⟨(.p (.int .i64 b),⟨[],M.H⟩),by rw[h1],h2⟩
def lenF (x:IVal):Option Nat :=
 match x with
 | .p (.str s)=>some s.length
 |_=>none
@[simp] theorem zays {s:List UInt8}:lenF (.p (.str s))=some s.length:=(rfl)
theorem zyx {ρ:Opd→IVal} {M:Mem} {x:Opd}:evalOp C ρ M (.lenStr x)=(lenF (ρ x)).map fun(n:Nat)=>(.p (.int .i64 n),M):=by
 simp only[evalOp,lenF]
 generalize ρ x=u
 cases u with
 |p v=>cases v<;>rfl
 |_=>rfl
@[simp ↓] theorem zaou {x:Opd}:wpOp C ρ M (.lenStr x) k=gets ((lenF (ρ x).den)) (@hid _ ⟨fun n=>k (.int .i64 n) M⟩):=by
 have:wpOp C ρ M (.lenStr x) k=plainK C ρ M (.lenStr x) k:=rfl
 rw[this,plainK,zyx,znq]
 rfl
def byteF (x i:IVal):Option UInt8 :=
 match x with
 | .p (.str s)=>(asIndex s.length i).bind fun j=>s[j]?
 |_=>none
theorem zwe {s:List UInt8} {j:Nat} (h:j<s.length):byteF (.p (.str s)) (.p (.int .i64 j))=some s[j]:=by
 simp only[byteF,asIndex]
 rw[if_pos (by omega)]
 simp[h]
theorem zwf {ρ:Opd→IVal} {M:Mem} {x i:Opd}:evalOp C ρ M (.idxStr x i)=(byteF (ρ x) (ρ i)).map fun b=>(.p (.int .u8 b.toNat),M):=by
 simp only[evalOp,byteF]
 generalize ρ x=u
 cases u with
 |p v =>
  cases v with
  |str s =>
   generalize hq:asIndex s.length (ρ i)=q
   cases q with
   |none=>simp only[hq];rfl
   |some j =>
    simp only[hq,Option.bind_some]
    cases h:s[j]? <;> simp only[]<;>rfl
  |_=>rfl
 |_=>rfl
@[simp ↓] theorem zaov {x i:Opd}:wpOp C ρ M (.idxStr x i) k=gets ((byteF (ρ x).den (ρ i).den)) (@hid _ ⟨fun b=>k (.int .u8 b.toNat) M⟩):=by
 have:wpOp C ρ M (.idxStr x i) k=plainK C ρ M (.idxStr x i) k:=rfl
 rw[this,plainK,zwf,znq]
 rfl
@[simp ↓] theorem zaow {e:Nat} {x y:Opd}:wpOp C ρ M (.append e x y) k=plainK C ρ M (.append e x y) k:=(rfl)
@[simp ↓] theorem zavv {xs:List Opd}:wpOp C ρ M (.maxi xs) k=plainK C ρ M (.maxi xs) k:=(rfl)
@[simp ↓] theorem zavw {xs:List Opd}:wpOp C ρ M (.mini xs) k=plainK C ρ M (.mini xs) k:=(rfl)
@[simp ↓] theorem zata:wpOp C ρ M .mkMap k=plainK C ρ M .mkMap k:=(rfl)
@[simp ↓] theorem zaox {o:Bool} {z:IVal} {c:KTy} {x y:Opd}:wpOp C ρ M (.lookup o z c x y) k=plainK C ρ M (.lookup o z c x y) k:=(rfl)
@[simp ↓] theorem zaoy {c:KTy} {x y z:Opd}:wpOp C ρ M (.mapUpd c x y z) k=plainK C ρ M (.mapUpd c x y z) k:=(rfl)
@[simp ↓] theorem zaoz {z:List PVal} {e:Nat}:wpOp C ρ M (.allocA z e) k=k (.v (.ptr (.heap M.H.length) 0 0)) ⟨M.B,M.H++[.cells (pcells z) e 0 false]⟩:=by
 simp[wpOp,plainK,evalOp,newBlk,up]
@[simp ↓] theorem zapa {c:KTy} {z:IVal} {x y:Opd}:wpOp C ρ M (.mapEnt z c x y) k=plainK C ρ M (.mapEnt z c x y) k:=(rfl)
@[simp ↓] theorem zatb {x y z:Opd}:wpOp C ρ M (.entSt x y z) k=plainK C ρ M (.entSt x y z) k:=(rfl)
@[simp ↓] theorem zajx {m e:Nat} {x:Opd} {l h:Option Opd}:wpOp C ρ M (.sliceArr m e x l h) k=plainK C ρ M (.sliceArr m e x l h) k:=(rfl)
@[simp ↓] theorem zavx {e:Nat} {x y:Opd}:wpOp C ρ M (.copy e x y) k=plainK C ρ M (.copy e x y) k:=(rfl)
@[simp ↓] theorem zavy {e:Nat} {x y z:Opd}:wpOp C ρ M (.clip e x y z) k=plainK C ρ M (.clip e x y z) k:=(rfl)
@[simp ↓] theorem zatc {z:List PVal} {x:Opd}:wpOp C ρ M (.clear z x) k=plainK C ρ M (.clear z x) k:=(rfl)
@[simp ↓] theorem zatd {x:Opd}:wpOp C ρ M (.first x) k=plainK C ρ M (.first x) k:=(rfl)
@[simp ↓] theorem zapb {x:Opd}:wpOp C ρ M (.second x) k=plainK C ρ M (.second x) k:=(rfl)
@[simp ↓] theorem zate {x:Opd}:wpOp C ρ M (.still x) k=plainK C ρ M (.still x) k:=(rfl)
@[simp ↓] theorem zayt {c:KTy} {x y:Opd}:wpOp C ρ M (.del c x y) k=plainK C ρ M (.del c x y) k:=(rfl)
@[simp ↓] theorem zani {e:Nat} {z:List PVal} {x y:Opd}:wpOp C ρ M (.mkSlice e z x y) k=plainK C ρ M (.mkSlice e z x y) k:=(rfl)
@[simp ↓] theorem zatf {op:IOp}:plainK C ρ M op k=gets (evalOp C (fun o=>(ρ o).den) ⟨[],M.H⟩ op) (@hid _ ⟨fun p=>k (up p.1) ⟨M.B,p.2.heap⟩⟩):=(rfl)
@[simp ↓] theorem zayu {t:Nat}:opdK T [] [] (.tmp t)=lookE T t:=(rfl)
@[simp ↓] theorem zatg {s:List (Nat×Nat)} {v:IVal}:opdK T R s (.const v)=up v:=(rfl)
@[simp ↓] theorem zavz {s:List (Nat×Nat)} {f:FuncId}:opdK T R s (.func f) = .v (.p (.func f)):=(rfl)
@[simp ↓] theorem zayv {t u j:Nat} {s:List (Nat×Nat)}:opdK T R ((u,j)::s) (.tmp t)=if u=t then lookE R j else opdK T R s (.tmp t):=by
 by_cases h:u=t<;>simp[opdK,findSub,zfq,h]
@[simp ↓] theorem zawa {t:Nat}:opdK T R [] (.tmp t)=lookE T t:=(rfl)
@[simp ↓] theorem zry {i j:Nat} {v:SV} {r:Env}:lookE ((i,v)::r) j=if i=j then v else lookE r j:=(rfl)
@[simp ↓] theorem zafh {j:Nat}:lookE [] j = .U:=(rfl)
@[simp] theorem zapc {b:Bool}:asBool (.bool b)=some b:=(rfl)
@[simp] theorem zawb {a:IntKind} {n:Int}:asInt (.int a n)=some (a,n):=(rfl)
def brU (b:Bool) (f g:Unit→Prop):Prop:=br b (f ()) (g ())
section
variable {f g:Unit→Prop}
@[simp ↓] theorem zayw:brU true f g=f ():=by simp[brU,br]
@[simp ↓] theorem zawc:brU false f g=g ():=by simp[brU,br]
@[simp ↓] theorem zazz {b:Bool}:brU (!b) f g=brU b g f:=by cases b<;>simp
@[simp] theorem zath {p:Prop} [Decidable p]:brU (decide p) f g=((p→f ())∧(¬ p→g ())):=by
 by_cases h:p<;>simp[h]
end
@[simp] theorem zayx {op:BinOp} {a b:IntKind} {m n:Int} {k:SV→Prop}:binK op (.int a m) (.int b n) k=intBinK op a m b n k:=(rfl)
@[simp] theorem zayy {op:BinOp} {s t:List UInt8} {k:SV→Prop}:binK op (.str s) (.str t) k=strBinK op s t k:=(rfl)
section
variable {a:IntKind} {m n:Int} {k:SV→Prop}
@[simp ↓] theorem zapd:intBinK .add a m a n k=fitK a ((m+n)) k:=by simp[intBinK]
@[simp ↓] theorem zape:intBinK .sub a m a n k=fitK a ((m-n)) k:=by simp[intBinK]
@[simp ↓] theorem zapf:intBinK .mul a m a n k=fitK a ((m*n)) k:=by simp[intBinK]
@[simp ↓] theorem zapg:intBinK .quo a m a n k=(n≠0∧fitK a ((m.tdiv n)) k):=by simp[intBinK]
@[simp ↓] theorem zaph:intBinK .rem a m a n k=(n≠0∧k (.int a (m.tmod n))):=by simp[intBinK]
@[simp ↓ low] theorem zapi:intBinK .eql a m a n k=k (.bool (decide (m=n))):=by simp[intBinK]
@[simp ↓ low] theorem zapj:intBinK .neq a m a n k=k (.bool (!decide (m=n))):=by simp[intBinK]
@[simp ↓ low] theorem zapk:intBinK .lss a m a n k=k (.bool (decide (m<n))):=by simp[intBinK]
@[simp ↓ low] theorem zapl:intBinK .leq a m a n k=k (.bool (decide (m≤n))):=by simp[intBinK]
@[simp ↓ low] theorem zapm:intBinK .gtr a m a n k=k (.bool (decide (n<m))):=by simp[intBinK]
@[simp ↓ low] theorem zapn:intBinK .geq a m a n k=k (.bool (decide (n≤m))):=by simp[intBinK]
@[simp ↓] theorem zajy (h:m=n):intBinK .eql a m a n k=k (.bool true):=by simp[h]
@[simp ↓] theorem zajz (h:m≠n):intBinK .eql a m a n k=k (.bool false):=by simp[h]
@[simp ↓] theorem zaka (h:m≠n):intBinK .neq a m a n k=k (.bool true):=by simp[h]
@[simp ↓] theorem zakb (h:m=n):intBinK .neq a m a n k=k (.bool false):=by simp[h]
@[simp ↓] theorem zakc (h:m<n):intBinK .lss a m a n k=k (.bool true):=by simp[h]
@[simp ↓] theorem zakd (h:¬m<n):intBinK .lss a m a n k=k (.bool false):=by simp only[intBinK,decide_eq_false h,true_and]
@[simp ↓] theorem zake (h:m≤n):intBinK .leq a m a n k=k (.bool true):=by simp[h]
@[simp ↓] theorem zakf (h:¬m≤n):intBinK .leq a m a n k=k (.bool false):=by simp only[intBinK,decide_eq_false h,true_and]
@[simp ↓] theorem zakg (h:n<m):intBinK .gtr a m a n k=k (.bool true):=by simp[h]
@[simp ↓] theorem zakh (h:¬n<m):intBinK .gtr a m a n k=k (.bool false):=by simp only[intBinK,decide_eq_false h,true_and]
@[simp ↓] theorem zaki (h:n≤m):intBinK .geq a m a n k=k (.bool true):=by simp[h]
@[simp ↓] theorem zakj (h:¬n≤m):intBinK .geq a m a n k=k (.bool false):=by simp only[intBinK,decide_eq_false h,true_and]
@[simp ↓] theorem zapo:intBinK .and a m a n k=gets ((evalBin .and (.p (.int a m)) (.p (.int a n)))) (@hid _ ⟨fun v=>k (up (.p v))⟩):=(rfl)
@[simp ↓] theorem zati:intBinK .or a m a n k=gets ((evalBin .or (.p (.int a m)) (.p (.int a n)))) (@hid _ ⟨fun v=>k (up (.p v))⟩):=(rfl)
@[simp ↓] theorem zapp:intBinK .xor a m a n k=gets ((evalBin .xor (.p (.int a m)) (.p (.int a n)))) (@hid _ ⟨fun v=>k (up (.p v))⟩):=(rfl)
@[simp ↓] theorem zapq {b:IntKind}:intBinK .shl a m b n k=gets ((shiftBin .shl a m n)) (@hid _ ⟨fun v=>k (up (.p v))⟩):=(rfl)
@[simp ↓] theorem zapr {b:IntKind}:intBinK .shr a m b n k=gets ((shiftBin .shr a m n)) (@hid _ ⟨fun v=>k (up (.p v))⟩):=(rfl)
theorem zaa (h : -9223372036854775808≤m) (h2:m<9223372036854775808):fitK .i64 m k=k (.int .i64 m):=by simp[fitK,h,h2]
@[simp] theorem zayz:fitK .u64 m k=k (.int .u64 (IntKind.u64.wrap m)):=(rfl)
@[simp] theorem zaza:fitK .u32 m k=k (.int .u32 (IntKind.u32.wrap m)):=(rfl)
@[simp] theorem zazb:fitK .u16 m k=k (.int .u16 (IntKind.u16.wrap m)):=(rfl)
@[simp] theorem zbaa:fitK .u8 m k=k (.int .u8 (IntKind.u8.wrap m)):=(rfl)
@[simp] theorem zazc:fitK .i32 m k=k (.int .i32 (IntKind.i32.wrap m)):=(rfl)
variable {s t:List UInt8}
@[simp ↓] theorem zaps:strBinK .eql s t k=k (.bool (decide (s=t))):=(rfl)
@[simp ↓] theorem zapt:strBinK .neq s t k=k (.bool (!decide (s=t))):=(rfl)
@[simp ↓] theorem zapu:strBinK .add s t k=(s.length+t.length≤9223372036854775807∧k (.str (s++t))):=(rfl)
@[simp ↓] theorem zapv:strBinK .lss s t k=gets ((strBin .lss s t)) (@hid _ ⟨fun v=>k (up (.p v))⟩):=(rfl)
@[simp ↓] theorem zyy:strBinK .leq s t k=gets ((strBin .leq s t)) (@hid _ ⟨fun v=>k (up (.p v))⟩):=(rfl)
@[simp ↓] theorem zyz:strBinK .gtr s t k=gets ((strBin .gtr s t)) (@hid _ ⟨fun v=>k (up (.p v))⟩):=(rfl)
@[simp ↓] theorem zza:strBinK .geq s t k=gets ((strBin .geq s t)) (@hid _ ⟨fun v=>k (up (.p v))⟩):=(rfl)
end
section
variable {k:SV→Prop} {kl:List SV→Prop} {n:Nat}
@[simp] theorem zatj {cs:List SV}:cellsK (.agg cs) n kl=(cs.length=n∧kl cs):=(rfl)
@[simp] theorem zatk {a:IntKind} {i:Int}:cellsK (.int a i) n kl=(n=1∧kl [.int a i]):=(rfl)
@[simp] theorem zapw {b:Bool}:cellsK (.bool b) n kl=(n=1∧kl [.bool b]):=(rfl)
@[simp] theorem zatl {s:List UInt8}:cellsK (.str s) n kl=(n=1∧kl [.str s]):=(rfl)
theorem zaaz {y:IVal}:cellsK (.v y) n kl=gets (IVal.cellsOf y) fun cs=>cs.length=n∧kl (ups cs):=rfl
@[simp] theorem zawd {y:PVal}:cellsK (.v (.p y)) n kl=(1=n∧kl [up (.p y)]):=by simp[cellsK,IVal.cellsOf,ups]
@[simp] theorem zapx {i v o:Nat}:cellsK (.v (.ptr (.heap i) v o)) n kl=(1=n∧kl [.v (.ptr (.heap i) v o)]):=by simp[cellsK,IVal.cellsOf,ups,up]
@[simp] theorem zakk {i v o m:Nat}:cellsK (.v (.slice i v o m)) n kl=(1=n∧kl [.v (.slice i v o m)]):=by simp[cellsK,IVal.cellsOf,ups,up]
@[simp] theorem zapy {i:Nat}:cellsK (.v (.map i)) n kl=(1=n∧kl [.v (.map i)]):=by simp[cellsK,IVal.cellsOf,ups,up]
@[simp] theorem zanj {f:FuncId} {c:List IVal}:cellsK (.v (.func f c)) n kl=(1=n∧kl [.v (.func f c)]):=by simp[cellsK,IVal.cellsOf,ups,up]
@[simp] theorem zawe {cs:List SV}:fillK ρ cs [] kl=kl cs:=(rfl)
@[simp] theorem zatm {cs:List SV} {off n:Nat} {x:Opd} {r:List (Nat×Nat×Opd)}:fillK ρ cs ((off,n,x)::r) kl=cellsK ((ρ x)) n (@hid _ ⟨fun new=>off+n≤cs.length∧fillK ρ ((spliceK cs off new)) r kl⟩):=(rfl)
@[simp] theorem zatn {off:Nat} {cs:List SV}:loadK none off cs k=gets ((nth cs off)) k:=(rfl)
@[simp] theorem zato {off n:Nat} {cs:List SV}:loadK (some n) off cs k=(off+n≤cs.length∧k (.agg ((cs.drop off).take n))):=(rfl)
@[simp ↓] theorem zawf {s:Nat} {f:KB→Prop}:onBox M s f=gets ((findK M.B s)) (@hid _ ⟨fun o=>gets o f⟩):=(rfl)
@[simp] theorem zatp {s t:Nat} {b:Option KB} {r:List (Nat×Option KB)}:findK ((s,b)::r) t=if s=t then some b else findK r t:=(rfl)
@[simp] theorem zawg {t:Nat}:findK [] t=none:=(rfl)
@[simp] theorem zawh {s t:Nat} {b c:Option KB} {r:List (Nat×Option KB)}:setK ((s,b)::r) t c=if s=t then(s,c)::r else(s,b)::setK r t c:=(rfl)
@[simp] theorem zazd {t:Nat} {c:Option KB}:setK [] t c=[]:=(rfl)
@[simp] theorem zatq {s t:Nat} {b:Option KB} {r:List (Nat×Option KB)}:dropK ((s,b)::r) t=if s=t then dropK r t else(s,b)::dropK r t:=(rfl)
@[simp] theorem zawi {t:Nat}:dropK [] t=[]:=(rfl)
@[simp] theorem zawj {n:Option Nat} {s off:Nat}:readK M n (.box s off) k=onBox M s (@hid _ ⟨fun b=>loadK n (off) b.cs k⟩):=(rfl)
@[simp] theorem zbab {n:Option Nat} {x:IVal}:readK M n (.v x) k=gets ((loadVal ⟨[],M.H⟩ n x)) (@hid _ ⟨fun v=>k (up v)⟩):=(rfl)
@[simp ↓] theorem zatr {y:IVal} {cs:List IVal} {k:SV→KM→Prop}:storeH M y cs k=gets ((writeCells ⟨[],M.H⟩ y cs)) (@hid _ ⟨fun M'=>k (.tup []) ⟨M.B,M'.heap⟩⟩):=(rfl)
@[simp] theorem zats {t x y:Bool}:pickK t (.bool x) (.bool y) k=k (.bool (bif t then x else y)):=(rfl)
@[simp] theorem zatt {a b:SV}:pickK true a b k=k a:=by
 cases a<;>simp[pickK,br]
 cases b<;>simp
@[simp] theorem zapz {a b:SV}:pickK false a b k=k b:=by
 cases a<;>simp[pickK,br]
 cases b<;>simp
end
@[simp ↓] theorem zatu {g:FuncId} {as:List IVal} {H:List IBlk} {k:IVal→List IBlk→Prop}:callK C (.p (.func g)) as H k=gets ((C g as H)) (@hid _ ⟨fun r=>k r.1 r.2⟩):=(rfl)
@[simp ↓] theorem zatv {g:FuncId} {as cap:List IVal} {H:List IBlk} {k:IVal→List IBlk→Prop}:callK C (.func g cap) as H k=gets ((C g (as++cap) H)) (@hid _ ⟨fun r=>k r.1 r.2⟩):=(rfl)
@[simp ↓] theorem zawk {d:Nat} {v:SV}:putK n T (some d) v=if d<n then(d,v)::T else T:=(rfl)
@[simp ↓] theorem zawl {v:SV}:putK n T none v=T:=(rfl)
@[simp ↓] theorem zawm:wpReg C n T M [] kt=kt T M:=(rfl)
@[simp] theorem zatw {d:Option Nat} {op:IOp} {sub:List (Nat×Nat)} {r:List IOper}:wpReg C n T M (⟨d,op,none,sub⟩::r) kt=wpOp C (opdK T [] []) M op (@hid _ ⟨fun v M=>wpReg C n ((putK n T d v)) M r kt⟩):=(rfl)
def guardB (want:Bool) (x:SV) (run skip:Unit→Prop):Prop :=
 match x with
 | .bool b=>(b=want→run ())∧(b=(!want)→skip ())
 | .tup []=>skip ()
 |_=>False
section
variable {a b:Unit→Prop}
@[simp ↓] theorem zaqa {w:Bool}:guardB w (.tup []) a b=b ():=(rfl)
@[simp ↓] theorem zawn:guardB true (.bool true) a b=a ():=by simp[guardB]
@[simp ↓] theorem zawo:guardB true (.bool false) a b=b ():=by simp[guardB]
@[simp ↓] theorem zawp:guardB false (.bool true) a b=b ():=by simp[guardB]
@[simp ↓] theorem zawq:guardB false (.bool false) a b=a ():=by simp[guardB]
@[simp] theorem zaqb {p:Prop} [Decidable p]:guardB true (.bool (decide p)) a b=((p→a ())∧(¬p→b ())):=by simp[guardB]
@[simp] theorem zaqc {p:Prop} [Decidable p]:guardB false (.bool (decide p)) a b=((¬p→a ())∧(p→b ())):=by simp[guardB]
@[simp ↓] theorem zatx {w:Bool} {t:Bool}:guardB w (.bool (!t)) a b=guardB (!w) (.bool t) a b:=by cases w<;>cases t<;>simp
end
def skipE (w:Bool) (x:Nat) (T:Env):SV→Env
 | .bool _=>(x, .bool (!w))::T
 |_=>T
@[simp] theorem zaty {w b:Bool} {x:Nat}:skipE w x T (.bool b)=(x, .bool (!w))::T:=(rfl)
@[simp] theorem zawr {w:Bool} {x:Nat} {l:List SV}:skipE w x T (.tup l)=T:=(rfl)
@[simp] theorem zatz {d:Option Nat} {op:IOp} {x:Nat} {w:Bool} {sub:List (Nat×Nat)} {r:List IOper}:wpReg C n T M (⟨d,op,some (x,w),sub⟩::r) kt =
 guardB w (lookE T x) (@hid _ ⟨fun _=>wpOp C (opdK ((x, .bool w)::T) [] []) M op (@hid _ ⟨fun v M=>wpReg C n (putK n ((x, .bool w)::T) d v) M r kt⟩)⟩) (@hid _ ⟨fun _=>wpReg C n (putK n (skipE w x T (lookE T x)) d (.tup [])) M r kt⟩):=by
 simp only[hid]
 rw[wpReg,guardK]
 unfold guardB
 simp only[]
 cases h:lookE T x with
 |tup l=>cases l<;>rfl
 |_=>rfl
section
variable {x:Nat×SV}
@[simp] theorem wp_skip:wp C n .skip Q (x::T) M=Q .normal (x::T) M:=(rfl)
@[simp] theorem wp_seq {a b:ICode}:wp C n (.seq a b) Q (x::T) M=wp C n a (seqK Q (@hid _ ⟨fun T M=>wp C n b Q (T) M⟩)) ((x::T)) M:=(rfl)
@[simp] theorem wp_cond {c:Opd} {a b:ICode}:wp C n (.cond c a b) Q (x::T) M=gets (asBool (opdK (x::T) [] [] c)) (@hid _ ⟨fun t=>brU t (@hid _ ⟨fun _=>wp C n a Q (x::T) M⟩) (@hid _ ⟨fun _=>wp C n b Q (x::T) M⟩)⟩):=(rfl)
@[simp] theorem wp_block {id:Nat} {m:List Bool} {c:ICode}:wp C n (.block id m c) Q (x::T) M=wp C n c (blkK id m Q) ((x::T)) M:=(rfl)
@[simp] theorem wp_loop {m:List Bool} {c:ICode}:wp C n (.loop m c) Q (x::T) M=maskS m (x::T) M (wpLoop C n m c Q):=(rfl)
@[simp] theorem wp_exit {id:Nat}:wp C n (.exit id) Q (x::T) M=Q (.exit id) (x::T) M:=(rfl)
@[simp] theorem wp_ret:wp C n .ret Q (x::T) M=Q .ret (x::T) M:=(rfl)
@[simp] theorem zbav {fr:List Nat} {ops:List IOper}:wp C n (.reg fr ops) Q (x::T) M=wpReg C n ((freshT (x::T) fr)) (⟨freshB M.B fr,M.H⟩) ops (Q .normal):=(rfl)
@[simp] theorem zbac {fr:List Nat} {ops:List IOper} {pls:List (List Stage)}:wp C n (.draw fr ops pls) Q (x::T) M=wpDraw C n ops pls ((freshT (x::T) fr)) (⟨freshB M.B fr,M.H⟩) (Q .normal):=(rfl)
end
@[simp] theorem zaws:wp C n .skip Q [] M=Q .normal [] M:=(rfl)
@[simp] theorem zaze {a b:ICode}:wp C n (.seq a b) Q [] M=wp C n a (seqK Q (@hid _ ⟨fun T M=>wp C n b Q (T) M⟩)) ([]) M:=(rfl)
@[simp] theorem zawt {c:Opd} {a b:ICode}:wp C n (.cond c a b) Q [] M=gets (asBool (opdK [] [] [] c)) (@hid _ ⟨fun t=>brU t (@hid _ ⟨fun _=>wp C n a Q [] M⟩) (@hid _ ⟨fun _=>wp C n b Q [] M⟩)⟩):=(rfl)
@[simp] theorem zaua {id:Nat} {m:List Bool} {c:ICode}:wp C n (.block id m c) Q [] M=wp C n c (blkK id m Q) ([]) M:=(rfl)
@[simp] theorem zawu {m:List Bool} {c:ICode}:wp C n (.loop m c) Q [] M=maskS m [] M (wpLoop C n m c Q):=(rfl)
@[simp] theorem zawv {id:Nat}:wp C n (.exit id) Q [] M=Q (.exit id) [] M:=(rfl)
@[simp] theorem zazf:wp C n .ret Q [] M=Q .ret [] M:=(rfl)
@[simp] theorem zazg {fr:List Nat} {ops:List IOper}:wp C n (.reg fr ops) Q [] M=wpReg C n ((freshT [] fr)) (⟨freshB M.B fr,M.H⟩) ops (Q .normal):=(rfl)
@[simp] theorem zaww {fr:List Nat} {ops:List IOper} {pls:List (List Stage)}:wp C n (.draw fr ops pls) Q [] M=wpDraw C n ops pls ((freshT [] fr)) (⟨freshB M.B fr,M.H⟩) (Q .normal):=(rfl)
@[simp ↓] theorem zaqd {n:Env→KM→Prop}:seqK Q n .normal T M=n T M:=(rfl)
@[simp ↓] theorem zawx {n:Env→KM→Prop} {i:Nat}:seqK Q n (.exit i) T M=Q (.exit i) T M:=(rfl)
@[simp ↓] theorem zazh {n:Env→KM→Prop}:seqK Q n .ret T M=Q .ret T M:=(rfl)
@[simp ↓] theorem zaqe {id:Nat} {m:List Bool}:blkK id m Q .normal T M=Q .normal T M:=(rfl)
@[simp ↓] theorem zazi {id:Nat} {m:List Bool}:blkK id m Q .ret T M=Q .ret T M:=(rfl)
def blkM (_:Nat) (m:List Bool) (Q:IExit→Env→KM→Prop) (T:Env) (M:KM):Prop :=
 match m with
 | []=>Q .normal T M
 |m=>maskS m T M (Q .normal)
@[simp ↓] theorem zawy {id i:Nat} {m:List Bool}:blkK id m Q (.exit i) T M=if i=id then blkM id m Q T M else Q (.exit i) T M:=by
 unfold blkK blkM;rfl
@[simp ↓] theorem zazj {id:Nat}:blkM id [] Q T M=Q .normal T M:=(rfl)
@[simp] theorem zawz {id:Nat} {b:Bool} {m:List Bool}:blkM id (b::m) Q T M=maskS (b::m) T M (Q .normal):=(rfl)
def maskS2 (T:Env) (M:KM) (k:Env→KM→Prop):Prop:=k T ⟨trimB T M.B,M.H⟩
@[simp] theorem zaub:maskS2 T M kt=kt T (⟨trimB T M.B,M.H⟩):=(rfl)
@[simp ↓] theorem zaxa {m:List Bool}:maskS m T M kt=maskS2 ((maskK T 0 m)) M kt:=(rfl)
@[simp] theorem zbad {i:Nat} {m:List Bool}:maskK T i (true::m)=(i,lookE T i)::maskK T (i+1) m:=(rfl)
@[simp] theorem zbae {i:Nat} {m:List Bool}:maskK T i (false::m)=maskK T (i+1) m:=(rfl)
@[simp] theorem zaxb {i:Nat}:maskK T i []=[]:=(rfl)
@[simp] theorem zaxc:trimB T []=[]:=(rfl)
@[simp] theorem zauc {s:Nat} {b:KB} {r:List (Nat×Option KB)}:trimB T ((s,some b)::r)=bif pointsTo s T then(s,some b)::trimB T r else dropK (trimB T r) s:=(rfl)
@[simp] theorem zaud {s:Nat} {r:List (Nat×Option KB)}:trimB T ((s,none)::r)=dropK (trimB T r) s:=(rfl)
@[simp] theorem zank {s i t o:Nat}:pointsTo s ((i, .box t o)::T)=if t=s then true else pointsTo s T:=(rfl)
@[simp] theorem zaue {s i:Nat} {x:IVal}:pointsTo s ((i, .v x)::T)=pointsTo s T:=(rfl)
@[simp] theorem zanl {s i:Nat} {a:IntKind} {n:Int}:pointsTo s ((i, .int a n)::T)=pointsTo s T:=(rfl)
@[simp] theorem zakl {s i:Nat} {b:Bool}:pointsTo s ((i, .bool b)::T)=pointsTo s T:=(rfl)
@[simp] theorem zanm {s i:Nat} {b:List UInt8}:pointsTo s ((i, .str b)::T)=pointsTo s T:=(rfl)
@[simp] theorem zann {s i:Nat} {b:List SV}:pointsTo s ((i, .agg b)::T)=pointsTo s T:=(rfl)
@[simp] theorem zano {s i:Nat} {b:List SV}:pointsTo s ((i, .tup b)::T)=pointsTo s T:=(rfl)
@[simp] theorem zanp {s:Nat}:pointsTo s []=false:=(rfl)
@[simp] theorem zauf:freshT T []=T:=(rfl)
@[simp] theorem zaqf {s:Nat} {r:List Nat}:freshT T (s::r)=freshT (killE s T) r:=(rfl)
@[simp] theorem zaxd {s:Nat}:killE s []=[]:=(rfl)
@[simp] theorem zaug {s i:Nat} {v:SV}:killE s ((i,v)::T)=(i,killSV s v)::killE s T:=(rfl)
@[simp] theorem zauh {B:List (Nat×Option KB)}:freshB B []=B:=(rfl)
@[simp] theorem zaqg {B:List (Nat×Option KB)} {s:Nat} {r:List Nat}:freshB B (s::r)=freshB ((s,none)::dropK B s) r:=(rfl)
@[simp] theorem zaui {s t o:Nat}:killSV s (.box t o)=if s=t then .U else .box t o:=(rfl)
@[simp] theorem zauj {s:Nat} {a:IntKind} {n:Int}:killSV s (.int a n) = .int a n:=(rfl)
@[simp] theorem zaqh {s:Nat} {b:Bool}:killSV s (.bool b) = .bool b:=(rfl)
@[simp] theorem zauk {s:Nat} {b:List UInt8}:killSV s (.str b) = .str b:=(rfl)
@[simp] theorem zaul {s:Nat} {b:List SV}:killSV s (.agg b) = .agg b:=(rfl)
@[simp] theorem zaum {s:Nat} {b:List SV}:killSV s (.tup b) = .tup b:=(rfl)
@[simp] theorem zazk {s:Nat} {x:IVal}:killSV s (.v x) = .v (killV s x):=(rfl)
@[simp] theorem zbaf {s:Nat} {x:PVal}:killV s (.p x) = .p x:=(rfl)
@[simp] theorem zaqi {s:Nat}:killV s .undef = .undef:=(rfl)
@[simp] theorem zaxe {s i v o:Nat}:killV s (.ptr (.heap i) v o) = .ptr (.heap i) v o:=(rfl)
@[simp] theorem zaqj {s i v o n:Nat}:killV s (.slice i v o n) = .slice i v o n:=(rfl)
@[simp] theorem zaxf {s i:Nat}:killV s (.map i) = .map i:=(rfl)
@[simp] theorem zaun {s:Nat} {f:FuncId} {c:List IVal}:killV s (.func f c) = .func f c:=(rfl)
@[simp ↓] theorem zazl {res:List IRes} {q:IVal→List IBlk→Prop}:retK res q .ret T M=resAllK T M res ((@hid _ ⟨fun l=>outK M q (l)⟩)):=(rfl)
@[simp ↓] theorem zaqk {res:List IRes} {q:IVal→List IBlk→Prop}:retK res q .normal T M=resAllK T M res ((@hid _ ⟨fun l=>outK M q (l)⟩)):=(rfl)
@[simp ↓] theorem zaql {q:List SV→Prop}:resAllK T M [] q=q []:=(rfl)
@[simp ↓] theorem zaqm {t:Nat} {r:List IRes} {q:List SV→Prop}:resAllK T M (.tmp t::r) q=resAllK T M r (@hid _ ⟨fun vs=>q (lookE T t::vs)⟩):=(rfl)
@[simp ↓] theorem zanq {t:Nat} {n:Option Nat} {r:List IRes} {q:List SV→Prop}:resAllK T M (.cell t n::r) q=readK M n ((lookE T t)) (@hid _ ⟨fun v=>resAllK T M r (@hid _ ⟨fun vs=>q (v::vs)⟩)⟩):=(rfl)
@[simp] theorem zazm {q:IVal→List IBlk→Prop}:outK M q []=q (.tup []) M.H:=by simp[outK,SV.dens]
@[simp] theorem zazn {q:IVal→List IBlk→Prop} {v:SV}:outK M q [v]=(v.den.passOK=true∧q v.den M.H):=(rfl)
@[simp] theorem zaxg {q:IVal→List IBlk→Prop} {v w:SV} {vs:List SV}:outK M q (v::w::vs)=(passesOK (SV.dens (v::w::vs))=true∧q (.tup (SV.dens (v::w::vs))) M.H):=(rfl)
@[simp] theorem zauo {i:Nat}:startE i []=[]:=(rfl)
@[simp] theorem zaqn {i:Nat} {a:IVal} {r:List IVal}:startE i (a::r)=(i,up a)::startE (i+1) r:=(rfl)
@[simp] theorem zaup {ops:List IOper} {g:List Stage}:wpDraw C n ops [g] T M kt=(dstsFit n ops=true∧wpPlan C ops T [] M g (@hid _ ⟨fun R M=>kt (putAllK n T R 0 ops) M⟩)):=(rfl)
@[simp] theorem zaqo {ops:List IOper} {g g2:List Stage} {r:List (List Stage)}:wpDraw C n ops (g::g2::r) T M kt=(dstsFit n ops=true∧wpPlanH C ops T [] M g (@hid _ ⟨fun R M'=>wpRest C ops T M R M'.H (g2::r)∧kt (putAllK n T R 0 ops) M'⟩)):=(rfl)
@[simp] theorem zauq {ops:List IOper} {H:List IBlk}:wpRest C ops T M R H []=True:=(rfl)
@[simp] theorem zaqp {ops:List IOper} {H:List IBlk} {g:List Stage} {r:List (List Stage)}:wpRest C ops T M R H (g::r)=(wpPlanH C ops T [] M g (@hid _ ⟨fun R' M'=>sameR ops.length R R'∧M'.H=H⟩)∧wpRest C ops T M R H r):=(rfl)
@[simp ↓] theorem zaqq {ops:List IOper}:wpPlanH C ops T R M [] kt=kt R M:=(rfl)
@[simp] theorem zaqr {ops:List IOper} {qs rc:List Nat} {r:List Stage}:wpPlanH C ops T R M (⟨qs,rc,none⟩::r) kt=wpQsH C ops T R M qs (@hid _ ⟨fun R M=>wpRcs C ops T R M rc∧wpPlanH C ops T R M r kt⟩):=(rfl)
@[simp] theorem zaqs {ops:List IOper} {qs rc:List Nat} {i:Nat} {r:List Stage}:wpPlanH C ops T R M (⟨qs,rc,some i⟩::r) kt=wpQsH C ops T R M qs (@hid _ ⟨fun R M=>wpRcs C ops T R M rc∧wpAtH C ops T R M i (@hid _ ⟨fun R M=>wpPlanH C ops T R M r kt⟩)⟩):=(rfl)
@[simp ↓] theorem zaxh {ops:List IOper}:wpQsH C ops T R M [] kt=kt R M:=(rfl)
@[simp] theorem zaur {ops:List IOper} {i:Nat} {r:List Nat}:wpQsH C ops T R M (i::r) kt=wpAtH C ops T R M i (@hid _ ⟨fun R M=>wpQsH C ops T R M r kt⟩):=(rfl)
@[simp ↓] theorem zaxi {ops:List IOper} {i:Nat}:wpAtH C ops T R M i kt=gets (nth ops i) (@hid _ ⟨fun o=>heapOnly (opdK T R o.sub) o.op=true∧operK C ops.length T R M i o kt⟩):=(rfl)
@[simp] theorem zaxj {m:Nat}:sameR (m+1) R R'=(sameR m R R'∧(lookE R m).den≠.undef∧(lookE R m).den=(lookE R' m).den):=by
 apply propext
 constructor
 ·intro h
  exact⟨fun i hi=>h i (by omega),h m (by omega)⟩
 ·rintro⟨h1,h2⟩ i hi
  by_cases e:i=m
  ·subst e;exact h2
  ·exact h1 i (by omega)
@[simp] theorem zaus:sameR 0 R R'=True:=by
 apply propext
 exact⟨fun _=>trivial,fun _ i hi=>by omega⟩
@[simp ↓] theorem zaut {ops:List IOper}:wpPlan C ops T R M [] kt=kt R M:=(rfl)
@[simp] theorem zauu {ops:List IOper} {qs rc:List Nat} {r:List Stage}:wpPlan C ops T R M (⟨qs,rc,none⟩::r) kt=wpQs C ops T (R) M qs (@hid _ ⟨fun R M=>wpRcs C ops T (R) M rc∧wpPlan C ops T (R) M r kt⟩):=(rfl)
@[simp] theorem zauv {ops:List IOper} {qs rc:List Nat} {i:Nat} {r:List Stage}:wpPlan C ops T R M (⟨qs,rc,some i⟩::r) kt=wpQs C ops T (R) M qs (@hid _ ⟨fun R M=>wpRcs C ops T (R) M rc∧wpAt C ops T R M i (@hid _ ⟨fun R M=>wpPlan C ops T (R) M r kt⟩)⟩):=(rfl)
@[simp ↓] theorem zazo {ops:List IOper}:wpQs C ops T R M [] kt=kt R M:=(rfl)
@[simp] theorem zaxk {ops:List IOper} {i:Nat} {r:List Nat}:wpQs C ops T R M (i::r) kt=wpAt C ops T R M i (@hid _ ⟨fun R M=>wpQs C ops T (R) M r kt⟩):=(rfl)
@[simp ↓] theorem zazp {ops:List IOper} {i:Nat}:wpAt C ops T R M i kt=gets ((nth ops i)) (@hid _ ⟨fun o=>operK C ops.length T R M i o kt⟩):=(rfl)
@[simp ↓] theorem zauw {m i:Nat} {d:Option Nat} {op:IOp} {sub:List (Nat×Nat)}:operK C m T R M i ⟨d,op,none,sub⟩ kt=wpOp C (opdK T R sub) M op (@hid _ ⟨fun v M=>kt (putK m R (some i) v) M⟩):=(rfl)
@[simp ↓] theorem zaux {m i:Nat} {d:Option Nat} {op:IOp} {x:Nat} {w:Bool} {sub:List (Nat×Nat)}:operK C m T R M i ⟨d,op,some (x,w),sub⟩ kt=guardB w (opdK T R sub (.tmp x)) (@hid _ ⟨fun _=>wpOp C (opdK T R sub) M op (@hid _ ⟨fun v M=>kt (putK m R (some i) v) M⟩)⟩) (@hid _ ⟨fun _=>kt (putK m R (some i) (.tup [])) M⟩):=by
 simp only[hid]
 unfold operK guardD guardB
 simp only[gslot]<;>(cases opdK T R sub (.tmp x)<;>first|rfl|(rename_i l;cases l<;>rfl))
@[simp] theorem zaxl {ops:List IOper}:wpRcs C ops T R M []=True:=(rfl)
@[simp] theorem zauy {ops:List IOper} {i:Nat} {r:List Nat}:wpRcs C ops T R M (i::r)=(gets ((nth ops i)) (reOper C T R M i)∧wpRcs C ops T R M r):=(rfl)
@[simp] theorem zaqt {i:Nat}:putAllK n T R i []=T:=(rfl)
@[simp] theorem zanr {i:Nat} {o:IOper} {r:List IOper}:putAllK n T R i (o::r)=putAllK n (putK n T o.dst (lookE R i)) R (i+1) r:=(rfl)
def reOp (C:Oracle) (ρ:Opd→SV) (M:KM) (op:IOp) (x:SV):Prop :=
 match isAlloc op with
 |true=>gets (contentOf (fun x=>(ρ x).den) op) fun b=>gets (blkAt M x) fun c=>b=c
 |false=>wpOp C ρ M op fun v _=>v.den=x.den∧v.den≠.undef
@[simp ↓] theorem zaqu {i:Nat} {d:Option Nat} {op:IOp} {sub:List (Nat×Nat)}:reOper C T R M i ⟨d,op,none,sub⟩=reOp C (opdK T R sub) M op (lookE R i):=(rfl)
@[simp ↓] theorem zaqv {i:Nat} {d:Option Nat} {op:IOp} {x:Nat} {w:Bool} {sub:List (Nat×Nat)}:reOper C T R M i ⟨d,op,some (x,w),sub⟩=guardB w (opdK T R sub (.tmp x)) (@hid _ ⟨fun _=>reOp C (opdK T R sub) M op (lookE R i)⟩) (@hid _ ⟨fun _=>True⟩):=by
 simp only[hid]
 unfold reOper guardD guardB reOp
 simp only[gslot]<;>(cases opdK T R sub (.tmp x)<;>first|rfl|(rename_i l;cases l<;>rfl))
end
section
@[simp] theorem zbaw {k:IntKind} {n:Int}:up (.p (.int k n)) = .int k n:=(rfl)
@[simp] theorem zzb {b:Bool}:up (.p (.bool b)) = .bool b:=(rfl)
@[simp] theorem zbax {s:List UInt8}:up (.p (.str s)) = .str s:=(rfl)
@[simp] theorem zaxm {e n:Nat} {cs:List PVal}:up (.p (.slice e n cs)) = .v (.p (.slice e n cs)):=(rfl)
@[simp] theorem zbag {cs:List PVal}:up (.p (.ptr cs)) = .v (.p (.ptr cs)):=(rfl)
@[simp] theorem zazq {f:FuncId}:up (.p (.func f)) = .v (.p (.func f)):=(rfl)
@[simp] theorem zaxn:up (.p .nilptr) = .v (.p .nilptr):=(rfl)
@[simp] theorem zaqw:up (.p .nilslice) = .v (.p .nilslice):=(rfl)
@[simp] theorem zaxo:up (.p .nilmap) = .v (.p .nilmap):=(rfl)
@[simp] theorem zauz:up (.p .nilfunc) = .v (.p .nilfunc):=(rfl)
@[simp] theorem zaqx:up (.p .niliface) = .v (.p .niliface):=(rfl)
@[simp] theorem zbay {k:Key} {v o:Nat}:up (.ptr k v o) = .v (.ptr k v o):=(rfl)
@[simp] theorem zazr {k v o n:Nat}:up (.slice k v o n) = .v (.slice k v o n):=(rfl)
@[simp] theorem zbaz {k:Nat}:up (.map k) = .v (.map k):=(rfl)
@[simp] theorem zbah {f:FuncId} {c:List IVal}:up (.func f c) = .v (.func f c):=(rfl)
@[simp] theorem zazs:up .undef = .v .undef:=(rfl)
@[simp] theorem zbba {cs:List IVal}:up (.agg cs) = .agg (ups cs):=(rfl)
@[simp] theorem zbbb {cs:List IVal}:up (.tup cs) = .tup (ups cs):=(rfl)
@[simp] theorem zbai:ups []=[]:=(rfl)
@[simp] theorem zazt {a:IVal} {r:List IVal}:ups (a::r)=up a::ups r:=(rfl)
@[simp] theorem den_v {x:IVal}:(SV.v x).den=x:=(rfl)
@[simp] theorem zbaj {k:IntKind} {n:Int}:(SV.int k n).den = .p (.int k n):=(rfl)
@[simp] theorem zazu {b:Bool}:(SV.bool b).den = .p (.bool b):=(rfl)
@[simp] theorem zbak {s:List UInt8}:(SV.str s).den = .p (.str s):=(rfl)
@[simp] theorem zbal {s o:Nat}:(SV.box s o).den = .ptr (.box s) 0 o:=(rfl)
@[simp] theorem zbam {cs:List SV}:(SV.agg cs).den = .agg (SV.dens cs):=(rfl)
@[simp] theorem zban {cs:List SV}:(SV.tup cs).den = .tup (SV.dens cs):=(rfl)
@[simp] theorem zazv:SV.dens []=[]:=(rfl)
@[simp] theorem zaxp {a:SV} {r:List SV}:SV.dens (a::r)=a.den::SV.dens r:=(rfl)
@[simp] theorem zbao (a:Option (List (Bytes×Bytes))):up (.p (aval a)) = .v (.p (aval a)):=by cases a<;>rfl
@[simp] theorem zbap (a:Option (List Tree)):up (.p (kval a)) = .v (.p (kval a)):=by cases a<;>rfl
end
attribute [simp] heapOnly reOp isAlloc contentOf blkAt spliceK repl pcells
theorem zac {C:Oracle} {n:Nat} {m:List Bool} {c:ICode} {Q:IExit→Env→KM→Prop} {α:Type} (E:α→Env) (M:α→KM) (P:α→Prop) (μ:α→Nat)
 (h:∀a,P a→∀L:Env→KM→Prop,(∀ b,P b→μ b<μ a→L (E b) (M b))→maskS m (E a) (M a) (wp C n c (seqK Q fun T K=>maskS m T K L))):∀a,P a→wpLoop C n m c Q (E a) (M a):=by
 have key:∀k a,μ a<k→P a→wpLoop C n m c Q (E a) (M a):=by
  intro k
  induction k with
  |zero=>intro a ha;omega
  |succ k ih =>
   intro a ha hp
   refine zcg (h a hp _ fun b hb hlt=>ih b (by omega) hb)
 intro a hp
 exact key (μ a+1) a (by omega) hp
end Go.Ideal

/-
  IDEAL SEMANTICS, 38: TREES, ATTRIBUTES, PAIRS AS DATA, FOR 'simp'.
-/
namespace Go.Ideal
open Go
set_option linter.unusedSectionVars false
variable [Tabs]
@[reducible] def t_ (n:Nat):Opd := .tmp n
@[reducible] def k_ (n:Int):Opd := .const (.p (.int .i64 n))
@[reducible] def o_ (d:Nat) (op:IOp):IOper:=⟨some d,op,none,[]⟩
@[reducible] def n_ (op:IOp):IOper:=⟨none,op,none,[]⟩
@[reducible] def g_ (d x:Nat) (w:Bool) (op:IOp):IOper:=⟨some d,op,some (x,w),[]⟩
@[reducible] def s_ (d:Nat) (op:IOp) (sub:List (Nat×Nat)):IOper:=⟨some d,op,none,sub⟩
@[reducible] def e_ (op:IOp) (sub:List (Nat×Nat)):IOper:=⟨none,op,none,sub⟩
@[reducible] def mv (a:Nat):IOp := .mov (.tmp a)
@[reducible] def ld (a:Nat):IOp := .load none (.tmp a)
@[reducible] def lw (n a:Nat):IOp := .load (some n) (.tmp a)
@[reducible] def fa (o a:Nat):IOp := .fieldAddr o (.tmp a)
@[reducible] def nc (a:Nat):IOp := .nilCheck (.tmp a)
@[reducible] def ix (e a b:Nat):IOp := .idxSlice e (.tmp a) (.tmp b)
@[reducible] def bi (o:BinOp) (a b:Nat):IOp := .bin o (.tmp a) (.tmp b)
@[reducible] def bj (o:BinOp) (a:Nat) (n:Int):IOp := .bin o (.tmp a) (k_ n)
@[reducible] def et (a i:Nat):IOp := .extract (.tmp a) i
@[reducible] def ll (a:Nat):IOp := .len (.tmp a)
@[reducible] def s3 (n a b:Nat):IOp := .store n (.tmp a) (.tmp b)
@[reducible] def cl (f:Nat) (l:List Opd):IOp := .call (.func f) l
@[reducible] def po (a b:Nat):IOp := .pick (.tmp a) (.const (.p (.bool true))) (.tmp b)
@[reducible] def pa (a b:Nat):IOp := .pick (.tmp a) (.tmp b) (.const (.p (.bool false)))
@[reducible] def q_ (d x:Nat) (w:Bool) (op:IOp) (sub:List (Nat×Nat)):IOper:=⟨some d,op,some (x,w),sub⟩
@[reducible] def xf:Opd := .const (.p (.bool false))
@[reducible] def xt:Opd := .const (.p (.bool true))
@[reducible] def xn:Opd := .const (.p .nilslice)
def mbr (n:Nat):Nat→List Nat→List Bool
 |i,[]=>List.replicate (n-i) false
 |i,a::l=>List.replicate (a-i) false++true::mbr n (a+1) l
@[reducible] def mb (n:Nat) (l:List Nat):List Bool:=mbr n 0 l
theorem zts {T:Env} {m:List Bool}:∀(k i:Nat),maskK T i (List.replicate k false++m)=maskK T (i+k) m
 |0,_=>rfl
 |k+1,i=>by
  rw[List.replicate_succ,List.cons_append,maskK,zts k (i+1),show i+1+k=i+(k+1)by omega]
@[simp] theorem zbaq {T:Env} {n i:Nat}:maskK T i (mbr n i [])=[]:=by
 have:=zts (T:=T) (m:=[]) (n-i) i
 rw[List.append_nil]at this
 exact this
@[simp] theorem zakm {T:Env} {n i a:Nat} {l:List Nat} (h:i≤a):maskK T i (mbr n i (a::l))=(a,lookE T a)::maskK T (a+1) (mbr n (a+1) l):=by
 rw[mbr,zts,show i+(a-i)=a by omega,maskK]
@[simp] theorem mk_mb {T:Env} {n a:Nat} {l:List Nat}:maskK T 0 (mbr n 0 (a::l))=(a,lookE T a)::maskK T (a+1) (mbr n (a+1) l):=zakm (Nat.zero_le _)
@[simp] theorem bm_mb {i n:Nat} {a:Nat} {l:List Nat} {Q:IExit→Env→KM→Prop} {T:Env} {M:KM}:blkM i (mbr n 0 (a::l)) Q T M=maskS (mbr n 0 (a::l)) T M (Q .normal):=by cases a<;>rfl
@[simp] theorem zbbc {i n:Nat} {Q:IExit→Env→KM→Prop} {T:Env} {M:KM}:blkM i (mbr (n+1) 0 []) Q T M=maskS (mbr (n+1) 0 []) T M (Q .normal):=(rfl)
abbrev Attrs:=List (Bytes×Bytes)
def Tree.kind:Tree→Int | .mk k _ _ _ _=>k
def Tree.name:Tree→Bytes | .mk _ n _ _ _=>n
def Tree.text:Tree→Bytes | .mk _ _ x _ _=>x
def Tree.attrs:Tree→Option Attrs | .mk _ _ _ a _=>a
def Tree.kids:Tree→Option (List Tree) | .mk _ _ _ _ k=>k
theorem Tree.eta:∀t:Tree,t = .mk t.kind t.name t.text t.attrs t.kids
 | .mk .. => rfl
theorem Tree.zav:∀t:Tree,t.cells=[.int .i64 t.kind, .str t.name, .str t.text,aval t.attrs,kval t.kids]
 | .mk .. => rfl
def alist (a:Option Attrs):Attrs:=a.getD []
def klist (k:Option (List Tree)):List Tree:=k.getD []
@[simp] theorem zakn (a:Option Attrs):sliceLen (.p (aval a))=some (alist a).length:=by cases a<;>rfl
@[simp] theorem zako (a:Option (List Tree)):sliceLen (.p (kval a))=some (klist a).length:=by
 cases a<;>simp[kval,klist,sliceLen]
@[simp] theorem zaip {e n:Nat} {cs:List PVal}:sliceLen (.p (.slice e n cs))=some n:=(rfl)
@[simp] theorem zans:sliceLen (.p .nilslice)=some 0:=(rfl)
@[simp] theorem zakp {k v o n:Nat}:sliceLen (.slice k v o n)=some n:=(rfl)
theorem zck {k:Option (List Tree)} {j:Nat} (hj:j<(klist k).length) :
 idxS 5 (.p (kval k)) (.p (.int .i64 j))=some (.p (.ptr (.int .i64 (klist k)[j].kind :: .str (klist k)[j].name :: .str (klist k)[j].text::aval (klist k)[j].attrs::kval (klist k)[j].kids::(kcells (klist k)).drop (j*5+5)))):=by
 cases k with
 |none=>simp[klist]at hj
 |some l =>
  simp only[klist,Option.getD_some]at hj ⊢
  rw[kval,zcb hj,zyq hj,Tree.zav]
  rfl
theorem zbk {k:Option Attrs} {j:Nat} (hj:j<(alist k).length) :
 idxS 2 (.p (aval k)) (.p (.int .i64 j))=some (.p (.ptr (.str (alist k)[j].1 :: .str (alist k)[j].2::(acells (alist k)).drop (j*2+2)))):=by
 cases k with
 |none=>simp[alist]at hj
 |some l =>
  simp only[alist,Option.getD_some]at hj ⊢
  rw[aval,zcb hj,zyr hj]
@[simp] theorem zava {M:Mem} {x:PVal} {cs:List PVal}:loadVal M none (.p (.ptr (x::cs)))=some (.p x):=by
 simp[loadVal,zkb]
@[simp] theorem zavb {M:Mem} {n:Nat} {cs:List PVal}:loadVal M (some n) (.p (.ptr cs))=if n≤cs.length then some (.agg (pcells (cs.take n)))else none:=by
 by_cases h:n≤cs.length<;>simp[loadVal,zkb,h]
theorem zab {bx:List (Nat×IBlk)} {H:List IBlk} {i off v e:Nat} {o:Bool} {cs:List IVal} {x:IVal} (h:H[i]? = some (.cells cs e v o)) (hx:cs[off]? = some x):loadVal ⟨bx,H⟩ none (.ptr (.heap i) v off)=some x:=by
 obtain⟨hlt,hx'⟩:=List.getElem?_eq_some_iff.1 hx
 simp only[loadVal]
 rw[zjr (M:=⟨bx,H⟩) h,if_pos ⟨rfl,by omega⟩,List.drop_eq_getElem_cons hlt,List.take_succ_cons,List.take_zero,hx']
theorem zdc {bx:List (Nat×IBlk)} {H:List IBlk} {i off v e n:Nat} {o:Bool} {cs:List IVal} (h:H[i]? = some (.cells cs e v o)) (hn:off+n≤cs.length):loadVal ⟨bx,H⟩ (some n) (.ptr (.heap i) v off)=some (.agg ((cs.drop off).take n)):=by
 simp only[loadVal]
 rw[zjr (M:=⟨bx,H⟩) h,if_pos ⟨rfl,hn⟩]
theorem zan {bx:List (Nat×IBlk)} {H:List IBlk} {i off v e:Nat} {o:Bool} {cs new:List IVal} (h:H[i]? = some (.cells cs e v o)) (hn:off+new.length≤cs.length):writeCells ⟨bx,H⟩ (.ptr (.heap i) v off) new=some ⟨bx,H.set i (.cells (splice cs off new) e v o)⟩:=by
 have hb:(Nat.beq v v&&Nat.ble (off+new.length) cs.length)=true:=by
  rw[Nat.beq_refl,Bool.true_and];exact Nat.ble_eq_true_of_le hn
 simp only[writeCells,Mem.get,h,hb,Mem.put]
theorem zap {H:List IBlk} {i:Nat} {b:IBlk} (h:i<H.length):(H.set i b)[i]? = some b:=by simp[h]
theorem zacs (t:Tree):plainArg (tagg t)=true:=by simp[tagg,plainArg,cellsPlain,Tree.zav]
theorem zaqy (t:Tree):up (tagg t) = .agg [.int .i64 t.kind, .str t.name, .str t.text, .v (.p (aval t.attrs)), .v (.p (kval t.kids))]:=by simp[tagg,Tree.zav]
theorem zad (t:Tree):IVal.agg [.p (.int .i64 t.kind), .p (.str t.name), .p (.str t.text), .p (aval t.attrs), .p (kval t.kids)]=tagg t:=by simp[tagg,Tree.zav]
theorem zag (t:Tree):t.size=lsize (klist t.kids)+1:=by
 obtain⟨k,n,x,a,ks⟩:=t
 cases ks<;>simp[Tree.size,Tree.kids,ksize,klist,lsize]
theorem zrz {l:List Tree} {j:Nat} (h:j<l.length):lsize (l.drop j)=l[j].size+lsize (l.drop (j+1)):=by
 rw[List.drop_eq_getElem_cons h];rfl
theorem zlh {l:List Tree} {j:Nat} (h:j<l.length):l[j].size≤lsize l:=zam (List.getElem_mem h)
@[simp] theorem zavc {t:Tree}:(tagg t = .undef)=False:=by simp[tagg]
@[simp] theorem zaqz {t:Tree}:IVal.passOK (tagg t)=true:=(rfl)
@[simp] theorem zaiq {H:List IBlk} {t:Tree}:freezeOne H (tagg t)=some (tagg t):=zgz
@[simp] theorem zair {H:List IBlk} {t:Tree}:freezeRes H (tagg t)=some (tagg t):=zgz
@[simp] theorem zavd {v:PVal}:plainArg (.p v)=true:=(rfl)
@[simp] theorem zakq:plainArgs []=true:=(rfl)
@[simp] theorem zais {v:IVal} {l:List IVal}:plainArgs (v::l)=(plainArg v&&plainArgs l):=by
 simp only[plainArgs];cases plainArg v<;>rfl
attribute [simp] zacs zaqy
end Go.Ideal
