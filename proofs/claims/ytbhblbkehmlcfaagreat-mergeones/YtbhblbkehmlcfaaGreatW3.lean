/-
  IDEAL SEMANTICS, 39: FROM A ROW's READING OF THE ARGUMENTS TO PLAIN DATA, AND BACK: an argument that nobody writes reads behind the call as it did.
-/
import Derived.Test.YtbhblbkehmlcfaaGreatW2
import Derived.Carry
import Derived.OpenShut
import Derived.Test.YtbhblbkehmlcfaaGreatW1
import Derived.Test.YtbhblbkehmlcfaaGreatW0
namespace Go.Ideal
open Go Go.ChangeShapes Go.WideShapes Go.RowKit
set_option linter.unusedSectionVars false
variable [Tabs]
theorem zacf {H:Type} {enc:TypeId×Value→H} {P:Program} {f:Func} {s:ChangeSpec} {apart fresh handsOn again:Bool} {W W':World} {args:Array Value} {v:Value} {ds gs:List (DataW H)} {before pa pv:List MemPlace}
 (hW:DataW.Whole enc P f.params.toList s.vars apart W args.toList ds gs before)
 (hres:∀(b:Nat) (sp:Nat→Bool) (hd:Bool),DataW.TrodAll enc P W' b sp hd f.resultTypes.toList (v.resultList f.resultTypes.size) (s.fn H (ds++gs)).results [])
 (hargs:∀sp:Nat→Bool,(∀ p∈before,sp p.block=true)→DataW.TrodAll enc P W' 0 sp true f.params.toList args.toList (s.fn H (ds++gs)).args pa)
 (hvars:∀sp:Nat→Bool,(∀ p∈before,sp p.block=true)→DataW.TrodVars enc P W' sp s.vars (s.fn H (ds++gs)).vars pv)
 (hps:before=pa++pv) (hk:W.keptBut W' (· ∈ before)) (hfz:∀a:Addr,a.block<W.heap.size→W'.frozen? a=W.frozen? a)
 (hok:∀(j:Nat) (t:TypeId) (r:Value),f.resultTypes[j]? = some t→(v.resultList f.resultTypes.size)[j]? = some r→Value.okWide P W' .any 0 t r) :
 s.post enc P f apart fresh handsOn again W args v W':=by
 have hlt:∀p∈before,p.block<W.heap.size:=fun p hp=>hW.lt p hp
 have hold:∀p∈before,(fun b=>decide (b<W.heap.size)) p.block=true:=fun p hp=>by simpa using hlt p hp
 refine⟨ds,gs,before,[],pa,pv,hW,hres _ _ _,hargs _ hold,hvars _ hold,World.keptBut_mono (fun p hp=>⟨hp,?_⟩) hk,fun _=>?_⟩
 ·rw[hps,List.mem_append]at hp
  exact Or.inr hp
 ·obtain⟨_,_,_,_,_,hz,hn⟩:=hW
  refine⟨hok,_,_,([]++pa)++pv,⟨[]++pa,pv,trodAll_append (hargs _ (fun _ _=>rfl)) (hres _ _ _),hvars _ (fun _ _=>rfl),rfl,?_,?_⟩,?_⟩
  ·intro b off hp
   have hm:MemPlace.cell b off∈before:=by rw[hps];simpa using hp
   rw[hfz _ (hlt _ hm)]
   exact hz b off hm
  ·intro ha
   have:=hn ha
   rw[hps]at this
   simpa using this
  ·intro p hp _
   rw[hps]
   simpa using hp
theorem zann {W W':World} (h:Grown W W') {x:MemPlace} (hx:x.block<W.heap.size):W.sameAt W' x:=by
 have h1:=h.1.2.2 x.block hx
 have hs:∃o,W.heap[x.block]? = some o:=⟨_,Array.getElem?_eq_getElem hx⟩
 obtain⟨o,ho⟩:=hs
 rw[ho]at h1
 cases x with
 |cell b off =>
  simp only[MemPlace.block]at ho h1
  simp only[World.sameAt,World.cell?,ho]
  cases o with
  |cells c t fr =>
   cases h2:W'.heap[b]? with
   |none=>rw[h2]at h1;simp at h1
   |some o' =>
    rw[h2]at h1
    cases o' with
    |cells c' t' fr'=>simp at h1 ⊢;exact h1.2.2.2 off
    |_=>simp at h1
  |map es ck =>
   cases h2:W'.heap[b]? with
   |none=>rfl
   |some o' =>
    rw[h2]at h1
    cases o' with
    |map es' ck'=>rfl
    |_=>simp at h1
  |_ =>
   simp only[]at h1
   rw[h1]
 |map b =>
  simp only[MemPlace.block]at ho h1
  simp only[World.sameAt,ho]
  cases h2:W'.heap[b]? with
  |none=>rw[h2]at h1;cases o<;>simp at h1
  |some o' =>
   rw[h2]at h1
   cases o with
   |cells c t fr =>
    cases o' with
    |cells c' t' fr' =>
     simp at h1
     obtain⟨rfl,rfl,hl,hc⟩:=h1
     have:c'=c:=Array.ext_getElem? hc
     rw[this]
    |_=>simp at h1
   |map es ck =>
    cases o' with
    |map es' ck'=>simp at h1;rw[h1.1,h1.2]
    |_=>simp at h1
   |_=>simpa using h1
section
variable {H:Type} {enc:TypeId×Value→H} {P:Program} {W W':World}
theorem zoz (hl:laidOutB P=true) {sp:Nat→Bool}:∀ {ts:List TypeId} {vs:List Value} {ds:List (DataW H)} {ps:List MemPlace},(∀ t∈ts,P.readableRec t=true∧t<P.types.size) →
 DataW.TrodAll enc P W 0 (fun _=>true) true ts vs ds ps→(∀ x∈ps,W.sameAt W' x)→(∀ x∈ps,sp x.block=true)→DataW.TrodAll enc P W' 0 sp true ts vs ds ps
 | [],[],[],_,_,h,_,_=>h
 |t::ts,v::vs,d::ds,ps,ht,h,hs,hb=>by
  obtain⟨p,q,h1,h2,rfl⟩:=h
  refine⟨p,q,?_,?_,rfl⟩
  ·exact WideElems.Trod_stays hl (ht t (by simp)).1 (ht t (by simp)).2 h1 (fun x hx=>hs x (by simp[hx])) (fun x hx=>hb x (by simp[hx]))
  ·exact zoz hl (fun t' h'=>ht t' (by simp[h'])) h2 (fun x hx=>hs x (by simp[hx])) (fun x hx=>hb x (by simp[hx]))
 | [],_::_,_,_,_,h,_,_=>by simp[DataW.TrodAll]at h
 | [],[],_::_,_,_,h,_,_=>by simp[DataW.TrodAll]at h
 |_::_,[],_,_,_,h,_,_=>by simp[DataW.TrodAll]at h
 |_::_,_::_,[],_,_,h,_,_=>by simp[DataW.TrodAll]at h
def ZW (W:World):Cells:=fun b o=>W.cell? ⟨b,o,none⟩
def CRel (W:World):List Value→List PVal→Prop
 | [],[]=>True
 |r::rs,v::vs=>PRel (ZW W) v r∧CRel W rs vs
 |_,_=>False
theorem CRel.len:∀ {rs:List Value} {vs:List PVal},CRel W rs vs→rs.length=vs.length
 | [],[],_=>rfl
 |_::_,_::_,h=>by simp[h.2.len]
variable (W) in
def Stands (v:IVal) (r:Value):Prop:=v.passOK=true∧∀tz:TabZ (ZW W),VRel { M:=⟨[],[]⟩,m:=fun _=>none,z:=ZW W,tab:=tz } v r
theorem zqw {t:TypeId} {k:IntKind} (ht:P.underlying t=some (.int k)) {v:Value} {base:Nat} {d:DataW H} {ps:List MemPlace} (hv:Value.okWide P W .any base t v) (h:DataW.Trod enc P W 0 (fun _=>true) true t v d ps):∃i:Int,(Lit.int k i).wf=true∧Stands W (.p (.int k i)) v:=by
 obtain⟨i,rfl,_,_,hw⟩:=open_int ht hv h
 exact⟨i,hw,rfl,fun _=>by simp[VRel,PRel]⟩
theorem zaqa [B:Base] {Γ:Prog} (hm:P.follows .mixedOrders=true) (hΓ:ProgOK P Γ) (hB:BaseOK P) {f:FuncId} {vs:List IVal} {rs:List Value} (h:CW Γ f vs []=some (.p (.bool true),[])) (tz:TabZ (ZW W)) (hs:TsRel { M:=⟨[],[]⟩,m:=fun _=>none,z:=ZW W,tab:=tz } vs rs) :
 Calls P f rs.toArray W fun e W'=>e = .returned (.bool true)∧Grown W W':=by
 refine Calls.mono (OracleOK.calls (CW_ok hm hΓ hB) h tz (fun _ _ _ e=>e) hs) ?_
 rintro e w' ⟨rv,d,rfl,hv,hg⟩
 simp only[VRel,PRel]at hv
 rw[hv]
 exact⟨rfl,hg⟩
end
end Go.Ideal

/-
  IDEAL SEMANTICS: A FUNCTION THAT RANGES OVER A MAP, in whatever order: what it says is the same in every order.
-/
namespace Go.Ideal
open Go Go.ChangeMaps
set_option linter.unusedSectionVars false
variable [Tabs]
section
variable {P:Program}
theorem zaqb {f:FuncId} {args az:List IVal} {r:IVal}
 (hbody:∀(c:Ctx) (w:World) (l:List Value),c.M=⟨[],[]⟩→WRel c w→TsRel c az l→Calls P f l.toArray w fun e w'=>∃rv d v' H1,freezeRes H1 v'=some r∧freshRes H1 v'=true∧e = .returned rv∧d.M=⟨[],H1⟩∧Step c w d w'∧Un c d∧v'.passOK=true∧VRel d v' rv)
 {H:List IBlk} (has:freezeAll H args=some az) (c:Ctx) (w:World) (l:List Value) (hM:c.M=⟨[],H⟩) (hW:WRel c w) (hl:TsRel c args l) :
 Calls P f l.toArray w fun e w'=>∃rv d,e = .returned rv∧d.M=⟨[],H⟩∧Step c w d w'∧Un c d∧r.passOK=true∧VRel d r rv:=by
 have hH:c.M.heap=H:=by rw[hM]
 rw[← hH]at has
 let z0:Cells:=fun b o=>w.cell? ⟨b,o,none⟩
 have t0:TabZ z0:=TabZ.mono c.tab fun b o u hu=>hW.z b o u hu
 have hW0:WRel { M:=⟨[],[]⟩,m:=fun _=>none,z:=z0,tab:=t0 } w :=
  ⟨fun b o u hu=>hu,fun k cs e v op b q K _ h2=>(by cases h2),fun k es ck b q K _ h2=>(by cases h2),fun k l b q K q' K' _ _ h3 _=>(by cases h3),fun k b q K _ h2=>(by cases h2),fun k x h2=>(by cases h2)⟩
 have hargs:TsRel { M:=⟨[],[]⟩,m:=fun _=>none,z:=z0,tab:=t0 } az l:=zda (z1:=z0) hW (fun b o u hu=>hW.z b o u hu) (fun b _ o u hu=>hu) rfl has hl
 refine Calls.mono (hbody _ w l rfl hW0 hargs) ?_
 rintro e w' ⟨rv,d,v',H1,hr,hfr,rfl,hd,hs,_,hp,hv⟩
 have hno:∀b,¬Ctx.Own { M:=⟨[],[]⟩,m:=fun _=>none,z:=z0,tab:=t0 } b:=fun b ⟨k,q,K,hk⟩=>(by cases hk)
 have hsame:∀b,b<w.heap.size→w'.heap[b]? = w.heap[b]? := fun b hb=>hs.same b hb (hno b)
 let z1:Cells:=fun b o=>match c.z b o with|some u=>some u|none=>if w.heap.size≤b then w'.cell? ⟨b,o,none⟩else none
 have hz1:∀b o u,c.z b o=some u→z1 b o=some u:=fun b o u hu=>by simp[z1,hu]
 have t1:TabZ z1:=TabZ.mono c.tab hz1
 have hcz:∀b o,w.heap.size≤b→c.z b o=none:=by
  intro b o hb
  cases hu:c.z b o with
  |none=>rfl
  |some u=>exact absurd (zat (hW.z _ _ _ hu)) (by omega)
 have hstep:Step c w { M:=c.M,m:=c.m,z:=z1,tab:=t1 } w':=by
  have hext:c.Ext { M:=c.M,m:=c.m,z:=z1,tab:=t1 }:=⟨fun k cs e v o hk=>⟨cs,v,o,hk,Nat.le_refl _,fun _ x hx=>hx⟩,fun k es ck hk=>⟨es,ck,hk,fun x hx=>hx⟩,hz1⟩
  refine⟨hext,⟨fun b o u hu=>?_,fun k cs e v op b q K h1 h2=>?_,fun k es ck b q K h1 h2=>?_,hW.inj,fun k b q K h1 h2 o=>?_,hW.dom⟩,hs.size,fun b hb _=>hsame b hb,fun b ho _=>ho,fun b o u hu hb=>?_,hs.also⟩
  ·simp only[z1]at hu
   split at hu
   ·rename_i u' hu'
    injection hu with hu
    subst hu
    have:=hW.z _ _ _ hu'
    exact zey (hsame b (zat this)) this
   ·split at hu
    ·exact hu
    ·cases hu
  ·obtain⟨C',T,h3,h4,h5,h6,h7⟩:=hW.blk k cs e v op b q K h1 h2
   exact⟨C',T,by rw[hsame b (hW.bound (hW.dom _ _ h2) h2)];exact h3,h4,h5,h6,fun j x hx=>by obtain⟨r',g1,g2,g3⟩:=h7 j x hx;exact⟨r',g1,g2,g3.ext hext⟩⟩
  ·obtain⟨ents,h3,h4⟩:=hW.mp k es ck b q K h1 h2
   exact⟨ents,by rw[hsame b (hW.bound (hW.dom _ _ h2) h2)];exact h3,h4.ext hext⟩
  ·have hb:=hW.bound h1 h2
   simp only[z1,hW.zdis k b q K h1 h2 o]
   rw[if_neg (by omega)]
  ·simp only[z1]at hu
   split at hu
   ·rename_i u' hu';rw[hu'];exact hu
   ·rw[if_neg (by omega)]at hu;cases hu
 have hdH:d.M.heap=H1:=by rw[hd]
 rw[← hdH]at hr hfr
 have hvr:=zmn (z1:=z1) (d:={ M:=c.M,m:=c.m,z:=z1,tab:=t1 }) hs.rel (fun b ho o u hu=>by
  have hb:w.heap.size≤b:=by
   rcases Nat.lt_or_ge b w.heap.size with h'|h'
   ·exact absurd (hs.own b ho h') (hno b)
   ·exact h'
  simp only[z1,hcz b o hb]
  rw[if_pos hb]
  exact hu) rfl hr hfr hv
 exact⟨rv,{ M:=c.M,m:=c.m,z:=z1,tab:=t1 },rfl,hM,hstep,fun _ _ h=>h,hvr.2,hvr.1⟩
structure RCut where
 pre:ICode
 x:Opd
 it:Nat
 nx:Nat
 mo:Nat
 en:Nat
 mB:List Bool
 nb:Nat
 mN:List Bool
 az:List IOper
 body:ICode
 mO:List Bool
 rest:ICode
def RCut.on (F:RCut) (k v:IVal) (T:List IVal):List IVal:=((T.set F.nx (.tup [.p (.bool true),k,v])).set F.mo (.p (.bool true))).set F.en (.tup [k,v])
def RCut.off (F:RCut) (T:List IVal):List IVal:=(T.set F.nx .undef).set F.mo (.p (.bool false))
def RCut.round (F:RCut):ICode := .block F.nb F.mN (.seq (.reg [] F.az) F.body)
def rangeParts (P:Program) (loc:List Nat) (mk:List (Nat×List Bool)) (cur:Nat) (a b:Code):Option RCut :=
 match a with
 | .seq (.region _ rops false) (.block ob (.loop (.seq (.region _ sops false) (.seq (.cond (.tmp mo) .skip (.exit oe)) (.block nb (.seq (.region _ aops false) body)))))) =>
   match rops.toList.reverse,sops.toList,aops.toList with
   |⟨some it, .range t (.tmp x),_,_,_,none⟩::pr,[⟨some nx, .next (.tmp i1) false,_,_,_,none⟩,⟨some mo1, .extract (.tmp n1) 0,_,_,_,none⟩],⟨some en, .entry (.tmp i2),_,_,_,none⟩::az =>
    match decide (i1=it∧i2=it∧mo1=mo∧n1=nx∧oe=ob∧nx≠it∧mo≠it∧mo≠nx)&&(isMapT P t&&((freshOf loc rops.toList).isEmpty&&(freshOf loc aops.toList).isEmpty))with
    |true=>match compSeq P loc rops.toList pr.reverse,compSeq P loc aops.toList az,compCode P loc mk nb body,compCode P loc mk cur b with
     |some ip,some ia,some ib,some ir=>some ⟨.reg [] ip, .tmp x,it,nx,mo,en,maskOf mk ob,nb,maskOf mk (nb+1000000),ia,ib,maskOf mk (ob+1000000),ir⟩
     |_,_,_,_=>none
    |false=>none
   |_,_,_=>none
 |_=>none
def cutComp (P:Program) (loc:List Nat) (mk:List (Nat×List Bool)) (cur:Nat):Code→Option RCut
 | .seq a b=>match rangeParts P loc mk cur a b with
   |some F=>some F
   |none=>match compCode P loc mk cur a,cutComp P loc mk cur b with
    |some x,some F=>some { F with pre := .seq x F.pre }
    |_,_=>none
 |_=>none
def RRounds (C:Oracle) (F:RCut) (n i:Nat) (blk:IBlk) (K:IExit→St→Prop):List Ent→St→Prop
 | [],S=>F.nx<S.T.length∧F.mo<S.T.length∧(maskT F.mB S.T)[F.it]? = some (.opq n)∧∃e S',evalCode C loopW F.rest ⟨maskT F.mO (F.off (maskT F.mB S.T)),S.M⟩=some (e,S')∧K e S'
 |(k,v,_)::r,S=>F.nx<S.T.length∧F.mo<S.T.length∧(maskT F.mB S.T)[F.it]? = some (.opq n)∧∃S',evalCode C loopW F.round ⟨F.on k v (maskT F.mB S.T),S.M⟩=some (.normal,S')∧S'.M.heap[i]? = some blk∧RRounds C F n i blk K r S'
def stamps (es:List Ent) (ck:Nat):Prop:=(es.map (·.2.2)).Nodup∧∀e∈es,e.2.2<ck
def RBody (C:Oracle) (F:RCut) (S:St) (K:IExit→St→Prop):Prop :=
 ∃e S1,evalCode C loopW F.pre S=some (e,S1)∧match e with
  | .normal=>∃i es ck,evalOpd S1.T [] [] F.x = .map i∧S1.M.heap[i]? = some (.map es ck)∧stamps es ck∧∀n σ,σ.Perm es→RRounds C F n i (.map es ck) K σ ⟨S1.T.set F.it (.opq n),S1.M⟩
  |e=>K e S1
theorem zvq {C:Oracle} {F:RCut} {p:ICode} {n i:Nat} {blk:IBlk} {K:IExit→St→Prop}:∀ {σ:List Ent} {S:St},RRounds C { F with pre:=p } n i blk K σ S→RRounds C F n i blk K σ S
 | [],_,h=>h
 |(_,_,_)::_,_,⟨h1,h2,h3,S',h4,h5,h6⟩=>⟨h1,h2,h3,S',h4,h5,zvq h6⟩
def left (es:List Ent) (seen:Array Nat):List Ent:=es.filter fun e=>decide (e.2.2∉seen)
theorem zafu {x:Ent}:∀ {L:List Ent},(L.map (·.2.2)).Nodup→x∈L→(x::L.filter (fun e=>decide (e.2.2≠x.2.2))).Perm L
 | [],_,h=>by simp at h
 |y::L,hn,h=>by
  rw[List.map_cons,List.nodup_cons]at hn
  rcases List.mem_cons.1 h with rfl|h
  ·have e1:(x::L).filter (fun e=>decide (e.2.2≠x.2.2))=L:=by
    rw[List.filter_cons_of_neg (by simp)]
    refine List.filter_eq_self.2 fun z hz=>?_
    have:z.2.2≠x.2.2:=fun e=>hn.1 (by rw[← e];exact List.mem_map.2 ⟨z,hz,rfl⟩)
    simpa using this
   rw[e1]
  ·have hne:y.2.2≠x.2.2:=fun e=>hn.1 (by rw[e];exact List.mem_map.2 ⟨x,h,rfl⟩)
   rw[List.filter_cons_of_pos (by simpa using hne)]
   exact(List.Perm.swap _ _ _).trans ((zafu hn.2 h).cons y)
theorem zaqc {es:List Ent} {seen:Array Nat} {x:Ent} (hn:(es.map (·.2.2)).Nodup) (hx:x∈left es seen):(x::left es (seen.push x.2.2)).Perm (left es seen):=by
 have e:left es (seen.push x.2.2)=(left es seen).filter (fun e=>decide (e.2.2≠x.2.2)):=by
  unfold left
  rw[List.filter_filter]
  congr 1
  funext z
  by_cases h1:z.2.2=x.2.2<;>by_cases h2:z.2.2∈seen<;>simp[h1,h2]
 rw[e]
 refine zafu ?_ hx
 exact hn.sublist ((List.filter_sublist).map _)
section
variable {C:Oracle} {loc:List Nat} {mk:List (Nat×List Bool)} {F:RCut} {n i bm q Kq ob sid aid:Nat} {es:List Ent} {ck:Nat} {K:IExit→St→Prop} {Q:Exit→Act→World→Prop} {c0:Ctx} {w0:World} {sops aops:Array Oper} {asl:List Oper} {body rest:Code} {t1 t2 t3:TypeId} {p1 p2 p3:String} {e1 e2 e3:Array Edge} {dfs:List Deferred}
theorem zpa (hC:OracleOK P C) (hD:DrawOK P C loc) (hst:stamps es ck)
 (hs:sops.toList=[⟨some F.nx, .next (.tmp F.it) false,t1,p1,e1,none⟩,⟨some F.mo, .extract (.tmp F.nx) 0,t2,p2,e2,none⟩])
 (ha:aops.toList=⟨some F.en, .entry (.tmp F.it),t3,p3,e3,none⟩::asl) (hca:compSeq P loc aops.toList asl=some F.az) (hcb:compCode P loc mk F.nb body=some F.body)
 (hni:F.nx≠F.it) (hmi:F.mo≠F.it) (hmn:F.mo≠F.nx)
 (hrest:∀(c':Ctx) (a':Act) (w':World) (S':St),FStep c0 w0 c' w'→c'.M=S'.M→TRel c' S'.T a'.tmps→a'.defers=dfs→(∃ e S2,evalCode C loopW F.rest S'=some (e,S2)∧K e S2)→rest.wp P Q a' w') :
 ∀(m:Nat) (seen:Array Nat) (S:St) (c:Ctx) (a:Act) (w:World),(left es seen).length<m→(∀ σ,σ.Perm (left es seen)→RRounds C F n i (.map es ck) K σ S)→c.M=S.M→TRel c S.T a.tmps→a.defers=dfs→RSt c0 w0 n i bm q Kq es ck seen c w →
  Code.rounds P (.seq (.region sid sops false) (.seq (.cond (.tmp F.mo) .skip (.exit ob)) (.block F.nb (.seq (.region aid aops false) body)))) (Exit.inBlock ob (Exit.then (fun a w=>rest.wp P Q a w) Q)) m a w
 |0,seen,S,c,a,w,hm,_,_,_,_,_=>by omega
 |m+1,seen,S,c,a,w,hm,hR,hM,hT,hdf,hS=>by
  rw[rounds_succ]
  obtain⟨ents,hents,hrel⟩:=hS.fs.rel.mp _ _ _ _ _ _ hS.mp hS.ad
  have hborn:=hrel.born
  have hold:∀x∈ents.toList,x.born<ck:=fun x hx=>by
   obtain⟨k,v,h1,_⟩:=hrel.mem hx
   exact hst.2 _ h1
  have hTm:=hT.masked F.mB
  have hl1:F.nx<S.T.length∧F.mo<S.T.length∧(maskT F.mB S.T)[F.it]? = some (.opq n):=by
   have:=hR _ (.refl _)
   cases hle:left es seen with
   |nil=>rw[hle]at this;exact⟨this.1,this.2.1,this.2.2.1⟩
   |cons x r=>obtain⟨k,v,b⟩:=x;rw[hle]at this;exact⟨this.1,this.2.1,this.2.2.1⟩
  obtain⟨hnl,hml,hit⟩:=hl1
  have hlen:=hT.1
  have hitv:a.eval (.tmp F.it) = .pointer (some ⟨n,0,none⟩):=by
   have:=hTm.opds (.tmp F.it) (.tmp F.it) rfl
   simp only[evalOpd,Ideal.look,List.getD_eq_getElem?_getD,hit,Option.getD_some]at this
   exact this
  have hs0:sops[0]? = some ⟨some F.nx, .next (.tmp F.it) false,t1,p1,e1,none⟩:=by rw[← Array.getElem?_toList,hs];rfl
  have hs1:sops[1]? = some ⟨some F.mo, .extract (.tmp F.nx) 0,t2,p2,e2,none⟩:=by rw[← Array.getElem?_toList,hs];rfl
  have hsz:sops.size=2:=by rw[← Array.length_toList,hs];rfl
  refine Go.wp_seq (wp_region ?_)
  rw[hsz]
  show wpOps P sops _ [0,1] a w
  rcases run_next_at (P:=P) w t1 n bm ck ck seen ents ck hS.it hents hold (Nat.le_refl _)with⟨h0,hrun⟩|⟨e,he,w1,hw1,hrun⟩
  ·
   have hle:left es seen=[]:=by
    refine List.filter_eq_nil_iff.2 fun x hx=>?_
    have hb:x.2.2∈ents.toList.map (·.born):=by rw[hborn];exact List.mem_map.2 ⟨x,hx,rfl⟩
    obtain⟨y,hy,hyb⟩:=List.mem_map.1 hb
    have:y∉leftOf ents seen:=fun hm=>by
     have:=(Array.mem_iff_getElem.1 hm)
     obtain⟨j,hj,_⟩:=this
     omega
    have hc:seen.contains y.born=true:=by
     cases hcc:seen.contains y.born with
     |true=>rfl
     |false=>exact absurd (by unfold leftOf;simp;exact⟨by simpa using hy,by simpa using hcc⟩) this
    rw[hyb]at hc
    simpa using hc
   have hR0:=hR [] (by rw[hle])
   obtain⟨_,_,_,e,S2,hev,hK⟩:=hR0
   refine zbq hs0 rfl (rv := .tuple #[.bool false]) (w':=w) ?_ ?_
   ·simp only[execOp,hitv,Sem.run_bind,hrun,Result.andThen];rfl
   have ha1:(a.put (some F.nx) (.tuple #[.bool false])).eval (.tmp F.nx) = .tuple #[.bool false]:=eval_put (by omega)
   refine zbq hs1 rfl (rv := .bool false) (w':=w) ?_ ?_
   ·simp only[execOp,ha1,Instr.extract];rfl
   have ha2:((a.put (some F.nx) (.tuple #[.bool false])).put (some F.mo) (.bool false)).eval (.tmp F.mo) = .bool false:=eval_put (by simp[Act.put];omega)
   have hTo:TRel c (F.off (maskT F.mB S.T)) ((a.put (some F.nx) (.tuple #[.bool false])).put (some F.mo) (.bool false)).tmps:=(hTm.put (v := .undef) (r := .tuple #[.bool false]) (by simp only[VRel]) (some F.nx)).put (v := .p (.bool false)) (r := .bool false) (by simp only[VRel,PRel]) (some F.mo)
   show Exit.then _ _ .normal _ _
   simp only[Exit.then]
   refine Go.wp_seq (wp_cond_false ha2 (Go.wp_exit ?_))
   simp only[Exit.then,Exit.inBlock,if_true]
   exact hrest c _ w ⟨maskT F.mO (F.off (maskT F.mB S.T)),S.M⟩ hS.fs hM (hTo.masked _) (by simp[Act.put,hdf]) ⟨e,S2,hev,hK⟩
  ·
   have heM:e∈ents.toList∧e.born∉seen:=by
    have:e∈leftOf ents seen:=by simpa using he
    unfold leftOf at this
    simp at this
    exact⟨by simpa using this.1,by simpa using this.2⟩
   obtain⟨k,v,hmem,kp,kr,vp,vr⟩:=hrel.mem heM.1
   have hx:(k,v,e.born)∈left es seen:=List.mem_filter.2 ⟨hmem,by simpa using heM.2⟩
   have hperm:=zaqc hst.1 hx
   have hS1:=hS.step (seen':=seen.push e.born) hw1
   obtain⟨S',hround,hheap,_⟩:∃S',evalCode C loopW F.round ⟨F.on k v (maskT F.mB S.T),S.M⟩=some (.normal,S')∧S'.M.heap[i]? = some (.map es ck)∧True:=by
    obtain⟨_,_,_,S',g1,g2,_⟩:=hR _ hperm
    exact⟨S',g1,g2,trivial⟩
   have hR':∀σ,σ.Perm (left es (seen.push e.born))→RRounds C F n i (.map es ck) K σ S':=fun σ hσ=>by
    obtain⟨_,_,_,S2,g1,_,g3⟩:=hR _ ((hσ.cons (k,v,e.born)).trans hperm)
    rw[hround]at g1
    injection g1 with g1
    injection g1 with _ g1
    rw[g1];exact g3
   have hlen':(left es (seen.push e.born)).length<m:=by
    have:=hperm.length_eq
    simp at this
    omega
   generalize hw2:setBlock w1 n (.mapIter (some bm) ck (seen.push e.born) ck)=w2 at hS1 hrun
   refine zbq hs0 rfl (rv := .tuple #[.bool true,e.key,e.val]) (w':=w2) ?_ ?_
   ·simp only[execOp,hitv,Sem.run_bind,hrun,Result.andThen];rfl
   have ha1:(a.put (some F.nx) (.tuple #[.bool true,e.key,e.val])).eval (.tmp F.nx) = .tuple #[.bool true,e.key,e.val]:=eval_put (by omega)
   refine zbq hs1 rfl (rv := .bool true) (w':=w2) ?_ ?_
   ·simp only[execOp,ha1,Instr.extract];rfl
   have ha2:((a.put (some F.nx) (.tuple #[.bool true,e.key,e.val])).put (some F.mo) (.bool true)).eval (.tmp F.mo) = .bool true:=eval_put (by simp[Act.put];omega)
   have htup:VRel c (.tup [.p (.bool true),k,v]) (.tuple #[.bool true,e.key,e.val]):=by
    simp only[VRel,TsRel]
    exact⟨[.bool true,e.key,e.val],rfl,_,_,rfl,rfl,by simp only[PRel],_,_,rfl,kp,kr,_,_,rfl,vp,vr,rfl⟩
   have hTo:=(hTm.put htup (some F.nx)).put (v := .p (.bool true)) (r := .bool true) (by simp only[VRel,PRel]) (some F.mo)
   generalize haa:(a.put (some F.nx) (.tuple #[.bool true,e.key,e.val])).put (some F.mo) (.bool true)=a2 at ha2 hTo ⊢
   have hdf2:a2.defers=dfs:=by rw[← haa];simp[Act.put,hdf]
   show Exit.then _ _ .normal _ _
   simp only[Exit.then]
   refine Go.wp_seq (wp_cond_true ha2 (Go.wp_skip ?_))
   simp only[Exit.then]
   refine Go.wp_block (Go.wp_seq (wp_region ?_))
   have hasz:aops.size=asl.length+1:=by rw[← Array.length_toList,ha];rfl
   have ha0:aops[0]? = some ⟨some F.en, .entry (.tmp F.it),t3,p3,e3,none⟩:=by rw[← Array.getElem?_toList,ha];rfl
   rw[hasz,List.range_eq_range',List.range'_succ]
   have hit2:a2.eval (.tmp F.it) = .pointer (some ⟨n,0,none⟩):=by
    rw[← haa]
    simp only[Act.put,Act.eval,Array.getD_eq_getD_getElem?]at hitv ⊢
    rw[Array.getElem?_setIfInBounds_ne (by omega),Array.getElem?_setIfInBounds_ne (by omega)]
    exact hitv
   have hbn:bm≠n:=fun e=>hS.no ⟨_,_,_,by rw[← e];exact hS.ad⟩
   have hents2:w2.heap[bm]? = some (.map ents ck):=by
    have hh:w1.heap=w.heap:=by rcases hw1 with rfl|rfl<;>rfl
    rw[← hw2]
    simp only[setBlock,hh]
    rw[Array.getElem?_setIfInBounds_ne (Ne.symm hbn)]
    exact hents
   have hent:=run_entry_at (P:=P) w2 n bm ck seen ents ck e hS1.it hents2 heM.1 (by rw[hborn];exact hst.1)
   refine zbq ha0 rfl (rv := .tuple #[e.key,e.val]) (w':=w2) ?_ ?_
   ·simp only[execOp,hit2,Sem.run_bind,hent,Result.andThen];rfl
   have htup2:VRel c (.tup [k,v]) (.tuple #[e.key,e.val]):=by
    simp only[VRel,TsRel]
    exact⟨[e.key,e.val],rfl,_,_,rfl,kp,kr,_,_,rfl,vp,vr,rfl⟩
   have hT3:TRel c (F.on k v (maskT F.mB S.T)) (a2.put (some F.en) (.tuple #[e.key,e.val])).tmps:=hTo.put htup2 (some F.en)
   unfold RCut.round at hround
   simp only[evalCode,freshen]at hround
   have hfin:∀(ex:IExit) (S3:St),(match some (ex,S3)with|some (.exit i,S'')=>(match Nat.beq i F.nb with|true=>some (.normal,⟨maskT F.mN S''.T,S''.M⟩)|false=>some (.exit i,S''))|r=>r)=some (IExit.normal,S')→∀c' a' w',c'.M=S3.M→FStep c w2 c' w'→TRel c' S3.T a'.tmps→a'.defers=dfs →
    Exit.inBlock F.nb (Exit.then (Code.rounds P (.seq (.region sid sops false) (.seq (.cond (.tmp F.mo) .skip (.exit ob)) (.block F.nb (.seq (.region aid aops false) body)))) (Exit.inBlock ob (Exit.then (fun a w=>rest.wp P Q a w) Q)) m) (Exit.inBlock ob (Exit.then (fun a w=>rest.wp P Q a w) Q))) ex.out a' w':=by
    intro ex S3 hex c' a' w' g1 g2 g3 g4
    have go:∀(a':Act),c'.M=S'.M→TRel c' S'.T a'.tmps→a'.defers=dfs→Code.rounds P (.seq (.region sid sops false) (.seq (.cond (.tmp F.mo) .skip (.exit ob)) (.block F.nb (.seq (.region aid aops false) body)))) (Exit.inBlock ob (Exit.then (fun a w=>rest.wp P Q a w) Q)) m a' w':=fun a' g1 g3 g4 =>
     zpa hC hD hst hs ha hca hcb hni hmi hmn hrest m (seen.push e.born) S' c' a' w' hlen' hR' g1 g3 g4 (hS1.body g2 (by rw[g1];exact hheap))
    cases ex with
    |normal =>
     injection hex with hex
     injection hex with _ hex
     subst hex
     exact go a' g1 g3 g4
    |ret =>
     injection hex with hex
     injection hex with hex _
     cases hex
    |exit j =>
     simp only at hex
     cases hj:Nat.beq j F.nb with
     |true =>
      rw[hj]at hex
      injection hex with hex
      injection hex with _ hex
      have:=Nat.eq_of_beq_eq_true hj
      subst this
      simp only[IExit.out,Exit.inBlock,if_true]
      exact go a' (by rw[g1,←hex]) (by rw[← hex];exact g3.masked _) g4
     |false =>
      rw[hj]at hex
      injection hex with hex
      injection hex with hex _
      cases hex
   cases hreg:evalReg C ⟨F.on k v (maskT F.mB S.T),S.M⟩ F.az with
   |none=>rw[hreg]at hround;cases hround
   |some S3 =>
    rw[hreg]at hround
    simp only at hround
    cases hbd:evalCode C loopW F.body S3 with
    |none=>rw[hbd]at hround;cases hround
    |some p =>
     obtain⟨ex,S4⟩:=p
     rw[hbd]at hround
     have hreg2:=zjp (P:=P) (Q:=Exit.then (fun a w=>body.wp P (Exit.inBlock F.nb (Exit.then (Code.rounds P (.seq (.region sid sops false) (.seq (.cond (.tmp F.mo) .skip (.exit ob)) (.block F.nb (.seq (.region aid aops false) body)))) (Exit.inBlock ob (Exit.then (fun a w=>rest.wp P Q a w) Q)) m) (Exit.inBlock ob (Exit.then (fun a w=>rest.wp P Q a w) Q)))) a w) (Exit.inBlock F.nb (Exit.then (Code.rounds P (.seq (.region sid sops false) (.seq (.cond (.tmp F.mo) .skip (.exit ob)) (.block F.nb (.seq (.region aid aops false) body)))) (Exit.inBlock ob (Exit.then (fun a w=>rest.wp P Q a w) Q)) m) (Exit.inBlock ob (Exit.then (fun a w=>rest.wp P Q a w) Q))))) hC asl 1 F.az (all:=aops.toList) (fun j=>by rw[ha,Nat.add_comm,List.getElem?_cons_succ]) (J:=fun z=>z.defers=(a2.put (some F.en) (.tuple #[e.key,e.val])).defers) hca (fun o _ a v h=>by rw[put_defers];exact h) hreg hM hS1.fs.rel hT3 rfl fun c' a' w' h1 h2 h3 h4=>by
      simp only[Exit.then]
      exact zfh hC zif hD body F.nb F.body hcb hbd h1 h2.rel h3 fun c2 a4 w4 k1 k2 k3 k4=>hfin ex S4 hround c2 a4 w4 k1 (h2.trans k2) k3 (by rw[k4,h4];simp[Act.put,hdf2])
     simpa using hreg2
end
theorem zyr {loc:List Nat} {mk:List (Nat×List Bool)} {cur:Nat} {a b:Code} {F:RCut} (h:rangeParts P loc mk cur a b=some F) :
 ∃rid sid aid ob rops sops aops body t x pr asl ip t0 p0 e0 t1 p1 e1 t2 p2 e2 t3 p3 e3,a = .seq (.region rid rops false) (.block ob (.loop (.seq (.region sid sops false) (.seq (.cond (.tmp F.mo) .skip (.exit ob)) (.block F.nb (.seq (.region aid aops false) body)))))) ∧
  rops.toList=pr++[⟨some F.it, .range t (.tmp x),t0,p0,e0,none⟩]∧F.x = .tmp x ∧
  sops.toList=[⟨some F.nx, .next (.tmp F.it) false,t1,p1,e1,none⟩,⟨some F.mo, .extract (.tmp F.nx) 0,t2,p2,e2,none⟩] ∧
  aops.toList=⟨some F.en, .entry (.tmp F.it),t3,p3,e3,none⟩::asl∧isMapT P t=true∧compSeq P loc rops.toList pr=some ip∧F.pre = .reg [] ip∧compSeq P loc aops.toList asl=some F.az ∧
  compCode P loc mk F.nb body=some F.body∧compCode P loc mk cur b=some F.rest∧F.nx≠F.it∧F.mo≠F.it∧F.mo≠F.nx:=by
 unfold rangeParts at h
 split at h
 ·rename_i rid rops ob sid sops mo oe nb aid aops body
  split at h
  ·rename_i it t x t0 p0 e0 pr nx i1 t1 p1 e1 mo1 n1 t2 p2 e2 en i2 t3 p3 e3 asl hr hs ha
   split at h
   ·rename_i hd
    simp only[Bool.and_eq_true,decide_eq_true_eq]at hd
    obtain⟨⟨d1,d2,d3,d4,d5,d6,d7,d8⟩,hm,_⟩:=hd
    split at h
    ·rename_i ip ia ib ir c1 c2 c3 c4
     injection h with h
     subst h
     subst d1 d2 d3 d4 d5
     have hr':rops.toList=pr.reverse++[⟨some i2, .range t (.tmp x),t0,p0,e0,none⟩]:=by
      rw[← List.reverse_reverse rops.toList,hr,List.reverse_cons]
     exact⟨rid,sid,aid,oe,rops,sops,aops,body,t,x,pr.reverse,asl,ip,t0,p0,e0,t1,p1,e1,t2,p2,e2,t3,p3,e3,rfl,hr',rfl,hs,ha,hm,c1,rfl,c2,c3,c4,d6,d7,d8⟩
    ·cases h
   ·cases h
  ·cases h
 ·cases h
theorem zaqd {C:Oracle} (hC:OracleOK P C) {loc:List Nat} {mk:List (Nat×List Bool)} (hD:DrawOK P C loc) {K:IExit→St→Prop}:∀(code:Code) (cur:Nat) (F:RCut),cutComp P loc mk cur code=some F →
 ∀ {S:St} {c:Ctx} {a:Act} {w:World} {Q:Exit→Act→World→Prop},RBody C F S K→c.M=S.M→WRel c w→TRel c S.T a.tmps →
 (∀ e S' c' a' w',K e S'→c'.M=S'.M→FStep c w c' w'→TRel c' S'.T a'.tmps→a'.defers=a.defers→Q e.out a' w')→code.wp P Q a w:=by
 intro code
 induction code with
 |seq x y ihx ihy =>
  intro cur F hc S c a w Q hB hM hW hT hQ
  simp only[cutComp]at hc
  split at hc
  ·rename_i F' hp
   injection hc with hc
   subst hc
   obtain⟨rid,sid,aid,ob,rops,sops,aops,body,t,xs,pr,asl,ip,t0,p0,e0,t1,p1,e1,t2,p2,e2,t3,p3,e3,rfl,hr,hx,hs,ha,hm,c1,hpre,c2,c3,c4,d6,d7,d8⟩:=zyr hp
   obtain⟨ex,S1,hev,hS1⟩:=hB
   rw[hpre]at hev
   simp only[evalCode,freshen]at hev
   cases hreg:evalReg C S ip with
   |none=>rw[hreg]at hev;cases hev
   |some S1' =>
    rw[hreg]at hev
    injection hev with hev
    injection hev with e1 e2
    subst e1 e2
    obtain⟨i,es,ck,hxv,hmap,hst,hR⟩:=hS1
    refine Go.wp_seq (Go.wp_seq (wp_region ?_))
    have hsz:rops.size=pr.length+1:=by rw[← Array.length_toList,hr,List.length_append];rfl
    have hrng:List.range rops.size=List.range' 0 pr.length++[pr.length]:=by
     rw[hsz,List.range_succ,List.range_eq_range']
    rw[hrng]
    have hregs:=zlk (P:=P) (Q:=Exit.then (fun a w=>(Code.block ob (.loop (.seq (.region sid sops false) (.seq (.cond (.tmp F'.mo) .skip (.exit ob)) (.block F'.nb (.seq (.region aid aops false) body)))))).wp P (Exit.then (fun a w=>y.wp P Q a w) Q) a w) (Exit.then (fun a w=>y.wp P Q a w) Q)) hC pr 0 ip [pr.length] (all:=rops.toList) (fun j hj=>by rw[hr,Nat.zero_add,List.getElem?_append_left hj]) c1 (J:=fun z=>z.defers=a.defers) (fun o _ a v h=>by rw[put_defers];exact h) hreg hM hW hT rfl fun c1 a1 w1 h1 h2 h3 h4=>by
     have hxr:=h3.opds (.tmp xs) (.tmp xs) rfl
     rw[hx]at hxv
     rw[hxv]at hxr
     simp only[VRel]at hxr
     obtain⟨es',ck',hg,bm,q,Kq,had,hxe⟩:=hxr
     have hg':c1.M.get (.heap i)=some (.map es ck):=by rw[h1];exact hmap
     rw[hg']at hg
     injection hg with hg
     injection hg with g1 g2
     subst g1 g2
     obtain⟨ents,hents,_⟩:=h2.rel.mp _ _ _ _ _ _ hg' had
     unfold isMapT at hm
     split at hm
     ·rename_i kt et hu
      have hrun:=run_range_map (P:=P) w1 t kt et bm ents ck hu hents
      refine zbq (o:=⟨some F'.it, .range t (.tmp xs),t0,p0,e0,none⟩) (by rw[Array.toArray_toList,←Array.getElem?_toList,hr,List.getElem?_append_right (Nat.le_refl _),Nat.sub_self];rfl) rfl (rv := .pointer (some ⟨w1.heap.size,0,none⟩)) (w':=w1.alloc (.mapIter (some bm) ck #[] ck)) ?_ ?_
      ·simp only[execOp,hxe,Sem.run_bind,hrun,Result.andThen];rfl
      have hRS:=RSt.start h2.rel hg' had
      show Exit.then _ _ .normal _ _
      simp only[Exit.then]
      refine Go.wp_block (wp_loop_rounds (es.length+1) ?_)
      have hle:left es #[]=es:=by unfold left;exact List.filter_eq_self.2 (fun x _=>by simp)
      refine zpa (P:=P) (K:=K) (dfs:=a.defers) hC hD hst hs ha c2 c3 d6 d7 d8 (fun c' a' w' S' k1 k2 k3 k4 ⟨e,S2,k5,k6⟩=>?_) (es.length+1) #[] ⟨S1'.T.set F'.it (.opq w1.heap.size),S1'.M⟩ c1 _ _ (by rw[hle];omega) (fun σ hσ=>by rw[hle]at hσ;exact hR _ σ hσ) h1 (h3.put (v := .opq w1.heap.size) (by simp only[VRel]) (some F'.it)) (by simp[Act.put,h4]) hRS
      exact zfh hC zif hD y cur F'.rest c4 k5 k2 k1.rel k3 fun c2 a2 w2 l1 l2 l3 l4=>hQ e S2 c2 a2 w2 k6 l1 ((h2.trans k1).trans l2) l3 (by rw[l4,k4])
     ·cases hm
    simpa using hregs
  ·split at hc
   ·rename_i ix F' hcx hcy
    injection hc with hc
    subst hc
    obtain⟨ex,S1,hev,hS1⟩:=hB
    simp only[evalCode]at hev
    refine Go.wp_seq ?_
    split at hev
    ·rename_i S2 hev2
     refine zfh hC zif hD x cur ix hcx hev2 hM hW hT fun c1 a1 w1 h1 h2 h3 h4=>?_
     simp only[IExit.out,Exit.then]
     have hB2:RBody C F' S2 K:=by
      refine⟨ex,S1,hev,?_⟩
      cases ex with
      |normal =>
       obtain⟨i,es,ck,g1,g2,g3,g4⟩:=hS1
       exact⟨i,es,ck,g1,g2,g3,fun n σ hσ=>zvq (g4 n σ hσ)⟩
      |exit _=>exact hS1
      |ret=>exact hS1
     exact ihy cur F' hcy hB2 h1 h2.rel h3 fun e S' c' a' w' k0 k1 k2 k3 k4=>hQ e S' c' a' w' k0 k1 (h2.trans k2) k3 (by rw[k4,h4])
    ·rename_i hne
     refine zfh hC zif hD x cur ix hcx hev hM hW hT fun c1 a1 w1 h1 h2 h3 h4=>?_
     cases ex with
     |normal=>exact absurd hev (hne _)
     |exit j=>exact hQ _ S1 c1 a1 w1 hS1 h1 h2 h3 h4
     |ret=>exact hQ _ S1 c1 a1 w1 hS1 h1 h2 h3 h4
   ·cases hc
 |_=>intro cur F hc;simp[cutComp]at hc
end
end Go.Ideal

/-
  IDEAL SEMANTICS: A FUNCTION THAT RANGES OVER A MAP, az a function; its rule over known values.
-/
namespace Go.Ideal
open Go
set_option linter.unusedSectionVars false
variable [Tabs]
structure RFun where
 np:Nat
 nt:Nat
 res:List IRes
 cut:RCut
def compRange (P:Program) (loc:List Nat) (mk:List (Nat×List Bool)) (np:Nat) (f:Func):Option RFun :=
 if f.name = "runtime.NumGoroutine" then none else
 match f.body with
 |some c=>match cutComp P loc mk 0 c,compRes P f.results.toList with
  |some ic,some rs=>some ⟨np,f.ntmps,rs,ic⟩
  |_,_=>none
 |none=>none
def ROK (P:Program) (f:FuncId) (F:RFun):Prop:=∃fn loc mk,P.funcs[f]? = some fn∧compRange P loc mk F.np fn=some F
def RFinal (F:RFun) (r:IVal) (e:IExit) (S:St):Prop:=(e = .ret∨e = .normal)∧∃v,results S F.res=some v∧freezeRes S.M.heap v=some r∧freshRes S.M.heap v=true
def RangePure (C:Oracle) (F:RFun) (args:List IVal) (H:List IBlk) (r:IVal×List IBlk):Prop :=
 r.2=H∧∃az,freezeAll H args=some az∧az.length=F.np∧RBody C F.cut ⟨az++List.replicate (F.nt-az.length) skipped,⟨[],[]⟩⟩ (RFinal F r.1)
theorem RRounds.both {C:Oracle} {F:RCut} {n i:Nat} {blk:IBlk} {K L:IExit→St→Prop}:∀ {σ:List Ent} {S:St},RRounds C F n i blk K σ S→RRounds C F n i blk L σ S→∃e S',K e S'∧L e S'
 | [],S,⟨_,_,_,e,S1,h1,h2⟩,⟨_,_,_,e',S1',g1,g2⟩=>by
   rw[h1]at g1
   injection g1 with g1
   injection g1 with g1 g3
   subst g1 g3
   exact⟨e,S1,h2,g2⟩
 |(_,_,_)::_,S,⟨_,_,_,S1,h1,_,h2⟩,⟨_,_,_,S1',g1,_,g2⟩=>by
  rw[h1]at g1
  injection g1 with g1
  injection g1 with _ g1
  subst g1
  exact RRounds.both h2 g2
theorem RBody.both {C:Oracle} {F:RCut} {S:St} {K L:IExit→St→Prop} (h:RBody C F S K) (g:RBody C F S L):∃e S',K e S'∧L e S':=by
 obtain⟨e,S1,h1,h2⟩:=h
 obtain⟨e',S1',g1,g2⟩:=g
 rw[h1]at g1
 injection g1 with g1
 injection g1 with g1 g3
 subst g1 g3
 cases e with
 |normal =>
  obtain⟨i,es,ck,h3,h4,_,h5⟩:=h2
  obtain⟨i',es',ck',g3,g4,_,g5⟩:=g2
  rw[h3]at g3
  injection g3 with g3
  subst g3
  rw[h4]at g4
  injection g4 with g4
  injection g4 with g4 g6
  subst g4 g6
  exact RRounds.both (h5 0 es (.refl _)) (g5 0 es (.refl _))
 |exit j=>exact⟨_,_,h2,g2⟩
 |ret=>exact⟨_,_,h2,g2⟩
theorem RRounds.mono {C D:Oracle} (hC:C.Le D) {F:RCut} {n i:Nat} {blk:IBlk} {K:IExit→St→Prop}:∀ {σ:List Ent} {S:St},RRounds C F n i blk K σ S→RRounds D F n i blk K σ S
 | [],_,⟨h1,h2,h3,e,S1,h4,h5⟩=>⟨h1,h2,h3,e,S1,zai hC zhc h4,h5⟩
 |(_,_,_)::_,_,⟨h1,h2,h3,S1,h4,h5,h6⟩=>⟨h1,h2,h3,S1,zai hC zhc h4,h5,RRounds.mono hC h6⟩
theorem RBody.mono {C D:Oracle} (hC:C.Le D) {F:RCut} {S:St} {K:IExit→St→Prop} (h:RBody C F S K):RBody D F S K:=by
 obtain⟨e,S1,h1,h2⟩:=h
 refine⟨e,S1,zai hC zhc h1,?_⟩
 cases e with
 |normal =>
  obtain⟨i,es,ck,h3,h4,h5,h6⟩:=h2
  exact⟨i,es,ck,h3,h4,h5,fun n σ hσ=>(h6 n σ hσ).mono hC⟩
 |exit j=>exact h2
 |ret=>exact h2
theorem RangePure.det {C:Oracle} {F:RFun} {args:List IVal} {H:List IBlk} {r s:IVal×List IBlk} (h:RangePure C F args H r) (g:RangePure C F args H s):r=s:=by
 obtain⟨h1,az,h2,h3,h4⟩:=h
 obtain⟨g1,as',g2,g3,g4⟩:=g
 rw[h2]at g2
 injection g2 with g2
 subst g2
 obtain⟨e,S,⟨_,v,q1,q2,_⟩,⟨_,v',p1,p2,_⟩⟩:=h4.both g4
 rw[q1]at p1
 injection p1 with p1
 subst p1
 rw[q2]at p2
 injection p2 with p2
 exact Prod.ext p2 (h1.trans g1.symm)
theorem RangePure.mono {C D:Oracle} (hC:C.Le D) {F:RFun} {args:List IVal} {H:List IBlk} {r:IVal×List IBlk} (h:RangePure C F args H r):RangePure D F args H r:=by
 obtain⟨h1,az,h2,h3,h4⟩:=h
 exact⟨h1,az,h2,h3,h4.mono hC⟩
theorem zafv {P:Program} (hm:P.follows .mixedOrders=true) {C:Oracle} (hC:OracleOK P C) {f:FuncId} {F:RFun} (hF:ROK P f F) {args:List IVal} {H H':List IBlk} {r:IVal} (h:RangePure C F args H (r,H')) :
 Enters P f∧∀(c:Ctx) (w:World) (l:List Value),c.M=⟨[],H⟩→WRel c w→TsRel c args l →
  Calls P f l.toArray w fun e w'=>∃rv d,e = .returned rv∧d.M=⟨[],H'⟩∧Step c w d w'∧Un c d∧r.passOK=true∧VRel d r rv:=by
 obtain⟨fn,loc,mk,hf,hcomp⟩:=hF
 unfold compRange at hcomp
 split at hcomp
 ·cases hcomp
 ·rename_i hname
  split at hcomp
  ·rename_i code hb
   split at hcomp
   ·rename_i ic rs hic hrs
    injection hcomp with hcomp
    have hnt:F.nt=fn.ntmps:=by rw[← hcomp]
    have hcut:F.cut=ic:=by rw[← hcomp]
    have hres:F.res=rs:=by rw[← hcomp]
    obtain⟨hH,az,has,hnp,hB⟩:=h
    simp only at hH
    subst hH
    refine⟨fun args w=>by simp[callFunc,hf,hname,hb],fun c w l hM hW hl=>zaqb (az:=az) (fun c w l hM hW hl=>?_) has c w l hM hW hl⟩
    rw[hcut,hnt]at hB
    refine calls_of_wp hf hb ?_
    have hTR:TRel c (az++List.replicate (fn.ntmps-az.length) skipped) (l.toArray++Array.replicate (fn.ntmps-l.toArray.size) undef):=by
     have hll:=hl.length
     refine⟨by simp[hll],fun t u hu=>?_⟩
     by_cases ht:t<az.length
     ·rw[List.getElem?_append_left ht]at hu
      obtain⟨r,e,_,hr⟩:=hl.at t u hu
      refine⟨r,?_,hr⟩
      rw[Array.getElem?_append_left (by simpa[hll]using ht)]
      simpa using e
     ·rw[List.getElem?_append_right (by omega),List.getElem?_replicate]at hu
      split at hu
      ·rename_i hlt
       injection hu with hu
       subst hu
       refine⟨undef,?_,zds c⟩
       rw[Array.getElem?_append_right (by simp;omega),Array.getElem?_replicate,if_pos (by simp;omega)]
      ·cases hu
    refine zaqd hC (zaim hm hC loc) code 0 ic hic hB hM hW hTR fun e S c' a' w' hK h1 h2 h3 h4=>?_
    obtain⟨hex,v,hv,hfz,hfr⟩:=hK
    rw[hres]at hv
    obtain⟨rv,g1,g2,g3⟩:=zon (P:=P) h1 h2.rel h3 hrs hv
    have hfin:a'.defers=[]∧∃v,(Go.results fn a'.tmps).run P w' = .ok v w'∧(∃ rv d v' H1,freezeRes H1 v'=some r∧freshRes H1 v'=true∧Ending.returned v = .returned rv∧d.M=⟨[],H1⟩∧Step c w d w'∧Un c d∧v'.passOK=true∧VRel d v' rv) :=
     ⟨h4,rv,g1,rv,c'.inner,v,S.M.heap,hfz,hfr,rfl,by simp[Ctx.inner,h1],FStep.call hM hW h2,FStep.callUn hM h2,g3,VRel.inner v rv g3 g2⟩
    rcases hex with rfl|rfl<;>exact hfin
   ·cases hcomp
  ·cases hcomp
def maskS' (m:List Bool) (T:Env) (M:KM) (k:Env→KM→Prop):Prop:=match m with|[]=>k T M|m=>maskS m T M k
def rndK (C:Oracle) (F:RFun) (n i:Nat) (blk:IBlk) (Q:IVal→List IBlk→Prop):List Ent→Env→KM→Prop
 | [],T,M=>maskS F.cut.mB T M fun T M=>lookE T F.cut.it = .v (.opq n)∧maskS' F.cut.mO (putK F.nt (putK F.nt T (some F.cut.nx) .U) (some F.cut.mo) (.bool false)) M fun T M=>wp C F.nt F.cut.rest (retK F.res Q) T M
 |(k,v,_)::r,T,M=>maskS F.cut.mB T M fun T M=>lookE T F.cut.it = .v (.opq n)∧wp C F.nt F.cut.round (fun e T M=>e = .normal∧M.H[i]? = some blk∧rndK C F n i blk Q r T M) (putK F.nt (putK F.nt (putK F.nt T (some F.cut.nx) (up (.tup [.p (.bool true),k,v]))) (some F.cut.mo) (.bool true)) (some F.cut.en) (up (.tup [k,v]))) M
theorem zafw {n:Nat} {T:Env} {R:List IVal} {i m:Nat} (h:RelE n T R) (e:lookE T i = .v (.opq m)):R[i]? = some (.opq m):=by
 have:=(h.at' i).eq (by rw[e];simp[SV.den])
 rw[e,List.getD_eq_getElem?_getD]at this
 cases hg:R[i]? with
 |none=>rw[hg]at this;simp[SV.den]at this
 |some x=>rw[hg]at this;simp[SV.den]at this;rw[this]
theorem zaam {C:Oracle} {F:RFun} {n i:Nat} {blk:IBlk} {r:IVal} (hx:F.cut.nx<F.nt) (ho:F.cut.mo<F.nt):∀ {σ:List Ent} {T:Env} {M:KM} {S:St},rndK C F n i blk (fun v H'=>freezeRes H' v=some r∧freshRes H' v=true) σ T M→RelE F.nt T S.T→RelM M S.M→RRounds C F.cut n i blk (RFinal F r) σ S
 | [],T,M,S,h,hT,hM=>by
   obtain⟨h1,h2⟩:=h
   have hm:=zox (m:=F.cut.mB) hT
   refine⟨by rw[hT.len];exact hx,by rw[hT.len];exact ho,zafw hm.2 h1,?_⟩
   have hp:=(hm.2.put (d:=some F.cut.nx) (s := .U) (v := .undef) (.inl rfl)).put (d:=some F.cut.mo) (s := .bool false) (v := .p (.bool false)) (.inr rfl)
   have key:∃T2 M2,RelE F.nt T2 (maskT F.cut.mO (F.cut.off (maskT F.cut.mB S.T)))∧RelM M2 S.M∧wp C F.nt F.cut.rest (retK F.res fun v H'=>freezeRes H' v=some r∧freshRes H' v=true) T2 M2:=by
    unfold maskS' at h2
    split at h2
    ·rename_i e
     rw[e]
     exact⟨_,_,zalg hp,zlr hM,h2⟩
    ·exact⟨_,_,(zox hp).2,zlr (zlr hM),h2⟩
   obtain⟨T2,M2,k1,k2,k3⟩:=key
   obtain⟨e,S',g1,T3,M3,g2,g3,g4⟩:=zgi k3 (S:=⟨_,S.M⟩) k1 k2
   obtain⟨he,v,g5,g6⟩:=zaak g4 g2 g3
   exact⟨e,S',g1,he,v,g5,g6⟩
 |(k,v,_)::σ,T,M,S,h,hT,hM=>by
  obtain⟨h1,h2⟩:=h
  have hm:=zox (m:=F.cut.mB) hT
  refine⟨by rw[hT.len];exact hx,by rw[hT.len];exact ho,zafw hm.2 h1,?_⟩
  have hp:=((hm.2.put (d:=some F.cut.nx) (RelV.up (.tup [.p (.bool true),k,v]))).put (d:=some F.cut.mo) (s := .bool true) (v := .p (.bool true)) (.inr rfl)).put (d:=some F.cut.en) (RelV.up (.tup [k,v]))
  obtain⟨e,S',g1,T3,M3,g2,g3,rfl,g4,g5⟩:=zgi h2 (S:=⟨F.cut.on k v (maskT F.cut.mB S.T),S.M⟩) hp (zlr hM)
  exact⟨S',g1,by rw[← g3.heap];exact g4,zaam hx ho g5 g2 g3⟩
end Go.Ideal

/-
  IDEAL SEMANTICS, 51: WHAT THE KERNEL RECKONS FAST: numbers by Nat's own operations, lists by their recursors; each the same as the plain one.
-/
namespace Go.Ideal
open Go
section
variable {α:Type}
noncomputable def ldrop (n:Nat) (l:List α):List α :=
 List.rec (motive:=fun _=>Nat→List α) (fun _=>[]) (fun x t ih k=>Nat.rec (motive:=fun _=>List α) (x::t) (fun k' _=>ih k') k) l n
theorem zbg:∀(l:List α) (n:Nat),ldrop n l=l.drop n
 | [],n=>by simp[ldrop]
 |x::t,0=>rfl
 |x::t,n+1=>(zbg t n:_)
noncomputable def lget (l:List α) (n:Nat):Option α :=
 List.rec (motive:=fun _=>Nat→Option α) (fun _=>none) (fun x _ ih k=>Nat.rec (motive:=fun _=>Option α) (some x) (fun k' _=>ih k') k) l n
theorem zdc:∀(l:List α) (n:Nat),lget l n=l[n]?
 | [],n=>by simp[lget]
 |x::t,0=>rfl
 |x::t,n+1=>by rw[List.getElem?_cons_succ,←zdc t n];rfl
noncomputable def llen (l:List α):Nat:=List.rec (motive:=fun _=>Nat) 0 (fun _ _ ih=>Nat.succ ih) l
theorem zaf:∀(l:List α),llen l=l.length
 | []=>rfl
 |_::t=>congrArg Nat.succ (zaf t)
noncomputable def lapp (l m:List α):List α:=List.rec (motive:=fun _=>List α) m (fun x _ ih=>x::ih) l
theorem zdd:∀(l m:List α),lapp l m=l++m
 | [],_=>rfl
 |x::t,m=>congrArg (x :: ·) (zdd t m)
noncomputable def lset (l:List α) (n:Nat) (b:α):List α :=
 List.rec (motive:=fun _=>Nat→List α) (fun _=>[]) (fun x t ih k=>Nat.rec (motive:=fun _=>List α) (b::t) (fun k' _=>x::ih k') k) l n
theorem zacg:∀(l:List α) (n:Nat) (b:α),lset l n b=l.set n b
 | [],n,b=>by simp[lset]
 |x::t,0,b=>rfl
 |x::t,n+1,b=>congrArg (x :: ·) (zacg t n b)
noncomputable def ltake (n:Nat) (l:List α):List α :=
 List.rec (motive:=fun _=>Nat→List α) (fun _=>[]) (fun x _ ih k=>Nat.rec (motive:=fun _=>List α) [] (fun k' _=>x::ih k') k) l n
theorem zdz:∀(l:List α) (n:Nat),ltake n l=l.take n
 | [],n=>by simp[ltake]
 |x::t,0=>rfl
 |x::t,n+1=>congrArg (x :: ·) (zdz t n)
noncomputable def lrd {β:Type} (n:Nat) (l:List α) (k:List α→Option β):Option β :=
 List.rec (motive:=fun _=>Nat→(List α→Option β)→Option β) (fun n k=>Nat.rec (motive:=fun _=>Option β) (k []) (fun _ _=>none) n)
  (fun x _ ih n k=>Nat.rec (motive:=fun _=>Option β) (k []) (fun n' _=>ih n' (fun r=>k (x::r))) n) l n k
theorem zaxf {β:Type}:∀(l:List α) (n:Nat) (k:List α→Option β),lrd n l k=if n≤l.length then k (l.take n)else none
 | [],0,k=>rfl
 | [],n+1,k=>rfl
 |x::t,0,k=>by show k []=_;simp
 |x::t,n+1,k=>by
  show lrd n t (fun r=>k (x::r))=_
  rw[zaxf t n]
  simp
noncomputable def lall {β:Type} (l:List α) (k:List α→β):β :=
 List.rec (motive:=fun _=>(List α→β)→β) (fun k=>k []) (fun x _ ih k=>ih (fun r=>k (x::r))) l k
theorem zag {β:Type}:∀(l:List α) (k:List α→β),lall l k=k l
 | [],_=>rfl
 |x::t,k=>zag t (fun r=>k (x::r))
end
noncomputable def lim (k:IntKind):Nat:=IntKind.rec (motive:=fun _=>Nat) 128 32768 2147483648 9223372036854775808 256 65536 4294967296 18446744073709551616 k
noncomputable def full (k:IntKind):Nat:=IntKind.rec (motive:=fun _=>Nat) 256 65536 4294967296 18446744073709551616 256 65536 4294967296 18446744073709551616 k
noncomputable def usg (k:IntKind):Bool:=IntKind.rec (motive:=fun _=>Bool) false false false false true true true true k
noncomputable def kidx (k:IntKind):Nat:=IntKind.rec (motive:=fun _=>Nat) 0 1 2 3 4 5 6 7 k
noncomputable def kbeq (k l:IntKind):Bool:=Nat.beq (kidx k) (kidx l)
theorem zvr (k l:IntKind):kbeq k l=decide (k=l):=by cases k<;>cases l<;>rfl
theorem zajd {k:IntKind} {n:Nat} (h:n<lim k):k.wrap (n:Int)=n:=by
 cases k<;>simp[IntKind.wrap,IntKind.bits,IntKind.signed,lim]at h ⊢ <;> omega
theorem zpb (A x:Int) (_:0<A) (h1 : -A≤x) (h2:x<0):(if(true&&decide (x % (2*A)≥A))=true then x % (2*A)-2*A else x % (2*A))=x:=by
 have e:x % (2*A)=x+2*A:=by
  rw[← Int.add_emod_right,Int.emod_eq_of_lt (by omega) (by omega)]
 rw[e,if_pos (by simp;omega)]
 omega
theorem zaqe {k:IntKind} {n:Nat} (h:n<lim k) (hk:usg k=false):k.wrap (Int.negSucc n)=Int.negSucc n:=by
 have hn:=Int.negSucc_eq n
 have hz:=Int.negSucc_lt_zero n
 generalize Int.negSucc n=x at hn hz
 cases k<;>first|(cases hk;done)|skip
 ·have h:n<128:=h
  exact zpb 128 x (by omega) (by omega) hz
 ·have h:n<32768:=h
  exact zpb 32768 x (by omega) (by omega) hz
 ·have h:n<2147483648:=h
  exact zpb 2147483648 x (by omega) (by omega) hz
 ·have h:n<9223372036854775808:=h
  exact zpb 9223372036854775808 x (by omega) (by omega) hz
theorem zbax {k:IntKind} {n:Nat} (hk:usg k=true):k.wrap (n:Int)=(n % lim k:Nat):=by
 cases k<;>simp[IntKind.wrap,IntKind.bits,IntKind.signed,lim,usg]at hk ⊢
noncomputable def gfit (k:IntKind) (n:Nat):Option PVal :=
 Bool.rec (Bool.rec (some (.int k (k.wrap (Int.ofNat n)))) (some (.int k (.ofNat (Nat.mod n (lim k))))) (usg k)) (some (.int k (.ofNat n))) (Nat.ble (Nat.succ n) (lim k))
theorem zfr (k:IntKind) (n:Nat):gfit k n=some (.int k (k.wrap (n:Int))):=by
 unfold gfit
 cases h:Nat.ble (Nat.succ n) (lim k)with
 |true=>rw[zajd (Nat.le_of_ble_eq_true h)];rfl
 |false =>
  cases hu:usg k with
  |false=>rfl
  |true=>rw[zbax hu];rfl
noncomputable def gneg (k:IntKind) (n:Nat):Option PVal :=
 Bool.rec (Bool.rec (some (.int k (.negSucc n))) (some (.int k (k.wrap (.negSucc n)))) (usg k)) (some (.int k (k.wrap (.negSucc n)))) (Nat.ble (lim k) n)
theorem zach (k:IntKind) (n:Nat):gneg k n=some (.int k (k.wrap (.negSucc n))):=by
 unfold gneg
 cases h:Nat.ble (lim k) n with
 |true=>rfl
 |false =>
  cases hu:usg k with
  |true=>rfl
  |false=>rw[zaqe (by rcases Nat.lt_or_ge n (lim k)with h'|h';exact h';rw[Nat.ble_eq_true_of_le h']at h;cases h) hu]
noncomputable def gsub (k:IntKind) (a b:Nat):Option PVal :=
 Bool.rec (gneg k (Nat.pred (Nat.sub b a))) (gfit k (Nat.sub a b)) (Nat.ble b a)
theorem zaqf (k:IntKind) (a b:Nat):gsub k a b=some (.int k (k.wrap ((a:Int)-(b:Int)))):=by
 unfold gsub
 cases h:Nat.ble b a with
 |true =>
  have:=Nat.le_of_ble_eq_true h
  show gfit k (a-b)=_
  rw[zfr,Int.ofNat_sub this]
 |false =>
  have:a<b:=by rcases Nat.lt_or_ge a b with h'|h';exact h';rw[Nat.ble_eq_true_of_le h']at h;cases h
  show gneg k (b-a).pred=_
  rw[zach,show Int.negSucc (b-a).pred=(a:Int)-(b:Int)by rw[Int.negSucc_eq];simp only[Nat.pred_eq_sub_one];omega]
theorem zali (k:IntKind) (a b:Nat):(BitVec.ofInt k.bits (a:Int) &&& BitVec.ofInt k.bits (b:Int)).toNat=Nat.land (Nat.mod a (full k)) (Nat.mod b (full k)):=by
 rw[BitVec.toNat_and,BitVec.toNat_ofInt,BitVec.toNat_ofInt]
 cases k<;>simp[IntKind.bits,full]<;>rfl
theorem zaqg (k:IntKind) (a b:Nat):(BitVec.ofInt k.bits (a:Int) ||| BitVec.ofInt k.bits (b:Int)).toNat=Nat.lor (Nat.mod a (full k)) (Nat.mod b (full k)):=by
 rw[BitVec.toNat_or,BitVec.toNat_ofInt,BitVec.toNat_ofInt]
 cases k<;>simp[IntKind.bits,full]<;>rfl
theorem zalj (k:IntKind) (a b:Nat):(BitVec.ofInt k.bits (a:Int) ^^^ BitVec.ofInt k.bits (b:Int)).toNat=Nat.xor (Nat.mod a (full k)) (Nat.mod b (full k)):=by
 rw[BitVec.toNat_xor,BitVec.toNat_ofInt,BitVec.toNat_ofInt]
 cases k<;>simp[IntKind.bits,full]<;>rfl
noncomputable def gnot (b:Bool):Bool:=Bool.rec true false b
theorem zvs (b:Bool):gnot b=!b:=by cases b<;>rfl
noncomputable def gbb (b:Bool):Option PVal:=some (.bool b)
noncomputable def gnn (op:BinOp) (k:IntKind) (a b:Nat):Option PVal :=
 BinOp.rec (motive:=fun _=>Option PVal)
  (gfit k (Nat.add a b)) (gsub k a b) (gfit k (Nat.mul a b))
  (Bool.rec (gfit k (Nat.div a b)) none (Nat.beq b 0)) (Bool.rec (some (.int k (.ofNat (Nat.mod a b)))) none (Nat.beq b 0))
  (gfit k (Nat.land (Nat.mod a (full k)) (Nat.mod b (full k)))) (gfit k (Nat.lor (Nat.mod a (full k)) (Nat.mod b (full k)))) (gfit k (Nat.xor (Nat.mod a (full k)) (Nat.mod b (full k))))
  none none none
  (gbb (Nat.beq a b)) (gbb (gnot (Nat.beq a b))) (gbb (Nat.ble (Nat.succ a) b)) (gbb (Nat.ble a b)) (gbb (Nat.ble (Nat.succ b) a)) (gbb (Nat.ble b a)) op
theorem zvt (a b:Nat):((a:Int)==(b:Int))=Nat.beq a b:=by
 rw[Bool.eq_iff_iff,beq_iff_eq,Nat.beq_eq];omega
theorem zvu (a b:Nat):decide ((a:Int)<(b:Int))=Nat.ble (Nat.succ a) b:=by
 rw[Bool.eq_iff_iff,decide_eq_true_iff,Nat.ble_eq];omega
theorem zvv (a b:Nat):decide ((a:Int)≤(b:Int))=Nat.ble a b:=by
 rw[Bool.eq_iff_iff,decide_eq_true_iff,Nat.ble_eq];omega
theorem zvw (op:BinOp) (k:IntKind) (a b:Nat):gnn op k a b=intBin op k (.ofNat a) (.ofNat b):=by
 cases op with
 |add=>exact zfr k (a+b)
 |sub=>exact zaqf k a b
 |mul=>exact zfr k (a*b)
 |quo =>
  show(Bool.rec (gfit k (Nat.div a b)) none (Nat.beq b 0):Option PVal)=if(b:Int)=0 then none else _
  cases h:Nat.beq b 0 with
  |true=>rw[if_pos (by have:=Nat.eq_of_beq_eq_true h;omega)]
  |false=>rw[if_neg (by intro e;have:b=0:=by omega
                        subst this;simp at h)];exact zfr k (a / b)
 |rem =>
  show(Bool.rec (some (.int k (.ofNat (Nat.mod a b)))) none (Nat.beq b 0):Option PVal)=if(b:Int)=0 then none else _
  cases h:Nat.beq b 0 with
  |true=>rw[if_pos (by have:=Nat.eq_of_beq_eq_true h;omega)]
  |false=>rw[if_neg (by intro e;have:b=0:=by omega
                        subst this;simp at h)];rfl
 |and=>show gfit k _=some (.int k (k.wrap ((BitVec.ofInt k.bits (a:Int) &&& BitVec.ofInt k.bits (b:Int)).toNat:Nat)));rw[zfr,zali]
 |or=>show gfit k _=some (.int k (k.wrap ((BitVec.ofInt k.bits (a:Int) ||| BitVec.ofInt k.bits (b:Int)).toNat:Nat)));rw[zfr,zaqg]
 |xor=>show gfit k _=some (.int k (k.wrap ((BitVec.ofInt k.bits (a:Int) ^^^ BitVec.ofInt k.bits (b:Int)).toNat:Nat)));rw[zfr,zalj]
 |shl=>rfl
 |shr=>rfl
 |andNot=>rfl
 |eql=>show some (PVal.bool _)=some (PVal.bool ((a:Int)==(b:Int)));rw[zvt]
 |neq=>show some (PVal.bool _)=some (PVal.bool (!((a:Int)==(b:Int))));rw[zvt,zvs]
 |lss=>show some (PVal.bool _)=some (PVal.bool (decide ((a:Int)<(b:Int))));rw[zvu]
 |leq=>show some (PVal.bool _)=some (PVal.bool (decide ((a:Int)≤(b:Int))));rw[zvv]
 |gtr=>show some (PVal.bool _)=some (PVal.bool (decide ((b:Int)<(a:Int))));rw[zvu]
 |geq=>show some (PVal.bool _)=some (PVal.bool (decide ((b:Int)≤(a:Int))));rw[zvv]
noncomputable def gcm (op:BinOp) (e l:Bool) (g:Option PVal):Option PVal :=
 BinOp.rec (motive:=fun _=>Option PVal) g g g g g g g g g g g (gbb e) (gbb (gnot e)) (gbb l) (gbb (Bool.rec l true e)) (gbb (Bool.rec (gnot l) false e)) (gbb (gnot l)) op
theorem zaqh (op:BinOp) (k:IntKind) (x y:Int) (e l:Bool) (he:e=decide (x=y)) (hl:l=decide (x<y)):gcm op e l (intBin op k x y)=intBin op k x y:=by
 cases op<;>first|rfl|skip
 all_goals
  show some (PVal.bool _)=some (PVal.bool _)
  subst he hl
  congr 2
 ·exact(zvs _).trans rfl
 ·by_cases h:x=y
  ·simp[h]
  ·simp only[h,decide_false];rw[decide_eq_decide];omega
 ·by_cases h:x=y
  ·simp[h]
  ·simp only[h,decide_false];rw[zvs,←decide_not,decide_eq_decide];omega
 ·rw[zvs,←decide_not,decide_eq_decide];omega
noncomputable def gint (op:BinOp) (k:IntKind) (x y:Int):Option PVal :=
 Int.rec (motive:=fun _=>Option PVal) (fun a=>Int.rec (motive:=fun _=>Option PVal) (fun b=>gnn op k a b) (fun b=>gcm op false false (intBin op k (.ofNat a) (.negSucc b))) y)
  (fun a=>Int.rec (motive:=fun _=>Option PVal) (fun b=>gcm op false true (intBin op k (.negSucc a) (.ofNat b))) (fun b=>gcm op (Nat.beq a b) (Nat.ble (Nat.succ b) a) (intBin op k (.negSucc a) (.negSucc b))) y) x
theorem zaje (op:BinOp) (k:IntKind) (x y:Int):gint op k x y=intBin op k x y:=by
 cases x with
 |ofNat a=>cases y with
  |ofNat b=>exact zvw op k a b
  |negSucc b=>exact zaqh op k _ _ _ _ (by symm;rw[decide_eq_false_iff_not];exact fun h=>by cases h) (by symm;rw[decide_eq_false_iff_not];intro h;have:=Int.negSucc_lt_zero b;have:(0:Int)≤Int.ofNat a:=Int.natCast_nonneg a;omega)
 |negSucc a=>cases y with
  |ofNat b=>exact zaqh op k _ _ _ _ (by symm;rw[decide_eq_false_iff_not];exact fun h=>by cases h) (by symm;rw[decide_eq_true_iff];have:=Int.negSucc_lt_zero a;have:(0:Int)≤Int.ofNat b:=Int.natCast_nonneg b;omega)
  |negSucc b =>
   refine zaqh op k _ _ _ _ ?_ ?_
   ·rw[Bool.eq_iff_iff,decide_eq_true_iff,Nat.beq_eq,Int.negSucc.injEq]
   ·rw[Bool.eq_iff_iff,decide_eq_true_iff,Nat.ble_eq];rw[Int.negSucc_eq,Int.negSucc_eq];omega
noncomputable def bitsN (k:IntKind):Nat:=IntKind.rec (motive:=fun _=>Nat) 8 16 32 64 8 16 32 64 k
theorem zalk (k:IntKind):bitsN k=k.bits:=by cases k<;>rfl
noncomputable def gshl (k:IntKind) (x y:Int):Option PVal :=
 Int.rec (motive:=fun _=>Option PVal) (fun a=>Int.rec (motive:=fun _=>Option PVal) (fun b=>Bool.rec (shiftBin .shl k (.ofNat a) (.ofNat b)) (gfit k (Nat.mul a (Nat.pow 2 b))) (Nat.ble b (bitsN k))) (fun b=>shiftBin .shl k (.ofNat a) (.negSucc b)) y) (fun a=>shiftBin .shl k (.negSucc a) y) x
theorem zbay (k:IntKind) (x y:Int):gshl k x y=shiftBin .shl k x y:=by
 cases x with
 |negSucc a=>rfl
 |ofNat a=>cases y with
  |negSucc b=>rfl
  |ofNat b =>
   show(Bool.rec _ (gfit k (Nat.mul a (Nat.pow 2 b))) (Nat.ble b (bitsN k)):Option PVal)=_
   cases h:Nat.ble b (bitsN k)with
   |false=>rfl
   |true =>
    have h:=Nat.le_of_ble_eq_true h
    rw[zalk]at h
    show gfit k _=if(b:Int)<0 then none else some (PVal.int k (k.wrap ((a:Int)*2 ^ (min b k.bits))))
    rw[if_neg (by omega),zfr,Nat.min_eq_left h]
    show some (PVal.int k (k.wrap ((a*2 ^ b:Nat):Int)))=_
    rw[Int.natCast_mul,Int.natCast_pow];rfl
noncomputable def gshr (k:IntKind) (x y:Int):Option PVal :=
 Int.rec (motive:=fun _=>Option PVal) (fun a=>Int.rec (motive:=fun _=>Option PVal) (fun b=>Bool.rec (shiftBin .shr k (.ofNat a) (.ofNat b)) (some (.int k (.ofNat (Nat.div a (Nat.pow 2 b))))) (Nat.ble b (bitsN k))) (fun b=>shiftBin .shr k (.ofNat a) (.negSucc b)) y) (fun a=>shiftBin .shr k (.negSucc a) y) x
theorem zbaz (k:IntKind) (x y:Int):gshr k x y=shiftBin .shr k x y:=by
 cases x with
 |negSucc a=>rfl
 |ofNat a=>cases y with
  |negSucc b=>rfl
  |ofNat b =>
   show(Bool.rec _ (some (.int k (.ofNat (Nat.div a (Nat.pow 2 b))))) (Nat.ble b (bitsN k)):Option PVal)=_
   cases h:Nat.ble b (bitsN k)with
   |false=>rfl
   |true =>
    have h:=Nat.le_of_ble_eq_true h
    rw[zalk]at h
    show _=if(b:Int)<0 then none else some (PVal.int k ((a:Int).fdiv (2 ^ (min b k.bits))))
    rw[if_neg (by omega),Nat.min_eq_left h]
    have:((2:Int) ^ b)=((2 ^ b:Nat):Int):=by rw[Int.natCast_pow];rfl
    rw[this,Int.fdiv_eq_ediv_of_nonneg _ (Int.natCast_nonneg _),←Int.natCast_ediv]
    rfl
noncomputable def onInt {R:Type} (v:IVal) (f:IntKind→Int→R) (e:R):R :=
 IVal.casesOn (motive_1:=fun _=>R) v (fun p=>PVal.casesOn (motive_1:=fun _=>R) p (fun _=>e) f (fun _=>e) (fun _ _ _=>e) (fun _=>e) (fun _=>e) e e e e e) (fun _ _ _=>e) (fun _ _ _ _=>e) (fun _=>e) (fun _ _=>e) (fun _=>e) (fun _=>e) e (fun _=>e) (fun _ _ _ _=>e)
noncomputable def gnum (op:BinOp) (k l:IntKind) (x y:Int):Option PVal :=
 BinOp.rec (motive:=fun _=>Bool→Option PVal) (fun b=>Bool.rec none (gint .add k x y) b) (fun b=>Bool.rec none (gint .sub k x y) b) (fun b=>Bool.rec none (gint .mul k x y) b) (fun b=>Bool.rec none (gint .quo k x y) b) (fun b=>Bool.rec none (gint .rem k x y) b)
  (fun b=>Bool.rec none (gint .and k x y) b) (fun b=>Bool.rec none (gint .or k x y) b) (fun b=>Bool.rec none (gint .xor k x y) b) (fun _=>gshl k x y) (fun _=>gshr k x y) (fun b=>Bool.rec none (gint .andNot k x y) b)
  (fun b=>Bool.rec none (gint .eql k x y) b) (fun b=>Bool.rec none (gint .neq k x y) b) (fun b=>Bool.rec none (gint .lss k x y) b) (fun b=>Bool.rec none (gint .leq k x y) b) (fun b=>Bool.rec none (gint .gtr k x y) b) (fun b=>Bool.rec none (gint .geq k x y) b) op (kbeq k l)
theorem zbba (op:BinOp) (k l:IntKind) (x y:Int):gnum op k l x y=evalBin op (.p (.int k x)) (.p (.int l y)):=by
 have key:∀(o:BinOp),(Bool.rec none (gint o k x y) (kbeq k l):Option PVal)=if k=l then intBin o k x y else none:=by
  intro o
  rw[zaje,zvr]
  by_cases h:k=l
  ·simp[h]
  ·simp[h]
 cases op<;>first|exact key _|exact zbay k x y|exact zbaz k x y
noncomputable def gbin (op:BinOp) (a b:IVal):Option PVal :=
 onInt a (fun k x=>onInt b (fun l y=>gnum op k l x y) none) (evalBin op a b)
theorem zaqi (op:BinOp) (a b:IVal):gbin op a b=evalBin op a b:=by
 unfold gbin
 cases a with
 |p v =>
  cases v with
  |int k x =>
   show onInt b (fun l y=>gnum op k l x y) none=_
   cases b with
   |p u =>
    cases u with
    |int l y=>exact zbba op k l x y
    |_=>rfl
   |_=>rfl
  |_=>rfl
 |_=>rfl
noncomputable def gidx (n:Nat) (v:IVal):Option Nat :=
 onInt v (fun _ i=>Int.rec (motive:=fun _=>Option Nat) (fun a=>Bool.rec none (some a) (Nat.ble (Nat.succ a) n)) (fun _=>none) i) none
theorem zvx (n:Nat) (v:IVal):gidx n v=asIndex n v:=by
 cases v with
 |p u =>
  cases u with
  |int k i =>
   cases i with
   |ofNat a =>
    show(Bool.rec none (some a) (Nat.ble (Nat.succ a) n):Option Nat)=if(0:Int)≤(a:Int)∧(a:Int)<(n:Int)then some a else none
    cases h:Nat.ble (Nat.succ a) n with
    |true=>rw[if_pos (by have:=Nat.le_of_ble_eq_true h;omega)]
    |false=>rw[if_neg (by intro e;rw[Nat.ble_eq_true_of_le (by omega)]at h;cases h)]
   |negSucc a =>
    show none=if(0:Int)≤Int.negSucc a∧Int.negSucc a<(n:Int)then some (Int.toNat (Int.negSucc a))else none
    rw[if_neg (by rintro⟨h,_⟩;have:=Int.negSucc_lt_zero a;omega)]
  |_=>rfl
 |_=>rfl
noncomputable def gbnd (n:Nat) (v:IVal):Option Nat :=
 onInt v (fun _ i=>Int.rec (motive:=fun _=>Option Nat) (fun a=>Bool.rec none (some a) (Nat.ble a n)) (fun _=>none) i) none
theorem zij (n:Nat) (v:IVal):gbnd n v=asBound n v:=by
 cases v with
 |p u =>
  cases u with
  |int k i =>
   cases i with
   |ofNat a =>
    show(Bool.rec none (some a) (Nat.ble a n):Option Nat)=if(0:Int)≤(a:Int)∧(a:Int)≤(n:Int)then some a else none
    cases h:Nat.ble a n with
    |true=>rw[if_pos (by have:=Nat.le_of_ble_eq_true h;omega)]
    |false=>rw[if_neg (by intro e;rw[Nat.ble_eq_true_of_le (by omega)]at h;cases h)]
   |negSucc a =>
    show none=if(0:Int)≤Int.negSucc a∧Int.negSucc a≤(n:Int)then some (Int.toNat (Int.negSucc a))else none
    rw[if_neg (by rintro⟨h,_⟩;have:=Int.negSucc_lt_zero a;omega)]
  |_=>rfl
 |_=>rfl
noncomputable def gInt (a b:Int):Bool :=
 Int.rec (motive:=fun _=>Bool) (fun m=>Int.rec (motive:=fun _=>Bool) (fun n=>Nat.beq m n) (fun _=>false) b) (fun m=>Int.rec (motive:=fun _=>Bool) (fun _=>false) (fun n=>Nat.beq m n) b) a
theorem zaqj (a b:Int):gInt a b=(a==b):=by
 rw[Bool.eq_iff_iff,beq_iff_eq]
 cases a<;>cases b<;>simp[gInt]<;>omega
noncomputable def gstr (a b:List UInt8):Bool :=
 List.rec (motive:=fun _=>List UInt8→Bool) (fun b=>List.rec (motive:=fun _=>Bool) true (fun _ _ _=>false) b) (fun x _ ih b=>List.rec (motive:=fun _=>Bool) false (fun y t _=>Bool.rec false (ih t) (Nat.beq x.toNat y.toNat)) b) a b
theorem zvy:∀(a b:List UInt8),gstr a b=decide (a=b)
 | [],[]=>rfl
 | [],_::_=>by simp[gstr]
 |_::_,[]=>by simp[gstr]
 |x::a,y::b=>by
  show(Bool.rec false (gstr a b) (Nat.beq x.toNat y.toNat):Bool)=_
  rw[zvy a b]
  cases h:Nat.beq x.toNat y.toNat with
  |true=>have:=UInt8.toNat_inj.1 (Nat.eq_of_beq_eq_true h);simp[this]
  |false =>
   have:¬x=y:=by rintro rfl;rw[Nat.beq_refl]at h;cases h
   simp[this]
end Go.Ideal

/-
  IDEAL SEMANTICS, 52: THE OPERATIONS, AS THE KERNEL RECKONS THEM FAST: each the same as the plain one.
-/
namespace Go.Ideal
open Go
noncomputable def gpc (l:List PVal):List IVal:=List.rec (motive:=fun _=>List IVal) [] (fun x _ ih=>.p x::ih) l
theorem zep:∀l,gpc l=pcells l
 | []=>rfl
 |x::t=>congrArg (IVal.p x :: ·) (zep t)
noncomputable def gfindBox (l:List (Nat×IBlk)) (t:Nat):Option IBlk :=
 List.rec (motive:=fun _=>Option IBlk) none (fun e _ ih=>Prod.rec (fun s b=>Bool.rec ih (some b) (Nat.beq s t)) e) l
theorem zik (t:Nat):∀l,gfindBox l t=findBox l t
 | []=>rfl
 |(s,b)::r=>by
  show(Bool.rec (gfindBox r t) (some b) (Nat.beq s t):Option IBlk)=_
  rw[zik t r,findBox]
  cases Nat.beq s t<;>rfl
noncomputable def gsetBox (l:List (Nat×IBlk)) (t:Nat) (c:IBlk):List (Nat×IBlk) :=
 List.rec (motive:=fun _=>List (Nat×IBlk)) [] (fun e r ih=>Prod.rec (fun s b=>Bool.rec ((s,b)::ih) ((s,c)::r) (Nat.beq s t)) e) l
theorem zaan (t:Nat) (c:IBlk):∀l,gsetBox l t c=setBox l t c
 | []=>rfl
 |(s,b)::r=>by
  show(Bool.rec ((s,b)::gsetBox r t c) ((s,c)::r) (Nat.beq s t):List (Nat×IBlk))=_
  rw[zaan t c r,setBox]
  cases Nat.beq s t<;>rfl
noncomputable def gget (M:Mem) (k:Key):Option IBlk:=Key.rec (motive:=fun _=>Option IBlk) (fun s=>gfindBox M.boxes s) (fun i=>lget M.heap i) k
theorem zcn (M:Mem) (k:Key):gget M k=M.get k:=by
 cases k with
 |box s=>exact zik s _
 |heap i=>exact zdc _ _
noncomputable def gput (M:Mem) (k:Key) (b:IBlk):Mem :=
 Key.rec (motive:=fun _=>Mem) (fun s=>Mem.rec (fun B H=>lall (gsetBox B s b) fun B'=>⟨B',H⟩) M) (fun i=>Mem.rec (fun B H=>lall (lset H i b) fun H'=>⟨B,H'⟩) M) k
theorem znl (M:Mem) (k:Key) (b:IBlk):gput M k b=M.put k b:=by
 cases k with
 |box s=>show lall (gsetBox M.boxes s b) _=_;rw[zag,zaan];rfl
 |heap i=>show lall (lset M.heap i b) _=_;rw[zag,zacg];rfl
noncomputable def gpush (M:Mem) (b:IBlk):Mem:=Mem.rec (fun B H=>lall (lapp H [b]) fun H'=>⟨B,H'⟩) M
theorem zgj (M:Mem) (b:IBlk):gpush M b={ M with heap:=M.heap++[b] }:=by
 show lall (lapp M.heap [b]) _=_;rw[zag,zdd]
noncomputable def gallOK (f:IVal→Bool) (l:List IVal):Bool:=List.rec (motive:=fun _=>Bool) true (fun v _ ih=>Bool.rec false ih (f v)) l
theorem zafx:∀l,gallOK IVal.cellOK l=cellsOK l
 | []=>rfl
 |v::r=>by
  show(Bool.rec false (gallOK IVal.cellOK r) v.cellOK:Bool)=_
  rw[zafx r,cellsOK]
  cases v.cellOK<;>rfl
theorem zaao:∀l,gallOK IVal.passOK l=passesOK l
 | []=>rfl
 |v::r=>by
  show(Bool.rec false (gallOK IVal.passOK r) v.passOK:Bool)=_
  rw[zaao r,passesOK]
  cases v.passOK<;>rfl
noncomputable def prd {β:Type} (n:Nat) (l:List PVal) (k:List IVal→Option β):Option β :=
 List.rec (motive:=fun _=>Nat→(List IVal→Option β)→Option β) (fun n k=>Nat.rec (motive:=fun _=>Option β) (k []) (fun _ _=>none) n)
  (fun x _ ih n k=>Nat.rec (motive:=fun _=>Option β) (k []) (fun n' _=>ih n' (fun r=>k (.p x::r))) n) l n k
theorem zaxg {β:Type}:∀(l:List PVal) (n:Nat) (k:List IVal→Option β),prd n l k=if n≤l.length then k (pcells (l.take n))else none
 | [],0,k=>rfl
 | [],n+1,k=>rfl
 |x::t,0,k=>by show k []=_;simp[pcells]
 |x::t,n+1,k=>by
  show prd n t (fun r=>k (.p x::r))=_
  rw[zaxg t n]
  simp[pcells]
theorem zbbb {α:Type} {a b:Nat} {x y:α}:(match Nat.ble a b with|true=>x|false=>y)=if a≤b then x else y:=by
 cases h:Nat.ble a b with
 |true=>rw[if_pos (Nat.le_of_ble_eq_true h)]
 |false=>rw[if_neg fun h'=>by rw[Nat.ble_eq_true_of_le h']at h;cases h]
noncomputable def grow {β:Type} (cs:List IVal) (off n:Nat) (k:List IVal→Option β):Option β :=
 Nat.rec (motive:=fun _=>Option β) (match Nat.ble (off+n) cs.length with|true=>k ((cs.drop off).take n)|false=>none) (fun _ _=>lrd n (ldrop off cs) k) n
theorem zki {β:Type} (cs:List IVal) (off n:Nat) (k:List IVal→Option β):grow cs off n k=match Nat.ble (off+n) cs.length with|true=>k ((cs.drop off).take n)|false=>none:=by
 cases n with
 |zero=>rfl
 |succ n =>
  show lrd (n+1) (ldrop off cs) k=_
  rw[zaxf,zbg,zbbb,List.length_drop]
  by_cases h:off+(n+1)≤cs.length
  ·rw[if_pos h,if_pos (by omega)]
  ·rw[if_neg h,if_neg (by omega)]
noncomputable def gread {β:Type} (M:Mem) (n:Nat) (v:IVal) (k:List IVal→Option β):Option β :=
 match v with
 | .p (.ptr cs)=>prd n cs k
 | .ptr key ver off=>match gget M key with
   |some (.cells cs _ v _)=>Bool.rec none (grow cs off n k) (Nat.beq ver v)
   |_=>none
 |_=>none
theorem zalm {β:Type} (M:Mem) (n:Nat) (v:IVal) (k:List IVal→Option β):gread M n v k=match readCells M n v with|some cs=>k cs|none=>none:=by
 cases v with
 |p u =>
  cases u with
  |ptr cs =>
   show prd n cs k=match(match Nat.ble n cs.length with|true=>some (pcells (cs.take n))|false=>none)with|some cs=>k cs|none=>none
   rw[zaxg]
   cases h:Nat.ble n cs.length with
   |true=>rw[if_pos (Nat.le_of_ble_eq_true h)]
   |false=>rw[if_neg fun h'=>by rw[Nat.ble_eq_true_of_le h']at h;cases h]
  |_=>rfl
 |ptr key ver off =>
  unfold gread readCells
  dsimp only
  rw[zcn]
  cases M.get key with
  |none=>rfl
  |some b =>
   cases b with
   |map es ck=>rfl
   |cells cs e w o =>
    dsimp only
    rw[zki]
    cases Nat.beq ver w with
    |false=>rfl
    |true =>
     simp only[Bool.true_and]
     cases Nat.ble (off+n) cs.length<;>rfl
 |_=>rfl
noncomputable def gload (n:Option Nat) (a:Opd) (_:Oracle) (ρ:Opd→IVal) (M:Mem):Option (IVal×Mem) :=
 Option.rec (motive:=fun _=>Option (IVal×Mem)) (gread M 1 (ρ a) fun l=>match l with|[x]=>some (x,M)|_=>none) (fun n=>gread M n (ρ a) fun cs=>some (.agg cs,M)) n
noncomputable def gsplice (cs:List IVal) (off:Nat) (new:List IVal):List IVal:=lapp (ltake off cs) (lapp new (ldrop (off+llen new) cs))
theorem zfk (cs:List IVal) (off:Nat) (new:List IVal):gsplice cs off new=splice cs off new:=by
 rw[gsplice,splice,zdd,zdd,zdz,zbg,zaf]
noncomputable def gwrite (M:Mem) (a:IVal) (new:List IVal):Option Mem :=
 match a with
 | .ptr k ver off=>match gget M k with
   |some (.cells cs e v o)=>match Nat.beq ver v&&Nat.ble (off+llen new) (llen cs)with
    |true=>lall (gsplice cs off new) fun cs'=>some (gput M k (.cells cs' e v o))
    |false=>none
   |_=>none
 |_=>none
theorem zvz (M:Mem) (a:IVal) (new:List IVal):gwrite M a new=writeCells M a new:=by
 unfold gwrite writeCells
 simp only[zcn,zag,zfk,znl,zaf]
 rfl
noncomputable def gstore (n:Nat) (a:Opd) (x:Opd) (_:Oracle) (ρ:Opd→IVal) (M:Mem):Option (IVal×Mem) :=
 match(ρ x).cellsOf with
  |some cs=>match Nat.beq (llen cs) n with
   |true=>match gwrite M (ρ a) cs with
    |some M'=>some (.tup [],M')
    |none=>none
   |false=>none
  |none=>none
noncomputable def gfill (ρ:Opd→IVal) (parts:List (Nat×Nat×Opd)) (cells:List IVal):Option (List IVal) :=
 List.rec (motive:=fun _=>List IVal→Option (List IVal)) (fun c=>some c) (fun e _ ih c=>match e with
  |(off,n,x)=>match(ρ x).cellsOf with
   |some new=>match Nat.beq (llen new) n&&Nat.ble (off+n) (llen c)with
    |true=>lall (gsplice c off new) ih
    |false=>none
   |none=>none) parts cells
theorem zaci (ρ:Opd→IVal):∀(parts:List (Nat×Nat×Opd)) (c:List IVal),gfill ρ parts c=fillParts ρ c parts
 | [],c=>rfl
 |(off,n,x)::rest,c=>by
  have ih:=zaci ρ rest
  show(match(ρ x).cellsOf with
   |some new=>match Nat.beq (llen new) n&&Nat.ble (off+n) (llen c)with
    |true=>lall (gsplice c off new) (gfill ρ rest)
    |false=>none
   |none=>none)=_
  rw[fillParts]
  cases(ρ x).cellsOf with
  |none=>rfl
  |some new=>simp only[zag,zfk,ih,zaf];rfl
noncomputable def gnew (M:Mem) (s:Option Nat) (b:IBlk):Option (IVal×Mem) :=
 match s with
 |some s=>match gfindBox M.boxes s with
  |none=>some (.ptr (.box s) 0 0,Mem.rec (fun B H=>⟨(s,b)::B,H⟩) M)
  |some _=>none
 |none=>some (.ptr (.heap (llen M.heap)) 0 0,gpush M b)
theorem zajf (M:Mem) (s:Option Nat) (b:IBlk):gnew M s b=newBlk M s b:=by
 unfold gnew newBlk
 simp only[zik,zgj,zaf]
 rfl
noncomputable def grepl (n:Nat) (zero:List PVal):List IVal:=Nat.rec (motive:=fun _=>List IVal) [] (fun _ ih=>lapp (gpc zero) ih) n
theorem zgk (zero:List PVal):∀n,grepl n zero=repl n zero
 |0=>rfl
 |n+1=>by show lapp (gpc zero) (grepl n zero)=_;rw[zgk zero n,zdd,zep,repl]
noncomputable def galloc (s:Option Nat) (zero:List PVal) (_:Oracle) (_:Opd→IVal) (M:Mem):Option (IVal×Mem) :=
 lall (gpc zero) fun cs=>gnew M s (.cells cs (llen zero) 0 false)
noncomputable def gbox (s:Option Nat) (n:Nat) (x:Opd) (_:Oracle) (ρ:Opd→IVal) (M:Mem):Option (IVal×Mem) :=
 match(ρ x).cellsOf with
  |some cs=>match Nat.beq (llen cs) n with
   |true=>gnew M s (.cells cs n 0 false)
   |false=>none
  |none=>none
noncomputable def gbuild (zero:List PVal) (parts:List (Nat×Nat×Opd)) (_:Oracle) (ρ:Opd→IVal) (M:Mem):Option (IVal×Mem) :=
 match gfill ρ parts (gpc zero)with
  |some cs=>some (.agg cs,M)
  |none=>none
noncomputable def gbuildSlice (esz:Nat) (n:Nat) (zero:List PVal) (parts:List (Nat×Nat×Opd)) (_:Oracle) (ρ:Opd→IVal) (M:Mem):Option (IVal×Mem) :=
 match gfill ρ parts (grepl n zero)with
  |some cs=>some (.slice (llen M.heap) 0 0 n,gpush M (.cells cs esz 0 false))
  |none=>none
noncomputable def gboundLo (ρ:Opd→IVal) (h:Nat) (o:Option Opd):Option Nat:=Option.rec (motive:=fun _=>Option Nat) (some 0) (fun x=>gbnd h (ρ x)) o
theorem znm (ρ:Opd→IVal) (h:Nat) (o:Option Opd):gboundLo ρ h o=boundLo ρ h o:=by
 cases o with
 |none=>rfl
 |some x=>exact zij _ _
noncomputable def gboundHi (ρ:Opd→IVal) (n:Nat) (o:Option Opd):Option Nat:=Option.rec (motive:=fun _=>Option Nat) (some n) (fun x=>gbnd n (ρ x)) o
theorem znn (ρ:Opd→IVal) (h:Nat) (o:Option Opd):gboundHi ρ h o=boundHi ρ h o:=by
 cases o with
 |none=>rfl
 |some x=>exact zij _ _
noncomputable def gfieldAddr (off:Nat) (x:Opd) (_:Oracle) (ρ:Opd→IVal) (M:Mem):Option (IVal×Mem) :=
 match ρ x with
  | .p (.ptr cs)=>match Nat.ble off (llen cs)with
    |true=>some (.p (.ptr (ldrop off cs)),M)
    |false=>none
  | .ptr k v o=>some (.ptr k v (o+off),M)
  |_=>none
noncomputable def gidxSlice (esz:Nat) (x:Opd) (i:Opd) (_:Oracle) (ρ:Opd→IVal) (M:Mem):Option (IVal×Mem) :=
 match ρ x with
  | .p (.slice e n cs)=>match Nat.beq e esz,gidx n (ρ i)with
    |true,some j=>some (.p (.ptr (ldrop (j*esz) cs)),M)
    |_,_=>none
  | .slice k v o n=>match gidx n (ρ i)with
    |some j=>some (.ptr (.heap k) v (o+j*esz),M)
    |none=>none
  |_=>none
noncomputable def gidxArr (len:Nat) (esz:Nat) (x:Opd) (i:Opd) (_:Oracle) (ρ:Opd→IVal) (M:Mem):Option (IVal×Mem) :=
 match gidx len (ρ i)with
  |some j=>match ρ x with
   | .p (.ptr cs)=>match Nat.ble (j*esz) (llen cs)with
     |true=>some (.p (.ptr (ldrop (j*esz) cs)),M)
     |false=>none
   | .ptr k v o=>some (.ptr k v (o+j*esz),M)
   |_=>none
  |none=>none
noncomputable def gfield (n:Option Nat) (off:Nat) (x:Opd) (_:Oracle) (ρ:Opd→IVal) (M:Mem):Option (IVal×Mem) :=
 match ρ x with
  | .agg cs=>match n with
    |none=>match lget cs off with
     |some v=>some (v,M)
     |none=>none
    |some n=>grow cs off n fun l=>some (.agg l,M)
  |_=>none
noncomputable def gidxVal (len:Nat) (esz:Nat) (n:Option Nat) (x:Opd) (i:Opd) (_:Oracle) (ρ:Opd→IVal) (M:Mem):Option (IVal×Mem) :=
 match ρ x,gidx len (ρ i)with
  | .agg cs,some j=>match n with
    |none=>match lget cs (j*esz)with
     |some v=>some (v,M)
     |none=>none
    |some n=>grow cs (j*esz) n fun l=>some (.agg l,M)
  |_,_=>none
noncomputable def gidxStr (x:Opd) (i:Opd) (_:Oracle) (ρ:Opd→IVal) (M:Mem):Option (IVal×Mem) :=
 match ρ x with
  | .p (.str s)=>match gidx (llen s) (ρ i)with
    |some j=>match lget s j with
     |some b=>some (.p (.int .u8 (.ofNat b.toNat)),M)
     |none=>none
    |none=>none
  |_=>none
noncomputable def gsliceStr (x:Opd) (lo:Option Opd) (hi:Option Opd) (_:Oracle) (ρ:Opd→IVal) (M:Mem):Option (IVal×Mem) :=
 match ρ x with
  | .p (.str s)=>match gboundHi ρ (llen s) hi with
    |some h=>match gboundLo ρ h lo with
     |some l=>lall (ltake (h-l) (ldrop l s)) fun s'=>some (.p (.str s'),M)
     |none=>none
    |none=>none
  |_=>none
noncomputable def gsliceSl (esz:Nat) (x:Opd) (lo:Option Opd) (hi:Option Opd) (_:Oracle) (ρ:Opd→IVal) (M:Mem):Option (IVal×Mem) :=
 match ρ x with
  | .p .nilslice=>match gboundHi ρ 0 hi with
    |some h=>match gboundLo ρ h lo with
     |some _=>some (.p .nilslice,M)
     |none=>none
    |none=>none
  | .p (.slice e n cs)=>match Nat.beq e esz,gboundHi ρ n hi with
    |true,some h=>match gboundLo ρ h lo with
     |some l=>lall (ltake ((h-l)*esz) (ldrop (l*esz) cs)) fun cs'=>some (.p (.slice esz (h-l) cs'),M)
     |none=>none
    |_,_=>none
  | .slice k v o n=>match gboundHi ρ n hi with
    |some h=>match gboundLo ρ h lo with
     |some l=>match gget M (.heap k)with
      |some (.cells _ e w _)=>match Nat.beq e esz&&Nat.beq v w with
       |true=>some (.slice k v (o+l*esz) (h-l),M)
       |false=>none
      |_=>none
     |none=>none
    |none=>none
  |_=>none
noncomputable def gbinop (op:BinOp) (x:Opd) (y:Opd) (_:Oracle) (ρ:Opd→IVal) (M:Mem):Option (IVal×Mem) :=
 Option.rec (motive:=fun _=>Option (IVal×Mem)) none (fun v=>some (.p v,M)) (gbin op (ρ x) (ρ y))
noncomputable def gcls (c:Cls) (a b:PVal):Option Bool :=
 match c,a,b with
 | .bool, .bool a, .bool b=>some (a==b)
 | .int, .int k a, .int l b=>Bool.rec none (some (gInt a b)) (kbeq k l)
 | .str, .str a, .str b=>some (gstr a b)
 |_,_,_=>none
theorem zaqk (c:Cls) (a b:PVal):gcls c a b=clsEq c a b:=by
 cases c<;>cases a<;>cases b<;>first
  |rfl
  |(rename_i k a l b;show(Bool.rec none (some (gInt a b)) (kbeq k l):Option Bool)=if k=l then some (a==b)else none;rw[zvr,zaqj];by_cases h:k=l<;>simp[h])
  |(rename_i a b;show some (gstr a b)=some (a==b);rw[zvy,show(a==b)=decide (a=b)by rw[Bool.eq_iff_iff];simp])
noncomputable def gcs (cls:List Cls):List IVal→List IVal→Option Bool :=
 List.rec (motive:=fun _=>List IVal→List IVal→Option Bool) (fun x y=>match x,y with|[],[]=>some true|_,_=>none)
  (fun c _ ih x y=>match x,y with
   | .p a::x, .p b::y=>match gcls c a b,ih x y with
     |some s,some t=>some (s&&t)
     |_,_=>none
   |_,_=>none) cls
theorem zaxh:∀(cls:List Cls) (x y:List IVal),gcs cls x y=eqCls cls x y
 | [],x,y=>by cases x<;>cases y<;>rfl
 |c::cls,x,y=>by
  show(match x,y with
   | .p a::x, .p b::y=>match gcls c a b,gcs cls x y with
     |some s,some t=>some (s&&t)
     |_,_=>none
   |_,_=>none)=_
  cases x with
  |nil=>cases y<;>rfl
  |cons a x =>
   cases y with
   |nil=>cases a<;>rfl
   |cons b y =>
    cases a with
    |p a =>
     cases b with
     |p b=>unfold eqCls;simp only[zaqk,zaxh cls];rfl
     |_=>rfl
    |_=>rfl
noncomputable def geqv (cls:KTy) (a b:IVal):Option Bool :=
 match a,b with
 | .agg x, .agg y=>match cls.ag with
   |true=>gcs cls.cls x y
   |false=>none
 | .p a, .p b=>match cls.ag with
   |true=>none
   |false=>match cls.cls with
    | [c]=>gcls c a b
    |_=>none
 |_,_=>none
theorem zajg (cls:KTy) (a b:IVal):geqv cls a b=eqVals cls a b:=by
 unfold geqv eqVals
 simp only[zaxh,zaqk]
 rfl
end Go.Ideal

/-
  IDEAL SEMANTICS, 50: THE EVALUATOR, AS THE KERNEL LIKES IT: small closed steps; slots as a list of what was put last.
-/
namespace Go.Ideal
open Go
def f_mov (x:Opd) (_:Oracle) (ρ:Opd→IVal) (M:Mem):Option (IVal×Mem) :=
 some (ρ x,M)
def zbhs (c:Opd) (a:Opd) (b:Opd) (_:Oracle) (ρ:Opd→IVal) (M:Mem):Option (IVal×Mem) :=
 match ρ c with
  | .p (.bool true)=>some (ρ a,M)
  | .p (.bool false)=>some (ρ b,M)
  |_=>none
def zqx (x:Opd) (_:Oracle) (ρ:Opd→IVal) (M:Mem):Option (IVal×Mem) :=
 match ρ x with
  | .p (.ptr cs)=>some (.p (.ptr cs),M)
  | .ptr k v o=>some (.ptr k v o,M)
  | .func f cap=>some (.func f cap,M)
  | .p (.func f)=>some (.p (.func f),M)
  |_=>none
def zwa (off:Nat) (x:Opd) (_:Oracle) (ρ:Opd→IVal) (M:Mem):Option (IVal×Mem) :=
 match ρ x with
  | .p (.ptr cs)=>match Nat.ble off cs.length with
    |true=>some (.p (.ptr (cs.drop off)),M)
    |false=>none
  | .ptr k v o=>some (.ptr k v (o+off),M)
  |_=>none
def zaap (esz:Nat) (x:Opd) (i:Opd) (_:Oracle) (ρ:Opd→IVal) (M:Mem):Option (IVal×Mem) :=
 match ρ x with
  | .p (.slice e n cs)=>match Nat.beq e esz,asIndex n (ρ i)with
    |true,some j=>some (.p (.ptr (cs.drop (j*esz))),M)
    |_,_=>none
  | .slice k v o n=>match asIndex n (ρ i)with
    |some j=>some (.ptr (.heap k) v (o+j*esz),M)
    |none=>none
  |_=>none
def zaln (len:Nat) (esz:Nat) (x:Opd) (i:Opd) (_:Oracle) (ρ:Opd→IVal) (M:Mem):Option (IVal×Mem) :=
 match asIndex len (ρ i)with
  |some j=>match ρ x with
   | .p (.ptr cs)=>match Nat.ble (j*esz) cs.length with
     |true=>some (.p (.ptr (cs.drop (j*esz))),M)
     |false=>none
   | .ptr k v o=>some (.ptr k v (o+j*esz),M)
   |_=>none
  |none=>none
def zacj (n:Option Nat) (off:Nat) (x:Opd) (_:Oracle) (ρ:Opd→IVal) (M:Mem):Option (IVal×Mem) :=
 match ρ x with
  | .agg cs=>match n with
    |none=>match cs[off]? with
     |some v=>some (v,M)
     |none=>none
    |some n=>match Nat.ble (off+n) cs.length with
     |true=>some (.agg ((cs.drop off).take n),M)
     |false=>none
  |_=>none
def zalo (len:Nat) (esz:Nat) (n:Option Nat) (x:Opd) (i:Opd) (_:Oracle) (ρ:Opd→IVal) (M:Mem):Option (IVal×Mem) :=
 match ρ x,asIndex len (ρ i)with
  | .agg cs,some j=>match n with
    |none=>match cs[j*esz]? with
     |some v=>some (v,M)
     |none=>none
    |some n=>match Nat.ble (j*esz+n) cs.length with
     |true=>some (.agg ((cs.drop (j*esz)).take n),M)
     |false=>none
  |_,_=>none
def zalp (x:Opd) (i:Opd) (_:Oracle) (ρ:Opd→IVal) (M:Mem):Option (IVal×Mem) :=
 match ρ x with
  | .p (.str s)=>match asIndex s.length (ρ i)with
    |some j=>match s[j]? with
     |some b=>some (.p (.int .u8 b.toNat),M)
     |none=>none
    |none=>none
  |_=>none
def zaaq (x:Opd) (lo:Option Opd) (hi:Option Opd) (_:Oracle) (ρ:Opd→IVal) (M:Mem):Option (IVal×Mem) :=
 match ρ x with
  | .p (.str s)=>match boundHi ρ s.length hi with
    |some h=>match boundLo ρ h lo with
     |some l=>some (.p (.str ((s.drop l).take (h-l))),M)
     |none=>none
    |none=>none
  |_=>none
def zafy (esz:Nat) (x:Opd) (lo:Option Opd) (hi:Option Opd) (_:Oracle) (ρ:Opd→IVal) (M:Mem):Option (IVal×Mem) :=
 match ρ x with
  | .p .nilslice=>match boundHi ρ 0 hi with
    |some h=>match boundLo ρ h lo with
     |some _=>some (.p .nilslice,M)
     |none=>none
    |none=>none
  | .p (.slice e n cs)=>match Nat.beq e esz,boundHi ρ n hi with
    |true,some h=>match boundLo ρ h lo with
     |some l=>some (.p (.slice esz (h-l) ((cs.drop (l*esz)).take ((h-l)*esz))),M)
     |none=>none
    |_,_=>none
  | .slice k v o n=>match boundHi ρ n hi with
    |some h=>match boundLo ρ h lo with
     |some l=>match M.get (.heap k)with
      |some (.cells _ e w _)=>match Nat.beq e esz&&Nat.beq v w with
       |true=>some (.slice k v (o+l*esz) (h-l),M)
       |false=>none
      |_=>none
     |none=>none
    |none=>none
  |_=>none
def zaql (neg:Bool) (x:Opd) (y:Opd) (_:Oracle) (ρ:Opd→IVal) (M:Mem):Option (IVal×Mem) :=
 sayBool M neg (evalNilPtr (ρ x) (ρ y))
def zaxi (neg:Bool) (x:Opd) (y:Opd) (_:Oracle) (ρ:Opd→IVal) (M:Mem):Option (IVal×Mem) :=
 sayBool M neg (evalNilSl (ρ x) (ρ y))
def f_not (x:Opd) (_:Oracle) (ρ:Opd→IVal) (M:Mem):Option (IVal×Mem) :=
 match ρ x with
  | .p (.bool b)=>some (.p (.bool !b),M)
  |_=>none
def f_neg (x:Opd) (_:Oracle) (ρ:Opd→IVal) (M:Mem):Option (IVal×Mem) :=
 match ρ x with
  | .p (.int k n)=>some (.p (.int k (k.wrap (0-n))),M)
  |_=>none
def zaxj (dst:IntKind) (x:Opd) (_:Oracle) (ρ:Opd→IVal) (M:Mem):Option (IVal×Mem) :=
 match ρ x with
  | .p (.int _ n)=>some (.p (.int dst (dst.wrap n)),M)
  |_=>none
def zafz (x:Opd) (i:Nat) (_:Oracle) (ρ:Opd→IVal) (M:Mem):Option (IVal×Mem) :=
 match ρ x with
  | .tup vs=>match vs[i]? with
    |some v=>some (v,M)
    |none=>none
  |_=>none
def f_len (x:Opd) (_:Oracle) (ρ:Opd→IVal) (M:Mem):Option (IVal×Mem) :=
 match sliceLen (ρ x)with
  |some n=>some (.p (.int .i64 n),M)
  |none=>none
def zalq (x:Opd) (_:Oracle) (ρ:Opd→IVal) (M:Mem):Option (IVal×Mem) :=
 match ρ x with
  | .p (.str s)=>some (.p (.int .i64 s.length),M)
  |_=>none
def zaxk (xs:List Opd) (_:Oracle) (ρ:Opd→IVal) (M:Mem):Option (IVal×Mem) :=
 match xs.map ρ with
  | .p (.int .i64 n)::r=>match evalExt n true r with
    |some m=>some (.p (.int .i64 m),M)
    |none=>none
  |_=>none
def zaxl (xs:List Opd) (_:Oracle) (ρ:Opd→IVal) (M:Mem):Option (IVal×Mem) :=
 match xs.map ρ with
  | .p (.int .i64 n)::r=>match evalExt n false r with
    |some m=>some (.p (.int .i64 m),M)
    |none=>none
  |_=>none
def zbbc (_:Oracle) (_:Opd→IVal) (M:Mem):Option (IVal×Mem) :=
 some (.map M.heap.length,{ M with heap:=M.heap++[.map [] 0] })
def zaxm (f:Opd) (args:List Opd) (C:Oracle) (ρ:Opd→IVal) (M:Mem):Option (IVal×Mem) :=
 match passesOK (args.map ρ)with
  |false=>none
  |true=>match ρ f with
   | .p (.func g)=>match C g (args.map ρ) M.heap with
     |some (v,H)=>some (v,{ M with heap:=H })
     |none=>none
   | .func g cap=>match C g (args.map ρ++cap) M.heap with
     |some (v,H)=>some (v,{ M with heap:=H })
     |none=>none
   |_=>none
def zaqm (x:Opd) (_:Oracle) (ρ:Opd→IVal) (M:Mem):Option (IVal×Mem) :=
 match ρ x with
  | .map i=>match M.get (.heap i)with
    |some (.map es ck)=>match es with
     | []=>some (.tup [.p (.bool false), .undef, .undef],M)
     |(k,v,s)::r=>match r with
      | []=>match Nat.beq s 0&&Nat.beq ck 1 with
        |true=>some (.tup [.p (.bool true),k,v],M)
        |false=>none
      |_=>none
    |_=>none
  |_=>none
def zalr (n:Opd) (_:Oracle) (ρ:Opd→IVal) (M:Mem):Option (IVal×Mem) :=
 match ρ n with
  | .tup [_,k,v]=>some (.tup [k,v],M)
  |_=>none
def zaqn (x:Opd) (_:Oracle) (ρ:Opd→IVal) (M:Mem):Option (IVal×Mem) :=
 match ρ x with
  | .map i=>match M.get (.heap i)with
    |some (.map es ck)=>match es with
     | []=>none
     |(_,_,s)::r=>match r with
      | []=>match Nat.beq s 0&&Nat.beq ck 1 with
        |true=>some (.tup [],M)
        |false=>none
      |_=>none
    |_=>none
  |_=>none
end Go.Ideal

/-
  IDEAL SEMANTICS, 53: THE OTHER OPERATIONS, AS THE KERNEL RECKONS THEM FAST.
-/
namespace Go.Ideal
open Go
noncomputable def geqvOp (neg:Bool) (cls:KTy) (x:Opd) (y:Opd) (_:Oracle) (ρ:Opd→IVal) (M:Mem):Option (IVal×Mem) :=
 sayBool M neg (geqv cls (ρ x) (ρ y))
noncomputable def gconv (dst:IntKind) (x:Opd) (_:Oracle) (ρ:Opd→IVal) (M:Mem):Option (IVal×Mem) :=
 onInt (ρ x) (fun _ n=>Int.rec (motive:=fun _=>Option (IVal×Mem)) (fun a=>Option.rec none (fun v=>some (.p v,M)) (gfit dst a)) (fun a=>Option.rec none (fun v=>some (.p v,M)) (gneg dst a)) n) none
noncomputable def gextract (x:Opd) (i:Nat) (_:Oracle) (ρ:Opd→IVal) (M:Mem):Option (IVal×Mem) :=
 match ρ x with
  | .tup vs=>match lget vs i with
    |some v=>some (v,M)
    |none=>none
  |_=>none
noncomputable def gmap (ρ:Opd→IVal) (l:List Opd):List IVal:=List.rec (motive:=fun _=>List IVal) [] (fun x _ ih=>ρ x::ih) l
theorem zajh (ρ:Opd→IVal):∀l:List Opd,gmap ρ l=l.map ρ
 | []=>rfl
 |x::t=>congrArg (ρ x :: ·) (zajh ρ t)
noncomputable def gmkFunc (f:FuncId) (cap:List Opd) (_:Oracle) (ρ:Opd→IVal) (M:Mem):Option (IVal×Mem) :=
 match gallOK IVal.cellOK (gmap ρ cap)with
  |true=>some (.func f (gmap ρ cap),M)
  |false=>none
noncomputable def glen (x:Opd) (_:Oracle) (ρ:Opd→IVal) (M:Mem):Option (IVal×Mem) :=
 match sliceLen (ρ x)with
  |some n=>some (.p (.int .i64 (.ofNat n)),M)
  |none=>none
noncomputable def glenStr (x:Opd) (_:Oracle) (ρ:Opd→IVal) (M:Mem):Option (IVal×Mem) :=
 match ρ x with
  | .p (.str s)=>some (.p (.int .i64 (.ofNat (llen s))),M)
  |_=>none
noncomputable def gbytes (l:List UInt8):List IVal:=List.rec (motive:=fun _=>List IVal) [] (fun b _ ih=>.p (.int .u8 (.ofNat b.toNat))::ih) l
theorem zwb:∀l:List UInt8,gbytes l=l.map fun b=>IVal.p (.int .u8 b.toNat)
 | []=>rfl
 |_::t=>congrArg (_ :: ·) (zwb t)
noncomputable def gsrc (M:Mem) (esz:Nat) (v:IVal):Option (List IVal) :=
 match v with
 | .p .nilslice=>some []
 | .p (.slice e _ cs)=>match Nat.beq e esz with|true=>some (gpc cs)|false=>none
 | .p (.str s)=>match Nat.beq 1 esz with|true=>some (gbytes s)|false=>none
 | .slice k ver off n=>match gget M (.heap k)with
   |some (.cells cs e v _)=>match Nat.beq ver v&&Nat.beq e esz with
    |true=>grow cs off (n*esz) some
    |false=>none
   |_=>none
 |_=>none
theorem zaji (M:Mem) (esz:Nat) (v:IVal):gsrc M esz v=srcCells M esz v:=by
 cases v with
 |p u =>
  cases u with
  |slice e n cs=>show(match Nat.beq e esz with|true=>some (gpc cs)|false=>none)=_;rw[zep];rfl
  |str s=>show(match Nat.beq 1 esz with|true=>some (gbytes s)|false=>none)=_;rw[zwb];rfl
  |_=>rfl
 |slice k ver off n =>
  unfold gsrc srcCells
  dsimp only
  rw[zcn]
  cases M.get (.heap k)with
  |none=>rfl
  |some b =>
   cases b with
   |map es ck=>rfl
   |cells cs e w o =>
    dsimp only
    rw[zki]
    cases Nat.beq ver w&&Nat.beq e esz with
    |false=>rfl
    |true=>simp only[Bool.true_and];rfl
 |_=>rfl
noncomputable def gsrcLen (v:IVal):Option Nat :=
 match v with
 | .p (.str s)=>some (llen s)
 |v=>sliceLen v
theorem zls (v:IVal):gsrcLen v=srcLen v:=by
 cases v with
 |p u=>cases u with
  |str s=>show some (llen s)=_;rw[zaf];rfl
  |_=>rfl
 |_=>rfl
noncomputable def gappend0 (esz:Nat) (x:Opd) (y:Opd) (_:Oracle) (ρ:Opd→IVal) (M:Mem):Option (IVal×Mem) :=
 match gsrc M esz (ρ y),sliceLen (ρ x),gsrcLen (ρ y)with
 |some ys,some nx,some ny =>
  match Nat.ble (nx+ny) maxAppend with
  |false=>none
  |true =>
   match ρ x with
   | .p .nilslice=>match Nat.beq ny 0 with
     |true=>some (ρ x,M)
     |false=>lall ys fun ys=>some (.slice (llen M.heap) 0 0 ny,gpush M (.cells ys esz 0 true))
   | .slice k ver off n=>match gget M (.heap k)with
     |some (.cells cs e v o)=>match(Nat.beq ver v&&Nat.beq e esz)&&Nat.ble (off+n*esz) (llen cs)with
      |false=>none
      |true=>match Nat.beq ny 0 with
       |true=>some (ρ x,M)
       |false=>match Nat.ble (off+(n+ny)*esz) (llen cs)with
        |true=>lall (gsplice cs (off+n*esz) ys) fun cs'=>some (.slice k ver off (n+ny),gput M (.heap k) (.cells cs' e v o))
        |false=>lall (lapp (ltake (n*esz) (ldrop off cs)) ys) fun cs'=>some (.slice k (v+1) 0 (n+ny),gput M (.heap k) (.cells cs' e (v+1) true))
     |_=>none
   |_=>none
 |_,_,_=>none
theorem zajj (esz:Nat) (x y:Opd) (C:Oracle) (ρ:Opd→IVal) (M:Mem):gappend0 esz x y C ρ M=evalAppend0 M esz (ρ x) (ρ y):=by
 unfold gappend0 evalAppend0
 simp only[zaji,zls,zag,zaf,zgj,zcn,zfk,znl,zdd,zdz,zbg]
 generalize ρ x=u
 generalize ρ y=v
 rfl
noncomputable def gappend (esz:Nat) (x:Opd) (y:Opd) (C:Oracle) (ρ:Opd→IVal) (M:Mem):Option (IVal×Mem) :=
 match ρ x with
 | .clip k ver off n=>match gsrc M esz (ρ y),gsrcLen (ρ y)with
   |some ys,some ny=>match Nat.ble (n+ny) maxAppend&&!(Nat.beq ny 0)with
    |true=>match gget M (.heap k)with
     |some (.cells cs e v _)=>match(Nat.beq ver v&&Nat.beq e esz)&&Nat.ble (off+n*esz) (llen cs)with
      |true=>lall (lapp (ltake (n*esz) (ldrop off cs)) ys) fun cs'=>some (.slice (llen M.heap) 0 0 (n+ny),gpush M (.cells cs' esz 0 true))
      |false=>none
     |_=>none
    |false=>none
   |_,_=>none
 |_=>gappend0 esz x y C ρ M
theorem zano (esz:Nat) (x y:Opd) (C:Oracle) (ρ:Opd→IVal) (M:Mem):gappend esz x y C ρ M=evalAppend M esz (ρ x) (ρ y):=by
 unfold gappend evalAppend
 simp only[zajj,zaji,zls,zag,zaf,zgj,zcn,zdd,zdz,zbg]
 generalize ρ x=u
 cases u<;>rfl
noncomputable def gfindEnt (cls:KTy) (k:IVal) (es:List (IVal×IVal×Nat)) (i:Nat):Option (Option (Nat×IVal)) :=
 List.rec (motive:=fun _=>Nat→Option (Option (Nat×IVal))) (fun _=>some none) (fun e _ ih i=>match e with
  |(l,v,_)=>match geqv cls k l with
   |some true=>some (some (i,v))
   |some false=>ih (i+1)
   |none=>none) es i
theorem zbo (cls:KTy) (k:IVal):∀(es:List (IVal×IVal×Nat)) (i:Nat),gfindEnt cls k es i=findEnt cls k es i
 | [],i=>rfl
 |(l,v,n)::r,i=>by
  show(match geqv cls k l with
   |some true=>some (some (i,v))
   |some false=>gfindEnt cls k r (i+1)
   |none=>none)=_
  rw[findEnt,zajg,zbo cls k r]
  cases eqVals cls k l with
  |none=>rfl
  |some b=>cases b<;>rfl
noncomputable def gisKey (cls:KTy) (k:IVal):Bool:=Option.rec (motive:=fun _=>Bool) false (fun _=>true) (geqv cls k k)
theorem zeg (cls:KTy) (k:IVal):gisKey cls k=isKey cls k:=by
 unfold gisKey isKey
 rw[zajg]
 cases eqVals cls k k<;>rfl
noncomputable def glookup (ok:Bool) (zero:IVal) (cls:KTy) (x:Opd) (k:Opd) (_:Oracle) (ρ:Opd→IVal) (M:Mem):Option (IVal×Mem) :=
 match gisKey cls (ρ k)with
  |true=>match ρ x with
   | .p .nilmap=>lookRes M ok zero false
   | .map i=>match gget M (.heap i)with
     |some (.map es _)=>match gfindEnt cls (ρ k) es 0 with
      |some (some (_,v))=>lookRes M ok v true
      |some none=>lookRes M ok zero false
      |none=>none
     |_=>none
   |_=>none
  |false=>none
noncomputable def gmodify (es:List (IVal×IVal×Nat)) (j:Nat) (f:IVal×IVal×Nat→IVal×IVal×Nat):List (IVal×IVal×Nat) :=
 List.rec (motive:=fun _=>Nat→List (IVal×IVal×Nat)) (fun _=>[]) (fun x t ih k=>Nat.rec (motive:=fun _=>List (IVal×IVal×Nat)) (f x::t) (fun k' _=>x::ih k') k) es j
theorem zdt (f:IVal×IVal×Nat→IVal×IVal×Nat):∀(es:List (IVal×IVal×Nat)) (j:Nat),gmodify es j f=es.modify j f
 | [],j=>by simp[gmodify]
 |x::t,0=>by show f x::t=_;simp
 |x::t,j+1=>by
  show x::gmodify t j f=_
  rw[zdt f t j];simp
noncomputable def gmapUpd (cls:KTy) (x:Opd) (k:Opd) (v:Opd) (_:Oracle) (ρ:Opd→IVal) (M:Mem):Option (IVal×Mem) :=
 match gisKey cls (ρ k),(ρ v).passOK with
  |true,true=>match ρ x with
   | .map i=>match gget M (.heap i)with
     |some (.map es clock)=>match gfindEnt cls (ρ k) es 0 with
      |some (some (j,_))=>lall (gmodify es j fun e=>(ρ k,ρ v,e.2.2)) fun es'=>some (.tup [],gput M (.heap i) (.map es' clock))
      |some none=>lall (lapp es [(ρ k,ρ v,clock)]) fun es'=>some (.tup [],gput M (.heap i) (.map es' (clock+1)))
      |none=>none
     |_=>none
   |_=>none
  |_,_=>none
noncomputable def gmkSlice (esz:Nat) (zero:List PVal) (n:Opd) (c:Opd) (_:Oracle) (ρ:Opd→IVal) (M:Mem):Option (IVal×Mem) :=
 match ρ n,ρ c with
  | .p (.int .i64 a), .p (.int .i64 b) =>
    if 0≤a∧a≤b∧b≤4294967296 then
     lall (grepl b.toNat zero) fun cs=>some (.slice (llen M.heap) 0 0 a.toNat,gpush M (.cells cs esz 0 false))
    else none
  |_,_=>none
noncomputable def gcall (f:Opd) (args:List Opd) (C:Oracle) (ρ:Opd→IVal) (M:Mem):Option (IVal×Mem) :=
 lall (gmap ρ args) fun az=>match gallOK IVal.passOK az with
  |false=>none
  |true=>match ρ f with
   | .p (.func g)=>match C g az M.heap with
     |some (v,H)=>some (v,⟨M.boxes,H⟩)
     |none=>none
   | .func g cap=>match C g (lapp az cap) M.heap with
     |some (v,H)=>some (v,⟨M.boxes,H⟩)
     |none=>none
   |_=>none
noncomputable def gallocA (zero:List PVal) (e:Nat) (_:Oracle) (_:Opd→IVal) (M:Mem):Option (IVal×Mem) :=
 lall (gpc zero) fun cs=>gnew M none (.cells cs e 0 false)
noncomputable def gmapEnt (zero:IVal) (cls:KTy) (x:Opd) (k:Opd) (_:Oracle) (ρ:Opd→IVal) (M:Mem):Option (IVal×Mem) :=
 match gisKey cls (ρ k)with
  |true=>match ρ x with
   | .map i=>match gget M (.heap i)with
     |some (.map es clock)=>match gfindEnt cls (ρ k) es 0 with
      |some (some (j,v))=>lall (gmodify es j fun e=>(ρ k,e.2.1,e.2.2)) fun es'=>some (.tup [v, .p (.int .i64 (.ofNat (bornAt es j)))],gput M (.heap i) (.map es' clock))
      |some none=>lall (lapp es [(ρ k,zero,clock)]) fun es'=>some (.tup [zero, .p (.int .i64 (.ofNat clock))],gput M (.heap i) (.map es' (clock+1)))
      |none=>none
     |_=>none
   |_=>none
  |false=>none
noncomputable def gfindBorn (b:Int) (es:List (IVal×IVal×Nat)) (i:Nat):Option Nat :=
 List.rec (motive:=fun _=>Nat→Option Nat) (fun _=>none) (fun e _ ih i=>Bool.rec (ih (i+1)) (some i) (gInt (.ofNat e.2.2) b)) es i
theorem zkj (b:Int):∀(es:List (IVal×IVal×Nat)) (i:Nat),gfindBorn b es i=findBorn b es i
 | [],i=>rfl
 |(l,v,n)::r,i=>by
  show(Bool.rec (gfindBorn b r (i+1)) (some i) (gInt (.ofNat n) b):Option Nat)=_
  rw[zaqj,zkj b r,findBorn]
  show(Bool.rec (findBorn b r (i+1)) (some i) ((n:Int)==b):Option Nat)=_
  rw[show((n:Int)==b)=decide ((n:Int)=b)by rw[Bool.eq_iff_iff];simp]
  cases decide ((n:Int)=b)<;>rfl
noncomputable def gentSt (x:Opd) (s:Opd) (v:Opd) (_:Oracle) (ρ:Opd→IVal) (M:Mem):Option (IVal×Mem) :=
 match(ρ v).passOK,ρ x,ρ s with
  |true, .map i, .p (.int .i64 b)=>match gget M (.heap i)with
   |some (.map es clock)=>match gfindBorn b es 0 with
    |some j=>lall (gmodify es j fun e=>(e.1,ρ v,e.2.2)) fun es'=>some (.tup [],gput M (.heap i) (.map es' clock))
    |none=>none
   |_=>none
  |_,_,_=>none
noncomputable def gsliceArr (len:Nat) (esz:Nat) (x:Opd) (lo:Option Opd) (hi:Option Opd) (_:Oracle) (ρ:Opd→IVal) (M:Mem):Option (IVal×Mem) :=
 match ρ x with
  | .ptr (.heap k) v o=>match gboundHi ρ len hi with
    |some h=>match gboundLo ρ h lo with
     |some l=>match gget M (.heap k)with
      |some (.cells cs e w op)=>match(Nat.beq e esz&&Nat.beq v w)&&(Nat.beq (o+len*esz) (llen cs)&&!op)with
       |true=>some (.slice k v (o+l*esz) (h-l),M)
       |false=>none
      |_=>none
     |none=>none
    |none=>none
  |_=>none
noncomputable def gcopy (esz:Nat) (x:Opd) (y:Opd) (_:Oracle) (ρ:Opd→IVal) (M:Mem):Option (IVal×Mem) :=
 match ρ x,gsrcLen (ρ y)with
 | .slice k ver off n,some ny=>match gsrc M esz (takeVal esz (min ny n) (ρ y))with
   |some ys=>match Nat.beq (min ny n) 0 with
    |true=>some (.p (.int .i64 0),M)
    |false=>match gwrite M (.ptr (.heap k) ver off) ys with
     |some M'=>some (.p (.int .i64 (.ofNat (min ny n))),M')
     |none=>none
   |none=>none
 |_,_=>none
noncomputable def gclip (esz:Nat) (x hi mx:Opd) (_:Oracle) (ρ:Opd→IVal) (M:Mem):Option (IVal×Mem) :=
 match ρ x with
  | .p .nilslice=>match gbnd 0 (ρ mx),gbnd 0 (ρ hi)with
    |some _,some _=>some (.p .nilslice,M)
    |_,_=>none
  | .slice k v o n=>match gbnd n (ρ mx)with
    |some m=>match gbnd m (ρ hi)with
     |some h=>match gget M (.heap k)with
      |some (.cells _ e w _)=>match Nat.beq h m&&(Nat.beq e esz&&Nat.beq v w)with
       |true=>some (.clip k v o h,M)
       |false=>none
      |_=>none
     |none=>none
    |none=>none
  |_=>none
noncomputable def gclear (zero:List PVal) (x:Opd) (_:Oracle) (ρ:Opd→IVal) (M:Mem):Option (IVal×Mem) :=
 match ρ x with
  | .p .nilslice=>some (.tup [],M)
  | .slice k ver off n=>match Nat.beq n 0 with
    |true=>some (.tup [],M)
    |false=>match gwrite M (.ptr (.heap k) ver off) (grepl n zero)with
     |some M'=>some (.tup [],M')
     |none=>none
  |_=>none
noncomputable def gdel (cls:KTy) (x k:Opd) (_:Oracle) (ρ:Opd→IVal) (M:Mem):Option (IVal×Mem) :=
 match gisKey cls (ρ k)with
  |true=>match ρ x with
   | .p .nilmap=>some (.tup [],M)
   | .map i=>match gget M (.heap i)with
     |some (.map es clock)=>match gfindEnt cls (ρ k) es 0 with
      |some (some (j,_))=>some (.tup [],gput M (.heap i) (.map (es.eraseIdx j) clock))
      |some none=>some (.tup [],gput M (.heap i) (.map es clock))
      |none=>none
     |_=>none
   |_=>none
  |false=>none
noncomputable def evalOpG (op:IOp):Oracle→(Opd→IVal)→Mem→Option (IVal×Mem) :=
 IOp.rec (motive:=fun _=>Oracle→(Opd→IVal)→Mem→Option (IVal×Mem)) f_mov zbhs galloc gbox gbuild gbuildSlice gload gstore zqx gfieldAddr gidxSlice gidxArr gfield gidxVal gidxStr gsliceStr gsliceSl gbinop geqvOp zaql zaxi f_not f_neg gconv gextract gmkFunc glen glenStr gappend zaxk zaxl zbbc glookup gmapUpd gmkSlice gcall gallocA gmapEnt gentSt gsliceArr gcopy gclip gclear gdel zaqm zalr zaqn op
theorem zanp (op:IOp) (C:Oracle) (ρ:Opd→IVal) (M:Mem):evalOpG op C ρ M=evalOp C ρ M op:=by
 cases op with
 |alloc s z=>show lall (gpc z) (fun cs=>gnew M s (.cells cs (llen z) 0 false))=newBlk M s _;rw[zag,zajf,zep,zaf]
 |box s n x=>show gbox s n x C ρ M=_;unfold gbox evalOp;simp only[zaf,zajf];rfl
 |build z p=>show gbuild z p C ρ M=_;unfold gbuild evalOp;simp only[zaci,zep];rfl
 |buildSlice e n z p=>show gbuildSlice e n z p C ρ M=_;unfold gbuildSlice evalOp;simp only[zaci,zgk,zgj,zaf];rfl
 |load n a =>
  cases n with
  |none =>
   show gread M 1 (ρ a) (fun l=>match l with|[x]=>some (x,M)|_=>none)=_
   rw[zalm]
   unfold evalOp loadVal
   dsimp only
   cases readCells M 1 (ρ a)with
   |none=>rfl
   |some l=>cases l with
    |nil=>rfl
    |cons x t=>cases t<;>rfl
  |some n =>
   show gread M n (ρ a) (fun cs=>some (IVal.agg cs,M))=_
   rw[zalm]
   unfold evalOp loadVal
   dsimp only
   cases readCells M n (ρ a)<;>rfl
 |store n a x=>show gstore n a x C ρ M=_;unfold gstore evalOp;simp only[zvz,zaf];rfl
 |fieldAddr o x=>show gfieldAddr o x C ρ M=_;unfold gfieldAddr evalOp;simp only[zaf,zbg];rfl
 |idxSlice e x i=>show gidxSlice e x i C ρ M=_;unfold gidxSlice evalOp;simp only[zvx,zbg];rfl
 |idxArr l e x i=>show gidxArr l e x i C ρ M=_;unfold gidxArr evalOp;simp only[zvx,zbg,zaf];rfl
 |field n o x =>
  show gfield n o x C ρ M=zacj n o x C ρ M
  unfold gfield zacj
  simp only[zdc,zki]<;>rfl
 |idxVal l e n x i =>
  show gidxVal l e n x i C ρ M=_;unfold gidxVal evalOp;simp only[zdc,zki,zvx];rfl
 |idxStr x i=>show gidxStr x i C ρ M=_;unfold gidxStr evalOp;simp only[zdc,zvx,zaf];rfl
 |sliceStr x lo hi=>show gsliceStr x lo hi C ρ M=_;unfold gsliceStr evalOp;simp only[znm,znn,zaf,zag,zdz,zbg];rfl
 |sliceSl e x lo hi=>show gsliceSl e x lo hi C ρ M=_;unfold gsliceSl evalOp;simp only[znm,znn,zag,zdz,zbg,zcn];rfl
 |bin o x y =>
  show(Option.rec (motive:=fun _=>Option (IVal×Mem)) none (fun v=>some (.p v,M)) (gbin o (ρ x) (ρ y)):Option (IVal×Mem))=_
  rw[zaqi,evalOp]
  cases evalBin o (ρ x) (ρ y)<;>rfl
 |eqv n c x y=>show sayBool M n (geqv c (ρ x) (ρ y))=_;rw[zajg];rfl
 |conv d x =>
  show gconv d x C ρ M=(match ρ x with | .p (.int _ n)=>some (IVal.p (.int d (d.wrap n)),M)|_=>none)
  unfold gconv
  generalize ρ x=u
  cases u with
  |p v =>
   cases v with
   |int k n =>
    cases n with
    |ofNat a=>show(Option.rec none (fun v=>some (IVal.p v,M)) (gfit d a):Option (IVal×Mem))=_;rw[zfr];rfl
    |negSucc a=>show(Option.rec none (fun v=>some (IVal.p v,M)) (gneg d a):Option (IVal×Mem))=_;rw[zach]
   |_=>rfl
  |_=>rfl
 |extract x i=>show gextract x i C ρ M=_;unfold gextract evalOp;simp only[zdc];rfl
 |mkFunc f cap=>show gmkFunc f cap C ρ M=_;unfold gmkFunc evalOp;simp only[zafx,zajh];rfl
 |len x=>rfl
 |lenStr x=>show glenStr x C ρ M=_;unfold glenStr evalOp;simp only[zaf];rfl
 |append e x y=>exact zano e x y C ρ M
 |lookup ok z c x k=>show glookup ok z c x k C ρ M=_;unfold glookup evalOp;simp only[zeg,zcn,zbo];rfl
 |mapUpd c x k v=>show gmapUpd c x k v C ρ M=_;unfold gmapUpd evalOp;simp only[zeg,zcn,zbo,zag,zdd,zdt,znl];rfl
 |mkSlice e z n c=>show gmkSlice e z n c C ρ M=_;unfold gmkSlice evalOp;simp only[zag,zgk,zaf,zgj];rfl
 |call f az=>show gcall f az C ρ M=_;unfold gcall evalOp;simp only[zag,zajh,zaao,zdd];rfl
 |allocA z e=>show lall (gpc z) (fun cs=>gnew M none (.cells cs e 0 false))=newBlk M none _;rw[zag,zajf,zep]
 |mapEnt z c x k=>show gmapEnt z c x k C ρ M=_;unfold gmapEnt evalOp;simp only[zeg,zcn,zbo,zag,zdd,zdt,znl];rfl
 |entSt x s v=>show gentSt x s v C ρ M=_;unfold gentSt evalOp;simp only[zcn,zkj,zag,zdt,znl];rfl
 |sliceArr l e x lo hi=>show gsliceArr l e x lo hi C ρ M=_;unfold gsliceArr evalOp;simp only[znm,znn,zcn,zaf];rfl
 |clip e x h m=>show gclip e x h m C ρ M=_;unfold gclip evalOp;simp only[zij,zcn];rfl
 |clear z x=>show gclear z x C ρ M=_;unfold gclear evalOp;simp only[zvz,zgk];rfl
 |del c x k=>show gdel c x k C ρ M=_;unfold gdel evalOp;simp only[zeg,zcn,zbo,znl];rfl
 |copy e x y=>show gcopy e x y C ρ M=evalCopy M e (ρ x) (ρ y);unfold gcopy evalCopy;simp only[zls,zaji,zvz];rfl
 |_=>rfl
noncomputable def nforce {R:Type} (n:Nat) (k:Nat→R):R:=Nat.rec (motive:=fun _=>R) (k 0) (fun m _=>k m) (Nat.succ n)
theorem zan {R:Type} (n:Nat) (k:Nat→R):nforce n k=k n:=rfl
noncomputable def iforce {R:Type} (x:Int) (k:Int→R):R:=Int.rec (motive:=fun _=>R) (fun n=>nforce n fun m=>k (.ofNat m)) (fun n=>nforce n fun m=>k (.negSucc m)) x
theorem zaga {R:Type} (x:Int) (k:Int→R):iforce x k=k x:=by cases x<;>rfl
noncomputable def pforce {R:Type} (v:PVal) (k:PVal→R):R :=
 match v with
 | .bool b=>Bool.rec (k (.bool false)) (k (.bool true)) b
 | .int t x=>iforce x fun y=>k (.int t y)
 | .slice e n cs=>nforce n fun n=>k (.slice e n cs)
 | .str s=>k (.str s)
 | .ptr cs=>k (.ptr cs)
 | .func f=>k (.func f)
 | .nilptr=>k .nilptr
 | .nilslice=>k .nilslice
 | .nilmap=>k .nilmap
 | .nilfunc=>k .nilfunc
 | .niliface=>k .niliface
theorem zagb {R:Type} (v:PVal) (k:PVal→R):pforce v k=k v:=by
 cases v with
 |bool b=>cases b<;>rfl
 |int t x=>exact zaga x (fun y=>k (.int t y))
 |_=>rfl
noncomputable def kforce {R:Type} (v:Key) (k:Key→R):R:=Key.rec (motive:=fun _=>R) (fun s=>k (.box s)) (fun i=>nforce i fun i=>k (.heap i)) v
theorem zaqo {R:Type} (v:Key) (k:Key→R):kforce v k=k v:=by cases v<;>rfl
noncomputable def vforce {R:Type} (v:IVal) (k:IVal→R):R :=
 match v with
 | .p u=>pforce u fun u=>k (.p u)
 | .ptr key ver off=>kforce key fun key=>nforce ver fun ver=>nforce off fun off=>k (.ptr key ver off)
 | .slice i ver off len=>nforce i fun i=>nforce ver fun ver=>nforce off fun off=>nforce len fun len=>k (.slice i ver off len)
 | .map i=>nforce i fun i=>k (.map i)
 | .func f cap=>lall cap fun cap=>k (.func f cap)
 | .agg cs=>k (.agg cs)
 | .tup vs=>k (.tup vs)
 | .undef=>k .undef
 | .opq n=>k (.opq n)
 | .clip i ver off len=>k (.clip i ver off len)
theorem zpc {R:Type} (v:IVal) (k:IVal→R):vforce v k=k v:=by
 cases v with
 |p u=>exact zagb u (fun u=>k (.p u))
 |ptr key ver off=>exact zaqo key (fun key=>nforce ver fun ver=>nforce off fun off=>k (.ptr key ver off))
 |func f cap=>exact zag cap (fun cap=>k (.func f cap))
 |_=>rfl
end Go.Ideal

/-
  IDEAL SEMANTICS, 50: THE EVALUATOR, AS THE KERNEL LIKES IT: small closed steps; slots as a list of what was put last.
-/
namespace Go.Ideal
open Go
set_option linter.unusedSectionVars false
variable [Tabs]
inductive FEnv where
 |nil
 |cons (i:Nat) (v:IVal) (r:FEnv)
noncomputable def fget (n:Nat) (D:IVal) (j:Nat) (E:FEnv):IVal :=
 FEnv.rec (motive:=fun _=>IVal) (Bool.rec .undef D (Nat.ble (Nat.succ j) n)) (fun i v _ ih=>Bool.rec ih v (Nat.beq i j)) E
noncomputable def fput (n:Nat) (E:FEnv) (d:Option Nat) (v:IVal):FEnv :=
 Option.rec (motive:=fun _=>FEnv) E (fun d=>Bool.rec E (.cons d v E) (Nat.ble (Nat.succ d) n)) d
def saysBool (want:Bool) (v:IVal):Option Bool :=
 match v with
 | .p (.bool b)=>some (b==want)
 | .tup []=>some false
 |_=>none
structure SimE (n:Nat) (D:IVal) (E:FEnv) (T:List IVal):Prop where
 len:T.length=n
 at':∀i,fget n D i E=T.getD i .undef
theorem zaqp {n:Nat} {D:IVal} {i j:Nat} {v:IVal} {E:FEnv}:fget n D j (.cons i v E)=if i=j then v else fget n D j E:=by
 show(Bool.rec (fget n D j E) v (Nat.beq i j):IVal)=_
 by_cases h:i=j
 ·subst h;rw[Nat.beq_refl,if_pos rfl]
 ·rw[if_neg h]
  cases e:Nat.beq i j with
  |false=>rfl
  |true=>exact absurd (Nat.eq_of_beq_eq_true e) h
theorem zagc (l:List IVal) (i j:Nat) (v d:IVal):(l.set i v).getD j d=if i=j∧i<l.length then v else l.getD j d:=by
 simp only[List.getD_eq_getElem?_getD,List.getElem?_set]
 by_cases h:i=j
 ·subst h
  by_cases h2:i<l.length
  ·simp[h2]
  ·simp[h2]
 ·simp[h]
theorem SimE.put {n:Nat} {D:IVal} {E:FEnv} {T:List IVal} (h:SimE n D E T) (d:Option Nat) (v:IVal):SimE n D (fput n E d v) (putDst T d v):=by
 cases d with
 |none=>exact h
 |some d =>
  show SimE n D (Bool.rec E (.cons d v E) (Nat.ble (Nat.succ d) n)) (T.set d v)
  by_cases hd:d<n
  ·rw[Nat.ble_eq_true_of_le hd]
   refine⟨by rw[List.length_set];exact h.len,fun j=>?_⟩
   show fget n D j (.cons d v E)=_
   rw[zaqp,zagc,h.len]
   by_cases e:d=j
   ·rw[if_pos e,if_pos ⟨e,hd⟩]
   ·rw[if_neg e,if_neg (fun x=>e x.1)];exact h.at' j
  ·have:Nat.ble (Nat.succ d) n=false:=by
    cases e:Nat.ble (Nat.succ d) n with
    |false=>rfl
    |true=>exact absurd (Nat.le_of_ble_eq_true e) hd
   rw[this]
   refine⟨by rw[List.length_set];exact h.len,fun j=>?_⟩
   rw[zagc,h.len,if_neg (fun x=>hd x.2)];exact h.at' j
def fbool (v:IVal):Option Bool :=
 match v with
 | .p (.bool b)=>some b
 |_=>none
def fout (o:Option (List IVal)):Option IVal :=
 match o with
 |some [v]=>match v.passOK with|true=>some v|false=>none
 |some vs=>match passesOK vs with|true=>some (.tup vs)|false=>none
 |none=>none
end Go.Ideal

namespace Go.Ideal
instance noTabs:Tabs:=⟨fun _=>none⟩
end Go.Ideal
