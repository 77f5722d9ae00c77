import Derived.Test.YtjlnpggbekondaaW1
import Derived.Carry
import Derived.OpenShut
import Derived.Maps.RangeRun
import Derived.Test.YtjlnpggbekondaaChecked
namespace Go.Ideal
open Go Go.ChangeShapes Go.WideShapes Go.RowKit
theorem zsl {H:Type} {enc:TypeId×Value->H} {P:Program} {f:Func} {s:ChangeSpec} {apart fresh handsOn again:Bool} {W W':World} {args:Array Value} {v:Value} {ds gs:List (DataW H)} {before pa pv:List MemPlace}
 (hW:DataW.Whole enc P f.params.toList s.vars apart W args.toList ds gs before)
 (hres:∀(b:Nat) (sp:Nat->Bool) (hd:Bool),DataW.TrodAll enc P W' b sp hd f.resultTypes.toList (v.resultList f.resultTypes.size) (s.fn H (ds++gs)).results [])
 (hargs:∀sp:Nat->Bool,(∀ p∈before,sp p.block=true)->DataW.TrodAll enc P W' 0 sp true f.params.toList args.toList (s.fn H (ds++gs)).args pa)
 (hvars:∀sp:Nat->Bool,(∀ p∈before,sp p.block=true)->DataW.TrodVars enc P W' sp s.vars (s.fn H (ds++gs)).vars pv)
 (hps:before=pa++pv) (hk:W.keptBut W' (· ∈ before)) (hfz:∀a:Addr,a.block<W.heap.size->W'.frozen? a=W.frozen? a)
 (hok:∀(j:Nat) (t:TypeId) (r:Value),f.resultTypes[j]? = some t->(v.resultList f.resultTypes.size)[j]? = some r->Value.okWide P W' .any 0 t r) :
 s.post enc P f apart fresh handsOn again W args v W':=by
 have hlt:∀p∈before,p.block<W.heap.size:=fun p hp=>hW.lt p hp
 have hold:∀p∈before,(fun b=>decide (b<W.heap.size)) p.block=true:=fun p hp=>by simpa using hlt p hp
 refine⟨ds,gs,before,[],pa,pv,hW,hres _ _ _,hargs _ hold,hvars _ hold,World.keptBut_mono (fun p hp=>⟨hp,?_⟩) hk,fun _=>?_⟩
 ·rw[hps,Ao]at hp
  exact Or.inr hp
 ·obtain⟨_,_,_,_,_,hz,hn⟩:=hW
  refine⟨hok,_,_,([]++pa)++pv,⟨[]++pa,pv,trodAll_append (hargs _ (fun _ _=>rfl)) (hres _ _ _),hvars _ (fun _ _=>rfl),rfl,?_,?_⟩,?_⟩
  ·intro b off hp
   have hm:MemPlace.cell b off∈before:=by rw[hps];simpa using hp
   rw[hfz _ (hlt _ hm)]
   exact hz b off hm
  ·intro ha
   have:=hn ha
   rw[hps]at this
   simpa using this
  ·intro p hp _
   rw[hps]
   simpa using hp
theorem zabe {W W':World} (h:Grown W W') {x:MemPlace} (hx:x.block<W.heap.size):W.sameAt W' x:=by
 have h1:=h.1.2.2 x.block hx
 have hs:∃o,W.heap[x.block]? = some o:=⟨_,Bo hx⟩
 obtain⟨o,ho⟩:=hs
 rw[ho]at h1
 cases x with
 |cell b off =>
  simp only[MemPlace.block]at ho h1
  simp only[World.sameAt,World.cell?,ho]
  cases o with
  |cells c t fr =>
   cases h2:W'.heap[b]? with
   |none=>rw[h2]at h1;simp at h1
   |some o' =>
    rw[h2]at h1
    cases o' with
    |cells c' t' fr'=>simp at h1 ⊢;exact h1.2.2.2 off
    |_=>simp at h1
  |map es ck =>
   cases h2:W'.heap[b]? with
   |none=>rfl
   |some o' =>
    rw[h2]at h1
    cases o' with
    |map es' ck'=>rfl
    |_=>simp at h1
  |_ =>
   simp only[]at h1
   rw[h1]
 |map b =>
  simp only[MemPlace.block]at ho h1
  simp only[World.sameAt,ho]
  cases h2:W'.heap[b]? with
  |none=>rw[h2]at h1;cases o<;>simp at h1
  |some o' =>
   rw[h2]at h1
   cases o with
   |cells c t fr =>
    cases o' with
    |cells c' t' fr' =>
     simp at h1
     obtain⟨rfl,rfl,hl,hc⟩:=h1
     have:c'=c:=Array.ext_getElem? hc
     rw[this]
    |_=>simp at h1
   |map es ck =>
    cases o' with
    |map es' ck'=>simp at h1;rw[h1.1,h1.2]
    |_=>simp at h1
   |_=>simpa using h1
section
variable {H:Type} {enc:TypeId×Value->H} {P:Program} {W W':World}
theorem zkj (hl:laidOutB P=true) {sp:Nat->Bool}:∀ {ts:List TypeId} {vs:List Value} {ds:List (DataW H)} {ps:List MemPlace},(∀ t∈ts,P.readableRec t=true/\t<P.types.size) ->
 DataW.TrodAll enc P W 0 (fun _=>true) true ts vs ds ps->(∀ x∈ps,W.sameAt W' x)->(∀ x∈ps,sp x.block=true)->DataW.TrodAll enc P W' 0 sp true ts vs ds ps
 | [],[],[],_,_,h,_,_=>h
 |t::ts,v::vs,d::ds,ps,ht,h,hs,hb=>by
  obtain⟨p,q,h1,h2,rfl⟩:=h
  refine⟨p,q,?_,?_,rfl⟩
  ·exact WideElems.Trod_stays hl (ht t (by simp)).1 (ht t (by simp)).2 h1 (fun x hx=>hs x (by simp[hx])) (fun x hx=>hb x (by simp[hx]))
  ·exact zkj hl (fun t' h'=>ht t' (by simp[h'])) h2 (fun x hx=>hs x (by simp[hx])) (fun x hx=>hb x (by simp[hx]))
 | [],_::_,_,_,_,h,_,_=>by simp[DataW.TrodAll]at h
 | [],[],_::_,_,_,h,_,_=>by simp[DataW.TrodAll]at h
 |_::_,[],_,_,_,h,_,_=>by simp[DataW.TrodAll]at h
 |_::_,_::_,[],_,_,h,_,_=>by simp[DataW.TrodAll]at h
def ZW (W:World):Cells:=fun b o=>W.cell? ⟨b,o,none⟩
def CRel (W:World):List Value->List PVal->Prop
 | [],[]=>True
 |r::rs,v::vs=>PRel (ZW W) v r/\CRel W rs vs
 |_,_=>False
theorem CRel.len:∀ {rs:List Value} {vs:List PVal},CRel W rs vs->rs.length=vs.length
 | [],[],_=>rfl
 |_::_,_::_,h=>by simp[h.2.len]
theorem zva {b:Nat}:∀ {rs:List Value} {vs:List PVal} {o:Nat},CRel W rs vs->(∀ (i:Nat) (r:Value),rs[i]? = some r->W.cell? ⟨b,o+i,none⟩=some r)->PCells (ZW W) b o vs
 | [],[],o,_,_=>by simp[PCells]
 |r::rs,v::vs,o,h,hc=>by
  simp only[PCells]
  refine⟨⟨r,by have:=hc 0 r rfl;simpa[ZW]using this,h.1⟩,zva h.2 fun i x hx=>?_⟩
  have:=hc (i+1) x (by simpa using hx)
  rw[<- this]
  congr 2
  omega
theorem zkk {z:Cells} {b:Nat}:∀ {x y:List PVal} {o:Nat},PCells z b o x->PCells z b (o+x.length) y->PCells z b o (x++y)
 | [],y,o,_,h=>by simpa using h
 |v::x,y,o,h1,h2=>by
  simp only[PCells,At]at h1 ⊢
  refine⟨h1.1,zkk h1.2 ?_⟩
  simp only[AC]at h2
  rw[show o+1+x.length=o+(x.length+1)by omega]
  exact h2
variable (enc P W) in
def Opn (n:Nat) (t:TypeId) {α:Type} (e:α->List PVal):Prop:=∀cs x,DataW.trod enc P W 0 (fun _=>true) true n t cs=some x->∃a,CRel W cs (e a)
theorem zais {n:Nat} {t:TypeId} (ht:P.underlying t=some .bool):Opn enc P W n t (fun b:Bool=>[.bool b]):=by
 intro cs x h
 obtain⟨b,rfl,_⟩:=DataW.trod_bool ht h
 exact⟨b,by simp[CRel,PRel]⟩
theorem zzi {a:Addr} {m:Nat} {rs:List Value} (h:W.cells? 0 a m=some rs):rs.length=m/\∀(i:Nat) (r:Value),rs[i]? = some r->W.cell? (a.add i)=some r:=by
 unfold World.cells? at h
 rw[if_pos (AY _)]at h
 have hl:=mapM_some_length h
 refine⟨by simpa using hl,fun i r hr=>?_⟩
 have hi:i<m:=by
  have:=(Aa.1 hr).1
  simp at hl
  omega
 rw[mapM_some_get h i i (by simp[hi]),hr]
theorem zadp {a:Addr} {v:Value} (h:W.cell? a=some v):a=⟨a.block,a.off,none⟩:=by
 cases a with
 |mk b o s =>
  cases s with
  |none=>rfl
  |some s =>
   simp only[World.cell?]at h
   split at h<;>simp at h
theorem add_add {a:Addr} {n m:Nat} (h:a.spot=none):(a.add n).add m=⟨a.block,a.off+n+m,none⟩:=by
 obtain⟨b,o,s⟩:=a
 simp only at h
 subst h
 unfold Addr.add
 by_cases h1:n=0<;>by_cases h2:m=0<;>simp[h1,h2]
def slval {α:Type} (esz:Nat) (e:α->List PVal):Option (List α)->PVal
 |none=>.nilslice
 |some l=>.slice esz l.length (l.flatMap e)
theorem zadq {n:Nat} {t u:TypeId} {α:Type} {e:α->List PVal} (ht:P.underlying t=some (.slice u)) (he:∀a,(e a).length=P.cellsOf u) (hpos:0<P.cellsOf u) (h:Opn enc P W n u e):Opn enc P W (n+1) t (fun o:Option (List α)=>[slval (P.cellsOf u) e o]):=by
 intro cs x hx
 rcases DataW.trod_slice ht hx with⟨rfl,_⟩|⟨a,len,cap,elems,rest,m,hm,rfl,_,_,hc1,hc2,hlen,hE,_,_⟩
 ·exact⟨none,by simp[CRel,PRel,slval]⟩
 ·obtain rfl:n=m:=by omega
  ·have hc:len<=cap/\cap<=maxLen:=⟨hc1,hc2⟩
   have hel:∀i,i<len->∃rs b,W.cells? 0 (a.add (i*P.cellsOf u)) (P.cellsOf u)=some rs/\CRel W rs (e b):=by
    intro i hi
    have:=hE i hi
    rw[Ae (by omega)]at this
    simp only[Option.bind_eq_some_iff]at this
    obtain⟨rs,h1,h2⟩:=this
    obtain⟨b,hb⟩:=h _ _ h2
    exact⟨rs,b,h1,hb⟩
   have hsp:0<len->a.spot=none:=by
    intro h0
    obtain⟨rs,b,h1,h2⟩:=hel 0 h0
    obtain⟨hl,hc⟩:=zzi h1
    have h3:0<rs.length:=by omega
    have:=zadp (hc 0 _ (Ae h3))
    rw[CM]at this
    have e0:(a.add 0).add 0=a:=rfl
    rw[e0]at this
    rw[this]
   have key:∀m,m<=len->∃l:List α,l.length=m/\(m=0\/PCells (ZW W) a.block a.off (l.flatMap e)):=by
    intro m
    induction m with
    |zero=>intro _;exact⟨[],rfl, .inl rfl⟩
    |succ m ih =>
     intro hm
     obtain⟨l,hl,hp⟩:=ih (by omega)
     obtain⟨rs,b,h1,h2⟩:=hel m (by omega)
     obtain⟨hl2,hc2⟩:=zzi h1
     have hs:=hsp (by omega)
     refine⟨l++[b],by simp[hl], .inr ?_⟩
     have hfl:(l.flatMap e).length=m*P.cellsOf u:=by
      rw[<- hl]
      clear hl hp
      induction l with
      |nil=>simp
      |cons x l ih2=>simp only[AI,Ag,he,ih2,AC];rw[CQ,BJ]
     have hpc:PCells (ZW W) a.block (a.off+m*P.cellsOf u) (e b):=by
      refine zva h2 fun i r hr=>?_
      have:=hc2 i r hr
      rw[add_add hs]at this
      exact this
     rw[BQ]
     refine zkk ?_ ?_
     ·rcases hp with h0|hp
      ·subst h0
       have:l=[]:=Av.1 hl
       subst this
       simp[PCells]
      ·exact hp
     ·rw[hfl];simpa using hpc
   obtain⟨l,hl,hp⟩:=key len (Ai _)
   refine⟨some l,?_,trivial⟩
   simp only[slval,PRel]
   refine⟨a,cap,by rw[hl],by rw[hl];exact hc.1,?_,?_⟩
   ·clear hp hl
    induction l with
    |nil=>simp
    |cons x l ih2=>simp only[AI,Ag,he,ih2,AC];rw[CQ,BJ]
   ·rw[hl]
    rcases hp with h0|hp
    ·exact .inl h0
    ·by_cases h0:len=0
     ·exact .inl h0
     ·have hs:=hsp (by omega)
      exact .inr ⟨a.block,a.off,by obtain⟨b,o,s⟩:=a;simp only at hs;subst hs;rfl,hp⟩
theorem zom:∀l:List Tree,kcells l=l.flatMap Tree.cells
 | []=>rfl
 |t::l=>by simp[kcells,zom l]
variable (W) in
def Stands (v:IVal) (r:Value):Prop:=v.passOK=true/\VRel { M:=⟨[],[]⟩,m:=fun _=>none,z:=ZW W } v r
theorem zabf {t:TypeId} {k:IntKind} (ht:P.underlying t=some (.int k)) {v:Value} {base:Nat} {d:DataW H} {ps:List MemPlace} (hv:Value.okWide P W .any base t v) (h:DataW.Trod enc P W 0 (fun _=>true) true t v d ps):∃i:Int,(Lit.int k i).wf=true/\Stands W (.p (.int k i)) v:=by
 obtain⟨i,rfl,_,_,hw⟩:=open_int ht hv h
 exact⟨i,hw,rfl,by simp[VRel,PRel]⟩
theorem zvb {t u:TypeId} {α:Type} {e:α->List PVal} (ht:P.underlying t=some (.slice u)) (he:∀a,(e a).length=P.cellsOf u) (hpos:0<P.cellsOf u) (ho:∀n,Opn enc P W n u e) {v:Value} {base:Nat} {d:DataW H} {ps:List MemPlace}
 (hv:Value.okWide P W .any base t v) (h:DataW.Trod enc P W 0 (fun _=>true) true t v d ps):∃o:Option (List α),Stands W (.p (slval (P.cellsOf u) e o)) v:=by
 obtain⟨a,len,cap,rfl⟩:=okWide_slice ht hv
 obtain⟨n,hn⟩:=h
 cases n with
 |zero=>simp[DataW.trod]at hn
 |succ n =>
  obtain⟨o,h1⟩:=zadq ht he hpos (ho n) _ _ hn
  exact⟨o,rfl,by simp only[VRel];exact h1.1⟩
theorem zadr [B:Base] {Γ:Prog} (hm:P.follows .mixedOrders=true) (hΓ:ProgOK P Γ) (hB:BaseOK P) {f:FuncId} {vs:J3} {rs:List Value} (h:CW Γ f vs []=some (.p (.bool true),[])) (hs:TsRel { M:=⟨[],[]⟩,m:=fun _=>none,z:=ZW W } vs rs) :
 Calls P f rs.toArray W fun e W'=>e = .returned (.bool true)/\Grown W W':=by
 refine Calls.mono (OracleOK.calls (CW_ok hm hΓ hB) h (fun _ _ _ e=>e) hs) ?_
 rintro e w' ⟨rv,d,rfl,hv,hg⟩
 simp only[VRel,PRel]at hv
 rw[hv]
 exact⟨rfl,hg⟩
end
end Go.Ideal
namespace Go.Ideal
open Go Go.ChangeMaps
section
variable {c:Ctx} {w w':World}
section
variable {P:Program}
theorem zads {f:FuncId} {args az:J3} {r:IVal}
 (hbody:∀(c:Ctx) (w:World) (l:List Value),c.M=⟨[],[]⟩->WRel c w->TsRel c az l->Calls P f l.toArray w fun e w'=>∃rv d v' H1,freezeRes H1 v'=some r/\freshRes H1 v'=true/\e = .returned rv/\d.M=⟨[],H1⟩/\Step c w d w'/\Un c d/\v'.passOK=true/\VRel d v' rv)
 {H:J2} (has:freezeAll H args=some az) (c:Ctx) (w:World) (l:List Value) (hM:c.M=⟨[],H⟩) (hW:WRel c w) (hl:TsRel c args l) :
 Calls P f l.toArray w fun e w'=>∃rv d,e = .returned rv/\d.M=⟨[],H⟩/\Step c w d w'/\Un c d/\r.passOK=true/\VRel d r rv:=by
 have hH:c.M.heap=H:=by rw[hM]
 rw[<- hH]at has
 let z0:Cells:=fun b o=>w.cell? ⟨b,o,none⟩
 have hW0:WRel { M:=⟨[],[]⟩,m:=fun _=>none,z:=z0 } w :=
  ⟨fun b o u hu=>hu,fun k cs e v op b q K _ h2=>(by cases h2),fun k es ck b q K _ h2=>(by cases h2),fun k l b q K q' K' _ _ h3 _=>(by cases h3),fun k b q K _ h2=>(by cases h2),fun k x h2=>(by cases h2)⟩
 have hargs:TsRel { M:=⟨[],[]⟩,m:=fun _=>none,z:=z0 } az l:=zcw (z1:=z0) hW (fun b o u hu=>hW.z b o u hu) (fun b _ o u hu=>hu) rfl has hl
 refine Calls.mono (hbody _ w l rfl hW0 hargs) ?_
 rintro e w' ⟨rv,d,v',H1,hr,hfr,rfl,hd,hs,_,hp,hv⟩
 have hno:∀b,¬Ctx.Own { M:=⟨[],[]⟩,m:=fun _=>none,z:=z0 } b:=fun b ⟨k,q,K,hk⟩=>(by cases hk)
 have hsame:∀b,b<w.heap.size->w'.heap[b]? = w.heap[b]? := fun b hb=>hs.same b hb (hno b)
 let z1:Cells:=fun b o=>match c.z b o with|some u=>some u|none=>if w.heap.size<=b then w'.cell? ⟨b,o,none⟩else none
 have hz1:∀b o u,c.z b o=some u->z1 b o=some u:=fun b o u hu=>by simp[z1,hu]
 have hcz:∀b o,w.heap.size<=b->c.z b o=none:=by
  intro b o hb
  cases hu:c.z b o with
  |none=>rfl
  |some u=>exact absurd (zbf (hW.z _ _ _ hu)) (by omega)
 have hstep:Step c w { M:=c.M,m:=c.m,z:=z1 } w':=by
  have hext:c.Ext { M:=c.M,m:=c.m,z:=z1 }:=⟨fun k cs e v o hk=>⟨cs,v,o,hk,Ai _,fun _ x hx=>hx⟩,fun k es ck hk=>⟨es,ck,hk,fun x hx=>hx⟩,hz1⟩
  refine⟨hext,⟨fun b o u hu=>?_,fun k cs e v op b q K h1 h2=>?_,fun k es ck b q K h1 h2=>?_,hW.inj,fun k b q K h1 h2 o=>?_,hW.dom⟩,hs.size,fun b hb _=>hsame b hb,fun b ho _=>ho,fun b o u hu hb=>?_,hs.also⟩
  ·simp only[z1]at hu
   split at hu
   ·rename_i u' hu'
    injection hu with hu
    subst hu
    have:=hW.z _ _ _ hu'
    exact zdv (hsame b (zbf this)) this
   ·split at hu
    ·exact hu
    ·cases hu
  ·obtain⟨C',T,h3,h4,h5,h6,h7⟩:=hW.blk k cs e v op b q K h1 h2
   exact⟨C',T,by rw[hsame b (hW.bound (hW.dom _ _ h2) h2)];exact h3,h4,h5,h6,fun j x hx=>by obtain⟨r',g1,g2,g3⟩:=h7 j x hx;exact⟨r',g1,g2,g3.ext hext⟩⟩
  ·obtain⟨ents,h3,h4⟩:=hW.mp k es ck b q K h1 h2
   exact⟨ents,by rw[hsame b (hW.bound (hW.dom _ _ h2) h2)];exact h3,h4.ext hext⟩
  ·have hb:=hW.bound h1 h2
   simp only[z1,hW.zdis k b q K h1 h2 o]
   rw[if_neg (by omega)]
  ·simp only[z1]at hu
   split at hu
   ·rename_i u' hu';rw[hu'];exact hu
   ·rw[if_neg (by omega)]at hu;cases hu
 have hdH:d.M.heap=H1:=by rw[hd]
 rw[<- hdH]at hr hfr
 have hvr:=ziq (z1:=z1) (d:={ M:=c.M,m:=c.m,z:=z1 }) hs.rel (fun b ho o u hu=>by
  have hb:w.heap.size<=b:=by
   rcases A7 b w.heap.size with h'|h'
   ·exact absurd (hs.own b ho h') (hno b)
   ·exact h'
  simp only[z1,hcz b o hb]
  rw[if_pos hb]
  exact hu) rfl hr hfr hv
 exact⟨rv,{ M:=c.M,m:=c.m,z:=z1 },rfl,hM,hstep,fun _ _ h=>h,hvr.2,hvr.1⟩
abbrev Ent:=IVal×IVal×Nat
structure RCut where
 pre:ICode
 x:Opd
 it:Nat
 nx:Nat
 mo:Nat
 en:Nat
 mB:List Bool
 nb:Nat
 mN:List Bool
 az:List IOper
 body:ICode
 mO:List Bool
 rest:ICode
def RCut.on (F:RCut) (k v:IVal) (T:J3):J3:=((T.set F.nx (.tup [.p (.bool true),k,v])).set F.mo (.p (.bool true))).set F.en (.tup [k,v])
def RCut.off (F:RCut) (T:J3):J3:=(T.set F.nx .undef).set F.mo (.p (.bool false))
def RCut.round (F:RCut):ICode := .block F.nb F.mN (.seq (.reg [] F.az) F.body)
def isMapT (P:Program) (t:TypeId):Bool:=match P.underlying t with|some (.map _ _)=>true|_=>false
def rangeParts (P:Program) (loc:List Nat) (mk:List (Nat×List Bool)) (cur:Nat) (a b:Code):Option RCut :=
 match a with
 | .seq (.region _ rops false) (.block ob (.loop (.seq (.region _ sops false) (.seq (.cond (.tmp mo) .skip (.exit oe)) (.block nb (.seq (.region _ aops false) body)))))) =>
   match rops.toList.reverse,sops.toList,aops.toList with
   |⟨some it, .range t (.tmp x),_,_,_,none⟩::pr,[⟨some nx, .next (.tmp i1) false,_,_,_,none⟩,⟨some mo1, .extract (.tmp n1) 0,_,_,_,none⟩],⟨some en, .entry (.tmp i2),_,_,_,none⟩::az =>
    match decide (i1=it/\i2=it/\mo1=mo/\n1=nx/\oe=ob/\nx≠it/\mo≠it/\mo≠nx)&&(isMapT P t&&((freshOf loc rops.toList).isEmpty&&(freshOf loc aops.toList).isEmpty))with
    |true=>match compSeq P loc rops.toList pr.reverse,compSeq P loc aops.toList az,compCode P loc mk nb body,compCode P loc mk cur b with
     |some ip,some ia,some ib,some ir=>some ⟨.reg [] ip, .tmp x,it,nx,mo,en,maskOf mk ob,nb,maskOf mk (nb+1000000),ia,ib,maskOf mk (ob+1000000),ir⟩
     |_,_,_,_=>none
    |false=>none
   |_,_,_=>none
 |_=>none
def cutComp (P:Program) (loc:List Nat) (mk:List (Nat×List Bool)) (cur:Nat):Code->Option RCut
 | .seq a b=>match rangeParts P loc mk cur a b with
   |some F=>some F
   |none=>match compCode P loc mk cur a,cutComp P loc mk cur b with
    |some x,some F=>some { F with pre := .seq x F.pre }
    |_,_=>none
 |_=>none
def RRounds (C:Oracle) (F:RCut) (n i:Nat) (blk:IBlk) (K:IExit->St->Prop):List Ent->St->Prop
 | [],S=>F.nx<S.T.length/\F.mo<S.T.length/\(maskT F.mB S.T)[F.it]? = some (.opq n)/\∃e S',evalCode C loopW F.rest ⟨maskT F.mO (F.off (maskT F.mB S.T)),S.M⟩=some (e,S')/\K e S'
 |(k,v,_)::r,S=>F.nx<S.T.length/\F.mo<S.T.length/\(maskT F.mB S.T)[F.it]? = some (.opq n)/\∃S',evalCode C loopW F.round ⟨F.on k v (maskT F.mB S.T),S.M⟩=some (.normal,S')/\S'.M.heap[i]? = some blk/\RRounds C F n i blk K r S'
def stamps (es:List Ent) (ck:Nat):Prop:=(es.map (·.2.2)).Nodup/\∀e∈es,e.2.2<ck
def RBody (C:Oracle) (F:RCut) (S:St) (K:IExit->St->Prop):Prop :=
 ∃e S1,evalCode C loopW F.pre S=some (e,S1)/\match e with
  | .normal=>∃i es ck,evalOpd S1.T [] [] F.x = .map i/\S1.M.heap[i]? = some (.map es ck)/\stamps es ck/\∀n σ,σ.Perm es->RRounds C F n i (.map es ck) K σ ⟨S1.T.set F.it (.opq n),S1.M⟩
  |e=>K e S1
theorem zon {C:Oracle} {F:RCut} {p:ICode} {n i:Nat} {blk:IBlk} {K:IExit->St->Prop}:∀ {σ:List Ent} {S:St},RRounds C { F with pre:=p } n i blk K σ S->RRounds C F n i blk K σ S
 | [],_,h=>h
 |(_,_,_)::_,_,⟨h1,h2,h3,S',h4,h5,h6⟩=>⟨h1,h2,h3,S',h4,h5,zon h6⟩
theorem zll {C:Oracle} (hC:OracleOK P C) {loc:List Nat} {all:List Oper} {Q:Exit->Act->World->Prop}:∀(l:List Oper) (k:Nat) (il:List IOper) (more:List Nat),(∀ i,i<l.length->all[k+i]? = l[i]?)->compSeq P loc all l=some il ->
 ∀ {S S':St} {c:Ctx} {a:Act} {w:World},evalReg C S il=some S'->c.M=S.M->WRel c w->TRel c S.T a.tmps ->
 (∀ c' a' w',c'.M=S'.M->FStep c w c' w'->TRel c' S'.T a'.tmps->a'.defers=a.defers->wpOps P all.toArray Q more a' w')->wpOps P all.toArray Q (List.range' k l.length++more) a w
 | [],k,il,more,_,hc,S,S',c,a,w,he,hM,hW,hT,hQ=>by
   simp only[compSeq,Af]at hc
   subst hc
   simp only[evalReg,Af]at he
   subst he
   exact hQ c a w hM (FStep.refl hW) hT rfl
 |o::l,k,il,more,hi,hc,S,S',c,a,w,he,hM,hW,hT,hQ=>by
  simp only[compSeq]at hc
  split at hc
  ·rename_i io g il' hio hg hl
   injection hc with hc
   subst hc
   have ho:all.toArray[k]? = some o:=by have:=hi 0 (by simp);simpa using this
   have hi':∀i,i<l.length->all[k+1+i]? = l[i]? := fun i h=>by rw[<- Aw (a:=o) (l:=l),<-hi (i+1) (by simpa using h)];congr 1;omega
   simp only[AC,B7,At,wpOps,ho]
   simp only[evalReg]at he
   split at he
   ·cases he
   ·rename_i hw
    rw[zdk hT hg hw]
    simp only[Bg,if_false]
    refine zll hC l (k+1) il' more hi' hl he hM hW (hT.put (zda c) o.dst) fun c' a' w' h1 h2 h3 h4=>hQ c' a' w' h1 h2 h3 (by rw[h4,put_defers])
   ·rename_i hw
    rw[zdk hT hg hw]
    simp only[if_true]
    split at he
    ·rename_i v M hev
     refine .inl (zmt hC hT.opds hW hio (by rw[hM];exact hev) _ _ fun rv w' d h1 h2 hu h3=>?_)
     refine zll hC l (k+1) il' more hi' hl he h1 h2.rel ((hT.ext h2.ext).put h3 o.dst) fun c' a' w'' g1 g2 g3 g4=>hQ c' a' w'' g1 ((h2.frame hu).trans g2) g3 (by rw[g4,put_defers])
    ·cases he
  ·cases hc
theorem zfs {ops:Array Oper} {Q:Exit->Act->World->Prop} {k:Nat} {o:Oper} {a:Act} {rv:Value} {more:List Nat} (ho:ops[k]? = some o) (hg:o.guard=none) (hr:(execOp a.eval o).run P w = .ok (.value rv) w') (h:wpOps P ops Q more (a.put o.dst rv) w'):wpOps P ops Q (k::more) a w:=by
 simp only[wpOps,ho]
 rw[if_pos (by simp[Region.wanted,hg])]
 left
 unfold Oper.wp
 rw[hr]
 exact h
theorem WRel.off (hW:WRel c w) {n:Nat} (hs:∀b,b<w.heap.size->b≠n->w'.heap[b]? = w.heap[b]?) (hn:n<w.heap.size->¬c.Own n/\∀o,c.z n o=none):WRel c w':=by
 have hne:∀k b q K,c.m k=some (b,q,K)->b<w.heap.size->b≠n:=fun k b q K h hb e=>by
  subst e;exact(hn hb).1 ⟨k,q,K,h⟩
 refine⟨fun b o v hz=>?_,fun k cs e v op b q K h1 h2=>?_,fun k es ck b q K h1 h2=>?_,hW.inj,hW.zdis,hW.dom⟩
 ·have h0:=hW.z b o v hz
  have hb:=zbf h0
  have:b≠n:=fun e=>by subst e;rw[(hn hb).2 o]at hz;cases hz
  exact zdv (hs b hb this) h0
 ·have hb:=hW.bound (hW.dom _ _ h2) h2
  rw[hs b hb (hne k b q K h2 hb)]
  exact hW.blk k cs e v op b q K h1 h2
 ·have hb:=hW.bound (hW.dom _ _ h2) h2
  rw[hs b hb (hne k b q K h2 hb)]
  exact hW.mp k es ck b q K h1 h2
structure RSt (c0:Ctx) (w0:World) (n i bm q K:Nat) (es:List Ent) (ck:Nat) (seen:Array Nat) (c:Ctx) (w:World):Prop where
 fs:FStep c0 w0 c w
 n0:w0.heap.size<=n
 nw:n<w.heap.size
 no:¬c.Own n
 nz:∀o,c.z n o=none
 it:w.heap[n]? = some (.mapIter (some bm) ck seen ck)
 mp:c.M.get (.heap i)=some (.map es ck)
 ad:c.m (.heap i)=some (bm,q,K)
theorem RSt.body {c0:Ctx} {w0:World} {n i bm q K:Nat} {es:List Ent} {ck:Nat} {seen:Array Nat} {d:Ctx} (h:RSt c0 w0 n i bm q K es ck seen c w) (hf:FStep c w d w') (hm:d.M.get (.heap i)=some (.map es ck)):RSt c0 w0 n i bm q K es ck seen d w':=by
 refine⟨h.fs.trans hf,h.n0,A1 h.nw hf.size,fun ho=>h.no (hf.own n ho h.nw),fun o=>?_,by rw[hf.same n h.nw h.no];exact h.it,hm,?_⟩
 ·cases hz:d.z n o with
  |none=>rfl
  |some v=>have:=hf.zz n o v hz h.nw;rw[h.nz o]at this;cases this
 ·obtain⟨es',ck',_,h2⟩:=hf.ext.mp (.heap i) es ck h.mp
  exact h2 _ h.ad
theorem RSt.step {c0:Ctx} {w0:World} {n i bm q K:Nat} {es:List Ent} {ck:Nat} {seen seen':Array Nat} {w1:World} (h:RSt c0 w0 n i bm q K es ck seen c w) (h1:w1=w\/w1=w.drew):RSt c0 w0 n i bm q K es ck seen' c (setBlock w1 n (.mapIter (some bm) ck seen' ck)):=by
 have hh:w1.heap=w.heap:=by rcases h1 with rfl|rfl<;>rfl
 have hb:Beside w w1:=by
  rcases h1 with rfl|rfl
  ·exact⟨rfl,rfl,rfl,Ai _⟩
  ·exact⟨rfl,rfl,rfl,BG _⟩
 have hs:∀b,b≠n->(setBlock w1 n (.mapIter (some bm) ck seen' ck)).heap[b]? = w.heap[b]? := fun b hne=>by
  simp only[setBlock,hh]
  rw[A6 (Ne.symm hne)]
 have hn:(setBlock w1 n (.mapIter (some bm) ck seen' ck)).heap[n]? = some (.mapIter (some bm) ck seen' ck):=by
  simp only[setBlock,hh]
  rw[Array.getElem?_setIfInBounds_self,if_pos h.nw]
 have hsz:(setBlock w1 n (.mapIter (some bm) ck seen' ck)).heap.size=w.heap.size:=by simp[setBlock,hh]
 have hW:WRel c (setBlock w1 n (.mapIter (some bm) ck seen' ck)):=h.fs.rel.off (n:=n) (fun b _ hne=>hs b hne) (fun _=>⟨h.no,h.nz⟩)
 have hS:Same w (setBlock w1 n (.mapIter (some bm) ck seen' ck)):=Same.at (b:=n) hb (fun C T fr e=>by rw[hn]at e;cases e) (fun C T fr e=>by rw[h.it]at e;cases e) hs (by rw[hsz];exact Ai _)
 exact⟨⟨h.fs.ext,h.fs.un,hW,by rw[hsz];exact h.fs.size,fun b hb ho=>by rw[hs b (by have:=h.n0;omega)];exact h.fs.same b hb ho,h.fs.own,h.fs.zz,h.fs.also.trans hS⟩,h.n0,by rw[hsz];exact h.nw,h.no,h.nz,hn,h.mp,h.ad⟩
theorem RSt.start {i bm q K:Nat} {es:List Ent} {ck:Nat} (hW:WRel c w) (mp:c.M.get (.heap i)=some (.map es ck)) (ad:c.m (.heap i)=some (bm,q,K)):RSt c w w.heap.size i bm q K es ck #[] c (w.alloc (.mapIter (some bm) ck #[] ck)):=by
 have hs:∀b,b<w.heap.size->(w.alloc (.mapIter (some bm) ck #[] ck)).heap[b]? = w.heap[b]? := fun b hb=>heap_alloc_old w _ hb
 have hn:=heap_alloc_new w (.mapIter (some bm) ck #[] ck)
 have hsz:(w.alloc (.mapIter (some bm) ck #[] ck)).heap.size=w.heap.size+1:=by
  show(w.heap.push _).size=_
  simp
 have hW':WRel c (w.alloc (.mapIter (some bm) ck #[] ck)):=hW.off (n:=w.heap.size) (fun b hb _=>hs b hb) (fun h=>absurd h (by omega))
 have hS:Same w (w.alloc (.mapIter (some bm) ck #[] ck)):=Same.push ⟨rfl,rfl,rfl,Ai _⟩ rfl (fun C T fr e=>by cases e)
 refine⟨⟨(Ctx.Ext.refl _),fun k h1 h2=>h2,hW',by omega,fun b hb _=>hs b hb,fun b ho _=>ho,fun b o v hz _=>hz,hS⟩,Ai _,by omega,fun⟨k,q',K',hk⟩=>?_,fun o=>?_,hn,mp,ad⟩
 ·have:=hW.bound (hW.dom _ _ hk) hk
  omega
 ·cases hz:c.z w.heap.size o with
  |none=>rfl
  |some v=>have:=zbf (hW.z _ _ _ hz);omega
theorem EntsRel.mem {c:Ctx}:∀ {es:List Ent} {l:List MapEntry},EntsRel c es l->∀ {e:MapEntry},e∈l->∃k v,(k,v,e.born)∈es/\k.passOK=true/\VRel c k e.key/\v.passOK=true/\VRel c v e.val
 | [],l,h,e,he=>by simp only[EntsRel]at h;subst h;simp at he
 |(k,v,n)::r,l,h,e,he=>by
  simp only[EntsRel]at h
  obtain⟨e1,es1,rfl,h1,h2,h3,h4,h5,h6⟩:=h
  rcases Aj.1 he with rfl|he
  ·exact⟨k,v,by rw[h5];simp,h1,h2,h3,h4⟩
  ·obtain⟨k',v',g1,g2⟩:=EntsRel.mem h6 he
   exact⟨k',v',Al _ g1,g2⟩
theorem EntsRel.born {c:Ctx}:∀ {es:List Ent} {l:List MapEntry},EntsRel c es l->l.map (·.born)=es.map (·.2.2)
 | [],l,h=>by simp only[EntsRel]at h;subst h;rfl
 |(k,v,n)::r,l,h=>by
  simp only[EntsRel]at h
  obtain⟨e1,es1,rfl,_,_,_,_,h5,h6⟩:=h
  simp only[As,h5,EntsRel.born h6]
def left (es:List Ent) (seen:Array Nat):List Ent:=es.filter fun e=>decide (e.2.2∉seen)
theorem zvc {x:Ent}:∀ {L:List Ent},(L.map (·.2.2)).Nodup->x∈L->(x::L.filter (fun e=>decide (e.2.2≠x.2.2))).Perm L
 | [],_,h=>by simp at h
 |y::L,hn,h=>by
  rw[As,Bj]at hn
  rcases Aj.1 h with rfl|h
  ·have e1:(x::L).filter (fun e=>decide (e.2.2≠x.2.2))=L:=by
    rw[Cu (by simp)]
    refine List.filter_eq_self.2 fun z hz=>?_
    have:z.2.2≠x.2.2:=fun e=>hn.1 (by rw[<- e];exact Au.2 ⟨z,hz,rfl⟩)
    simpa using this
   rw[e1]
  ·have hne:y.2.2≠x.2.2:=fun e=>hn.1 (by rw[e];exact Au.2 ⟨x,h,rfl⟩)
   rw[Cv (by simpa using hne)]
   exact(List.Perm.swap _ _ _).trans ((zvc hn.2 h).cons y)
theorem zadt {es:List Ent} {seen:Array Nat} {x:Ent} (hn:(es.map (·.2.2)).Nodup) (hx:x∈left es seen):(x::left es (seen.push x.2.2)).Perm (left es seen):=by
 have e:left es (seen.push x.2.2)=(left es seen).filter (fun e=>decide (e.2.2≠x.2.2)):=by
  unfold left
  rw[List.filter_filter]
  congr 1
  funext z
  by_cases h1:z.2.2=x.2.2<;>by_cases h2:z.2.2∈seen<;>simp[h1,h2]
 rw[e]
 refine zvc ?_ hx
 exact hn.sublist ((List.filter_sublist).map _)
theorem eval_put {a:Act} {d:Nat} {v:Value} (h:d<a.tmps.size):(a.put (some d) v).eval (.tmp d)=v:=by
 simp[Act.put,Act.eval,h]
section
variable {C:Oracle} {loc:List Nat} {mk:List (Nat×List Bool)} {F:RCut} {n i bm q Kq ob sid aid:Nat} {es:List Ent} {ck:Nat} {K:IExit->St->Prop} {Q:Exit->Act->World->Prop} {c0:Ctx} {w0:World} {sops aops:Array Oper} {asl:List Oper} {body rest:Code} {t1 t2 t3:TypeId} {p1 p2 p3:String} {e1 e2 e3:Array Edge} {dfs:List Deferred}
theorem zkl (hC:OracleOK P C) (hD:DrawOK P C loc) (hst:stamps es ck)
 (hs:sops.toList=[⟨some F.nx, .next (.tmp F.it) false,t1,p1,e1,none⟩,⟨some F.mo, .extract (.tmp F.nx) 0,t2,p2,e2,none⟩])
 (ha:aops.toList=⟨some F.en, .entry (.tmp F.it),t3,p3,e3,none⟩::asl) (hca:compSeq P loc aops.toList asl=some F.az) (hcb:compCode P loc mk F.nb body=some F.body)
 (hni:F.nx≠F.it) (hmi:F.mo≠F.it) (hmn:F.mo≠F.nx)
 (hrest:∀(c':Ctx) (a':Act) (w':World) (S':St),FStep c0 w0 c' w'->c'.M=S'.M->TRel c' S'.T a'.tmps->a'.defers=dfs->(∃ e S2,evalCode C loopW F.rest S'=some (e,S2)/\K e S2)->rest.wp P Q a' w') :
 ∀(m:Nat) (seen:Array Nat) (S:St) (c:Ctx) (a:Act) (w:World),(left es seen).length<m->(∀ σ,σ.Perm (left es seen)->RRounds C F n i (.map es ck) K σ S)->c.M=S.M->TRel c S.T a.tmps->a.defers=dfs->RSt c0 w0 n i bm q Kq es ck seen c w ->
  Code.rounds P (.seq (.region sid sops false) (.seq (.cond (.tmp F.mo) .skip (.exit ob)) (.block F.nb (.seq (.region aid aops false) body)))) (Exit.inBlock ob (Exit.then (fun a w=>rest.wp P Q a w) Q)) m a w
 |0,seen,S,c,a,w,hm,_,_,_,_,_=>by omega
 |m+1,seen,S,c,a,w,hm,hR,hM,hT,hdf,hS=>by
  rw[rounds_succ]
  obtain⟨ents,hents,hrel⟩:=hS.fs.rel.mp _ _ _ _ _ _ hS.mp hS.ad
  have hborn:=hrel.born
  have hold:∀x∈ents.toList,x.born<ck:=fun x hx=>by
   obtain⟨k,v,h1,_⟩:=hrel.mem hx
   exact hst.2 _ h1
  have hTm:=hT.masked F.mB
  have hl1:F.nx<S.T.length/\F.mo<S.T.length/\(maskT F.mB S.T)[F.it]? = some (.opq n):=by
   have:=hR _ (.refl _)
   cases hle:left es seen with
   |nil=>rw[hle]at this;exact⟨this.1,this.2.1,this.2.2.1⟩
   |cons x r=>obtain⟨k,v,b⟩:=x;rw[hle]at this;exact⟨this.1,this.2.1,this.2.2.1⟩
  obtain⟨hnl,hml,hit⟩:=hl1
  have hlen:=hT.1
  have hitv:a.eval (.tmp F.it) = .pointer (some ⟨n,0,none⟩):=by
   have:=hTm.opds (.tmp F.it) (.tmp F.it) rfl
   simp only[evalOpd,Ideal.look,Am,hit,BH]at this
   exact this
  have hs0:sops[0]? = some ⟨some F.nx, .next (.tmp F.it) false,t1,p1,e1,none⟩:=by rw[<- AN,hs];rfl
  have hs1:sops[1]? = some ⟨some F.mo, .extract (.tmp F.nx) 0,t2,p2,e2,none⟩:=by rw[<- AN,hs];rfl
  have hsz:sops.size=2:=by rw[<- A3,hs];rfl
  refine Go.wp_seq (wp_region ?_)
  rw[hsz]
  show wpOps P sops _ [0,1] a w
  rcases run_next_at (P:=P) w t1 n bm ck ck seen ents ck hS.it hents hold (Ai _)with⟨h0,hrun⟩|⟨e,he,w1,hw1,hrun⟩
  ·
   have hle:left es seen=[]:=by
    refine Cz.2 fun x hx=>?_
    have hb:x.2.2∈ents.toList.map (·.born):=by rw[hborn];exact Au.2 ⟨x,hx,rfl⟩
    obtain⟨y,hy,hyb⟩:=Au.1 hb
    have:y∉leftOf ents seen:=fun hm=>by
     have:=(Array.mem_iff_getElem.1 hm)
     obtain⟨j,hj,_⟩:=this
     omega
    have hc:seen.contains y.born=true:=by
     cases hcc:seen.contains y.born with
     |true=>rfl
     |false=>exact absurd (by unfold leftOf;simp;exact⟨by simpa using hy,by simpa using hcc⟩) this
    rw[hyb]at hc
    simpa using hc
   have hR0:=hR [] (by rw[hle])
   obtain⟨_,_,_,e,S2,hev,hK⟩:=hR0
   refine zfs hs0 rfl (rv := .tuple #[.bool false]) (w':=w) ?_ ?_
   ·simp only[execOp,hitv,Sem.run_bind,hrun,Result.andThen];rfl
   have ha1:(a.put (some F.nx) (.tuple #[.bool false])).eval (.tmp F.nx) = .tuple #[.bool false]:=eval_put (by omega)
   refine zfs hs1 rfl (rv := .bool false) (w':=w) ?_ ?_
   ·simp only[execOp,ha1,Instr.extract];rfl
   have ha2:((a.put (some F.nx) (.tuple #[.bool false])).put (some F.mo) (.bool false)).eval (.tmp F.mo) = .bool false:=eval_put (by simp[Act.put];omega)
   have hTo:TRel c (F.off (maskT F.mB S.T)) ((a.put (some F.nx) (.tuple #[.bool false])).put (some F.mo) (.bool false)).tmps:=(hTm.put (v := .undef) (r := .tuple #[.bool false]) (by simp only[VRel]) (some F.nx)).put (v := .p (.bool false)) (r := .bool false) (by simp only[VRel,PRel]) (some F.mo)
   show Exit.then _ _ .normal _ _
   simp only[Exit.then]
   refine Go.wp_seq (wp_cond_false ha2 (Go.wp_exit ?_))
   simp only[Exit.then,Exit.inBlock,if_true]
   exact hrest c _ w ⟨maskT F.mO (F.off (maskT F.mB S.T)),S.M⟩ hS.fs hM (hTo.masked _) (by simp[Act.put,hdf]) ⟨e,S2,hev,hK⟩
  ·
   have heM:e∈ents.toList/\e.born∉seen:=by
    have:e∈leftOf ents seen:=by simpa using he
    unfold leftOf at this
    simp at this
    exact⟨by simpa using this.1,by simpa using this.2⟩
   obtain⟨k,v,hmem,kp,kr,vp,vr⟩:=hrel.mem heM.1
   have hx:(k,v,e.born)∈left es seen:=BL.2 ⟨hmem,by simpa using heM.2⟩
   have hperm:=zadt hst.1 hx
   have hS1:=hS.step (seen':=seen.push e.born) hw1
   obtain⟨S',hround,hheap,_⟩:∃S',evalCode C loopW F.round ⟨F.on k v (maskT F.mB S.T),S.M⟩=some (.normal,S')/\S'.M.heap[i]? = some (.map es ck)/\True:=by
    obtain⟨_,_,_,S',g1,g2,_⟩:=hR _ hperm
    exact⟨S',g1,g2,trivial⟩
   have hR':∀σ,σ.Perm (left es (seen.push e.born))->RRounds C F n i (.map es ck) K σ S':=fun σ hσ=>by
    obtain⟨_,_,_,S2,g1,_,g3⟩:=hR _ ((hσ.cons (k,v,e.born)).trans hperm)
    rw[hround]at g1
    injection g1 with g1
    injection g1 with _ g1
    rw[g1];exact g3
   have hlen':(left es (seen.push e.born)).length<m:=by
    have:=hperm.length_eq
    simp at this
    omega
   generalize hw2:setBlock w1 n (.mapIter (some bm) ck (seen.push e.born) ck)=w2 at hS1 hrun
   refine zfs hs0 rfl (rv := .tuple #[.bool true,e.key,e.val]) (w':=w2) ?_ ?_
   ·simp only[execOp,hitv,Sem.run_bind,hrun,Result.andThen];rfl
   have ha1:(a.put (some F.nx) (.tuple #[.bool true,e.key,e.val])).eval (.tmp F.nx) = .tuple #[.bool true,e.key,e.val]:=eval_put (by omega)
   refine zfs hs1 rfl (rv := .bool true) (w':=w2) ?_ ?_
   ·simp only[execOp,ha1,Instr.extract];rfl
   have ha2:((a.put (some F.nx) (.tuple #[.bool true,e.key,e.val])).put (some F.mo) (.bool true)).eval (.tmp F.mo) = .bool true:=eval_put (by simp[Act.put];omega)
   have htup:VRel c (.tup [.p (.bool true),k,v]) (.tuple #[.bool true,e.key,e.val]):=by
    simp only[VRel,TsRel]
    exact⟨[.bool true,e.key,e.val],rfl,_,_,rfl,rfl,by simp only[PRel],_,_,rfl,kp,kr,_,_,rfl,vp,vr,rfl⟩
   have hTo:=(hTm.put htup (some F.nx)).put (v := .p (.bool true)) (r := .bool true) (by simp only[VRel,PRel]) (some F.mo)
   generalize haa:(a.put (some F.nx) (.tuple #[.bool true,e.key,e.val])).put (some F.mo) (.bool true)=a2 at ha2 hTo ⊢
   have hdf2:a2.defers=dfs:=by rw[<- haa];simp[Act.put,hdf]
   show Exit.then _ _ .normal _ _
   simp only[Exit.then]
   refine Go.wp_seq (wp_cond_true ha2 (Go.wp_skip ?_))
   simp only[Exit.then]
   refine Go.wp_block (Go.wp_seq (wp_region ?_))
   have hasz:aops.size=asl.length+1:=by rw[<- A3,ha];rfl
   have ha0:aops[0]? = some ⟨some F.en, .entry (.tmp F.it),t3,p3,e3,none⟩:=by rw[<- AN,ha];rfl
   rw[hasz,Cj,B7]
   have hit2:a2.eval (.tmp F.it) = .pointer (some ⟨n,0,none⟩):=by
    rw[<- haa]
    simp only[Act.put,Act.eval,Bh]at hitv ⊢
    rw[A6 (by omega),A6 (by omega)]
    exact hitv
   have hbn:bm≠n:=fun e=>hS.no ⟨_,_,_,by rw[<- e];exact hS.ad⟩
   have hents2:w2.heap[bm]? = some (.map ents ck):=by
    have hh:w1.heap=w.heap:=by rcases hw1 with rfl|rfl<;>rfl
    rw[<- hw2]
    simp only[setBlock,hh]
    rw[A6 (Ne.symm hbn)]
    exact hents
   have hent:=run_entry_at (P:=P) w2 n bm ck seen ents ck e hS1.it hents2 heM.1 (by rw[hborn];exact hst.1)
   refine zfs ha0 rfl (rv := .tuple #[e.key,e.val]) (w':=w2) ?_ ?_
   ·simp only[execOp,hit2,Sem.run_bind,hent,Result.andThen];rfl
   have htup2:VRel c (.tup [k,v]) (.tuple #[e.key,e.val]):=by
    simp only[VRel,TsRel]
    exact⟨[e.key,e.val],rfl,_,_,rfl,kp,kr,_,_,rfl,vp,vr,rfl⟩
   have hT3:TRel c (F.on k v (maskT F.mB S.T)) (a2.put (some F.en) (.tuple #[e.key,e.val])).tmps:=hTo.put htup2 (some F.en)
   unfold RCut.round at hround
   simp only[evalCode,freshen]at hround
   have hfin:∀(ex:IExit) (S3:St),(match some (ex,S3)with|some (.exit i,S'')=>(match Nat.beq i F.nb with|true=>some (.normal,⟨maskT F.mN S''.T,S''.M⟩)|false=>some (.exit i,S''))|r=>r)=some (IExit.normal,S')->∀c' a' w',c'.M=S3.M->FStep c w2 c' w'->TRel c' S3.T a'.tmps->a'.defers=dfs ->
    Exit.inBlock F.nb (Exit.then (Code.rounds P (.seq (.region sid sops false) (.seq (.cond (.tmp F.mo) .skip (.exit ob)) (.block F.nb (.seq (.region aid aops false) body)))) (Exit.inBlock ob (Exit.then (fun a w=>rest.wp P Q a w) Q)) m) (Exit.inBlock ob (Exit.then (fun a w=>rest.wp P Q a w) Q))) ex.out a' w':=by
    intro ex S3 hex c' a' w' g1 g2 g3 g4
    have go:∀(a':Act),c'.M=S'.M->TRel c' S'.T a'.tmps->a'.defers=dfs->Code.rounds P (.seq (.region sid sops false) (.seq (.cond (.tmp F.mo) .skip (.exit ob)) (.block F.nb (.seq (.region aid aops false) body)))) (Exit.inBlock ob (Exit.then (fun a w=>rest.wp P Q a w) Q)) m a' w':=fun a' g1 g3 g4 =>
     zkl hC hD hst hs ha hca hcb hni hmi hmn hrest m (seen.push e.born) S' c' a' w' hlen' hR' g1 g3 g4 (hS1.body g2 (by rw[g1];exact hheap))
    cases ex with
    |normal =>
     injection hex with hex
     injection hex with _ hex
     subst hex
     exact go a' g1 g3 g4
    |ret =>
     injection hex with hex
     injection hex with hex _
     cases hex
    |exit j =>
     simp only at hex
     cases hj:Nat.beq j F.nb with
     |true =>
      rw[hj]at hex
      injection hex with hex
      injection hex with _ hex
      have:=Ah hj
      subst this
      simp only[IExit.out,Exit.inBlock,if_true]
      exact go a' (by rw[g1,<-hex]) (by rw[<- hex];exact g3.masked _) g4
     |false =>
      rw[hj]at hex
      injection hex with hex
      injection hex with hex _
      cases hex
   cases hreg:evalReg C ⟨F.on k v (maskT F.mB S.T),S.M⟩ F.az with
   |none=>rw[hreg]at hround;cases hround
   |some S3 =>
    rw[hreg]at hround
    simp only at hround
    cases hbd:evalCode C loopW F.body S3 with
    |none=>rw[hbd]at hround;cases hround
    |some p =>
     obtain⟨ex,S4⟩:=p
     rw[hbd]at hround
     have hreg2:=zju (P:=P) (Q:=Exit.then (fun a w=>body.wp P (Exit.inBlock F.nb (Exit.then (Code.rounds P (.seq (.region sid sops false) (.seq (.cond (.tmp F.mo) .skip (.exit ob)) (.block F.nb (.seq (.region aid aops false) body)))) (Exit.inBlock ob (Exit.then (fun a w=>rest.wp P Q a w) Q)) m) (Exit.inBlock ob (Exit.then (fun a w=>rest.wp P Q a w) Q)))) a w) (Exit.inBlock F.nb (Exit.then (Code.rounds P (.seq (.region sid sops false) (.seq (.cond (.tmp F.mo) .skip (.exit ob)) (.block F.nb (.seq (.region aid aops false) body)))) (Exit.inBlock ob (Exit.then (fun a w=>rest.wp P Q a w) Q)) m) (Exit.inBlock ob (Exit.then (fun a w=>rest.wp P Q a w) Q))))) hC asl 1 F.az (all:=aops.toList) (fun j=>by rw[ha,BJ,Aw]) hca hreg hM hS1.fs.rel hT3 fun c' a' w' h1 h2 h3 h4=>by
      simp only[Exit.then]
      exact zeg hC zez hD body F.nb F.body hcb hbd h1 h2.rel h3 fun c2 a4 w4 k1 k2 k3 k4=>hfin ex S4 hround c2 a4 w4 k1 (h2.trans k2) k3 (by rw[k4,h4];simp[Act.put,hdf2])
     simpa using hreg2
end
theorem zqc {loc:List Nat} {mk:List (Nat×List Bool)} {cur:Nat} {a b:Code} {F:RCut} (h:rangeParts P loc mk cur a b=some F) :
 ∃rid sid aid ob rops sops aops body t x pr asl ip t0 p0 e0 t1 p1 e1 t2 p2 e2 t3 p3 e3,a = .seq (.region rid rops false) (.block ob (.loop (.seq (.region sid sops false) (.seq (.cond (.tmp F.mo) .skip (.exit ob)) (.block F.nb (.seq (.region aid aops false) body)))))) /\
  rops.toList=pr++[⟨some F.it, .range t (.tmp x),t0,p0,e0,none⟩]/\F.x = .tmp x /\
  sops.toList=[⟨some F.nx, .next (.tmp F.it) false,t1,p1,e1,none⟩,⟨some F.mo, .extract (.tmp F.nx) 0,t2,p2,e2,none⟩] /\
  aops.toList=⟨some F.en, .entry (.tmp F.it),t3,p3,e3,none⟩::asl/\isMapT P t=true/\compSeq P loc rops.toList pr=some ip/\F.pre = .reg [] ip/\compSeq P loc aops.toList asl=some F.az /\
  compCode P loc mk F.nb body=some F.body/\compCode P loc mk cur b=some F.rest/\F.nx≠F.it/\F.mo≠F.it/\F.mo≠F.nx:=by
 unfold rangeParts at h
 split at h
 ·rename_i rid rops ob sid sops mo oe nb aid aops body
  split at h
  ·rename_i it t x t0 p0 e0 pr nx i1 t1 p1 e1 mo1 n1 t2 p2 e2 en i2 t3 p3 e3 asl hr hs ha
   split at h
   ·rename_i hd
    simp only[Ak,decide_eq_true_eq]at hd
    obtain⟨⟨d1,d2,d3,d4,d5,d6,d7,d8⟩,hm,_⟩:=hd
    split at h
    ·rename_i ip ia ib ir c1 c2 c3 c4
     injection h with h
     subst h
     subst d1 d2 d3 d4 d5
     have hr':rops.toList=pr.reverse++[⟨some i2, .range t (.tmp x),t0,p0,e0,none⟩]:=by
      rw[<- Cl rops.toList,hr,A9]
     exact⟨rid,sid,aid,oe,rops,sops,aops,body,t,x,pr.reverse,asl,ip,t0,p0,e0,t1,p1,e1,t2,p2,e2,t3,p3,e3,rfl,hr',rfl,hs,ha,hm,c1,rfl,c2,c3,c4,d6,d7,d8⟩
    ·cases h
   ·cases h
  ·cases h
 ·cases h
theorem zadu {C:Oracle} (hC:OracleOK P C) {loc:List Nat} {mk:List (Nat×List Bool)} (hD:DrawOK P C loc) {K:IExit->St->Prop}:∀(code:Code) (cur:Nat) (F:RCut),cutComp P loc mk cur code=some F ->
 ∀ {S:St} {c:Ctx} {a:Act} {w:World} {Q:Exit->Act->World->Prop},RBody C F S K->c.M=S.M->WRel c w->TRel c S.T a.tmps ->
 (∀ e S' c' a' w',K e S'->c'.M=S'.M->FStep c w c' w'->TRel c' S'.T a'.tmps->a'.defers=a.defers->Q e.out a' w')->code.wp P Q a w:=by
 intro code
 induction code with
 |seq x y ihx ihy =>
  intro cur F hc S c a w Q hB hM hW hT hQ
  simp only[cutComp]at hc
  split at hc
  ·rename_i F' hp
   injection hc with hc
   subst hc
   obtain⟨rid,sid,aid,ob,rops,sops,aops,body,t,xs,pr,asl,ip,t0,p0,e0,t1,p1,e1,t2,p2,e2,t3,p3,e3,rfl,hr,hx,hs,ha,hm,c1,hpre,c2,c3,c4,d6,d7,d8⟩:=zqc hp
   obtain⟨ex,S1,hev,hS1⟩:=hB
   rw[hpre]at hev
   simp only[evalCode,freshen]at hev
   cases hreg:evalReg C S ip with
   |none=>rw[hreg]at hev;cases hev
   |some S1' =>
    rw[hreg]at hev
    injection hev with hev
    injection hev with e1 e2
    subst e1 e2
    obtain⟨i,es,ck,hxv,hmap,hst,hR⟩:=hS1
    refine Go.wp_seq (Go.wp_seq (wp_region ?_))
    have hsz:rops.size=pr.length+1:=by rw[<- A3,hr,Ag];rfl
    have hrng:List.range rops.size=List.range' 0 pr.length++[pr.length]:=by
     rw[hsz,BY,Cj]
    rw[hrng]
    have hregs:=zll (P:=P) (Q:=Exit.then (fun a w=>(Code.block ob (.loop (.seq (.region sid sops false) (.seq (.cond (.tmp F'.mo) .skip (.exit ob)) (.block F'.nb (.seq (.region aid aops false) body)))))).wp P (Exit.then (fun a w=>y.wp P Q a w) Q) a w) (Exit.then (fun a w=>y.wp P Q a w) Q)) hC pr 0 ip [pr.length] (all:=rops.toList) (fun j hj=>by rw[hr,Aq,Ab hj]) c1 hreg hM hW hT fun c1 a1 w1 h1 h2 h3 h4=>by
     have hxr:=h3.opds (.tmp xs) (.tmp xs) rfl
     rw[hx]at hxv
     rw[hxv]at hxr
     simp only[VRel]at hxr
     obtain⟨es',ck',hg,bm,q,Kq,had,hxe⟩:=hxr
     have hg':c1.M.get (.heap i)=some (.map es ck):=by rw[h1];exact hmap
     rw[hg']at hg
     injection hg with hg
     injection hg with g1 g2
     subst g1 g2
     obtain⟨ents,hents,_⟩:=h2.rel.mp _ _ _ _ _ _ hg' had
     unfold isMapT at hm
     split at hm
     ·rename_i kt et hu
      have hrun:=run_range_map (P:=P) w1 t kt et bm ents ck hu hents
      refine zfs (o:=⟨some F'.it, .range t (.tmp xs),t0,p0,e0,none⟩) (by rw[A5,<-AN,hr,Ad (Ai _),Bb];rfl) rfl (rv := .pointer (some ⟨w1.heap.size,0,none⟩)) (w':=w1.alloc (.mapIter (some bm) ck #[] ck)) ?_ ?_
      ·simp only[execOp,hxe,Sem.run_bind,hrun,Result.andThen];rfl
      have hRS:=RSt.start h2.rel hg' had
      show Exit.then _ _ .normal _ _
      simp only[Exit.then]
      refine Go.wp_block (wp_loop_rounds (es.length+1) ?_)
      have hle:left es #[]=es:=by unfold left;exact List.filter_eq_self.2 (fun x _=>by simp)
      refine zkl (P:=P) (K:=K) (dfs:=a.defers) hC hD hst hs ha c2 c3 d6 d7 d8 (fun c' a' w' S' k1 k2 k3 k4 ⟨e,S2,k5,k6⟩=>?_) (es.length+1) #[] ⟨S1'.T.set F'.it (.opq w1.heap.size),S1'.M⟩ c1 _ _ (by rw[hle];omega) (fun σ hσ=>by rw[hle]at hσ;exact hR _ σ hσ) h1 (h3.put (v := .opq w1.heap.size) (by simp only[VRel]) (some F'.it)) (by simp[Act.put,h4]) hRS
      exact zeg hC zez hD y cur F'.rest c4 k5 k2 k1.rel k3 fun c2 a2 w2 l1 l2 l3 l4=>hQ e S2 c2 a2 w2 k6 l1 ((h2.trans k1).trans l2) l3 (by rw[l4,k4])
     ·cases hm
    simpa using hregs
  ·split at hc
   ·rename_i ix F' hcx hcy
    injection hc with hc
    subst hc
    obtain⟨ex,S1,hev,hS1⟩:=hB
    simp only[evalCode]at hev
    refine Go.wp_seq ?_
    split at hev
    ·rename_i S2 hev2
     refine zeg hC zez hD x cur ix hcx hev2 hM hW hT fun c1 a1 w1 h1 h2 h3 h4=>?_
     simp only[IExit.out,Exit.then]
     have hB2:RBody C F' S2 K:=by
      refine⟨ex,S1,hev,?_⟩
      cases ex with
      |normal =>
       obtain⟨i,es,ck,g1,g2,g3,g4⟩:=hS1
       exact⟨i,es,ck,g1,g2,g3,fun n σ hσ=>zon (g4 n σ hσ)⟩
      |exit _=>exact hS1
      |ret=>exact hS1
     exact ihy cur F' hcy hB2 h1 h2.rel h3 fun e S' c' a' w' k0 k1 k2 k3 k4=>hQ e S' c' a' w' k0 k1 (h2.trans k2) k3 (by rw[k4,h4])
    ·rename_i hne
     refine zeg hC zez hD x cur ix hcx hev hM hW hT fun c1 a1 w1 h1 h2 h3 h4=>?_
     cases ex with
     |normal=>exact absurd hev (hne _)
     |exit j=>exact hQ _ S1 c1 a1 w1 hS1 h1 h2 h3 h4
     |ret=>exact hQ _ S1 c1 a1 w1 hS1 h1 h2 h3 h4
   ·cases hc
 |_=>intro cur F hc;simp[cutComp]at hc
end
end
end Go.Ideal
namespace Go.Ideal
open Go
structure RFun where
 np:Nat
 nt:Nat
 res:List IRes
 cut:RCut
def compRange (P:Program) (loc:List Nat) (mk:List (Nat×List Bool)) (np:Nat) (f:Func):Option RFun :=
 if f.name = "runtime.NumGoroutine" then none else
 match f.body with
 |some c=>match cutComp P loc mk 0 c,compRes P f.results.toList with
  |some ic,some rs=>some ⟨np,f.ntmps,rs,ic⟩
  |_,_=>none
 |none=>none
def ROK (P:Program) (f:FuncId) (F:RFun):Prop:=∃fn loc mk,P.funcs[f]? = some fn/\compRange P loc mk F.np fn=some F
def RFinal (F:RFun) (r:IVal) (e:IExit) (S:St):Prop:=(e = .ret\/e = .normal)/\∃v,results S F.res=some v/\freezeRes S.M.heap v=some r/\freshRes S.M.heap v=true
def RangePure (C:Oracle) (F:RFun) (args:J3) (H:J2) (r:IVal×J2):Prop :=
 r.2=H/\∃az,freezeAll H args=some az/\az.length=F.np/\RBody C F.cut ⟨az++List.replicate (F.nt-az.length) skipped,⟨[],[]⟩⟩ (RFinal F r.1)
theorem RRounds.both {C:Oracle} {F:RCut} {n i:Nat} {blk:IBlk} {K L:IExit->St->Prop}:∀ {σ:List Ent} {S:St},RRounds C F n i blk K σ S->RRounds C F n i blk L σ S->∃e S',K e S'/\L e S'
 | [],S,⟨_,_,_,e,S1,h1,h2⟩,⟨_,_,_,e',S1',g1,g2⟩=>by
   rw[h1]at g1
   injection g1 with g1
   injection g1 with g1 g3
   subst g1 g3
   exact⟨e,S1,h2,g2⟩
 |(_,_,_)::_,S,⟨_,_,_,S1,h1,_,h2⟩,⟨_,_,_,S1',g1,_,g2⟩=>by
  rw[h1]at g1
  injection g1 with g1
  injection g1 with _ g1
  subst g1
  exact RRounds.both h2 g2
theorem RBody.both {C:Oracle} {F:RCut} {S:St} {K L:IExit->St->Prop} (h:RBody C F S K) (g:RBody C F S L):∃e S',K e S'/\L e S':=by
 obtain⟨e,S1,h1,h2⟩:=h
 obtain⟨e',S1',g1,g2⟩:=g
 rw[h1]at g1
 injection g1 with g1
 injection g1 with g1 g3
 subst g1 g3
 cases e with
 |normal =>
  obtain⟨i,es,ck,h3,h4,_,h5⟩:=h2
  obtain⟨i',es',ck',g3,g4,_,g5⟩:=g2
  rw[h3]at g3
  injection g3 with g3
  subst g3
  rw[h4]at g4
  injection g4 with g4
  injection g4 with g4 g6
  subst g4 g6
  exact RRounds.both (h5 0 es (.refl _)) (g5 0 es (.refl _))
 |exit j=>exact⟨_,_,h2,g2⟩
 |ret=>exact⟨_,_,h2,g2⟩
theorem RRounds.mono {C D:Oracle} (hC:C.Le D) {F:RCut} {n i:Nat} {blk:IBlk} {K:IExit->St->Prop}:∀ {σ:List Ent} {S:St},RRounds C F n i blk K σ S->RRounds D F n i blk K σ S
 | [],_,⟨h1,h2,h3,e,S1,h4,h5⟩=>⟨h1,h2,h3,e,S1,zao hC zfo h4,h5⟩
 |(_,_,_)::_,_,⟨h1,h2,h3,S1,h4,h5,h6⟩=>⟨h1,h2,h3,S1,zao hC zfo h4,h5,RRounds.mono hC h6⟩
theorem RBody.mono {C D:Oracle} (hC:C.Le D) {F:RCut} {S:St} {K:IExit->St->Prop} (h:RBody C F S K):RBody D F S K:=by
 obtain⟨e,S1,h1,h2⟩:=h
 refine⟨e,S1,zao hC zfo h1,?_⟩
 cases e with
 |normal =>
  obtain⟨i,es,ck,h3,h4,h5,h6⟩:=h2
  exact⟨i,es,ck,h3,h4,h5,fun n σ hσ=>(h6 n σ hσ).mono hC⟩
 |exit j=>exact h2
 |ret=>exact h2
theorem RangePure.det {C:Oracle} {F:RFun} {args:J3} {H:J2} {r s:IVal×J2} (h:RangePure C F args H r) (g:RangePure C F args H s):r=s:=by
 obtain⟨h1,az,h2,h3,h4⟩:=h
 obtain⟨g1,as',g2,g3,g4⟩:=g
 rw[h2]at g2
 injection g2 with g2
 subst g2
 obtain⟨e,S,⟨_,v,q1,q2,_⟩,⟨_,v',p1,p2,_⟩⟩:=h4.both g4
 rw[q1]at p1
 injection p1 with p1
 subst p1
 rw[q2]at p2
 injection p2 with p2
 exact Prod.ext p2 (h1.trans g1.symm)
theorem RangePure.mono {C D:Oracle} (hC:C.Le D) {F:RFun} {args:J3} {H:J2} {r:IVal×J2} (h:RangePure C F args H r):RangePure D F args H r:=by
 obtain⟨h1,az,h2,h3,h4⟩:=h
 exact⟨h1,az,h2,h3,h4.mono hC⟩
theorem zvd {P:Program} (hm:P.follows .mixedOrders=true) {C:Oracle} (hC:OracleOK P C) {f:FuncId} {F:RFun} (hF:ROK P f F) {args:J3} {H H':J2} {r:IVal} (h:RangePure C F args H (r,H')) :
 Enters P f/\∀(c:Ctx) (w:World) (l:List Value),c.M=⟨[],H⟩->WRel c w->TsRel c args l ->
  Calls P f l.toArray w fun e w'=>∃rv d,e = .returned rv/\d.M=⟨[],H'⟩/\Step c w d w'/\Un c d/\r.passOK=true/\VRel d r rv:=by
 obtain⟨fn,loc,mk,hf,hcomp⟩:=hF
 unfold compRange at hcomp
 split at hcomp
 ·cases hcomp
 ·rename_i hname
  split at hcomp
  ·rename_i code hb
   split at hcomp
   ·rename_i ic rs hic hrs
    injection hcomp with hcomp
    have hnt:F.nt=fn.ntmps:=by rw[<- hcomp]
    have hcut:F.cut=ic:=by rw[<- hcomp]
    have hres:F.res=rs:=by rw[<- hcomp]
    obtain⟨hH,az,has,hnp,hB⟩:=h
    simp only at hH
    subst hH
    refine⟨fun args w=>by simp[callFunc,hf,hname,hb],fun c w l hM hW hl=>zads (az:=az) (fun c w l hM hW hl=>?_) has c w l hM hW hl⟩
    rw[hcut,hnt]at hB
    refine calls_of_wp hf hb ?_
    have hTR:TRel c (az++List.replicate (fn.ntmps-az.length) skipped) (l.toArray++Array.replicate (fn.ntmps-l.toArray.size) undef):=by
     have hll:=hl.length
     refine⟨by simp[hll],fun t u hu=>?_⟩
     by_cases ht:t<az.length
     ·rw[Ab ht]at hu
      obtain⟨r,e,_,hr⟩:=hl.at t u hu
      refine⟨r,?_,hr⟩
      rw[CS (by simpa[hll]using ht)]
      simpa using e
     ·rw[Ad (by omega),B8]at hu
      split at hu
      ·rename_i hlt
       injection hu with hu
       subst hu
       refine⟨undef,?_,zda c⟩
       rw[CO (by simp;omega),Cs,if_pos (by simp;omega)]
      ·cases hu
    refine zadu hC (zwz hm hC loc) code 0 ic hic hB hM hW hTR fun e S c' a' w' hK h1 h2 h3 h4=>?_
    obtain⟨hex,v,hv,hfz,hfr⟩:=hK
    rw[hres]at hv
    obtain⟨rv,g1,g2,g3⟩:=zjx (P:=P) h1 h2.rel h3 hrs hv
    have hfin:a'.defers=[]/\∃v,(Go.results fn a'.tmps).run P w' = .ok v w'/\(∃ rv d v' H1,freezeRes H1 v'=some r/\freshRes H1 v'=true/\Ending.returned v = .returned rv/\d.M=⟨[],H1⟩/\Step c w d w'/\Un c d/\v'.passOK=true/\VRel d v' rv) :=
     ⟨h4,rv,g1,rv,c'.inner,v,S.M.heap,hfz,hfr,rfl,by simp[Ctx.inner,h1],FStep.call hM hW h2,FStep.callUn hM h2,g3,VRel.inner v rv g3 g2⟩
    rcases hex with rfl|rfl<;>exact hfin
   ·cases hcomp
  ·cases hcomp
def maskS' (m:List Bool) (T:Env) (M:KM) (k:Env->KM->Prop):Prop:=match m with|[]=>k T M|m=>maskS m T M k
def rndK (C:Oracle) (F:RFun) (n i:Nat) (blk:IBlk) (Q:IVal->J2->Prop):List Ent->Env->KM->Prop
 | [],T,M=>maskS F.cut.mB T M fun T M=>lookE T F.cut.it = .v (.opq n)/\maskS' F.cut.mO (putK F.nt (putK F.nt T (some F.cut.nx) .U) (some F.cut.mo) (.bool false)) M fun T M=>wp C F.nt F.cut.rest (retK F.res Q) T M
 |(k,v,_)::r,T,M=>maskS F.cut.mB T M fun T M=>lookE T F.cut.it = .v (.opq n)/\wp C F.nt F.cut.round (fun e T M=>e = .normal/\M.H[i]? = some blk/\rndK C F n i blk Q r T M) (putK F.nt (putK F.nt (putK F.nt T (some F.cut.nx) (up (.tup [.p (.bool true),k,v]))) (some F.cut.mo) (.bool true)) (some F.cut.en) (up (.tup [k,v]))) M
def rngK (C:Oracle) (F:RFun) (Q:IVal->J2->Prop) (e:IExit) (T:Env) (M:KM):Prop :=
 match e with
 | .normal=>∃i es ck,(opdK T [] [] F.cut.x).den = .map i/\M.H[i]? = some (.map es ck)/\stamps es ck/\F.cut.nx<F.nt/\F.cut.mo<F.nt/\∀n σ,σ.Perm es->rndK C F n i (.map es ck) Q σ (putK F.nt T (some F.cut.it) (.v (.opq n))) M
 |e=>retK F.res Q e T M
theorem zve {n:Nat} {T:Env} {R:J3} {i m:Nat} (h:RelE n T R) (e:lookE T i = .v (.opq m)):R[i]? = some (.opq m):=by
 have:=(h.at' i).eq (by rw[e];simp[SV.den])
 rw[e,Am]at this
 cases hg:R[i]? with
 |none=>rw[hg]at this;simp[SV.den]at this
 |some x=>rw[hg]at this;simp[SV.den]at this;rw[this]
theorem zqy {C:Oracle} {F:RFun} {n i:Nat} {blk:IBlk} {r:IVal} (hx:F.cut.nx<F.nt) (ho:F.cut.mo<F.nt):∀ {σ:List Ent} {T:Env} {M:KM} {S:St},rndK C F n i blk (fun v H'=>freezeRes H' v=some r/\freshRes H' v=true) σ T M->RelE F.nt T S.T->RelM M S.M->RRounds C F.cut n i blk (RFinal F r) σ S
 | [],T,M,S,h,hT,hM=>by
   obtain⟨h1,h2⟩:=h
   have hm:=zgh (m:=F.cut.mB) hT
   refine⟨by rw[hT.len];exact hx,by rw[hT.len];exact ho,zve hm.2 h1,?_⟩
   have hp:=(hm.2.put (d:=some F.cut.nx) (s := .U) (v := .undef) (.inl rfl)).put (d:=some F.cut.mo) (s := .bool false) (v := .p (.bool false)) (.inr rfl)
   have key:∃T2 M2,RelE F.nt T2 (maskT F.cut.mO (F.cut.off (maskT F.cut.mB S.T)))/\RelM M2 S.M/\wp C F.nt F.cut.rest (retK F.res fun v H'=>freezeRes H' v=some r/\freshRes H' v=true) T2 M2:=by
    unfold maskS' at h2
    split at h2
    ·rename_i e
     rw[e]
     exact⟨_,_,zzh hp,zfd hM,h2⟩
    ·exact⟨_,_,(zgh hp).2,zfd (zfd hM),h2⟩
   obtain⟨T2,M2,k1,k2,k3⟩:=key
   obtain⟨e,S',g1,T3,M3,g2,g3,g4⟩:=zck k3 (S:=⟨_,S.M⟩) k1 k2
   obtain⟨he,v,g5,g6⟩:=zej g4 g2 g3
   exact⟨e,S',g1,he,v,g5,g6⟩
 |(k,v,_)::σ,T,M,S,h,hT,hM=>by
  obtain⟨h1,h2⟩:=h
  have hm:=zgh (m:=F.cut.mB) hT
  refine⟨by rw[hT.len];exact hx,by rw[hT.len];exact ho,zve hm.2 h1,?_⟩
  have hp:=((hm.2.put (d:=some F.cut.nx) (RelV.up (.tup [.p (.bool true),k,v]))).put (d:=some F.cut.mo) (s := .bool true) (v := .p (.bool true)) (.inr rfl)).put (d:=some F.cut.en) (RelV.up (.tup [k,v]))
  obtain⟨e,S',g1,T3,M3,g2,g3,rfl,g4,g5⟩:=zck h2 (S:=⟨F.cut.on k v (maskT F.cut.mB S.T),S.M⟩) hp (zfd hM)
  exact⟨S',g1,by rw[<- g3.heap];exact g4,zqy hx ho g5 g2 g3⟩
def rngE (C:Oracle) (F:RFun) (Q:IVal->Prop) (e:IExit) (T:Env) (M:KM):Prop :=
 match e with
 | .normal=>∃r,Q r/\rngK C F (fun v H'=>freezeRes H' v=some r/\freshRes H' v=true) .normal T M
 |e=>retK F.res (fun v H'=>∃r,freezeRes H' v=some r/\freshRes H' v=true/\Q r) e T M
theorem zadv [B:Base] {Γ:Prog} {k:Nat} {az:J3} {F:RFun} {Q:IVal->Prop} (hk:Γ k=none) (hb:∀C args H r,RangePure C F args H (r,H)->B.m C k args H (r,H)) (hn:(Nat.beq az.length F.np&&Nat.ble az.length F.nt)=true)
 (h:wp (CW Γ) F.nt F.cut.pre (rngE (CW Γ) F Q) (startE 0 az) ⟨[],[]⟩):∃r,(∀ args H,freezeAll H args=some az->CW Γ k args H=some (r,H))/\Q r:=by
 obtain⟨hn,hl⟩:=(Ak _ _).mp hn
 have hl:=AE hl
 obtain⟨e,S',h1,T,M,h2,h3,h4⟩:=zck h (S:=⟨az++List.replicate (F.nt-az.length) skipped,⟨[],[]⟩⟩) (zhi hl) ⟨fun s b hb=>(by cases hb),rfl⟩
 cases e with
 |normal =>
  obtain⟨r,hQ,i,es,ck,g1,g2,g3,g4,g5,g6⟩:=h4
  refine⟨r,fun args H has=>zadh hk (hb _ args H r ⟨rfl,az,has,Ah hn, .normal,S',h1,i,es,ck,?_,by rw[<- h3.heap];exact g2,g3,fun n σ hσ=>zqy g4 g5 (g6 n σ hσ) (h2.put (d:=some F.cut.it) (.inr rfl)) h3⟩),hQ⟩
  have:=(zed h2 RelE.nil [] F.cut.x).eq (by rw[g1];simp)
  rw[<- this,g1]
 |exit j=>exact h4.elim
 |ret =>
  have h4':retK F.res (fun v H'=>∃r,freezeRes H' v=some r/\freshRes H' v=true/\Q r) .ret T M:=h4
  obtain⟨he,v,h5,r,h6,h7,h8⟩:=zej h4' h2 h3
  exact⟨r,fun args H has=>zadh hk (hb _ args H r ⟨rfl,az,has,Ah hn, .ret,S',h1,he,v,h5,h6,h7⟩),h8⟩
end Go.Ideal
namespace Go.Ideal
open Go Go.Proofs
set_option maxRecDepth 100000
def F_Q6:Nat:=6
def F_Q9:Nat:=9
def F_Q10:Nat:=10
def F_Q11:Nat:=11
def F_Q12:Nat:=12
def F_Q13:Nat:=13
def F_Q15:Nat:=15
def F_Q19:Nat:=19
def F_Q20:Nat:=20
def F_Q21:Nat:=21
def F_Q22:Nat:=22
def F_Q23:Nat:=23
def F_Q24:Nat:=24
def F_Q25:Nat:=25
def F_Q26:Nat:=26
def F_Q27:Nat:=27
def F_Q28:Nat:=28
def F_Q29:Nat:=29
def F_Q30:Nat:=30
def F_Q32:Nat:=32
def F_Q33:Nat:=33
def F_Q34:Nat:=34
def F_Q35:Nat:=35
def F_Q36:Nat:=36
def F_Q37:Nat:=37
def F_Q38:Nat:=38
def F_Q39:Nat:=39
def F_Q40:Nat:=40
def F_Q41:Nat:=41
def F_Q42:Nat:=42
def F_Q43:Nat:=43
def F_Q44:Nat:=44
def F_Q45:Nat:=45
def F_Q46:Nat:=46
def F_Q47:Nat:=47
def F_Q48:Nat:=48
def F_Q49:Nat:=49
def F_Q50:Nat:=50
def F_Q51:Nat:=51
def F_Q52:Nat:=52
def F_Q53:Nat:=53
def F_Q54:Nat:=54
def F_Q55:Nat:=55
def F_Q56:Nat:=56
def F_Q59:Nat:=59
def F_Q60:Nat:=60
def F_Q61:Nat:=61
def F_Q62:Nat:=62
def F_Q63:Nat:=63
def F_Q64:Nat:=64
def F_Q65:Nat:=65
def F_Q66:Nat:=66
def F_Q67:Nat:=67
def F_Q78:Nat:=78
def F_Q79:Nat:=79
def F_Q80:Nat:=80
def F_Q81:Nat:=81
def F_Q82:Nat:=82
def F_Q83:Nat:=83
def F_Q84:Nat:=84
def F_Q85:Nat:=85
def F_Q86:Nat:=86
def F_Q87:Nat:=87
def F_Q88:Nat:=88
def F_Q89:Nat:=89
def F_Q90:Nat:=90
def F_Q91:Nat:=91
def F_Q97:Nat:=97
def F_Q98:Nat:=98
def F_Q99:Nat:=99
def F_Q100:Nat:=100
def F_Q102:Nat:=102
def F_Q103:Nat:=103
def F_Q31:Nat:=31
def l_Q6_0:ICode:=(.seq (.seq (.reg [] [o_ 16 (mv 7),o_ 17 (mv 5),o_ 18 (bi .lss 16 17)]) (.cond (t_ 18) .skip (.exit 0))) (.seq (.block 1 [] (.draw [] [o_ 21 (fa 4 6),s_ 22 (ld 21) [(21,0)],o_ 23 (mv 7),o_ 24 (mv 7),s_ 25 (bj .add 24 1) [(24,3)],s_ 26 (.sliceStr (.const (.p (.str [97,98,99,100,101,102,103,104,105]))) (some (t_ 23)) (some (t_ 25))) [(23,2),(25,4)],o_ 27 (mv 7),o_ 28 (mv 7),s_ 29 (bj .add 28 1) [(28,7)],s_ 30 (.sliceStr (.const (.p (.str [97,98,99,100,101,102,103,104,105]))) (some (t_ 27)) (some (t_ 29))) [(27,6),(29,8)],s_ 31 (.build [(.int .i64 0),(.str []),(.str []), .nilslice, .nilslice] [(0,1,(k_ 3)),(2,1,(t_ 30))]) [(30,9)],s_ 32 (.buildSlice 5 1 [(.int .i64 0),(.str []),(.str []), .nilslice, .nilslice] [(0,5,(t_ 31))]) [(31,10)],s_ 33 (.build [(.int .i64 0),(.str []),(.str []), .nilslice, .nilslice] [(0,1,(k_ 2)),(1,1,(t_ 26)),(4,1,(t_ 32))]) [(26,5),(32,11)],s_ 34 (.buildSlice 5 1 [(.int .i64 0),(.str []),(.str []), .nilslice, .nilslice] [(0,5,(t_ 33))]) [(33,12)],s_ 35 (.append 5 (t_ 22) (t_ 34)) [(22,1),(34,13)],o_ 36 (fa 4 6),e_ (s3 1 36 35) [(36,15),(35,14)]] [[⟨[0,1,2,3,4,5,6,7,8,9,10,11,12,13],[],(some 14)⟩,⟨[15],[],(some 16)⟩,⟨[],[],none⟩]])) (.reg [] [o_ 19 (mv 7),o_ 20 (bj .add 19 1),o_ 7 (mv 20)])))
@[reducible] def m_Q6_0:List Bool:=mb 100 [1,5,6,7]
@[reducible] def b_Q6_0:List Bool:=mb 100 [1,5,6]
def l_Q6_1:ICode:=(.seq (.seq (.reg [] [o_ 39 (mv 9),o_ 40 (mv 5),o_ 41 (bi .lss 39 40),o_ 42 (mv 41),g_ 43 42 true (mv 9),g_ 44 42 true (mv 1),g_ 45 42 true (ll 44),g_ 46 42 true (bi .lss 43 45),o_ 47 (pa 42 46)]) (.cond (t_ 47) .skip (.exit 2))) (.seq (.block 3 [] (.seq (.reg [] [o_ 50 (mv 1),o_ 51 (mv 9),o_ 52 (ix 1 50 51),o_ 53 (ld 52)]) (.cond (t_ 53) (.draw [] [o_ 54 (fa 4 8),s_ 55 (ld 54) [(54,0)],o_ 56 (mv 9),s_ 57 (ix 5 55 56) [(55,1),(56,2)],s_ 58 (fa 4 57) [(57,3)],s_ 59 (ld 58) [(58,4)],o_ 60 (mv 9),o_ 61 (mv 9),s_ 62 (bj .add 61 1) [(61,7)],s_ 63 (.sliceStr (.const (.p (.str [65,66,67,68,69,70,71,72,73]))) (some (t_ 60)) (some (t_ 62))) [(60,6),(62,8)],s_ 64 (.idxSlice 5 (t_ 59) (k_ 0)) [(59,5)],s_ 65 (fa 2 64) [(64,10)],e_ (s3 1 65 63) [(65,11),(63,9)]] [[⟨[0,1,2,3,4,5,6,7,8,9,10,11],[],(some 12)⟩,⟨[],[],none⟩]]) .skip))) (.reg [] [o_ 48 (mv 9),o_ 49 (bj .add 48 1),o_ 9 (mv 49)])))
@[reducible] def m_Q6_1:List Bool:=mb 100 [1,5,6,8,9]
@[reducible] def b_Q6_2:List Bool:=mb 100 [5,6,8]
def l_Q6_2:ICode:=(.seq (.seq (.reg [] [o_ 69 (mv 11),o_ 70 (mv 10),o_ 71 (ll 70),o_ 72 (bi .lss 69 71)]) (.cond (t_ 72) .skip (.exit 4))) (.seq (.block 5 [] (.seq (.reg [] [o_ 75 (mv 10),o_ 76 (mv 11),o_ 77 (ix 2 75 76),o_ 78 (lw 2 77),o_ 79 (mv 11),o_ 80 (mv 11),o_ 81 (.build [(.int .i64 0),(.int .i64 0)] [(0,1,(t_ 79)),(1,1,(t_ 80))]),o_ 82 (.eqv true ⟨true,[.int, .int]⟩ (t_ 78) (t_ 81))]) (.cond (t_ 82) (.seq (.reg [] [o_ 4 (.mov xf)]) .ret) .skip))) (.reg [] [o_ 73 (mv 11),o_ 74 (bj .add 73 1),o_ 11 (mv 74)])))
@[reducible] def m_Q6_2:List Bool:=mb 100 [5,6,10,11]
@[reducible] def b_Q6_4:List Bool:=mb 100 [5,6,10]
def c_Q6:ICode:=(.seq (.reg [] [o_ 4 (.mov xf)]) (.seq (.reg [] [o_ 12 (mv 0),o_ 13 (cl F_Q15 [(t_ 12),(k_ 9)]),o_ 14 (.bin .add (k_ 1) (t_ 13)),o_ 5 (mv 14)]) (.seq (.reg [6] [o_ 15 (.build [(.int .i64 0),(.str []),(.str []), .nilslice, .nilslice] [(0,1,(k_ 1))]),o_ 6 (.alloc (some 6) [(.int .i64 0),(.str []),(.str []), .nilslice, .nilslice]),n_ (s3 5 6 15)]) (.seq (.seq (.reg [] [o_ 7 (.mov (k_ 0))]) (.block 0 b_Q6_0 (.loop m_Q6_0 l_Q6_0))) (.seq (.reg [8] [o_ 37 (lw 5 6),o_ 38 (cl F_Q12 [(t_ 37)]),o_ 8 (.alloc (some 8) [(.int .i64 0),(.str []),(.str []), .nilslice, .nilslice]),n_ (s3 5 8 38)]) (.seq (.seq (.reg [] [o_ 9 (.mov (k_ 0))]) (.block 2 b_Q6_2 (.loop m_Q6_1 l_Q6_1))) (.seq (.reg [] [o_ 66 (lw 5 6),o_ 67 (lw 5 8),o_ 68 (cl F_Q9 [(t_ 66),(t_ 67)]),o_ 10 (mv 68)]) (.seq (.seq (.reg [] [o_ 11 (.mov (k_ 0))]) (.block 4 b_Q6_4 (.loop m_Q6_2 l_Q6_2))) (.seq (.reg [] [o_ 83 (mv 10),o_ 84 (ll 83),o_ 85 (mv 5),o_ 86 (.bin .mul (k_ 2) (t_ 85)),o_ 87 (bj .add 86 1),o_ 88 (bi .eql 84 87),o_ 89 (mv 88),g_ 90 89 true (lw 5 6),g_ 91 89 true (cl F_Q13 [(t_ 90)]),g_ 92 89 true (ll 91),g_ 93 89 true (mv 10),g_ 94 89 true (ll 93),g_ 95 89 true (bi .eql 92 94),o_ 96 (pa 89 95),o_ 97 (mv 96),g_ 98 97 true (cl F_Q11 []),o_ 99 (pa 97 98),o_ 4 (mv 99)]) .ret)))))))))
def i_Q6:IFun:=⟨2,100,[.tmp 4],c_Q6,true⟩
theorem ok_Q6:FunOK Try.prog F_Q6 i_Q6:=⟨Try.f6,[8,6],[(0,m_Q6_0),(1000000,b_Q6_0),(2,m_Q6_1),(1000002,b_Q6_2),(4,m_Q6_2),(1000004,b_Q6_4)],Try.func6,by kernel_rfl⟩
def l_Q9_0:ICode:=(.seq (.reg [] [o_ 56 (bi .lss 55 54)]) (.seq (.cond (t_ 56) .skip (.exit 0)) (.seq (.block 1 [] (.seq (.reg [7] [o_ 57 (ix 2 53 55),o_ 58 (lw 2 57),o_ 7 (.alloc (some 7) [(.int .i64 0),(.int .i64 0)]),n_ (s3 2 7 58)]) (.reg [] [o_ 59 (mv 5),o_ 60 (fa 0 7),o_ 61 (ld 60),o_ 62 (fa 1 7),o_ 63 (ld 62),o_ 64 (cl F_Q25 [(t_ 59),(t_ 61),(t_ 63)])]))) (.reg [] [o_ 65 (bj .add 55 1),o_ 55 (mv 65)]))))
@[reducible] def m_Q9_0:List Bool:=mb 143 [2,5,53,54,55]
@[reducible] def b_Q9_0:List Bool:=mb 143 [2,5]
def l_Q9_1:ICode:=(.seq (.reg [] [o_ 70 (bi .lss 69 68)]) (.seq (.cond (t_ 70) .skip (.exit 2)) (.seq (.block 3 [] (.seq (.reg [] [o_ 71 (ix 1 67 69),o_ 72 (ld 71),o_ 9 (mv 72)]) (.seq (.seq (.reg [] [o_ 74 (mv 5),o_ 75 (nc 74),o_ 76 (fa 14 75),o_ 77 (ld 76),o_ 78 (mv 9),o_ 79 (.lookup true (J4 0) ⟨false,[.int]⟩ (t_ 77) (t_ 78)),o_ 73 (mv 79),o_ 80 (et 73 0),o_ 81 (et 73 1),o_ 10 (mv 80),o_ 11 (mv 81)]) (.seq (.reg [] [o_ 82 (mv 11)]) (.cond (t_ 82) (.exit 3) .skip))) (.seq (.reg [] [o_ 83 (mv 5),o_ 84 (mv 9),o_ 85 (cl F_Q27 [(t_ 83),(t_ 84)]),o_ 12 (mv 85)]) (.seq (.reg [] [o_ 86 (mv 12),o_ 87 (bj .geq 86 0)]) (.cond (t_ 87) (.seq (.reg [] [o_ 88 (mv 5),o_ 89 (mv 9),o_ 90 (mv 12),o_ 91 (cl F_Q25 [(t_ 88),(t_ 89),(t_ 90)])]) (.reg [] [o_ 92 (mv 5),o_ 93 (mv 9),o_ 94 (mv 12),o_ 95 (cl F_Q28 [(t_ 92),(t_ 93),(t_ 94)])])) .skip)))))) (.reg [] [o_ 96 (bj .add 69 1),o_ 69 (mv 96)]))))
@[reducible] def m_Q9_1:List Bool:=mb 143 [5,67,68,69]
@[reducible] def b_Q9_2:List Bool:=mb 143 [5]
def l_Q9_2:ICode:=(.seq (.reg [] [o_ 107 (bi .lss 106 105)]) (.seq (.cond (t_ 107) .skip (.exit 4)) (.seq (.block 5 [] (.seq (.reg [] [o_ 108 (mv 106),o_ 13 (mv 108)]) (.seq (.reg [] [o_ 110 (mv 5),o_ 111 (nc 110),o_ 112 (fa 14 111),o_ 113 (ld 112),o_ 114 (mv 13),o_ 115 (.lookup true (J4 0) ⟨false,[.int]⟩ (t_ 113) (t_ 114)),o_ 109 (mv 115),o_ 116 (et 109 0),o_ 117 (et 109 1),o_ 14 (mv 116),o_ 15 (mv 117)]) (.seq (.reg [] [o_ 118 (mv 15)]) (.cond (t_ 118) (.reg [] [o_ 119 (mv 5),o_ 120 (mv 13),o_ 121 (mv 14),o_ 122 (cl F_Q30 [(t_ 119),(t_ 120),(t_ 121)])]) .skip))))) (.reg [] [o_ 123 (bj .add 106 1),o_ 106 (mv 123)]))))
@[reducible] def m_Q9_2:List Bool:=mb 143 [5,105,106]
@[reducible] def b_Q9_4:List Bool:=mb 143 [5]
def c_Q9_70:ICode:=(.seq (.reg [2,3] [o_ 2 (.box (some 2) 5 (t_ 0)),o_ 3 (.box (some 3) 5 (t_ 1)),o_ 4 (.mov xn)]) (.seq (.seq (.reg [] [o_ 19 (lw 5 2),o_ 20 (cl F_Q21 [(t_ 19)]),o_ 21 (.not (t_ 20)),o_ 22 (mv 21),g_ 23 22 false (lw 5 3),g_ 24 22 false (cl F_Q21 [(t_ 23)]),g_ 25 22 false (.not (t_ 24)),o_ 26 (po 22 25)]) (.cond (t_ 26) (.seq (.reg [] [o_ 4 (.mov xn)]) .ret) .skip)) (.seq (.draw [] [o_ 27 (lw 5 2),o_ 28 (lw 5 3),o_ 29 (lw 5 2),s_ 30 (cl F_Q22 [(t_ 29)]) [(29,2)],o_ 31 (lw 5 3),s_ 32 (cl F_Q22 [(t_ 31)]) [(31,4)],o_ 33 (.mkMap),o_ 34 (.mkMap),s_ 35 (.build [(.int .i64 0),(.str []),(.str []), .nilslice, .nilslice,(.int .i64 0),(.str []),(.str []), .nilslice, .nilslice, .nilslice, .nilslice, .nilslice, .nilslice, .nilmap, .nilmap] [(0,5,(t_ 27)),(5,5,(t_ 28)),(10,1,(t_ 30)),(11,1,(t_ 32)),(14,1,(t_ 33)),(15,1,(t_ 34))]) [(27,0),(28,1),(30,3),(32,5),(33,6),(34,7)],s_ 36 (.box none 16 (t_ 35)) [(35,8)],s_ 5 (mv 36) [(36,9)]] [[⟨[0,1,2,4,6,7],[],(some 3)⟩,⟨[],[0,1,4,6,7],(some 5)⟩,⟨[8,9,10],[0,1,6,7],none⟩]]) (.seq (.draw [] [o_ 37 (mv 5),o_ 38 (mv 5),s_ 39 (nc 38) [(38,1)],s_ 40 (fa 10 39) [(39,2)],s_ 41 (ld 40) [(40,3)],s_ 42 (cl F_Q23 [(t_ 41)]) [(41,4)],o_ 43 (mv 5),s_ 44 (nc 43) [(43,6)],s_ 45 (fa 11 44) [(44,7)],s_ 46 (ld 45) [(45,8)],s_ 47 (cl F_Q23 [(t_ 46)]) [(46,9)],s_ 48 (.build [.nilslice, .nilslice] [(0,1,(t_ 42)),(1,1,(t_ 47))]) [(42,5),(47,10)],s_ 49 (nc 37) [(37,0)],s_ 50 (fa 12 49) [(49,12)],e_ (s3 2 50 48) [(50,13),(48,11)]] [[⟨[0,1,2,3,4,6,7,8,9],[],(some 5)⟩,⟨[],[9],(some 10)⟩,⟨[11,12,13],[],(some 14)⟩,⟨[],[],none⟩]]) (.seq (.seq (.reg [] [o_ 51 (lw 5 2),o_ 52 (lw 5 3),o_ 53 (cl F_Q24 [(t_ 51),(t_ 52),(k_ 2)]),o_ 54 (ll 53),o_ 55 (.mov (k_ 0))]) (.block 0 b_Q9_0 (.loop m_Q9_0 l_Q9_0))) (.seq (.seq (.reg [] [o_ 66 (lw 5 2),o_ 67 (cl F_Q26 [(t_ 66)]),o_ 68 (ll 67),o_ 69 (.mov (k_ 0))]) (.block 2 b_Q9_2 (.loop m_Q9_1 l_Q9_1))) (.seq (.seq (.reg [] [o_ 97 (mv 5),o_ 98 (cl F_Q29 [(t_ 97),(k_ 0),(k_ 0)])]) (.cond (t_ 98) (.reg [] [o_ 99 (mv 5),o_ 100 (cl F_Q25 [(t_ 99),(k_ 0),(k_ 0)])]) .skip)) (.seq (.seq (.reg [] [o_ 101 (mv 5),o_ 102 (nc 101),
 o_ 103 (fa 10 102),o_ 104 (ld 103),o_ 105 (ll 104),o_ 106 (.mov (k_ 0))]) (.block 4 b_Q9_4 (.loop m_Q9_2 l_Q9_2))) (.seq (.reg [] [o_ 16 (.mov xn)]) (.reg [] [o_ 124 (mv 5),o_ 125 (nc 124),o_ 126 (fa 14 125),o_ 127 (ld 126)]))))))))))
def c_Q9_71:ICode:=(.reg [] [o_ 134 (mv 16),o_ 135 (mv 17),o_ 136 (mv 18),o_ 137 (.build [(.int .i64 0),(.int .i64 0)] [(0,1,(t_ 135)),(1,1,(t_ 136))]),o_ 138 (.buildSlice 2 1 [(.int .i64 0),(.int .i64 0)] [(0,2,(t_ 137))]),o_ 139 (.append 2 (t_ 134) (t_ 138)),o_ 16 (mv 139)])
def c_Q9_72:ICode:=(.seq (.reg [] [o_ 140 (mv 16),o_ 141 (cl F_Q31 [(t_ 140),(.func F_Q32)])]) (.seq (.reg [] [o_ 142 (mv 16),o_ 4 (mv 142)]) .ret))
@[reducible] def m_Q9_90:List Bool:=mb 143 [16,128]
def b_Q9_91:List Bool:=[]
@[reducible] def b_Q9_92:List Bool:=mb 143 [16]
def c_Q9_73:List IOper:=[o_ 132 (et 131 0),o_ 133 (et 131 1),o_ 17 (mv 132),o_ 18 (mv 133)]
def i_Q9:RFun:=⟨2,143,[.tmp 4],⟨c_Q9_70,(t_ 127),128,129,130,131,m_Q9_90,7,b_Q9_91,c_Q9_73,c_Q9_71,b_Q9_92,c_Q9_72⟩⟩
theorem ok_Q9:ROK Try.prog F_Q9 i_Q9:=⟨Try.f9,[7,3,2],[(0,m_Q9_0),(1000000,b_Q9_0),(2,m_Q9_1),(1000002,b_Q9_2),(4,m_Q9_2),(1000004,b_Q9_2),(6,m_Q9_90),(1000006,b_Q9_92)],Try.func9,by kernel_rfl⟩
def l_Q10_0:ICode:=(.seq (.reg [] [o_ 41 (bi .lss 40 39)]) (.seq (.cond (t_ 41) .skip (.exit 0)) (.seq (.block 1 [] (.seq (.reg [12] [o_ 42 (ix 2 38 40),o_ 43 (lw 2 42),o_ 12 (.alloc (some 12) [(.int .i64 0),(.int .i64 0)]),n_ (s3 2 12 43)]) (.seq (.seq (.draw [] [o_ 44 (fa 0 12),s_ 45 (ld 44) [(44,0)],o_ 46 (mv 9),s_ 47 (bi .leq 45 46) [(45,1),(46,2)],s_ 48 (mv 47) [(47,3)],q_ 49 48 false (fa 0 12) [(48,4)],q_ 50 48 false (ld 49) [(49,5),(48,4)],q_ 51 48 false (mv 7) [(48,4)],q_ 52 48 false (ll 51) [(51,7),(48,4)],q_ 53 48 false (bi .geq 50 52) [(50,6),(52,8),(48,4)],s_ 54 (po 48 53) [(48,4),(53,9)],s_ 55 (mv 54) [(54,10)],q_ 56 55 false (fa 1 12) [(55,11)],q_ 57 55 false (ld 56) [(56,12),(55,11)],q_ 58 55 false (bj .lss 57 0) [(57,13),(55,11)],s_ 59 (po 55 58) [(55,11),(58,14)],s_ 60 (mv 59) [(59,15)],q_ 61 60 false (fa 1 12) [(60,16)],q_ 62 60 false (ld 61) [(61,17),(60,16)],q_ 63 60 false (mv 8) [(60,16)],q_ 64 60 false (ll 63) [(63,19),(60,16)],q_ 65 60 false (bi .geq 62 64) [(62,18),(64,20),(60,16)],s_ 66 (po 60 65) [(60,16),(65,21)],s_ 67 (mv 66) [(66,22)],q_ 68 67 false (mv 10) [(67,23)],q_ 69 67 false (fa 1 12) [(67,23)],q_ 70 67 false (ld 69) [(69,25),(67,23)],⟨(some 71), .lookup false (.p (.bool false)) ⟨false,[.int]⟩ (t_ 68) (t_ 70),(some (67,false)),[(68,24),(70,26),(67,23)]⟩,s_ 72 (po 67 71) [(67,23),(71,27)],s_ 73 (mv 72) [(72,28)],q_ 74 73 false (mv 7) [(73,29)],q_ 75 73 false (fa 0 12) [(73,29)],q_ 76 73 false (ld 75) [(75,31),(73,29)],q_ 77 73 false (ix 10 74 76) [(74,30),(76,32),(73,29)],q_ 78 73 false (lw 10 77) [(77,33),(73,29)],q_ 79 73 false (cl F_Q34 [(t_ 78)]) [(78,34),(73,29)],q_ 80 73 false (mv 8) [(73,29)],q_ 81 73 false (fa 1 12) [(73,29)],q_ 82 73 false (ld 81) [(81,37),(73,29)],q_ 83 73 false (ix 10 80 82) [(80,36),(82,38),(73,29)],q_ 84 73 false (lw 10 83) [(83,39),(73,29)],q_ 85 73 false (cl F_Q34 [(t_ 84)]) [(84,40),(73,29)],⟨(some 86), .eqv true ⟨true,[.int, .str]⟩ (t_ 79) (t_ 85),(some (73,false)),[(79,35),(85,41),(73,29)]⟩,s_ 87 (po 73 86) [(73,29),(86,42)]] [[⟨[0,1,2,3,4,5,6,7,8,9,10,11,12,13,14,15,16,17,18,19,20,21,22,23,24,25,26,27,28,29,30,31,32,33,34,36,37,38,39,40],[],(some 35)⟩,⟨[],[38,40],(some 41)⟩,⟨[42,43],[],none⟩]]) (.cond (t_ 87) (.seq
 (.reg [] [o_ 6 (.mov xf)]) .ret) .skip)) (.seq (.reg [] [o_ 88 (fa 0 12),o_ 89 (ld 88),o_ 9 (mv 89)]) (.reg [] [o_ 90 (mv 10),o_ 91 (fa 1 12),o_ 92 (ld 91),n_ (.mapUpd ⟨false,[.int]⟩ (t_ 90) (t_ 92) xt)]))))) (.reg [] [o_ 93 (bj .add 40 1),o_ 40 (mv 93)]))))
@[reducible] def m_Q10_0:List Bool:=mb 94 [7,8,9,10,38,39,40]
@[reducible] def b_Q10_0:List Bool:=mb 94 []
def c_Q10:ICode:=(.seq (.reg [3,4] [o_ 3 (.box (some 3) 5 (t_ 0)),o_ 4 (.box (some 4) 5 (t_ 1)),o_ 6 (.mov xf)]) (.seq (.seq (.reg [] [o_ 13 (lw 5 3),o_ 14 (cl F_Q21 [(t_ 13)]),o_ 15 (.not (t_ 14)),o_ 16 (mv 15),g_ 17 16 false (lw 5 4),g_ 18 16 false (cl F_Q21 [(t_ 17)]),g_ 19 16 false (.not (t_ 18)),o_ 20 (po 16 19),o_ 21 (mv 20),g_ 22 21 false (mv 2),g_ 23 21 false (ll 22),g_ 24 21 false (bj .eql 23 0),o_ 25 (po 21 24),o_ 26 (mv 25),g_ 27 26 false (mv 2),g_ 28 26 false (.idxSlice 2 (t_ 27) (k_ 0)),g_ 29 26 false (lw 2 28),g_ 30 26 false (.build [(.int .i64 0),(.int .i64 0)] []),g_ 31 26 false (.eqv true ⟨true,[.int, .int]⟩ (t_ 29) (t_ 30)),o_ 32 (po 26 31)]) (.cond (t_ 32) (.seq (.reg [] [o_ 6 (.mov xf)]) .ret) .skip)) (.seq (.draw [] [o_ 33 (lw 5 3),s_ 34 (cl F_Q22 [(t_ 33)]) [(33,0)],o_ 35 (lw 5 4),s_ 36 (cl F_Q22 [(t_ 35)]) [(35,2)],s_ 7 (mv 34) [(34,1)],s_ 8 (mv 36) [(36,3)]] [[⟨[0,2],[],(some 1)⟩,⟨[],[2],(some 3)⟩,⟨[4,5],[],none⟩]]) (.seq (.reg [] [o_ 9 (.mov (k_ (-1)))]) (.seq (.reg [] [o_ 37 (.mkMap),o_ 10 (mv 37)]) (.seq (.seq (.reg [] [o_ 38 (mv 2),o_ 39 (ll 38),o_ 40 (.mov (k_ 0))]) (.block 0 b_Q10_0 (.loop m_Q10_0 l_Q10_0))) (.seq (.reg [] [o_ 6 (.mov xt)]) .ret)))))))
def i_Q10:IFun:=⟨3,94,[.tmp 6],c_Q10,true⟩
theorem ok_Q10:FunOK Try.prog F_Q10 i_Q10:=⟨Try.f10,[12,4,3],[(0,m_Q10_0),(1000000,b_Q10_0)],Try.func10,by kernel_rfl⟩
def c_Q11:ICode:=(.seq (.reg [] [o_ 0 (.mov xf)]) (.seq (.reg [1] [o_ 4 (.build [(.int .i64 0),(.str []),(.str []), .nilslice, .nilslice] [(0,1,(k_ 3)),(2,1,(.const (.p (.str [97]))))]),o_ 5 (.buildSlice 5 1 [(.int .i64 0),(.str []),(.str []), .nilslice, .nilslice] [(0,5,(t_ 4))]),o_ 6 (.build [(.int .i64 0),(.str []),(.str []), .nilslice, .nilslice] [(0,1,(k_ 1)),(4,1,(t_ 5))]),o_ 1 (.alloc (some 1) [(.int .i64 0),(.str []),(.str []), .nilslice, .nilslice]),n_ (s3 5 1 6)]) (.seq (.reg [2] [o_ 7 (.build [(.int .i64 0),(.str []),(.str []), .nilslice, .nilslice] [(0,1,(k_ 3)),(2,1,(.const (.p (.str [98]))))]),o_ 8 (.buildSlice 5 1 [(.int .i64 0),(.str []),(.str []), .nilslice, .nilslice] [(0,5,(t_ 7))]),o_ 9 (.build [(.int .i64 0),(.str []),(.str []), .nilslice, .nilslice] [(0,1,(k_ 1)),(4,1,(t_ 8))]),o_ 2 (.alloc (some 2) [(.int .i64 0),(.str []),(.str []), .nilslice, .nilslice]),n_ (s3 5 2 9)]) (.seq (.reg [] [o_ 10 (lw 5 1),o_ 11 (lw 5 2),o_ 12 (cl F_Q9 [(t_ 10),(t_ 11)]),o_ 3 (mv 12)]) (.seq (.reg [] [o_ 13 (mv 3),o_ 14 (ll 13),o_ 15 (bj .eql 14 2),o_ 16 (mv 15),g_ 17 16 true (mv 3),g_ 18 16 true (.idxSlice 2 (t_ 17) (k_ 0)),g_ 19 16 true (lw 2 18),g_ 20 16 true (.build [(.int .i64 0),(.int .i64 0)] []),g_ 21 16 true (.eqv false ⟨true,[.int, .int]⟩ (t_ 19) (t_ 20)),o_ 22 (pa 16 21),o_ 23 (mv 22),g_ 24 23 true (mv 3),g_ 25 23 true (.idxSlice 2 (t_ 24) (k_ 1)),g_ 26 23 true (lw 2 25),g_ 27 23 true (.build [(.int .i64 0),(.int .i64 0)] [(0,1,(k_ 1)),(1,1,(k_ 1))]),g_ 28 23 true (.eqv false ⟨true,[.int, .int]⟩ (t_ 26) (t_ 27)),o_ 29 (pa 23 28),o_ 30 (mv 29),g_ 31 30 true (lw 5 1),g_ 32 30 true (lw 5 2),g_ 33 30 true (mv 3),g_ 34 30 true (cl F_Q10 [(t_ 31),(t_ 32),(t_ 33)]),o_ 35 (pa 30 34),o_ 0 (mv 35)]) .ret)))))
def i_Q11:IFun:=⟨0,36,[.tmp 0],c_Q11,true⟩
theorem ok_Q11:FunOK Try.prog F_Q11 i_Q11:=⟨Try.f11,[2,1],[],Try.func11,by kernel_rfl⟩
def l_Q12_0:ICode:=(.seq (.seq (.reg [] [o_ 15 (mv 4),o_ 16 (fa 4 1),o_ 17 (ld 16),o_ 18 (ll 17),o_ 19 (bi .lss 15 18)]) (.cond (t_ 19) .skip (.exit 0))) (.seq (.block 1 [] (.draw [] [o_ 22 (fa 4 3),s_ 23 (ld 22) [(22,0)],o_ 24 (fa 4 1),s_ 25 (ld 24) [(24,2)],o_ 26 (mv 4),s_ 27 (ix 5 25 26) [(25,3),(26,4)],s_ 28 (lw 5 27) [(27,5)],s_ 29 (cl F_Q12 [(t_ 28)]) [(28,6)],s_ 30 (.buildSlice 5 1 [(.int .i64 0),(.str []),(.str []), .nilslice, .nilslice] [(0,5,(t_ 29))]) [(29,7)],s_ 31 (.append 5 (t_ 23) (t_ 30)) [(23,1),(30,8)],o_ 32 (fa 4 3),e_ (s3 1 32 31) [(32,10),(31,9)]] [[⟨[0,1,2,3,4,5,6],[],(some 7)⟩,⟨[8],[1],(some 9)⟩,⟨[10],[],(some 11)⟩,⟨[],[],none⟩]])) (.reg [] [o_ 20 (mv 4),o_ 21 (bj .add 20 1),o_ 4 (mv 21)])))
@[reducible] def m_Q12_0:List Bool:=mb 34 [1,2,3,4]
@[reducible] def b_Q12_0:List Bool:=mb 34 [2,3]
def c_Q12:ICode:=(.seq (.reg [1,2] [o_ 1 (.box (some 1) 5 (t_ 0)),o_ 2 (.alloc (some 2) [(.int .i64 0),(.str []),(.str []), .nilslice, .nilslice])]) (.seq (.draw [3] [o_ 5 (fa 0 1),s_ 6 (ld 5) [(5,0)],o_ 7 (fa 1 1),s_ 8 (ld 7) [(7,2)],o_ 9 (fa 2 1),s_ 10 (ld 9) [(9,4)],o_ 11 (fa 3 1),s_ 12 (ld 11) [(11,6)],s_ 13 (cl F_Q35 [(t_ 12)]) [(12,7)],s_ 14 (.build [(.int .i64 0),(.str []),(.str []), .nilslice, .nilslice] [(0,1,(t_ 6)),(1,1,(t_ 8)),(2,1,(t_ 10)),(3,1,(t_ 13))]) [(6,1),(8,3),(10,5),(13,8)],o_ 3 (.alloc (some 3) [(.int .i64 0),(.str []),(.str []), .nilslice, .nilslice]),e_ (s3 5 3 14) [(3,10),(14,9)]] [[⟨[0,1,2,3,4,5,6,7,10],[],(some 8)⟩,⟨[9],[1,3,5,10],(some 11)⟩,⟨[],[],none⟩]]) (.seq (.seq (.reg [] [o_ 4 (.mov (k_ 0))]) (.block 0 b_Q12_0 (.loop m_Q12_0 l_Q12_0))) (.seq (.reg [] [o_ 33 (lw 5 3),n_ (s3 5 2 33)]) .ret))))
def i_Q12:IFun:=⟨1,34,[.cell 2 (some 5)],c_Q12,false⟩
theorem ok_Q12:FunOK Try.prog F_Q12 i_Q12:=⟨Try.f12,[3,2,1],[(0,m_Q12_0),(1000000,b_Q12_0)],Try.func12,by kernel_rfl⟩
def c_Q13:ICode:=(.seq (.reg [1] [o_ 1 (.box (some 1) 5 (t_ 0)),o_ 2 (.mov xn)]) (.seq (.reg [] [o_ 3 (lw 5 1),o_ 4 (cl F_Q36 [xn,(t_ 3),(k_ (-1)),(k_ 0),(k_ 0)]),o_ 2 (mv 4)]) .ret))
def i_Q13:IFun:=⟨1,5,[.tmp 2],c_Q13,false⟩
theorem ok_Q13:FunOK Try.prog F_Q13 i_Q13:=⟨Try.f13,[1],[],Try.func13,by kernel_rfl⟩
def c_Q15:ICode:=(.seq (.reg [] [o_ 4 (.mov (k_ 0))]) (.seq (.reg [] [o_ 6 (mv 0),o_ 7 (mv 1),o_ 8 (bi .rem 6 7),o_ 5 (mv 8)]) (.seq (.seq (.reg [] [o_ 9 (mv 5),o_ 10 (bj .lss 9 0)]) (.cond (t_ 10) (.reg [] [o_ 11 (mv 5),o_ 12 (mv 1),o_ 13 (bi .add 11 12),o_ 5 (mv 13)]) .skip)) (.seq (.reg [] [o_ 14 (mv 5),o_ 4 (mv 14)]) .ret))))
def i_Q15:IFun:=⟨2,15,[.tmp 4],c_Q15,true⟩
theorem ok_Q15:FunOK Try.prog F_Q15 i_Q15:=⟨Try.f15,[],[],Try.func15,by kernel_rfl⟩
def c_Q19:ICode:=(.seq (.reg [1] [o_ 1 (.box (some 1) 5 (t_ 0)),o_ 2 (.mov xf)]) (.seq (.reg [] [o_ 3 (fa 0 1),o_ 4 (ld 3),o_ 5 (bj .eql 4 1),o_ 6 (mv 5),g_ 7 6 true (lw 5 1),g_ 8 6 true (cl F_Q20 [(t_ 7)]),g_ 9 6 true (bj .leq 8 300),o_ 10 (pa 6 9),o_ 11 (mv 10),g_ 12 11 true (lw 5 1),g_ 13 11 true (cl F_Q37 [(t_ 12)]),g_ 14 11 true (bj .leq 13 60),o_ 15 (pa 11 14),o_ 16 (mv 15),g_ 17 16 true (lw 5 1),g_ 18 16 true (cl F_Q38 [(t_ 17),xt,xf]),o_ 19 (pa 16 18),o_ 2 (mv 19)]) .ret))
def i_Q19:IFun:=⟨1,20,[.tmp 2],c_Q19,true⟩
theorem ok_Q19:FunOK Try.prog F_Q19 i_Q19:=⟨Try.f19,[1],[],Try.func19,by kernel_rfl⟩
def l_Q20_0:ICode:=(.seq (.seq (.reg [] [o_ 5 (mv 4),o_ 6 (fa 4 1),o_ 7 (ld 6),o_ 8 (ll 7),o_ 9 (bi .lss 5 8)]) (.cond (t_ 9) .skip (.exit 0))) (.seq (.block 1 [] (.reg [] [o_ 12 (mv 3),o_ 13 (fa 4 1),o_ 14 (ld 13),o_ 15 (mv 4),o_ 16 (ix 5 14 15),o_ 17 (lw 5 16),o_ 18 (cl F_Q20 [(t_ 17)]),o_ 19 (bi .add 12 18),o_ 3 (mv 19)])) (.reg [] [o_ 10 (mv 4),o_ 11 (bj .add 10 1),o_ 4 (mv 11)])))
@[reducible] def m_Q20_0:List Bool:=mb 21 [1,3,4]
@[reducible] def b_Q20_0:List Bool:=mb 21 [3]
def c_Q20:ICode:=(.seq (.reg [1] [o_ 1 (.box (some 1) 5 (t_ 0)),o_ 2 (.mov (k_ 0))]) (.seq (.reg [] [o_ 3 (.mov (k_ 1))]) (.seq (.seq (.reg [] [o_ 4 (.mov (k_ 0))]) (.block 0 b_Q20_0 (.loop m_Q20_0 l_Q20_0))) (.seq (.reg [] [o_ 20 (mv 3),o_ 2 (mv 20)]) .ret))))
def i_Q20:IFun:=⟨1,21,[.tmp 2],c_Q20,true⟩
theorem ok_Q20:FunOK Try.prog F_Q20 i_Q20:=⟨Try.f20,[1],[(0,m_Q20_0),(1000000,b_Q20_0)],Try.func20,by kernel_rfl⟩
def c_Q21:ICode:=(.seq (.reg [1] [o_ 1 (.box (some 1) 5 (t_ 0)),o_ 2 (.mov xf)]) (.seq (.reg [] [o_ 3 (fa 0 1),o_ 4 (ld 3),o_ 5 (bj .eql 4 1),o_ 6 (mv 5),g_ 7 6 true (lw 5 1),g_ 8 6 true (cl F_Q39 [(t_ 7)]),g_ 9 6 true (bj .leq 8 300),o_ 10 (pa 6 9),o_ 11 (mv 10),g_ 12 11 true (lw 5 1),g_ 13 11 true (cl F_Q40 [(t_ 12)]),g_ 14 11 true (bj .leq 13 60),o_ 15 (pa 11 14),o_ 16 (mv 15),g_ 17 16 true (fa 1 1),g_ 18 16 true (ld 17),g_ 19 16 true (fa 2 1),g_ 20 16 true (ld 19),g_ 21 16 true (.buildSlice 1 2 [(.str [])] [(0,1,(t_ 18)),(1,1,(t_ 20))]),g_ 22 16 true (cl F_Q41 [(t_ 21)]),o_ 23 (pa 16 22),o_ 24 (mv 23),g_ 25 24 true (fa 3 1),g_ 26 24 true (ld 25),g_ 27 24 true (ll 26),g_ 28 24 true (bj .eql 27 0),o_ 29 (pa 24 28),o_ 30 (mv 29),g_ 31 30 true (lw 5 1),g_ 32 30 true (cl F_Q42 [(t_ 31)]),o_ 33 (pa 30 32),o_ 2 (mv 33)]) .ret))
def i_Q21:IFun:=⟨1,34,[.tmp 2],c_Q21,true⟩
theorem ok_Q21:FunOK Try.prog F_Q21 i_Q21:=⟨Try.f21,[1],[],Try.func21,by kernel_rfl⟩
def l_Q22_0:ICode:=(.seq (.seq (.reg [] [o_ 11 (mv 4),o_ 12 (bj .gtr 11 0)]) (.cond (t_ 12) .skip (.exit 0))) (.seq (.block 1 [] (.seq (.draw [] [o_ 15 (ld 3),o_ 16 (ld 3),o_ 17 (mv 4),s_ 18 (ix 10 16 17) [(16,1),(17,2)],s_ 19 (fa 0 18) [(18,3)],s_ 20 (ld 19) [(19,4)],s_ 21 (ix 10 15 20) [(15,0),(20,5)],s_ 5 (mv 21) [(21,6)]] [[⟨[0,1,2,3,4,5,6,7],[],none⟩]]) (.seq (.draw [] [o_ 22 (mv 5),s_ 23 (nc 22) [(22,0)],s_ 24 (fa 1 23) [(23,1)],s_ 25 (ld 24) [(24,2)],o_ 26 (ld 3),o_ 27 (mv 4),s_ 28 (ix 10 26 27) [(26,4),(27,5)],s_ 29 (fa 1 28) [(28,6)],s_ 30 (ld 29) [(29,7)],s_ 31 (bi .add 25 30) [(25,3),(30,8)],s_ 32 (nc 22) [(22,0)],s_ 33 (fa 1 32) [(32,10)],e_ (s3 1 33 31) [(33,11),(31,9)]] [[⟨[0,1,2,3,4,5,6,7,8,9,10,11],[],(some 12)⟩,⟨[],[],none⟩]]) (.draw [] [o_ 34 (mv 5),o_ 35 (mv 5),s_ 36 (nc 35) [(35,1)],s_ 37 (fa 3 36) [(36,2)],s_ 38 (ld 37) [(37,3)],o_ 39 (ld 3),o_ 40 (mv 4),s_ 41 (ix 10 39 40) [(39,5),(40,6)],s_ 42 (fa 3 41) [(41,7)],s_ 43 (ld 42) [(42,8)],s_ 44 (bj .add 43 1) [(43,9)],s_ 45 (.maxi [(t_ 38),(t_ 44)]) [(38,4),(44,10)],s_ 46 (nc 34) [(34,0)],s_ 47 (fa 3 46) [(46,12)],e_ (s3 1 47 45) [(47,13),(45,11)]] [[⟨[0,1,2,3,4,5,6,7,8,9,10,11,12,13],[],(some 14)⟩,⟨[],[],none⟩]])))) (.reg [] [o_ 13 (mv 4),o_ 14 (bj .sub 13 1),o_ 4 (mv 14)])))
@[reducible] def m_Q22_0:List Bool:=mb 49 [3,4]
@[reducible] def b_Q22_0:List Bool:=mb 49 [3]
def c_Q22:ICode:=(.seq (.reg [] [o_ 1 (.box none 5 (t_ 0)),o_ 2 (.mov xn)]) (.seq (.reg [] [o_ 3 (.alloc none [.nilslice])]) (.seq (.reg [] [o_ 6 (.mkFunc F_Q44 [(t_ 3)]),o_ 7 (cl F_Q43 [(t_ 1),(t_ 6)])]) (.seq (.seq (.reg [] [o_ 8 (ld 3),o_ 9 (ll 8),o_ 10 (bj .sub 9 1),o_ 4 (mv 10)]) (.block 0 b_Q22_0 (.loop m_Q22_0 l_Q22_0))) (.seq (.reg [] [o_ 48 (ld 3),o_ 2 (mv 48)]) .ret)))))
def i_Q22:IFun:=⟨1,49,[.tmp 2],c_Q22,true⟩
theorem ok_Q22:FunOK Try.prog F_Q22 i_Q22:=⟨Try.f22,[],[(0,m_Q22_0),(1000000,b_Q22_0)],Try.func22,by kernel_rfl⟩
def l_Q23_0:ICode:=(.seq (.reg [] [o_ 12 (bi .lss 11 10)]) (.seq (.cond (t_ 12) .skip (.exit 0)) (.seq (.block 1 [] (.seq (.reg [5] [o_ 13 (mv 11),o_ 14 (ix 10 9 11),o_ 15 (lw 10 14),o_ 5 (.alloc (some 5) [(.int .i64 0),(.int .i64 0),(.int .i64 0),(.int .i64 0),(.int .i64 0),(.int .i64 0),(.str []),(.str []), .nilslice, .nilslice]),o_ 4 (mv 13),n_ (s3 10 5 15)]) (.seq (.reg [] [o_ 16 (fa 0 5),o_ 17 (ld 16),o_ 18 (bj .geq 17 0)]) (.cond (t_ 18) (.draw [] [o_ 19 (mv 3),o_ 20 (fa 0 5),s_ 21 (ld 20) [(20,1)],o_ 22 (mv 3),o_ 23 (fa 0 5),s_ 24 (ld 23) [(23,4)],s_ 25 (ix 1 22 24) [(22,3),(24,5)],s_ 26 (ld 25) [(25,6)],o_ 27 (mv 4),s_ 28 (.buildSlice 1 1 [(.int .i64 0)] [(0,1,(t_ 27))]) [(27,8)],s_ 29 (.append 1 (t_ 26) (t_ 28)) [(26,7),(28,9)],s_ 30 (ix 1 19 21) [(19,0),(21,2)],e_ (s3 1 30 29) [(30,11),(29,10)]] [[⟨[0,1,2,3,4,5,6,7,8,9],[],(some 10)⟩,⟨[11],[2],(some 12)⟩,⟨[],[],none⟩]]) .skip)))) (.reg [] [o_ 31 (bj .add 11 1),o_ 11 (mv 31)]))))
@[reducible] def m_Q23_0:List Bool:=mb 33 [3,9,10,11]
@[reducible] def b_Q23_0:List Bool:=mb 33 [3]
def c_Q23:ICode:=(.seq (.reg [] [o_ 2 (.mov xn)]) (.seq (.reg [] [o_ 6 (mv 0),o_ 7 (ll 6),o_ 8 (.mkSlice 1 [.nilslice] (t_ 7) (t_ 7)),o_ 3 (mv 8)]) (.seq (.seq (.reg [] [o_ 9 (mv 0),o_ 10 (ll 9),o_ 11 (.mov (k_ 0))]) (.block 0 b_Q23_0 (.loop m_Q23_0 l_Q23_0))) (.seq (.reg [] [o_ 32 (mv 3),o_ 2 (mv 32)]) .ret))))
def i_Q23:IFun:=⟨1,33,[.tmp 2],c_Q23,true⟩
theorem ok_Q23:FunOK Try.prog F_Q23 i_Q23:=⟨Try.f23,[5],[(0,m_Q23_0),(1000000,b_Q23_0)],Try.func23,by kernel_rfl⟩
def l_Q24_0:ICode:=(.seq (.seq (.reg [] [o_ 38 (mv 12),o_ 39 (ld 8),o_ 40 (nc 39),o_ 41 (fa 5 40),o_ 42 (ld 41),o_ 43 (ll 42),o_ 44 (bi .lss 38 43)]) (.cond (t_ 44) .skip (.exit 0))) (.seq (.block 1 [] (.reg [] [o_ 47 (mv 11),o_ 48 (ld 8),o_ 49 (nc 48),o_ 50 (fa 6 49),o_ 51 (ld 50),o_ 52 (mv 12),o_ 53 (ix 2 51 52),o_ 54 (lw 2 53),o_ 56 (mv 12),o_ 57 (.buildSlice 1 1 [(.int .i64 0)] [(0,1,(t_ 56))]),o_ 58 (.mapEnt (.p .nilslice) ⟨true,[.int, .int]⟩ (t_ 47) (t_ 54)),o_ 55 (et 58 0),o_ 59 (.append 1 (t_ 55) (t_ 57)),o_ 60 (et 58 1),n_ (.entSt (t_ 47) (t_ 60) (t_ 59))])) (.reg [] [o_ 45 (mv 12),o_ 46 (bj .add 45 1),o_ 12 (mv 46)])))
@[reducible] def m_Q24_0:List Bool:=mb 167 [2,7,8,9,10,11,12]
@[reducible] def b_Q24_0:List Bool:=mb 167 [2,7,8,9,10,11]
def l_Q24_1:ICode:=(.seq (.reg [] [o_ 124 (bi .lss 123 122)]) (.seq (.cond (t_ 124) .skip (.exit 6)) (.seq (.block 7 [] (.seq (.reg [] [o_ 125 (ix 1 121 123),o_ 126 (ld 125),o_ 17 (mv 126)]) (.seq (.draw [] [o_ 127 (ld 8),s_ 128 (nc 127) [(127,0)],s_ 129 (fa 7 128) [(128,1)],s_ 130 (ld 129) [(129,2)],o_ 131 (mv 17),s_ 132 (ix 1 130 131) [(130,3),(131,4)],s_ 133 (ld 132) [(132,5)],s_ 134 (.not (t_ 133)) [(133,6)],s_ 135 (mv 134) [(134,7)],q_ 136 135 true (ld 8) [(135,8)],q_ 137 135 true (nc 136) [(136,9),(135,8)],q_ 138 135 true (fa 6 137) [(137,10),(135,8)],q_ 139 135 true (ld 138) [(138,11),(135,8)],q_ 140 135 true (mv 17) [(135,8)],q_ 141 135 true (ix 2 139 140) [(139,12),(140,13),(135,8)],q_ 142 135 true (lw 2 141) [(141,14),(135,8)],q_ 143 135 true (ld 7) [(135,8)],q_ 144 135 true (nc 143) [(143,16),(135,8)],q_ 145 135 true (fa 6 144) [(144,17),(135,8)],q_ 146 135 true (ld 145) [(145,18),(135,8)],q_ 147 135 true (mv 14) [(135,8)],q_ 148 135 true (ix 2 146 147) [(146,19),(147,20),(135,8)],q_ 149 135 true (lw 2 148) [(148,21),(135,8)],⟨(some 150), .eqv false ⟨true,[.int, .int]⟩ (t_ 142) (t_ 149),(some (135,true)),[(142,15),(149,22),(135,8)]⟩,s_ 151 (pa 135 150) [(135,8),(150,23)],s_ 152 (mv 151) [(151,24)],q_ 153 152 true (lw 5 15) [(152,25)],q_ 154 152 true (ld 8) [(152,25)],q_ 155 152 true (mv 17) [(152,25)],q_ 156 152 true (cl F_Q49 [(t_ 154),(t_ 155)]) [(154,27),(155,28),(152,25)],q_ 157 152 true (cl F_Q48 [(t_ 153),(t_ 156)]) [(153,26),(156,29),(152,25)],s_ 158 (pa 152 157) [(152,25),(157,30)]] [[⟨[0,1,2,3,4,5,6,7,8,9,10,11,12,13,14,15,16,17,18,19,20,21,22,23,24,25,26,27,28],[],(some 29)⟩,⟨[],[26],(some 30)⟩,⟨[31],[],none⟩]]) (.cond (t_ 158) (.seq (.reg [] [o_ 159 (mv 10),o_ 160 (mv 14),o_ 161 (mv 17),o_ 162 (.call (t_ 159) [(t_ 160),(t_ 161)])]) (.exit 6)) .skip)))) (.reg [] [o_ 163 (bj .add 123 1),o_ 123 (mv 163)]))))
@[reducible] def m_Q24_1:List Bool:=mb 167 [2,7,8,9,10,11,13,14,15,121,122,123]
@[reducible] def b_Q24_6:List Bool:=mb 167 [2,7,8,9,10,11,13,14]
def l_Q24_2:ICode:=(.seq (.seq (.reg [] [o_ 82 (mv 14),o_ 83 (ld 7),o_ 84 (nc 83),o_ 85 (fa 5 84),o_ 86 (ld 85),o_ 87 (ll 86),o_ 88 (bi .lss 82 87)]) (.cond (t_ 88) .skip (.exit 4))) (.seq (.block 5 [] (.seq (.seq (.reg [] [o_ 91 (ld 7),o_ 92 (nc 91),o_ 93 (fa 7 92),o_ 94 (ld 93),o_ 95 (mv 14),o_ 96 (ix 1 94 95),o_ 97 (ld 96),o_ 98 (mv 97),g_ 99 98 false (ld 7),g_ 100 98 false (nc 99),g_ 101 98 false (fa 5 100),g_ 102 98 false (ld 101),g_ 103 98 false (mv 14),g_ 104 98 false (ix 10 102 103),g_ 105 98 false (fa 3 104),g_ 106 98 false (ld 105),g_ 107 98 false (mv 13),g_ 108 98 false (bi .neq 106 107),o_ 109 (po 98 108)]) (.cond (t_ 109) (.exit 5) .skip)) (.seq (.reg [15] [o_ 110 (ld 7),o_ 111 (mv 14),o_ 112 (cl F_Q49 [(t_ 110),(t_ 111)]),o_ 15 (.alloc (some 15) [(.int .i64 0),(.str []),(.str []), .nilslice, .nilslice]),n_ (s3 5 15 112)]) (.seq (.reg [] [o_ 113 (mv 11),o_ 114 (ld 7),o_ 115 (nc 114),o_ 116 (fa 6 115),o_ 117 (ld 116),o_ 118 (mv 14),o_ 119 (ix 2 117 118),o_ 120 (lw 2 119),o_ 121 (.lookup false (.p .nilslice) ⟨true,[.int, .int]⟩ (t_ 113) (t_ 120)),o_ 122 (ll 121),o_ 123 (.mov (k_ 0))]) (.block 6 b_Q24_6 (.loop m_Q24_1 l_Q24_1)))))) (.reg [] [o_ 89 (mv 14),o_ 90 (bj .add 89 1),o_ 14 (mv 90)])))
@[reducible] def m_Q24_2:List Bool:=mb 167 [2,7,8,9,10,11,13,14]
@[reducible] def b_Q24_4:List Bool:=mb 167 [2,7,8,9,10,11,13]
def l_Q24_3:ICode:=(.seq (.seq (.reg [] [o_ 76 (mv 13),o_ 77 (mv 2),o_ 78 (.maxi [(k_ 1),(t_ 77)]),o_ 79 (bi .geq 76 78)]) (.cond (t_ 79) .skip (.exit 2))) (.seq (.block 3 [] (.seq (.reg [] [o_ 14 (.mov (k_ 1))]) (.block 4 b_Q24_4 (.loop m_Q24_2 l_Q24_2)))) (.reg [] [o_ 80 (mv 13),o_ 81 (bj .sub 80 1),o_ 13 (mv 81)])))
@[reducible] def m_Q24_3:List Bool:=mb 167 [2,7,8,9,10,11,13]
@[reducible] def b_Q24_2:List Bool:=mb 167 [9]
def c_Q24:ICode:=(.seq (.reg [3,4] [o_ 3 (.box (some 3) 5 (t_ 0)),o_ 4 (.box (some 4) 5 (t_ 1)),o_ 6 (.mov xn)]) (.seq (.seq (.reg [] [o_ 18 (lw 5 3),o_ 19 (cl F_Q21 [(t_ 18)]),o_ 20 (.not (t_ 19)),o_ 21 (mv 20),g_ 22 21 false (lw 5 4),g_ 23 21 false (cl F_Q21 [(t_ 22)]),g_ 24 21 false (.not (t_ 23)),o_ 25 (po 21 24)]) (.cond (t_ 25) (.seq (.reg [] [o_ 6 (.mov xn)]) .ret) .skip)) (.seq (.draw [] [o_ 26 (lw 5 3),s_ 27 (cl F_Q46 [(t_ 26)]) [(26,0)],o_ 28 (lw 5 4),s_ 29 (cl F_Q46 [(t_ 28)]) [(28,2)],o_ 7 (.alloc none [.nilptr]),o_ 8 (.alloc none [.nilptr]),e_ (s3 1 7 27) [(7,4),(27,1)],e_ (s3 1 8 29) [(8,5),(29,3)]] [[⟨[0,2,4,5],[],(some 1)⟩,⟨[],[2,4,5],(some 3)⟩,⟨[],[4,5],(some 6)⟩,⟨[],[],(some 7)⟩,⟨[],[],none⟩]]) (.seq (.reg [] [o_ 9 (.alloc none [.nilslice])]) (.seq (.reg [] [o_ 30 (.mkFunc F_Q47 [(t_ 7),(t_ 9),(t_ 8)]),o_ 10 (mv 30)]) (.seq (.seq (.reg [] [o_ 31 (lw 5 3),o_ 32 (lw 5 4),o_ 33 (cl F_Q48 [(t_ 31),(t_ 32)])]) (.cond (t_ 33) (.seq (.reg [] [o_ 34 (mv 10),o_ 35 (.call (t_ 34) [(k_ 0),(k_ 0)])]) (.seq (.reg [] [o_ 36 (ld 9),o_ 6 (mv 36)]) .ret)) .skip)) (.seq (.reg [] [o_ 37 (.mkMap),o_ 11 (mv 37)]) (.seq (.seq (.reg [] [o_ 12 (.mov (k_ 1))]) (.block 0 b_Q24_0 (.loop m_Q24_0 l_Q24_0))) (.seq (.seq (.draw [] [o_ 61 (ld 7),s_ 62 (nc 61) [(61,0)],s_ 63 (fa 5 62) [(62,1)],s_ 64 (ld 63) [(63,2)],s_ 65 (.idxSlice 10 (t_ 64) (k_ 0)) [(64,3)],s_ 66 (fa 3 65) [(65,4)],s_ 67 (ld 66) [(66,5)],o_ 68 (ld 8),s_ 69 (nc 68) [(68,7)],s_ 70 (fa 5 69) [(69,8)],s_ 71 (ld 70) [(70,9)],s_ 72 (.idxSlice 10 (t_ 71) (k_ 0)) [(71,10)],s_ 73 (fa 3 72) [(72,11)],s_ 74 (ld 73) [(73,12)],s_ 75 (.mini [(t_ 67),(t_ 74)]) [(67,6),(74,13)],s_ 13 (mv 75) [(75,14)]] [[⟨[0,1,2,3,4,5,6,7,8,9,10,11,12,13,14,15],[],none⟩]]) (.block 2 b_Q24_2 (.loop m_Q24_3 l_Q24_3))) (.seq (.reg [] [o_ 164 (ld 9),o_ 165 (cl F_Q31 [(t_ 164),(.func F_Q50)])]) (.seq (.reg [] [o_ 166 (ld 9),o_ 6 (mv 166)]) .ret)))))))))))
def i_Q24:IFun:=⟨3,167,[.tmp 6],c_Q24,true⟩
theorem ok_Q24:FunOK Try.prog F_Q24 i_Q24:=⟨Try.f24,[15,4,3],[(0,m_Q24_0),(1000000,b_Q24_0),(6,m_Q24_1),(1000006,b_Q24_6),(4,b_Q24_6),(1000004,b_Q24_4),(2,b_Q24_4),(1000002,b_Q24_2)],Try.func24,by kernel_rfl⟩
def c_Q25:ICode:=(.draw [] [o_ 6 (mv 0),s_ 7 (nc 6) [(6,0)],s_ 8 (fa 14 7) [(7,1)],s_ 9 (ld 8) [(8,2)],o_ 10 (mv 1),o_ 11 (mv 0),s_ 12 (nc 11) [(11,5)],s_ 13 (fa 15 12) [(12,6)],s_ 14 (ld 13) [(13,7)],o_ 15 (mv 2),o_ 16 (mv 2),o_ 17 (mv 1),s_ 18 (.mapEnt (J4 0) ⟨false,[.int]⟩ (t_ 9) (t_ 10)) [(9,3),(10,4)],s_ 19 (et 18 1) [(18,12)],e_ (.entSt (t_ 9) (t_ 19) (t_ 16)) [(9,3),(19,13),(16,10)],s_ 20 (.mapEnt (J4 0) ⟨false,[.int]⟩ (t_ 14) (t_ 15)) [(14,8),(15,9)],s_ 21 (et 20 1) [(20,15)],e_ (.entSt (t_ 14) (t_ 21) (t_ 17)) [(14,8),(21,16),(17,11)]] [[⟨[0,1,2,3,4,5,6,7,8,9,10,11],[],(some 12)⟩,⟨[13],[],(some 14)⟩,⟨[],[],(some 15)⟩,⟨[16],[],(some 17)⟩,⟨[],[],none⟩]])
def i_Q25:IFun:=⟨3,22,[],c_Q25,false⟩
theorem ok_Q25:FunOK Try.prog F_Q25 i_Q25:=⟨Try.f25,[],[],Try.func25,by kernel_rfl⟩
def l_Q26_0:ICode:=(.seq (.seq (.reg [] [o_ 16 (mv 5),o_ 17 (ll 16),o_ 18 (bj .gtr 17 0)]) (.cond (t_ 18) .skip (.exit 2))) (.block 3 [] (.seq (.reg [] [o_ 19 (mv 5),o_ 20 (mv 5),o_ 21 (ll 20),o_ 22 (bj .sub 21 1),o_ 23 (ix 1 19 22),o_ 24 (ld 23),o_ 7 (mv 24)]) (.seq (.seq (.reg [] [o_ 25 (mv 6),o_ 26 (mv 7),o_ 27 (mv 3),o_ 28 (mv 7),o_ 29 (ix 10 27 28),o_ 30 (fa 1 29),o_ 31 (ld 30),o_ 32 (bi .add 26 31),o_ 33 (bi .lss 25 32)]) (.cond (t_ 33) (.exit 2) .skip)) (.seq (.reg [] [o_ 34 (mv 4),o_ 35 (mv 7),o_ 36 (.buildSlice 1 1 [(.int .i64 0)] [(0,1,(t_ 35))]),o_ 37 (.append 1 (t_ 34) (t_ 36)),o_ 4 (mv 37)]) (.reg [] [o_ 38 (mv 5),o_ 39 (mv 5),o_ 40 (ll 39),o_ 41 (bj .sub 40 1),o_ 42 (.sliceSl 1 (t_ 38) none (some (t_ 41))),o_ 5 (mv 42)]))))))
@[reducible] def m_Q26_0:List Bool:=mb 49 [3,4,5,6,12,13]
@[reducible] def b_Q26_2:List Bool:=mb 49 [3,4,5,6,12,13]
def l_Q26_1:ICode:=(.seq (.reg [] [o_ 14 (bi .lss 13 12)]) (.seq (.cond (t_ 14) .skip (.exit 0)) (.seq (.block 1 [] (.seq (.reg [] [o_ 15 (mv 13),o_ 6 (mv 15)]) (.seq (.block 2 b_Q26_2 (.loop m_Q26_0 l_Q26_0)) (.reg [] [o_ 43 (mv 5),o_ 44 (mv 6),o_ 45 (.buildSlice 1 1 [(.int .i64 0)] [(0,1,(t_ 44))]),o_ 46 (.append 1 (t_ 43) (t_ 45)),o_ 5 (mv 46)])))) (.reg [] [o_ 47 (bj .add 13 1),o_ 13 (mv 47)]))))
@[reducible] def m_Q26_1:List Bool:=mb 49 [3,4,5,12,13]
@[reducible] def b_Q26_0:List Bool:=mb 49 [4]
def c_Q26:ICode:=(.seq (.reg [1] [o_ 1 (.box (some 1) 5 (t_ 0)),o_ 2 (.mov xn)]) (.seq (.reg [] [o_ 8 (lw 5 1),o_ 9 (cl F_Q22 [(t_ 8)]),o_ 3 (mv 9)]) (.seq (.reg [] [o_ 4 (.mov xn),o_ 5 (.mov xn)]) (.seq (.seq (.reg [] [o_ 10 (mv 3),o_ 11 (ll 10),o_ 12 (bj .add 11 1),o_ 13 (.mov (k_ 0))]) (.block 0 b_Q26_0 (.loop m_Q26_1 l_Q26_1))) (.seq (.reg [] [o_ 48 (mv 4),o_ 2 (mv 48)]) .ret)))))
def i_Q26:IFun:=⟨1,49,[.tmp 2],c_Q26,true⟩
theorem ok_Q26:FunOK Try.prog F_Q26 i_Q26:=⟨Try.f26,[1],[(2,m_Q26_0),(1000002,m_Q26_0),(0,m_Q26_1),(1000000,b_Q26_0)],Try.func26,by kernel_rfl⟩
def l_Q27_0:ICode:=(.seq (.reg [] [o_ 19 (bi .lss 18 17)]) (.seq (.cond (t_ 19) .skip (.exit 0)) (.seq (.block 1 [] (.seq (.reg [] [o_ 20 (mv 18),o_ 8 (mv 20)]) (.seq (.seq (.draw [] [o_ 21 (mv 5),o_ 22 (mv 8),s_ 23 (.lookup false (J4 0) ⟨false,[.int]⟩ (t_ 21) (t_ 22)) [(21,0),(22,1)],s_ 24 (bj .eql 23 0) [(23,2)],s_ 25 (mv 24) [(24,3)],q_ 26 25 false (ld 2) [(25,4)],q_ 27 25 false (ld 3) [(25,4)],q_ 28 25 false (mv 8) [(25,4)],q_ 29 25 false (cl F_Q29 [(t_ 26),(t_ 27),(t_ 28)]) [(26,5),(27,6),(28,7),(25,4)],q_ 30 25 false (.not (t_ 29)) [(29,8),(25,4)],s_ 31 (po 25 30) [(25,4),(30,9)],s_ 32 (mv 31) [(31,10)],q_ 33 32 false (ld 2) [(32,11)],q_ 34 32 false (nc 33) [(33,12),(32,11)],q_ 35 32 false (fa 10 34) [(34,13),(32,11)],q_ 36 32 false (ld 35) [(35,14),(32,11)],q_ 37 32 false (ld 3) [(32,11)],q_ 38 32 false (ix 10 36 37) [(36,15),(37,16),(32,11)],q_ 39 32 false (lw 10 38) [(38,17),(32,11)],q_ 40 32 false (cl F_Q34 [(t_ 39)]) [(39,18),(32,11)],q_ 41 32 false (ld 2) [(32,11)],q_ 42 32 false (nc 41) [(41,20),(32,11)],q_ 43 32 false (fa 11 42) [(42,21),(32,11)],q_ 44 32 false (ld 43) [(43,22),(32,11)],q_ 45 32 false (mv 8) [(32,11)],q_ 46 32 false (ix 10 44 45) [(44,23),(45,24),(32,11)],q_ 47 32 false (lw 10 46) [(46,25),(32,11)],q_ 48 32 false (cl F_Q34 [(t_ 47)]) [(47,26),(32,11)],⟨(some 49), .eqv true ⟨true,[.int, .str]⟩ (t_ 40) (t_ 48),(some (32,false)),[(40,19),(48,27),(32,11)]⟩,s_ 50 (po 32 49) [(32,11),(49,28)]] [[⟨[0,1,2,3,4,5,6,7],[],(some 8)⟩,⟨[9,10,11,12,13,14,15,16,17,18,20,21,22,23,24,25,26],[],(some 19)⟩,⟨[],[20,23,26],(some 27)⟩,⟨[28,29],[],none⟩]]) (.cond (t_ 50) (.exit 1) .skip)) (.seq (.draw [] [o_ 51 (mv 7),s_ 52 (bj .lss 51 0) [(51,0)],s_ 53 (mv 52) [(52,1)],q_ 54 53 false (mv 5) [(53,2)],q_ 55 53 false (mv 8) [(53,2)],⟨(some 56), .lookup false (J4 0) ⟨false,[.int]⟩ (t_ 54) (t_ 55),(some (53,false)),[(54,3),(55,4),(53,2)]⟩,q_ 57 53 false (mv 6) [(53,2)],q_ 58 53 false (mv 8) [(53,2)],q_ 59 53 false (.call (t_ 57) [(t_ 58)]) [(57,6),(58,7),(53,2)],q_ 60 53 false (mv 5) [(53,2)],q_ 61 53 false (mv 7) [(53,2)],⟨(some 62), .lookup false (J4 0) ⟨false,[.int]⟩ (t_ 60) (t_ 61),(some (53,false)),[(60,9),(61,10),(53,2)]⟩,q_ 63 53 false (mv 6) [(53,2)],q_ 64 53 false (mv 7) [(53,2)],q_ 65 53 false (.call (t_ 63) [(t_ 64)]) [(63,12),(64,13),(53,2)],
 q_ 66 53 false (cl F_Q53 [(t_ 56),(t_ 59),(t_ 62),(t_ 65)]) [(56,5),(59,8),(62,11),(65,14),(53,2)],q_ 67 53 false (bj .gtr 66 0) [(66,15),(53,2)],s_ 68 (po 53 67) [(53,2),(67,16)]] [[⟨[0,1,2,3,4,5,6,7,9,10,11,12,13],[],(some 8)⟩,⟨[],[5,11],(some 14)⟩,⟨[],[5,11],(some 15)⟩,⟨[16,17],[],none⟩]]) (.cond (t_ 68) (.reg [] [o_ 69 (mv 8),o_ 7 (mv 69)]) .skip))))) (.reg [] [o_ 70 (bj .add 18 1),o_ 18 (mv 70)]))))
@[reducible] def m_Q27_0:List Bool:=mb 84 [2,3,5,6,7,17,18]
@[reducible] def b_Q27_0:List Bool:=mb 84 [5,6,7]
def c_Q27:ICode:=(.seq (.reg [] [o_ 2 (.box none 1 (t_ 0)),o_ 3 (.box none 1 (t_ 1)),o_ 4 (.mov (k_ 0))]) (.seq (.reg [] [o_ 9 (ld 2),o_ 10 (ld 3),o_ 11 (cl F_Q51 [(t_ 9),(t_ 10)]),o_ 5 (mv 11)]) (.seq (.reg [] [o_ 12 (.mkFunc F_Q52 [(t_ 2),(t_ 3)]),o_ 6 (mv 12)]) (.seq (.reg [] [o_ 7 (.mov (k_ (-1)))]) (.seq (.seq (.reg [] [o_ 13 (ld 2),o_ 14 (nc 13),o_ 15 (fa 11 14),o_ 16 (ld 15),o_ 17 (ll 16),o_ 18 (.mov (k_ 0))]) (.block 0 b_Q27_0 (.loop m_Q27_0 l_Q27_0))) (.seq (.seq (.draw [] [o_ 71 (mv 7),s_ 72 (bj .lss 71 0) [(71,0)],s_ 73 (mv 72) [(72,1)],q_ 74 73 false (mv 5) [(73,2)],q_ 75 73 false (mv 7) [(73,2)],⟨(some 76), .lookup false (J4 0) ⟨false,[.int]⟩ (t_ 74) (t_ 75),(some (73,false)),[(74,3),(75,4),(73,2)]⟩,q_ 77 73 false (mv 6) [(73,2)],q_ 78 73 false (mv 7) [(73,2)],q_ 79 73 false (.call (t_ 77) [(t_ 78)]) [(77,6),(78,7),(73,2)],q_ 80 73 false (cl F_Q54 [(t_ 76),(t_ 79)]) [(76,5),(79,8),(73,2)],q_ 81 73 false (.not (t_ 80)) [(80,9),(73,2)],s_ 82 (po 73 81) [(73,2),(81,10)]] [[⟨[0,1,2,3,4,5,6,7],[],(some 8)⟩,⟨[],[5],(some 9)⟩,⟨[10,11],[],none⟩]]) (.cond (t_ 82) (.seq (.reg [] [o_ 4 (.mov (k_ (-1)))]) .ret) .skip)) (.seq (.reg [] [o_ 83 (mv 7),o_ 4 (mv 83)]) .ret)))))))
def i_Q27:IFun:=⟨2,84,[.tmp 4],c_Q27,false⟩
theorem ok_Q27:FunOK Try.prog F_Q27 i_Q27:=⟨Try.f27,[],[(0,m_Q27_0),(1000000,b_Q27_0)],Try.func27,by kernel_rfl⟩
def l_Q28_0:ICode:=(.seq (.reg [] [o_ 41 (bi .lss 40 39)]) (.seq (.cond (t_ 41) .skip (.exit 0)) (.seq (.block 1 [] (.seq (.reg [13] [o_ 42 (ix 2 38 40),o_ 43 (lw 2 42),o_ 13 (.alloc (some 13) [(.int .i64 0),(.int .i64 0)]),n_ (s3 2 13 43)]) (.seq (.reg [] [o_ 44 (mv 0),o_ 45 (mv 1),o_ 46 (fa 0 13),o_ 47 (ld 46),o_ 48 (bi .add 45 47),o_ 49 (mv 2),o_ 50 (fa 1 13),o_ 51 (ld 50),o_ 52 (bi .add 49 51),o_ 53 (cl F_Q29 [(t_ 44),(t_ 48),(t_ 52)])]) (.cond (t_ 53) (.reg [] [o_ 54 (mv 0),o_ 55 (mv 1),o_ 56 (fa 0 13),o_ 57 (ld 56),o_ 58 (bi .add 55 57),o_ 59 (mv 2),o_ 60 (fa 1 13),o_ 61 (ld 60),o_ 62 (bi .add 59 61),o_ 63 (cl F_Q25 [(t_ 54),(t_ 58),(t_ 62)])]) .skip)))) (.reg [] [o_ 64 (bj .add 40 1),o_ 40 (mv 64)]))))
@[reducible] def m_Q28_0:List Bool:=mb 65 [0,1,2,38,39,40]
@[reducible] def b_Q28_0:List Bool:=mb 65 []
def c_Q28:ICode:=(.seq (.reg [6] [o_ 15 (mv 0),o_ 16 (nc 15),o_ 17 (fa 0 16),o_ 18 (lw 5 17),o_ 19 (mv 1),o_ 20 (cl F_Q55 [(t_ 18),(t_ 19)]),o_ 14 (mv 20),o_ 21 (et 14 0),o_ 22 (et 14 1),o_ 6 (.alloc (some 6) [(.int .i64 0),(.str []),(.str []), .nilslice, .nilslice]),n_ (s3 5 6 21),o_ 7 (mv 22)]) (.seq (.reg [8] [o_ 24 (mv 0),o_ 25 (nc 24),o_ 26 (fa 5 25),o_ 27 (lw 5 26),o_ 28 (mv 2),o_ 29 (cl F_Q55 [(t_ 27),(t_ 28)]),o_ 23 (mv 29),o_ 30 (et 23 0),o_ 31 (et 23 1),o_ 8 (.alloc (some 8) [(.int .i64 0),(.str []),(.str []), .nilslice, .nilslice]),n_ (s3 5 8 30),o_ 9 (mv 31)]) (.seq (.reg [] [o_ 33 (lw 5 6),o_ 34 (lw 5 8),o_ 35 (cl F_Q56 [(t_ 33),(t_ 34)]),o_ 32 (mv 35),o_ 36 (et 32 0),o_ 37 (et 32 1),o_ 10 (mv 36),o_ 11 (mv 37)]) (.seq (.reg [] [o_ 38 (mv 10),o_ 39 (ll 38),o_ 40 (.mov (k_ 0))]) (.block 0 b_Q28_0 (.loop m_Q28_0 l_Q28_0))))))
def i_Q28:IFun:=⟨3,65,[],c_Q28,false⟩
theorem ok_Q28:FunOK Try.prog F_Q28 i_Q28:=⟨Try.f28,[13,8,6],[(0,m_Q28_0),(1000000,b_Q28_0)],Try.func28,by kernel_rfl⟩
def c_Q29:ICode:=(.seq (.reg [] [o_ 6 (.mov xf)]) (.seq (.reg [] [o_ 12 (mv 0),o_ 13 (nc 12),o_ 14 (fa 14 13),o_ 15 (ld 14),o_ 16 (mv 1),o_ 17 (.lookup true (J4 0) ⟨false,[.int]⟩ (t_ 15) (t_ 16)),o_ 11 (mv 17),o_ 18 (et 11 0),o_ 19 (et 11 1),o_ 7 (mv 18),o_ 8 (mv 19)]) (.seq (.reg [] [o_ 21 (mv 0),o_ 22 (nc 21),o_ 23 (fa 15 22),o_ 24 (ld 23),o_ 25 (mv 2),o_ 26 (.lookup true (J4 0) ⟨false,[.int]⟩ (t_ 24) (t_ 25)),o_ 20 (mv 26),o_ 27 (et 20 0),o_ 28 (et 20 1),o_ 9 (mv 27),o_ 10 (mv 28)]) (.seq (.reg [] [o_ 29 (mv 8),o_ 30 (.not (t_ 29)),o_ 31 (mv 30),g_ 32 31 true (mv 10),g_ 33 31 true (.not (t_ 32)),o_ 34 (pa 31 33),o_ 6 (mv 34)]) .ret))))
def i_Q29:IFun:=⟨3,35,[.tmp 6],c_Q29,false⟩
theorem ok_Q29:FunOK Try.prog F_Q29 i_Q29:=⟨Try.f29,[],[],Try.func29,by kernel_rfl⟩
def l_Q30_0:ICode:=(.seq (.reg [] [o_ 33 (bi .lss 32 31)]) (.seq (.cond (t_ 33) .skip (.exit 2)) (.seq (.block 3 [] (.seq (.reg [] [o_ 34 (ix 1 30 32),o_ 35 (ld 34),o_ 9 (mv 35)]) (.seq (.draw [] [o_ 36 (mv 0),o_ 37 (mv 7),o_ 38 (mv 9),s_ 39 (cl F_Q29 [(t_ 36),(t_ 37),(t_ 38)]) [(36,0),(37,1),(38,2)],s_ 40 (mv 39) [(39,3)],q_ 41 40 true (mv 0) [(40,4)],q_ 42 40 true (nc 41) [(41,5),(40,4)],q_ 43 40 true (fa 10 42) [(42,6),(40,4)],q_ 44 40 true (ld 43) [(43,7),(40,4)],q_ 45 40 true (mv 7) [(40,4)],q_ 46 40 true (ix 10 44 45) [(44,8),(45,9),(40,4)],q_ 47 40 true (lw 10 46) [(46,10),(40,4)],q_ 48 40 true (cl F_Q34 [(t_ 47)]) [(47,11),(40,4)],q_ 49 40 true (mv 0) [(40,4)],q_ 50 40 true (nc 49) [(49,13),(40,4)],q_ 51 40 true (fa 11 50) [(50,14),(40,4)],q_ 52 40 true (ld 51) [(51,15),(40,4)],q_ 53 40 true (mv 9) [(40,4)],q_ 54 40 true (ix 10 52 53) [(52,16),(53,17),(40,4)],q_ 55 40 true (lw 10 54) [(54,18),(40,4)],q_ 56 40 true (cl F_Q34 [(t_ 55)]) [(55,19),(40,4)],⟨(some 57), .eqv false ⟨true,[.int, .str]⟩ (t_ 48) (t_ 56),(some (40,true)),[(48,12),(56,20),(40,4)]⟩,s_ 58 (pa 40 57) [(40,4),(57,21)]] [[⟨[0,1,2],[],(some 3)⟩,⟨[4,5,6,7,8,9,10,11,13,14,15,16,17,18,19],[],(some 12)⟩,⟨[],[16,19],(some 20)⟩,⟨[21,22],[],none⟩]]) (.cond (t_ 58) (.seq (.reg [] [o_ 59 (mv 0),o_ 60 (mv 7),o_ 61 (mv 9),o_ 62 (cl F_Q25 [(t_ 59),(t_ 60),(t_ 61)])]) (.exit 2)) .skip)))) (.reg [] [o_ 63 (bj .add 32 1),o_ 32 (mv 63)]))))
@[reducible] def m_Q30_0:List Bool:=mb 65 [0,2,7,17,18,19,30,31,32]
@[reducible] def b_Q30_2:List Bool:=mb 65 [0,2,17,18,19]
def l_Q30_1:ICode:=(.seq (.reg [] [o_ 20 (bi .lss 19 18)]) (.seq (.cond (t_ 20) .skip (.exit 0)) (.seq (.block 1 [] (.seq (.reg [] [o_ 21 (ix 1 17 19),o_ 22 (ld 21),o_ 7 (mv 22)]) (.seq (.reg [] [o_ 23 (mv 0),o_ 24 (nc 23),o_ 25 (fa 12 24),o_ 26 (.idxArr 2 1 (t_ 25) (k_ 1)),o_ 27 (ld 26),o_ 28 (mv 2),o_ 29 (ix 1 27 28),o_ 30 (ld 29),o_ 31 (ll 30),o_ 32 (.mov (k_ 0))]) (.block 2 b_Q30_2 (.loop m_Q30_0 l_Q30_0))))) (.reg [] [o_ 64 (bj .add 19 1),o_ 19 (mv 64)]))))
@[reducible] def m_Q30_1:List Bool:=mb 65 [0,2,17,18,19]
@[reducible] def b_Q30_0:List Bool:=mb 65 []
def c_Q30:ICode:=(.seq (.reg [] [o_ 10 (mv 0),o_ 11 (nc 10),o_ 12 (fa 12 11),o_ 13 (.idxArr 2 1 (t_ 12) (k_ 0)),o_ 14 (ld 13),o_ 15 (mv 1),o_ 16 (ix 1 14 15),o_ 17 (ld 16),o_ 18 (ll 17),o_ 19 (.mov (k_ 0))]) (.block 0 b_Q30_0 (.loop m_Q30_1 l_Q30_1)))
def i_Q30:IFun:=⟨3,65,[],c_Q30,false⟩
theorem ok_Q30:FunOK Try.prog F_Q30 i_Q30:=⟨Try.f30,[],[(2,m_Q30_0),(1000002,b_Q30_2),(0,b_Q30_2),(1000000,b_Q30_0)],Try.func30,by kernel_rfl⟩
def c_Q32:ICode:=(.seq (.reg [2,3] [o_ 2 (.box (some 2) 2 (t_ 0)),o_ 3 (.box (some 3) 2 (t_ 1)),o_ 4 (.mov (k_ 0))]) (.seq (.reg [] [o_ 5 (fa 0 2),o_ 6 (ld 5),o_ 7 (fa 0 3),o_ 8 (ld 7),o_ 9 (cl F_Q33 [(t_ 6),(t_ 8)]),o_ 4 (mv 9)]) .ret))
def i_Q32:IFun:=⟨2,10,[.tmp 4],c_Q32,true⟩
theorem ok_Q32:FunOK Try.prog F_Q32 i_Q32:=⟨Try.f32,[3,2],[],Try.func32,by kernel_rfl⟩
def c_Q33:ICode:=(.seq (.reg [] [o_ 4 (.mov (k_ 0))]) (.seq (.reg [] [o_ 7 (mv 0),o_ 8 (cl F_Q59 [(t_ 7)]),o_ 5 (mv 8)]) (.seq (.reg [] [o_ 9 (mv 1),o_ 10 (cl F_Q59 [(t_ 9)]),o_ 6 (mv 10)]) (.seq (.seq (.reg [] [o_ 11 (mv 5)]) (.cond (t_ 11) (.seq (.seq (.reg [] [o_ 12 (mv 6)]) (.cond (t_ 12) (.seq (.reg [] [o_ 4 (.mov (k_ 0))]) .ret) .skip)) (.seq (.reg [] [o_ 4 (.mov (k_ (-1)))]) .ret)) .skip)) (.seq (.seq (.reg [] [o_ 13 (mv 6)]) (.cond (t_ 13) (.seq (.reg [] [o_ 4 (.mov (k_ 1))]) .ret) .skip)) (.seq (.seq (.reg [] [o_ 14 (mv 0),o_ 15 (mv 1),o_ 16 (bi .lss 14 15)]) (.cond (t_ 16) (.seq (.reg [] [o_ 4 (.mov (k_ (-1)))]) .ret) .skip)) (.seq (.seq (.reg [] [o_ 17 (mv 0),o_ 18 (mv 1),o_ 19 (bi .gtr 17 18)]) (.cond (t_ 19) (.seq (.reg [] [o_ 4 (.mov (k_ 1))]) .ret) .skip)) (.seq (.reg [] [o_ 4 (.mov (k_ 0))]) .ret))))))))
def i_Q33:IFun:=⟨2,20,[.tmp 4],c_Q33,true⟩
theorem ok_Q33:FunOK Try.prog F_Q33 i_Q33:=⟨Try.f33,[],[],Try.func33,by kernel_rfl⟩
def c_Q34:ICode:=(.seq (.reg [1,2] [o_ 1 (.box (some 1) 10 (t_ 0)),o_ 2 (.alloc (some 2) [(.int .i64 0),(.str [])])]) (.seq (.reg [] [o_ 3 (fa 5 1),o_ 4 (fa 0 3),o_ 5 (ld 4),o_ 6 (fa 5 1),o_ 7 (fa 1 6),o_ 8 (ld 7),o_ 9 (.build [(.int .i64 0),(.str [])] [(0,1,(t_ 5)),(1,1,(t_ 8))]),n_ (s3 2 2 9)]) .ret))
def i_Q34:IFun:=⟨1,10,[.cell 2 (some 2)],c_Q34,true⟩
theorem ok_Q34:FunOK Try.prog F_Q34 i_Q34:=⟨Try.f34,[2,1],[],Try.func34,by kernel_rfl⟩
def c_Q35:ICode:=(.seq (.reg [] [o_ 2 (.mov xn)]) (.seq (.reg [] [o_ 3 (mv 0),o_ 4 (.append 2 xn (t_ 3)),o_ 2 (mv 4)]) .ret))
def i_Q35:IFun:=⟨1,5,[.tmp 2],c_Q35,true⟩
theorem ok_Q35:FunOK Try.prog F_Q35 i_Q35:=⟨Try.f35,[],[],Try.func35,by kernel_rfl⟩
def l_Q36_0:ICode:=(.seq (.seq (.reg [] [o_ 27 (mv 13),o_ 28 (fa 4 6),o_ 29 (ld 28),o_ 30 (ll 29),o_ 31 (bi .lss 27 30)]) (.cond (t_ 31) .skip (.exit 0))) (.seq (.block 1 [] (.seq (.reg [] [o_ 34 (mv 0),o_ 35 (ll 34),o_ 14 (mv 35)]) (.seq (.reg [] [o_ 36 (mv 0),o_ 37 (fa 4 6),o_ 38 (ld 37),o_ 39 (mv 13),o_ 40 (ix 5 38 39),o_ 41 (lw 5 40),o_ 42 (mv 11),o_ 43 (mv 3),o_ 44 (bj .add 43 1),o_ 45 (mv 13),o_ 46 (cl F_Q36 [(t_ 36),(t_ 41),(t_ 42),(t_ 44),(t_ 45)]),o_ 0 (mv 46)]) (.reg [] [o_ 47 (mv 12),o_ 48 (mv 0),o_ 49 (mv 14),o_ 50 (ix 15 48 49),o_ 51 (fa 3 50),o_ 52 (ld 51),o_ 53 (.maxi [(t_ 47),(t_ 52)]),o_ 12 (mv 53)])))) (.reg [] [o_ 32 (mv 13),o_ 33 (bj .add 32 1),o_ 13 (mv 33)])))
@[reducible] def m_Q36_0:List Bool:=mb 69 [0,3,6,11,12,13]
@[reducible] def b_Q36_0:List Bool:=mb 69 [0,11,12]
def c_Q36:ICode:=(.seq (.reg [6] [o_ 6 (.box (some 6) 5 (t_ 1)),o_ 10 (.mov xn)]) (.seq (.reg [] [o_ 15 (mv 0),o_ 16 (ll 15),o_ 11 (mv 16)]) (.seq (.draw [] [o_ 17 (mv 0),o_ 18 (mv 2),o_ 19 (mv 3),o_ 20 (mv 4),o_ 21 (lw 5 6),s_ 22 (cl F_Q60 [(t_ 21)]) [(21,4)],o_ 23 (lw 5 6),s_ 24 (.build [(.int .i64 0),(.int .i64 0),(.int .i64 0),(.int .i64 0),(.int .i64 0),(.int .i64 0),(.str []),(.str []), .nilslice, .nilslice,(.int .i64 0),(.str []),(.str []), .nilslice, .nilslice] [(0,1,(t_ 18)),(2,1,(t_ 19)),(4,1,(t_ 20)),(5,5,(t_ 22)),(10,5,(t_ 23))]) [(18,1),(19,2),(20,3),(22,5),(23,6)],s_ 25 (.buildSlice 15 1 [(.int .i64 0),(.int .i64 0),(.int .i64 0),(.int .i64 0),(.int .i64 0),(.int .i64 0),(.str []),(.str []), .nilslice, .nilslice,(.int .i64 0),(.str []),(.str []), .nilslice, .nilslice] [(0,15,(t_ 24))]) [(24,7)],s_ 26 (.append 15 (t_ 17) (t_ 25)) [(17,0),(25,8)],s_ 0 (mv 26) [(26,9)]] [[⟨[0,1,2,3,4,6],[],(some 5)⟩,⟨[7,8],[6],(some 9)⟩,⟨[10],[],none⟩]]) (.seq (.reg [] [o_ 12 (.mov (k_ 0))]) (.seq (.seq (.reg [] [o_ 13 (.mov (k_ 0))]) (.block 0 b_Q36_0 (.loop m_Q36_0 l_Q36_0))) (.seq (.reg [] [o_ 54 (mv 0),o_ 55 (mv 11),o_ 56 (mv 0),o_ 57 (ll 56),o_ 58 (mv 11),o_ 59 (bi .sub 57 58),o_ 60 (ix 15 54 55),o_ 61 (fa 1 60),n_ (s3 1 61 59)]) (.seq (.reg [] [o_ 62 (mv 0),o_ 63 (mv 11),o_ 64 (mv 12),o_ 65 (bj .add 64 1),o_ 66 (ix 15 62 63),o_ 67 (fa 3 66),n_ (s3 1 67 65)]) (.seq (.reg [] [o_ 68 (mv 0),o_ 10 (mv 68)]) .ret))))))))
def i_Q36:IFun:=⟨5,69,[.tmp 10],c_Q36,false⟩
theorem ok_Q36:FunOK Try.prog F_Q36 i_Q36:=⟨Try.f36,[6],[(0,m_Q36_0),(1000000,b_Q36_0)],Try.func36,by kernel_rfl⟩
def l_Q37_0:ICode:=(.seq (.seq (.reg [] [o_ 5 (mv 4),o_ 6 (fa 4 1),o_ 7 (ld 6),o_ 8 (ll 7),o_ 9 (bi .lss 5 8)]) (.cond (t_ 9) .skip (.exit 0))) (.seq (.block 1 [] (.reg [] [o_ 12 (mv 3),o_ 13 (fa 4 1),o_ 14 (ld 13),o_ 15 (mv 4),o_ 16 (ix 5 14 15),o_ 17 (lw 5 16),o_ 18 (cl F_Q37 [(t_ 17)]),o_ 19 (.maxi [(t_ 12),(t_ 18)]),o_ 3 (mv 19)])) (.reg [] [o_ 10 (mv 4),o_ 11 (bj .add 10 1),o_ 4 (mv 11)])))
@[reducible] def m_Q37_0:List Bool:=mb 22 [1,3,4]
@[reducible] def b_Q37_0:List Bool:=mb 22 [3]
def c_Q37:ICode:=(.seq (.reg [1] [o_ 1 (.box (some 1) 5 (t_ 0)),o_ 2 (.mov (k_ 0))]) (.seq (.reg [] [o_ 3 (.mov (k_ 0))]) (.seq (.seq (.reg [] [o_ 4 (.mov (k_ 0))]) (.block 0 b_Q37_0 (.loop m_Q37_0 l_Q37_0))) (.seq (.reg [] [o_ 20 (mv 3),o_ 21 (bj .add 20 1),o_ 2 (mv 21)]) .ret))))
def i_Q37:IFun:=⟨1,22,[.tmp 2],c_Q37,true⟩
theorem ok_Q37:FunOK Try.prog F_Q37 i_Q37:=⟨Try.f37,[1],[(0,m_Q37_0),(1000000,b_Q37_0)],Try.func37,by kernel_rfl⟩
def l_Q38_0:ICode:=(.seq (.seq (.reg [] [o_ 13 (mv 7),o_ 14 (fa 4 3),o_ 15 (ld 14),o_ 16 (ll 15),o_ 17 (bi .lss 13 16)]) (.cond (t_ 17) .skip (.exit 0))) (.seq (.block 1 [] (.seq (.draw [] [o_ 20 (fa 4 3),s_ 21 (ld 20) [(20,0)],o_ 22 (mv 7),s_ 23 (ix 5 21 22) [(21,1),(22,2)],s_ 24 (lw 5 23) [(23,3)],o_ 25 (fa 0 3),s_ 26 (ld 25) [(25,5)],s_ 27 (bj .eql 26 1) [(26,6)],s_ 28 (cl F_Q38 [(t_ 24),xf,(t_ 27)]) [(24,4),(27,7)],s_ 29 (.not (t_ 28)) [(28,8)]] [[⟨[0,1,2,3,4,5,6,7],[],(some 8)⟩,⟨[9],[],none⟩]]) (.cond (t_ 29) (.seq (.reg [] [o_ 6 (.mov xf)]) .ret) .skip))) (.reg [] [o_ 18 (mv 7),o_ 19 (bj .add 18 1),o_ 7 (mv 19)])))
@[reducible] def m_Q38_0:List Bool:=mb 30 [3,7]
@[reducible] def b_Q38_0:List Bool:=mb 30 []
def c_Q38:ICode:=(.seq (.reg [3] [o_ 3 (.box (some 3) 5 (t_ 0)),o_ 6 (.mov xf)]) (.seq (.seq (.reg [] [o_ 8 (lw 5 3),o_ 9 (mv 1),o_ 10 (mv 2),o_ 11 (cl F_Q61 [(t_ 8),(t_ 9),(t_ 10)]),o_ 12 (.not (t_ 11))]) (.cond (t_ 12) (.seq (.reg [] [o_ 6 (.mov xf)]) .ret) .skip)) (.seq (.seq (.reg [] [o_ 7 (.mov (k_ 0))]) (.block 0 b_Q38_0 (.loop m_Q38_0 l_Q38_0))) (.seq (.reg [] [o_ 6 (.mov xt)]) .ret))))
def i_Q38:IFun:=⟨3,30,[.tmp 6],c_Q38,true⟩
theorem ok_Q38:FunOK Try.prog F_Q38 i_Q38:=⟨Try.f38,[3],[(0,m_Q38_0),(1000000,b_Q38_0)],Try.func38,by kernel_rfl⟩
def l_Q39_0:ICode:=(.seq (.reg [] [o_ 10 (bi .lss 9 8)]) (.seq (.cond (t_ 10) .skip (.exit 0)) (.seq (.block 1 [] (.seq (.reg [5] [o_ 11 (ix 5 7 9),o_ 12 (lw 5 11),o_ 5 (.alloc (some 5) [(.int .i64 0),(.str []),(.str []), .nilslice, .nilslice]),n_ (s3 5 5 12)]) (.reg [] [o_ 13 (mv 3),o_ 14 (lw 5 5),o_ 15 (cl F_Q39 [(t_ 14)]),o_ 16 (bi .add 13 15),o_ 3 (mv 16)]))) (.reg [] [o_ 17 (bj .add 9 1),o_ 9 (mv 17)]))))
@[reducible] def m_Q39_0:List Bool:=mb 19 [3,7,8,9]
@[reducible] def b_Q39_0:List Bool:=mb 19 [3]
def c_Q39:ICode:=(.seq (.reg [1] [o_ 1 (.box (some 1) 5 (t_ 0)),o_ 2 (.mov (k_ 0))]) (.seq (.reg [] [o_ 3 (.mov (k_ 1))]) (.seq (.seq (.reg [] [o_ 6 (fa 4 1),o_ 7 (ld 6),o_ 8 (ll 7),o_ 9 (.mov (k_ 0))]) (.block 0 b_Q39_0 (.loop m_Q39_0 l_Q39_0))) (.seq (.reg [] [o_ 18 (mv 3),o_ 2 (mv 18)]) .ret))))
def i_Q39:IFun:=⟨1,19,[.tmp 2],c_Q39,true⟩
theorem ok_Q39:FunOK Try.prog F_Q39 i_Q39:=⟨Try.f39,[5,1],[(0,m_Q39_0),(1000000,b_Q39_0)],Try.func39,by kernel_rfl⟩
def l_Q40_0:ICode:=(.seq (.reg [] [o_ 10 (bi .lss 9 8)]) (.seq (.cond (t_ 10) .skip (.exit 0)) (.seq (.block 1 [] (.seq (.reg [5] [o_ 11 (ix 5 7 9),o_ 12 (lw 5 11),o_ 5 (.alloc (some 5) [(.int .i64 0),(.str []),(.str []), .nilslice, .nilslice]),n_ (s3 5 5 12)]) (.reg [] [o_ 13 (mv 3),o_ 14 (lw 5 5),o_ 15 (cl F_Q40 [(t_ 14)]),o_ 16 (.maxi [(t_ 13),(t_ 15)]),o_ 3 (mv 16)]))) (.reg [] [o_ 17 (bj .add 9 1),o_ 9 (mv 17)]))))
@[reducible] def m_Q40_0:List Bool:=mb 20 [3,7,8,9]
@[reducible] def b_Q40_0:List Bool:=mb 20 [3]
def c_Q40:ICode:=(.seq (.reg [1] [o_ 1 (.box (some 1) 5 (t_ 0)),o_ 2 (.mov (k_ 0))]) (.seq (.reg [] [o_ 3 (.mov (k_ 0))]) (.seq (.seq (.reg [] [o_ 6 (fa 4 1),o_ 7 (ld 6),o_ 8 (ll 7),o_ 9 (.mov (k_ 0))]) (.block 0 b_Q40_0 (.loop m_Q40_0 l_Q40_0))) (.seq (.reg [] [o_ 18 (mv 3),o_ 19 (bj .add 18 1),o_ 2 (mv 19)]) .ret))))
def i_Q40:IFun:=⟨1,20,[.tmp 2],c_Q40,true⟩
theorem ok_Q40:FunOK Try.prog F_Q40 i_Q40:=⟨Try.f40,[5,1],[(0,m_Q40_0),(1000000,b_Q40_0)],Try.func40,by kernel_rfl⟩
def l_Q41_0:ICode:=(.seq (.reg [] [o_ 8 (bi .lss 7 6)]) (.seq (.cond (t_ 8) .skip (.exit 0)) (.seq (.block 1 [] (.seq (.reg [] [o_ 9 (ix 1 5 7),o_ 10 (ld 9),o_ 4 (mv 10)]) (.seq (.reg [] [o_ 11 (mv 4),o_ 12 (.bin .neq (t_ 11) (.const (.p (.str []))))]) (.cond (t_ 12) (.seq (.reg [] [o_ 2 (.mov xf)]) .ret) .skip)))) (.reg [] [o_ 13 (bj .add 7 1),o_ 7 (mv 13)]))))
@[reducible] def m_Q41_0:List Bool:=mb 14 [5,6,7]
@[reducible] def b_Q41_0:List Bool:=mb 14 []
def c_Q41:ICode:=(.seq (.reg [] [o_ 2 (.mov xf)]) (.seq (.seq (.reg [] [o_ 5 (mv 0),o_ 6 (ll 5),o_ 7 (.mov (k_ 0))]) (.block 0 b_Q41_0 (.loop m_Q41_0 l_Q41_0))) (.seq (.reg [] [o_ 2 (.mov xt)]) .ret)))
def i_Q41:IFun:=⟨1,14,[.tmp 2],c_Q41,true⟩
theorem ok_Q41:FunOK Try.prog F_Q41 i_Q41:=⟨Try.f41,[],[(0,m_Q41_0),(1000000,b_Q41_0)],Try.func41,by kernel_rfl⟩
def l_Q42_0:ICode:=(.seq (.reg [] [o_ 9 (bi .lss 8 7)]) (.seq (.cond (t_ 9) .skip (.exit 0)) (.seq (.block 1 [] (.seq (.reg [4] [o_ 10 (ix 5 6 8),o_ 11 (lw 5 10),o_ 4 (.alloc (some 4) [(.int .i64 0),(.str []),(.str []), .nilslice, .nilslice]),n_ (s3 5 4 11)]) (.seq (.reg [] [o_ 12 (lw 5 4),o_ 13 (cl F_Q62 [(t_ 12)]),o_ 14 (.not (t_ 13)),o_ 15 (mv 14),g_ 16 15 false (fa 0 4),g_ 17 15 false (ld 16),g_ 18 15 false (bj .eql 17 5),g_ 19 15 false (mv 18),g_ 20 19 true (fa 0 1),g_ 21 19 true (ld 20),g_ 22 19 true (bj .neq 21 1),g_ 23 15 false (pa 19 22),o_ 24 (po 15 23)]) (.cond (t_ 24) (.seq (.reg [] [o_ 2 (.mov xf)]) .ret) .skip)))) (.reg [] [o_ 25 (bj .add 8 1),o_ 8 (mv 25)]))))
@[reducible] def m_Q42_0:List Bool:=mb 26 [1,6,7,8]
@[reducible] def b_Q42_0:List Bool:=mb 26 []
def c_Q42:ICode:=(.seq (.reg [1] [o_ 1 (.box (some 1) 5 (t_ 0)),o_ 2 (.mov xf)]) (.seq (.seq (.reg [] [o_ 5 (fa 4 1),o_ 6 (ld 5),o_ 7 (ll 6),o_ 8 (.mov (k_ 0))]) (.block 0 b_Q42_0 (.loop m_Q42_0 l_Q42_0))) (.seq (.reg [] [o_ 2 (.mov xt)]) .ret)))
def i_Q42:IFun:=⟨1,26,[.tmp 2],c_Q42,true⟩
theorem ok_Q42:FunOK Try.prog F_Q42 i_Q42:=⟨Try.f42,[4,1],[(0,m_Q42_0),(1000000,b_Q42_0)],Try.func42,by kernel_rfl⟩
def l_Q43_0:ICode:=(.seq (.seq (.reg [] [o_ 37 (mv 7),o_ 38 (bj .geq 37 0)]) (.cond (t_ 38) .skip (.exit 2))) (.seq (.block 3 [] (.draw [] [o_ 41 (mv 4),o_ 42 (fa 0 6),s_ 43 (ld 42) [(42,1)],s_ 44 (nc 43) [(43,2)],s_ 45 (fa 4 44) [(44,3)],s_ 46 (ld 45) [(45,4)],o_ 47 (mv 7),s_ 48 (ix 5 46 47) [(46,5),(47,6)],o_ 49 (mv 5),o_ 50 (fa 2 6),s_ 51 (ld 50) [(50,9)],s_ 52 (bj .add 51 1) [(51,10)],o_ 53 (mv 7),s_ 54 (.build [.nilptr,(.int .i64 0),(.int .i64 0),(.int .i64 0)] [(0,1,(t_ 48)),(1,1,(t_ 49)),(2,1,(t_ 52)),(3,1,(t_ 53))]) [(48,7),(49,8),(52,11),(53,12)],s_ 55 (.buildSlice 4 1 [.nilptr,(.int .i64 0),(.int .i64 0),(.int .i64 0)] [(0,4,(t_ 54))]) [(54,13)],s_ 56 (.append 4 (t_ 41) (t_ 55)) [(41,0),(55,14)],s_ 4 (mv 56) [(56,15)]] [[⟨[0,1,2,3,4,5,6,7,8,9,10,11,12,13,14],[],(some 15)⟩,⟨[16],[],none⟩]])) (.reg [] [o_ 39 (mv 7),o_ 40 (bj .sub 39 1),o_ 7 (mv 40)])))
@[reducible] def m_Q43_0:List Bool:=mb 59 [1,4,5,6,7]
@[reducible] def b_Q43_2:List Bool:=mb 59 [1,4,5]
def l_Q43_1:ICode:=(.seq (.seq (.reg [] [o_ 11 (mv 4),o_ 12 (ll 11),o_ 13 (bj .gtr 12 0)]) (.cond (t_ 13) .skip (.exit 0))) (.block 1 [] (.seq (.reg [6] [o_ 14 (mv 4),o_ 15 (mv 4),o_ 16 (ll 15),o_ 17 (bj .sub 16 1),o_ 18 (ix 4 14 17),o_ 19 (lw 4 18),o_ 6 (.alloc (some 6) [.nilptr,(.int .i64 0),(.int .i64 0),(.int .i64 0)]),n_ (s3 4 6 19)]) (.seq (.reg [] [o_ 20 (mv 4),o_ 21 (mv 4),o_ 22 (ll 21),o_ 23 (bj .sub 22 1),o_ 24 (.sliceSl 4 (t_ 20) none (some (t_ 23))),o_ 4 (mv 24)]) (.seq (.seq (.reg [] [o_ 25 (mv 1),o_ 26 (mv 5),o_ 27 (lw 4 6),o_ 28 (.call (t_ 25) [(t_ 26),(t_ 27)]),o_ 29 (.not (t_ 28))]) (.cond (t_ 29) (.exit 0) .skip)) (.seq (.seq (.reg [] [o_ 30 (fa 0 6),o_ 31 (ld 30),o_ 32 (nc 31),o_ 33 (fa 4 32),o_ 34 (ld 33),o_ 35 (ll 34),o_ 36 (bj .sub 35 1),o_ 7 (mv 36)]) (.block 2 b_Q43_2 (.loop m_Q43_0 l_Q43_0))) (.reg [] [o_ 57 (mv 5),o_ 58 (bj .add 57 1),o_ 5 (mv 58)])))))))
@[reducible] def m_Q43_1:List Bool:=mb 59 [1,4,5]
@[reducible] def b_Q43_0:List Bool:=mb 59 []
def c_Q43:ICode:=(.seq (.reg [] [o_ 8 (mv 0),o_ 9 (.build [.nilptr,(.int .i64 0),(.int .i64 0),(.int .i64 0)] [(0,1,(t_ 8)),(1,1,(k_ (-1)))]),o_ 10 (.buildSlice 4 1 [.nilptr,(.int .i64 0),(.int .i64 0),(.int .i64 0)] [(0,4,(t_ 9))]),o_ 4 (mv 10)]) (.seq (.reg [] [o_ 5 (.mov (k_ 0))]) (.seq .skip (.block 0 b_Q43_0 (.loop m_Q43_1 l_Q43_1)))))
def i_Q43:IFun:=⟨2,59,[],c_Q43,false⟩
theorem ok_Q43:FunOK Try.prog F_Q43 i_Q43:=⟨Try.f43,[6],[(2,m_Q43_0),(1000002,b_Q43_2),(0,b_Q43_2),(1000000,b_Q43_0)],Try.func43,by kernel_rfl⟩
def c_Q44:ICode:=(.seq (.reg [4] [o_ 4 (.box (some 4) 4 (t_ 1)),o_ 5 (.mov xf)]) (.seq (.reg [6] [o_ 7 (fa 0 4),o_ 8 (ld 7),o_ 9 (nc 8),o_ 10 (lw 5 9),o_ 6 (.alloc (some 6) [(.int .i64 0),(.str []),(.str []), .nilslice, .nilslice]),n_ (s3 5 6 10)]) (.seq (.reg [] [o_ 11 (fa 4 6),n_ (.store 1 (t_ 11) xn)]) (.seq (.reg [] [o_ 12 (fa 3 6),o_ 13 (ld 12),o_ 14 (cl F_Q45 [(t_ 13)]),o_ 15 (fa 3 6),n_ (s3 1 15 14)]) (.seq (.reg [] [o_ 16 (ld 2),o_ 17 (fa 1 4),o_ 18 (ld 17),o_ 19 (fa 2 4),o_ 20 (ld 19),o_ 21 (fa 3 4),o_ 22 (ld 21),o_ 23 (lw 5 6),o_ 24 (.build [(.int .i64 0),(.int .i64 0),(.int .i64 0),(.int .i64 0),(.int .i64 0),(.int .i64 0),(.str []),(.str []), .nilslice, .nilslice] [(0,1,(t_ 18)),(1,1,(k_ 1)),(2,1,(t_ 20)),(3,1,(k_ 1)),(4,1,(t_ 22)),(5,5,(t_ 23))]),o_ 25 (.buildSlice 10 1 [(.int .i64 0),(.int .i64 0),(.int .i64 0),(.int .i64 0),(.int .i64 0),(.int .i64 0),(.str []),(.str []), .nilslice, .nilslice] [(0,10,(t_ 24))]),o_ 26 (.append 10 (t_ 16) (t_ 25)),n_ (s3 1 2 26)]) (.seq (.reg [] [o_ 5 (.mov xt)]) .ret))))))
def i_Q44:IFun:=⟨3,27,[.tmp 5],c_Q44,false⟩
theorem ok_Q44:FunOK Try.prog F_Q44 i_Q44:=⟨Try.f44,[6,4],[],Try.func44,by kernel_rfl⟩
def c_Q45:ICode:=(.seq (.reg [] [o_ 2 (.mov xn)]) (.seq (.seq (.reg [] [o_ 3 (mv 0),o_ 4 (.eqSl false (t_ 3) xn)]) (.cond (t_ 4) (.seq (.reg [] [o_ 2 (.mov xn)]) .ret) .skip)) (.seq (.reg [] [o_ 5 (.buildSlice 2 0 [(.str []),(.str [])] []),o_ 6 (mv 0),o_ 7 (.append 2 (t_ 5) (t_ 6)),o_ 2 (mv 7)]) .ret)))
def i_Q45:IFun:=⟨1,8,[.tmp 2],c_Q45,true⟩
theorem ok_Q45:FunOK Try.prog F_Q45 i_Q45:=⟨Try.f45,[],[],Try.func45,by kernel_rfl⟩
def l_Q46_0:ICode:=(.seq (.reg [] [o_ 15 (bi .lss 14 13)]) (.seq (.cond (t_ 15) .skip (.exit 0)) (.seq (.block 1 [] (.seq (.reg [] [o_ 16 (mv 14),o_ 17 (ix 1 12 14),o_ 18 (ld 17),o_ 4 (mv 16),o_ 5 (mv 18)]) (.draw [] [o_ 19 (mv 3),o_ 20 (mv 3),s_ 21 (nc 20) [(20,1)],s_ 22 (fa 6 21) [(21,2)],s_ 23 (ld 22) [(22,3)],o_ 24 (mv 5),o_ 25 (mv 3),s_ 26 (nc 25) [(25,6)],s_ 27 (fa 5 26) [(26,7)],s_ 28 (ld 27) [(27,8)],o_ 29 (mv 4),s_ 30 (ix 10 28 29) [(28,9),(29,10)],s_ 31 (fa 1 30) [(30,11)],s_ 32 (ld 31) [(31,12)],s_ 33 (.conv .u64 (t_ 32)) [(32,13)],s_ 34 (.bin .shl (t_ 33) (.const (.p (.int .u64 32)))) [(33,14)],o_ 35 (mv 3),s_ 36 (nc 35) [(35,16)],s_ 37 (fa 5 36) [(36,17)],s_ 38 (ld 37) [(37,18)],o_ 39 (mv 4),s_ 40 (ix 10 38 39) [(38,19),(39,20)],s_ 41 (fa 3 40) [(40,21)],s_ 42 (ld 41) [(41,22)],s_ 43 (.conv .u64 (t_ 42)) [(42,23)],s_ 44 (bi .or 34 43) [(34,15),(43,24)],s_ 45 (.build [(.int .u64 0),(.int .u64 0)] [(0,1,(t_ 24)),(1,1,(t_ 44))]) [(24,5),(44,25)],s_ 46 (.buildSlice 2 1 [(.int .u64 0),(.int .u64 0)] [(0,2,(t_ 45))]) [(45,26)],s_ 47 (.append 2 (t_ 23) (t_ 46)) [(23,4),(46,27)],s_ 48 (nc 19) [(19,0)],s_ 49 (fa 6 48) [(48,29)],e_ (s3 1 49 47) [(49,30),(47,28)]] [[⟨[0,1,2,3,4,5,6,7,8,9,10,11,12,13,14,15,16,17,18,19,20,21,22,23,24,25,26,27],[],(some 28)⟩,⟨[29,30],[],(some 31)⟩,⟨[],[],none⟩]]))) (.reg [] [o_ 50 (bj .add 14 1),o_ 14 (mv 50)]))))
@[reducible] def m_Q46_0:List Bool:=mb 61 [3,12,13,14]
@[reducible] def b_Q46_0:List Bool:=mb 61 [3]
def c_Q46:ICode:=(.seq (.reg [1] [o_ 1 (.box (some 1) 5 (t_ 0)),o_ 2 (.mov (.const (.p .nilptr)))]) (.seq (.draw [] [o_ 6 (lw 5 1),o_ 7 (lw 5 1),s_ 8 (cl F_Q22 [(t_ 7)]) [(7,1)],s_ 9 (.build [(.int .i64 0),(.str []),(.str []), .nilslice, .nilslice, .nilslice, .nilslice, .nilslice] [(0,5,(t_ 6)),(5,1,(t_ 8))]) [(6,0),(8,2)],s_ 10 (.box none 8 (t_ 9)) [(9,3)],s_ 3 (mv 10) [(10,4)]] [[⟨[0,1],[],(some 2)⟩,⟨[3,4,5],[0],none⟩]]) (.seq (.seq (.reg [] [o_ 11 (lw 5 1),o_ 12 (cl F_Q63 [(t_ 11)]),o_ 13 (ll 12),o_ 14 (.mov (k_ 0))]) (.block 0 b_Q46_0 (.loop m_Q46_0 l_Q46_0))) (.seq (.reg [] [o_ 51 (mv 3),o_ 52 (mv 3),o_ 53 (nc 52),o_ 54 (fa 5 53),o_ 55 (ld 54),o_ 56 (ll 55),o_ 57 (.mkSlice 1 [(.bool false)] (t_ 56) (t_ 56)),o_ 58 (nc 51),o_ 59 (fa 7 58),n_ (s3 1 59 57)]) (.seq (.reg [] [o_ 60 (mv 3),o_ 2 (mv 60)]) .ret)))))
def i_Q46:IFun:=⟨1,61,[.tmp 2],c_Q46,false⟩
theorem ok_Q46:FunOK Try.prog F_Q46 i_Q46:=⟨Try.f46,[1],[(0,m_Q46_0),(1000000,b_Q46_0)],Try.func46,by kernel_rfl⟩
def l_Q47_0:ICode:=(.seq (.reg [] [o_ 17 (bi .lss 16 15)]) (.seq (.cond (t_ 17) .skip (.exit 0)) (.seq (.block 1 [] (.seq (.reg [] [o_ 18 (mv 16),o_ 7 (mv 18)]) (.seq (.reg [] [o_ 19 (ld 3),o_ 20 (mv 0),o_ 21 (mv 7),o_ 22 (bi .add 20 21),o_ 23 (mv 1),o_ 24 (mv 7),o_ 25 (bi .add 23 24),o_ 26 (.build [(.int .i64 0),(.int .i64 0)] [(0,1,(t_ 22)),(1,1,(t_ 25))]),o_ 27 (.buildSlice 2 1 [(.int .i64 0),(.int .i64 0)] [(0,2,(t_ 26))]),o_ 28 (.append 2 (t_ 19) (t_ 27)),n_ (s3 1 3 28)]) (.draw [] [o_ 29 (ld 2),s_ 30 (nc 29) [(29,0)],s_ 31 (fa 7 30) [(30,1)],s_ 32 (ld 31) [(31,2)],o_ 33 (mv 0),o_ 34 (mv 7),s_ 35 (bi .add 33 34) [(33,4),(34,5)],o_ 36 (ld 4),s_ 37 (nc 36) [(36,7)],s_ 38 (fa 7 37) [(37,8)],s_ 39 (ld 38) [(38,9)],o_ 40 (mv 1),o_ 41 (mv 7),s_ 42 (bi .add 40 41) [(40,11),(41,12)],s_ 43 (ix 1 32 35) [(32,3),(35,6)],e_ (.store 1 (t_ 43) xt) [(43,14)],s_ 44 (ix 1 39 42) [(39,10),(42,13)],e_ (.store 1 (t_ 44) xt) [(44,16)]] [[⟨[0,1,2,3,4,5,6,7,8,9,10,11,12,13,14],[],(some 15)⟩,⟨[16],[],(some 17)⟩,⟨[],[],none⟩]])))) (.reg [] [o_ 45 (bj .add 16 1),o_ 16 (mv 45)]))))
@[reducible] def m_Q47_0:List Bool:=mb 46 [0,1,2,3,4,15,16]
@[reducible] def b_Q47_0:List Bool:=mb 46 []
def c_Q47:ICode:=(.seq (.reg [] [o_ 8 (ld 2),o_ 9 (nc 8),o_ 10 (fa 5 9),o_ 11 (ld 10),o_ 12 (mv 0),o_ 13 (ix 10 11 12),o_ 14 (fa 1 13),o_ 15 (ld 14),o_ 16 (.mov (k_ 0))]) (.block 0 b_Q47_0 (.loop m_Q47_0 l_Q47_0)))
def i_Q47:IFun:=⟨5,46,[],c_Q47,false⟩
theorem ok_Q47:FunOK Try.prog F_Q47 i_Q47:=⟨Try.f47,[],[(0,m_Q47_0),(1000000,b_Q47_0)],Try.func47,by kernel_rfl⟩
def l_Q48_0:ICode:=(.seq (.reg [] [o_ 50 (bi .lss 49 48)]) (.seq (.cond (t_ 50) .skip (.exit 0)) (.seq (.block 1 [] (.seq (.reg [6] [o_ 51 (mv 49),o_ 52 (ix 2 47 49),o_ 53 (lw 2 52),o_ 6 (.alloc (some 6) [(.str []),(.str [])]),o_ 5 (mv 51),n_ (s3 2 6 53)]) (.seq (.draw [] [o_ 54 (lw 2 6),o_ 55 (fa 3 3),s_ 56 (ld 55) [(55,1)],o_ 57 (mv 5),s_ 58 (ix 2 56 57) [(56,2),(57,3)],s_ 59 (lw 2 58) [(58,4)],s_ 60 (.eqv true ⟨true,[.str, .str]⟩ (t_ 54) (t_ 59)) [(54,0),(59,5)]] [[⟨[0,1,2,3,4,5,6],[],none⟩]]) (.cond (t_ 60) (.seq (.reg [] [o_ 4 (.mov xf)]) .ret) .skip)))) (.reg [] [o_ 61 (bj .add 49 1),o_ 49 (mv 61)]))))
@[reducible] def m_Q48_0:List Bool:=mb 79 [2,3,47,48,49]
@[reducible] def b_Q48_0:List Bool:=mb 79 [2,3]
def l_Q48_1:ICode:=(.seq (.reg [] [o_ 66 (bi .lss 65 64)]) (.seq (.cond (t_ 66) .skip (.exit 2)) (.seq (.block 3 [] (.seq (.reg [8] [o_ 67 (mv 65),o_ 68 (ix 5 63 65),o_ 69 (lw 5 68),o_ 8 (.alloc (some 8) [(.int .i64 0),(.str []),(.str []), .nilslice, .nilslice]),o_ 7 (mv 67),n_ (s3 5 8 69)]) (.seq (.draw [] [o_ 70 (lw 5 8),o_ 71 (fa 4 3),s_ 72 (ld 71) [(71,1)],o_ 73 (mv 7),s_ 74 (ix 5 72 73) [(72,2),(73,3)],s_ 75 (lw 5 74) [(74,4)],s_ 76 (cl F_Q48 [(t_ 70),(t_ 75)]) [(70,0),(75,5)],s_ 77 (.not (t_ 76)) [(76,6)]] [[⟨[0,1,2,3,4,5],[],(some 6)⟩,⟨[7],[],none⟩]]) (.cond (t_ 77) (.seq (.reg [] [o_ 4 (.mov xf)]) .ret) .skip)))) (.reg [] [o_ 78 (bj .add 65 1),o_ 65 (mv 78)]))))
@[reducible] def m_Q48_1:List Bool:=mb 79 [3,63,64,65]
@[reducible] def b_Q48_2:List Bool:=mb 79 []
def c_Q48:ICode:=(.seq (.reg [2,3] [o_ 2 (.box (some 2) 5 (t_ 0)),o_ 3 (.box (some 3) 5 (t_ 1)),o_ 4 (.mov xf)]) (.seq (.seq (.reg [] [o_ 9 (fa 0 2),o_ 10 (ld 9),o_ 11 (fa 0 3),o_ 12 (ld 11),o_ 13 (bi .neq 10 12),o_ 14 (mv 13),g_ 15 14 false (fa 1 2),g_ 16 14 false (ld 15),g_ 17 14 false (fa 1 3),g_ 18 14 false (ld 17),g_ 19 14 false (bi .neq 16 18),o_ 20 (po 14 19),o_ 21 (mv 20),g_ 22 21 false (fa 2 2),g_ 23 21 false (ld 22),g_ 24 21 false (fa 2 3),g_ 25 21 false (ld 24),g_ 26 21 false (bi .neq 23 25),o_ 27 (po 21 26),o_ 28 (mv 27),g_ 29 28 false (fa 3 2),g_ 30 28 false (ld 29),g_ 31 28 false (ll 30),g_ 32 28 false (fa 3 3),g_ 33 28 false (ld 32),g_ 34 28 false (ll 33),g_ 35 28 false (bi .neq 31 34),o_ 36 (po 28 35),o_ 37 (mv 36),g_ 38 37 false (fa 4 2),g_ 39 37 false (ld 38),g_ 40 37 false (ll 39),g_ 41 37 false (fa 4 3),g_ 42 37 false (ld 41),g_ 43 37 false (ll 42),g_ 44 37 false (bi .neq 40 43),o_ 45 (po 37 44)]) (.cond (t_ 45) (.seq (.reg [] [o_ 4 (.mov xf)]) .ret) .skip)) (.seq (.seq (.reg [] [o_ 46 (fa 3 2),o_ 47 (ld 46),o_ 48 (ll 47),o_ 49 (.mov (k_ 0))]) (.block 0 b_Q48_0 (.loop m_Q48_0 l_Q48_0))) (.seq (.seq (.reg [] [o_ 62 (fa 4 2),o_ 63 (ld 62),o_ 64 (ll 63),o_ 65 (.mov (k_ 0))]) (.block 2 b_Q48_2 (.loop m_Q48_1 l_Q48_1))) (.seq (.reg [] [o_ 4 (.mov xt)]) .ret)))))
def i_Q48:IFun:=⟨2,79,[.tmp 4],c_Q48,true⟩
theorem ok_Q48:FunOK Try.prog F_Q48 i_Q48:=⟨Try.f48,[8,6,3,2],[(0,m_Q48_0),(1000000,b_Q48_0),(2,m_Q48_1),(1000002,b_Q48_2)],Try.func48,by kernel_rfl⟩
def c_Q49:ICode:=(.seq (.reg [4] [o_ 4 (.alloc (some 4) [(.int .i64 0),(.str []),(.str []), .nilslice, .nilslice])]) (.seq (.reg [5] [o_ 8 (mv 0),o_ 9 (nc 8),o_ 10 (fa 0 9),o_ 11 (lw 5 10),o_ 12 (mv 1),o_ 13 (cl F_Q55 [(t_ 11),(t_ 12)]),o_ 7 (mv 13),o_ 14 (et 7 0),o_ 15 (et 7 1),o_ 5 (.alloc (some 5) [(.int .i64 0),(.str []),(.str []), .nilslice, .nilslice]),n_ (s3 5 5 14),o_ 6 (mv 15)]) (.seq (.reg [] [o_ 16 (lw 5 5),n_ (s3 5 4 16)]) .ret)))
def i_Q49:IFun:=⟨2,17,[.cell 4 (some 5)],c_Q49,false⟩
theorem ok_Q49:FunOK Try.prog F_Q49 i_Q49:=⟨Try.f49,[5,4],[],Try.func49,by kernel_rfl⟩
def c_Q50:ICode:=(.seq (.reg [2,3] [o_ 2 (.box (some 2) 2 (t_ 0)),o_ 3 (.box (some 3) 2 (t_ 1)),o_ 4 (.mov (k_ 0))]) (.seq (.reg [] [o_ 5 (fa 0 2),o_ 6 (ld 5),o_ 7 (fa 0 3),o_ 8 (ld 7),o_ 9 (cl F_Q33 [(t_ 6),(t_ 8)]),o_ 4 (mv 9)]) .ret))
def i_Q50:IFun:=⟨2,10,[.tmp 4],c_Q50,true⟩
theorem ok_Q50:FunOK Try.prog F_Q50 i_Q50:=⟨Try.f50,[3,2],[],Try.func50,by kernel_rfl⟩
def l_Q51_0:ICode:=(.seq (.seq (.reg [] [o_ 46 (mv 9),o_ 47 (bj .geq 46 0)]) (.cond (t_ 47) .skip (.exit 2))) (.seq (.block 3 [] (.reg [] [o_ 56 (mv 5),o_ 57 (mv 9),o_ 58 (.lookup false (J4 0) ⟨false,[.int]⟩ (t_ 56) (t_ 57)),o_ 59 (bj .add 58 1),n_ (.mapUpd ⟨false,[.int]⟩ (t_ 56) (t_ 57) (t_ 59))])) (.reg [] [o_ 48 (mv 0),o_ 49 (nc 48),o_ 50 (fa 11 49),o_ 51 (ld 50),o_ 52 (mv 9),o_ 53 (ix 10 51 52),o_ 54 (fa 0 53),o_ 55 (ld 54),o_ 9 (mv 55)])))
@[reducible] def m_Q51_0:List Bool:=mb 61 [0,1,5,6,9]
@[reducible] def b_Q51_2:List Bool:=mb 61 [0,1,5,6]
def l_Q51_1:ICode:=(.seq (.seq (.reg [] [o_ 13 (mv 6),o_ 14 (mv 1),o_ 15 (mv 0),o_ 16 (nc 15),o_ 17 (fa 10 16),o_ 18 (ld 17),o_ 19 (mv 1),o_ 20 (ix 10 18 19),o_ 21 (fa 1 20),o_ 22 (ld 21),o_ 23 (bi .add 14 22),o_ 24 (bi .lss 13 23)]) (.cond (t_ 24) .skip (.exit 0))) (.seq (.block 1 [] (.seq (.reg [] [o_ 28 (mv 0),o_ 29 (nc 28),o_ 30 (fa 14 29),o_ 31 (ld 30),o_ 32 (mv 6),o_ 33 (.lookup true (J4 0) ⟨false,[.int]⟩ (t_ 31) (t_ 32)),o_ 27 (mv 33),o_ 34 (et 27 0),o_ 35 (et 27 1),o_ 7 (mv 34),o_ 8 (mv 35)]) (.seq (.seq (.reg [] [o_ 36 (mv 8),o_ 37 (.not (t_ 36))]) (.cond (t_ 37) (.exit 1) .skip)) (.seq (.reg [] [o_ 38 (mv 0),o_ 39 (nc 38),o_ 40 (fa 11 39),o_ 41 (ld 40),o_ 42 (mv 7),o_ 43 (ix 10 41 42),o_ 44 (fa 0 43),o_ 45 (ld 44),o_ 9 (mv 45)]) (.block 2 b_Q51_2 (.loop m_Q51_0 l_Q51_0)))))) (.reg [] [o_ 25 (mv 6),o_ 26 (bj .add 25 1),o_ 6 (mv 26)])))
@[reducible] def m_Q51_1:List Bool:=mb 61 [0,1,5,6]
@[reducible] def b_Q51_0:List Bool:=mb 61 [5]
def c_Q51:ICode:=(.seq (.reg [] [o_ 4 (.mov (.const (.p .nilmap)))]) (.seq (.reg [] [o_ 10 (.mkMap),o_ 5 (mv 10)]) (.seq (.seq (.reg [] [o_ 11 (mv 1),o_ 12 (bj .add 11 1),o_ 6 (mv 12)]) (.block 0 b_Q51_0 (.loop m_Q51_1 l_Q51_1))) (.seq (.reg [] [o_ 60 (mv 5),o_ 4 (mv 60)]) .ret))))
def i_Q51:IFun:=⟨2,61,[.tmp 4],c_Q51,false⟩
theorem ok_Q51:FunOK Try.prog F_Q51 i_Q51:=⟨Try.f51,[],[(2,m_Q51_0),(1000002,b_Q51_2),(0,b_Q51_2),(1000000,b_Q51_0)],Try.func51,by kernel_rfl⟩
def c_Q52:ICode:=(.seq (.reg [] [o_ 4 (.mov (k_ 0))]) (.seq (.draw [] [o_ 5 (ld 1),s_ 6 (nc 5) [(5,0)],s_ 7 (fa 10 6) [(6,1)],s_ 8 (ld 7) [(7,2)],o_ 9 (ld 2),s_ 10 (ix 10 8 9) [(8,3),(9,4)],s_ 11 (fa 1 10) [(10,5)],s_ 12 (ld 11) [(11,6)],o_ 13 (ld 1),s_ 14 (nc 13) [(13,8)],s_ 15 (fa 11 14) [(14,9)],s_ 16 (ld 15) [(15,10)],o_ 17 (mv 0),s_ 18 (ix 10 16 17) [(16,11),(17,12)],s_ 19 (fa 1 18) [(18,13)],s_ 20 (ld 19) [(19,14)],s_ 21 (bi .add 12 20) [(12,7),(20,15)],s_ 22 (bj .sub 21 2) [(21,16)],s_ 4 (mv 22) [(22,17)]] [[⟨[0,1,2,3,4,5,6,7,8,9,10,11,12,13,14,15,16,17,18],[],none⟩]]) .ret))
def i_Q52:IFun:=⟨3,23,[.tmp 4],c_Q52,false⟩
theorem ok_Q52:FunOK Try.prog F_Q52 i_Q52:=⟨Try.f52,[],[],Try.func52,by kernel_rfl⟩
def c_Q53:ICode:=(.seq (.reg [] [o_ 8 (.mov (k_ 0))]) (.seq (.seq (.reg [] [o_ 9 (mv 1),o_ 10 (bj .eql 9 0)]) (.cond (t_ 10) (.reg [] [o_ 0 (.mov (k_ 0)),o_ 1 (.mov (k_ 1))]) .skip)) (.seq (.seq (.reg [] [o_ 11 (mv 3),o_ 12 (bj .eql 11 0)]) (.cond (t_ 12) (.reg [] [o_ 2 (.mov (k_ 0)),o_ 3 (.mov (k_ 1))]) .skip)) (.seq (.reg [] [o_ 13 (mv 0),o_ 14 (mv 3),o_ 15 (bi .mul 13 14),o_ 16 (mv 2),o_ 17 (mv 1),o_ 18 (bi .mul 16 17),o_ 19 (cl F_Q33 [(t_ 15),(t_ 18)]),o_ 8 (mv 19)]) .ret))))
def i_Q53:IFun:=⟨4,20,[.tmp 8],c_Q53,true⟩
theorem ok_Q53:FunOK Try.prog F_Q53 i_Q53:=⟨Try.f53,[],[],Try.func53,by kernel_rfl⟩
def c_Q54:ICode:=(.seq (.reg [] [o_ 4 (.mov xf)]) (.seq (.reg [] [o_ 5 (mv 0),o_ 6 (.bin .mul (k_ 4) (t_ 5)),o_ 7 (mv 1),o_ 8 (bi .gtr 6 7),o_ 4 (mv 8)]) .ret))
def i_Q54:IFun:=⟨2,9,[.tmp 4],c_Q54,true⟩
theorem ok_Q54:FunOK Try.prog F_Q54 i_Q54:=⟨Try.f54,[],[],Try.func54,by kernel_rfl⟩
def c_Q55:ICode:=(.seq (.reg [4] [o_ 2 (.box none 5 (t_ 0)),o_ 3 (.box none 1 (t_ 1)),o_ 4 (.alloc (some 4) [(.int .i64 0),(.str []),(.str []), .nilslice, .nilslice]),o_ 5 (.mov xf)]) (.seq (.reg [] [o_ 6 (.alloc none [(.int .i64 0),(.str []),(.str []), .nilslice, .nilslice])]) (.seq (.reg [] [o_ 7 (.alloc none [(.bool false)]),n_ (.store 1 (t_ 7) xf)]) (.seq (.reg [] [o_ 8 (.mkFunc F_Q64 [(t_ 3),(t_ 6),(t_ 7)]),o_ 9 (cl F_Q43 [(t_ 2),(t_ 8)])]) (.seq (.draw [] [o_ 10 (lw 5 6),o_ 11 (ld 7),e_ (s3 5 4 10) [(10,0)],s_ 5 (mv 11) [(11,1)]] [[⟨[0,1],[],(some 2)⟩,⟨[3],[1],none⟩]]) .ret)))))
def i_Q55:IFun:=⟨2,12,[.cell 4 (some 5), .tmp 5],c_Q55,true⟩
theorem ok_Q55:FunOK Try.prog F_Q55 i_Q55:=⟨Try.f55,[4],[],Try.func55,by kernel_rfl⟩
def c_Q56:ICode:=(.seq (.reg [2,3] [o_ 2 (.box (some 2) 5 (t_ 0)),o_ 3 (.box (some 3) 5 (t_ 1)),o_ 4 (.mov xn),o_ 5 (.mov (k_ 0))]) (.seq (.reg [7,8] [o_ 12 (lw 5 2),o_ 13 (lw 5 3),o_ 14 (cl F_Q65 [(t_ 12),(t_ 13)]),o_ 11 (mv 14),o_ 15 (et 11 0),o_ 16 (et 11 1),o_ 17 (et 11 2),o_ 18 (et 11 3),o_ 7 (.alloc (some 7) [(.int .i64 0),(.int .i64 0)]),o_ 8 (.alloc (some 8) [(.int .i64 0),(.int .i64 0)]),o_ 6 (mv 15),n_ (s3 2 7 16),n_ (s3 2 8 17),o_ 9 (mv 18)]) (.seq (.seq (.reg [] [o_ 19 (mv 9),o_ 20 (.not (t_ 19))]) (.cond (t_ 20) (.seq (.reg [] [o_ 4 (.mov xn),o_ 5 (.mov (k_ 2))]) .ret) .skip)) (.seq (.reg [] [o_ 21 (mv 6),o_ 22 (lw 2 7),o_ 23 (lw 2 8),o_ 24 (cl F_Q66 [(t_ 21),(t_ 22),(t_ 23)]),o_ 10 (mv 24)]) (.seq (.reg [] [o_ 25 (mv 10),o_ 26 (cl F_Q31 [(t_ 25),(.func F_Q67)])]) (.seq (.reg [] [o_ 27 (mv 10),o_ 4 (mv 27),o_ 5 (.mov (k_ 0))]) .ret))))))
def i_Q56:IFun:=⟨2,28,[.tmp 4, .tmp 5],c_Q56,true⟩
theorem ok_Q56:FunOK Try.prog F_Q56 i_Q56:=⟨Try.f56,[8,7,3,2],[],Try.func56,by kernel_rfl⟩
def c_Q59:ICode:=(.seq (.reg [] [o_ 2 (.mov xf)]) (.seq (.reg [] [o_ 3 (mv 0),o_ 4 (mv 0),o_ 5 (bi .neq 3 4),o_ 2 (mv 5)]) .ret))
def i_Q59:IFun:=⟨1,6,[.tmp 2],c_Q59,true⟩
theorem ok_Q59:FunOK Try.prog F_Q59 i_Q59:=⟨Try.f59,[],[],Try.func59,by kernel_rfl⟩
def c_Q60:ICode:=(.seq (.reg [1,2] [o_ 1 (.box (some 1) 5 (t_ 0)),o_ 2 (.alloc (some 2) [(.int .i64 0),(.str []),(.str []), .nilslice, .nilslice])]) (.seq (.draw [] [o_ 3 (fa 0 1),s_ 4 (ld 3) [(3,0)],o_ 5 (fa 1 1),s_ 6 (ld 5) [(5,2)],o_ 7 (fa 2 1),s_ 8 (ld 7) [(7,4)],o_ 9 (fa 3 1),s_ 10 (ld 9) [(9,6)],s_ 11 (.append 2 xn (t_ 10)) [(10,7)],s_ 12 (.build [(.int .i64 0),(.str []),(.str []), .nilslice, .nilslice] [(0,1,(t_ 4)),(1,1,(t_ 6)),(2,1,(t_ 8)),(3,1,(t_ 11))]) [(4,1),(6,3),(8,5),(11,8)],e_ (s3 5 2 12) [(12,9)]] [[⟨[0,1,2,3,4,5,6,7],[],(some 8)⟩,⟨[9],[1,3,5],(some 10)⟩,⟨[],[],none⟩]]) .ret))
def i_Q60:IFun:=⟨1,13,[.cell 2 (some 5)],c_Q60,true⟩
theorem ok_Q60:FunOK Try.prog F_Q60 i_Q60:=⟨Try.f60,[2,1],[],Try.func60,by kernel_rfl⟩
def c_Q61:ICode:=(.seq (.reg [3] [o_ 3 (.box (some 3) 5 (t_ 0)),o_ 6 (.mov xf)]) (.seq (.seq (.reg [] [o_ 7 (fa 0 3),o_ 8 (ld 7)]) (.block 0 [] (.seq (.reg [] [o_ 10 (bj .eql 8 1),o_ 9 (mv 10)]) (.cond (t_ 9) (.seq (.reg [] [o_ 11 (mv 1),o_ 12 (mv 11),g_ 13 12 true (fa 1 3),g_ 14 12 true (ld 13),g_ 15 12 true (.bin .eql (t_ 14) (.const (.p (.str [])))),o_ 16 (pa 12 15),o_ 17 (mv 16),g_ 18 17 true (fa 2 3),g_ 19 17 true (ld 18),g_ 20 17 true (.bin .eql (t_ 19) (.const (.p (.str [])))),o_ 21 (pa 17 20),o_ 22 (mv 21),g_ 23 22 true (fa 3 3),g_ 24 22 true (ld 23),g_ 25 22 true (ll 24),g_ 26 22 true (bj .eql 25 0),o_ 27 (pa 22 26),o_ 6 (mv 27)]) .ret) (.seq (.reg [] [o_ 29 (bj .eql 8 2),o_ 28 (mv 29)]) (.cond (t_ 28) (.seq (.reg [] [o_ 30 (fa 1 3),o_ 31 (ld 30),o_ 32 (cl F_Q78 [(t_ 31)]),o_ 33 (mv 32),g_ 34 33 true (fa 2 3),g_ 35 33 true (ld 34),g_ 36 33 true (.bin .eql (t_ 35) (.const (.p (.str [])))),o_ 37 (pa 33 36),o_ 38 (mv 37),g_ 39 38 true (fa 3 3),g_ 40 38 true (ld 39),g_ 41 38 true (cl F_Q79 [(t_ 40)]),o_ 42 (pa 38 41),o_ 6 (mv 42)]) .ret) (.seq (.reg [] [o_ 44 (bj .eql 8 3),o_ 43 (mv 44)]) (.cond (t_ 43) (.seq (.reg [] [o_ 45 (fa 1 3),o_ 46 (ld 45),o_ 47 (.bin .eql (t_ 46) (.const (.p (.str [])))),o_ 48 (mv 47),g_ 49 48 true (fa 3 3),g_ 50 48 true (ld 49),g_ 51 48 true (ll 50),g_ 52 48 true (bj .eql 51 0),o_ 53 (pa 48 52),o_ 54 (mv 53),g_ 55 54 true (fa 4 3),g_ 56 54 true (ld 55),g_ 57 54 true (ll 56),g_ 58 54 true (bj .eql 57 0),o_ 59 (pa 54 58),o_ 60 (mv 59),g_ 61 60 true (fa 2 3),g_ 62 60 true (ld 61),g_ 63 60 true (.lenStr (t_ 62)),g_ 64 60 true (bj .geq 63 1),o_ 65 (pa 60 64),o_ 66 (mv 65),
 g_ 67 66 true (fa 2 3),g_ 68 66 true (ld 67),g_ 69 66 true (.lenStr (t_ 68)),g_ 70 66 true (bj .leq 69 4096),o_ 71 (pa 66 70),o_ 6 (mv 71)]) .ret) (.seq (.reg [] [o_ 73 (bj .eql 8 4),o_ 72 (mv 73)]) (.cond (t_ 72) (.seq (.reg [] [o_ 74 (fa 1 3),o_ 75 (ld 74),o_ 76 (.bin .eql (t_ 75) (.const (.p (.str [])))),o_ 77 (mv 76),g_ 78 77 true (fa 3 3),g_ 79 77 true (ld 78),g_ 80 77 true (ll 79),g_ 81 77 true (bj .eql 80 0),o_ 82 (pa 77 81),o_ 83 (mv 82),g_ 84 83 true (fa 4 3),g_ 85 83 true (ld 84),g_ 86 83 true (ll 85),g_ 87 83 true (bj .eql 86 0),o_ 88 (pa 83 87),o_ 89 (mv 88),g_ 90 89 true (fa 2 3),g_ 91 89 true (ld 90),g_ 92 89 true (.lenStr (t_ 91)),g_ 93 89 true (bj .leq 92 4096),o_ 94 (pa 89 93),o_ 6 (mv 94)]) .ret) (.seq (.reg [] [o_ 96 (bj .eql 8 5),o_ 95 (mv 96)]) (.cond (t_ 95) (.seq (.reg [] [o_ 97 (mv 2),o_ 98 (mv 97),g_ 99 98 true (fa 1 3),g_ 100 98 true (ld 99),g_ 101 98 true (.lenStr (t_ 100)),g_ 102 98 true (bj .leq 101 32),o_ 103 (pa 98 102),o_ 104 (mv 103),g_ 105 104 true (fa 2 3),g_ 106 104 true (ld 105),g_ 107 104 true (.bin .eql (t_ 106) (.const (.p (.str [])))),o_ 108 (pa 104 107),o_ 109 (mv 108),g_ 110 109 true (fa 3 3),g_ 111 109 true (ld 110),g_ 112 109 true (ll 111),g_ 113 109 true (bj .eql 112 0),o_ 114 (pa 109 113),o_ 115 (mv 114),g_ 116 115 true (fa 4 3),g_ 117 115 true (ld 116),g_ 118 115 true (ll 117),g_ 119 115 true (bj .eql 118 0),o_ 120 (pa 115 119),o_ 6 (mv 120)]) .ret) .skip)))))))))))) (.seq (.reg [] [o_ 6 (.mov xf)]) .ret)))
def i_Q61:IFun:=⟨3,121,[.tmp 6],c_Q61,true⟩
theorem ok_Q61:FunOK Try.prog F_Q61 i_Q61:=⟨Try.f61,[3],[],Try.func61,by kernel_rfl⟩
def c_Q62:ICode:=(.seq (.reg [1] [o_ 1 (.box (some 1) 5 (t_ 0)),o_ 2 (.mov xf)]) (.seq (.seq (.reg [] [o_ 3 (fa 0 1),o_ 4 (ld 3),o_ 5 (bj .eql 4 2)]) (.cond (t_ 5) (.seq (.reg [] [o_ 6 (fa 1 1),o_ 7 (ld 6),o_ 8 (cl F_Q80 [(t_ 7)]),o_ 9 (mv 8),g_ 10 9 true (fa 2 1),g_ 11 9 true (ld 10),g_ 12 9 true (.bin .eql (t_ 11) (.const (.p (.str [])))),o_ 13 (pa 9 12),o_ 14 (mv 13),g_ 15 14 true (fa 3 1),g_ 16 14 true (ld 15),g_ 17 14 true (cl F_Q81 [(t_ 16)]),o_ 18 (pa 14 17),o_ 19 (mv 18),g_ 20 19 true (lw 5 1),g_ 21 19 true (cl F_Q42 [(t_ 20)]),o_ 22 (pa 19 21),o_ 2 (mv 22)]) .ret) .skip)) (.seq (.seq (.reg [] [o_ 23 (fa 3 1),o_ 24 (ld 23),o_ 25 (ll 24),o_ 26 (bj .gtr 25 0),o_ 27 (mv 26),g_ 28 27 false (fa 4 1),g_ 29 27 false (ld 28),g_ 30 27 false (ll 29),g_ 31 27 false (bj .gtr 30 0),o_ 32 (po 27 31)]) (.cond (t_ 32) (.seq (.reg [] [o_ 2 (.mov xf)]) .ret) .skip)) (.seq (.seq (.reg [] [o_ 33 (fa 0 1),o_ 34 (ld 33)]) (.block 0 [] (.seq (.reg [] [o_ 36 (bj .eql 34 3),o_ 35 (mv 36)]) (.cond (t_ 35) (.seq (.reg [] [o_ 37 (fa 1 1),o_ 38 (ld 37),o_ 39 (.bin .eql (t_ 38) (.const (.p (.str [])))),o_ 40 (mv 39),g_ 41 40 true (fa 2 1),g_ 42 40 true (ld 41),g_ 43 40 true (.bin .neq (t_ 42) (.const (.p (.str [])))),o_ 44 (pa 40 43),o_ 45 (mv 44),g_ 46 45 true (fa 2 1),g_ 47 45 true (ld 46),g_ 48 45 true (.lenStr (t_ 47)),g_ 49 45 true (bj .leq 48 4096),o_ 50 (pa 45 49),o_ 2 (mv 50)]) .ret) (.seq (.reg [] [o_ 52 (bj .eql 34 4),o_ 51 (mv 52)]) (.cond (t_ 51) (.seq (.reg [] [o_ 53 (fa 1 1),o_ 54 (ld 53),o_ 55 (.bin .eql (t_ 54) (.const (.p (.str [])))),o_ 56 (mv 55),g_ 57 56 true (fa 2 1),g_ 58 56 true (ld 57),g_ 59 56 true (.lenStr (t_ 58)),g_ 60 56 true (bj .leq 59 4096),
 o_ 61 (pa 56 60),o_ 2 (mv 61)]) .ret) (.seq (.reg [] [o_ 63 (bj .eql 34 5),o_ 62 (mv 63)]) (.cond (t_ 62) (.seq (.reg [] [o_ 64 (fa 2 1),o_ 65 (ld 64),o_ 66 (.bin .eql (t_ 65) (.const (.p (.str [])))),o_ 67 (mv 66),g_ 68 67 true (fa 1 1),g_ 69 67 true (ld 68),g_ 70 67 true (.lenStr (t_ 69)),g_ 71 67 true (bj .leq 70 32),o_ 72 (pa 67 71),o_ 2 (mv 72)]) .ret) .skip)))))))) (.seq (.reg [] [o_ 2 (.mov xf)]) .ret)))))
def i_Q62:IFun:=⟨1,73,[.tmp 2],c_Q62,true⟩
theorem ok_Q62:FunOK Try.prog F_Q62 i_Q62:=⟨Try.f62,[1],[],Try.func62,by kernel_rfl⟩
def l_Q63_0:ICode:=(.seq (.seq (.reg [] [o_ 22 (mv 7),o_ 23 (mv 5),o_ 24 (mv 3),o_ 25 (mv 5),o_ 26 (ix 10 24 25),o_ 27 (fa 1 26),o_ 28 (ld 27),o_ 29 (bi .add 23 28),o_ 30 (bi .lss 22 29)]) (.cond (t_ 30) .skip (.exit 2))) (.seq (.block 3 [] (.reg [] [o_ 38 (mv 6),o_ 39 (mv 4),o_ 40 (mv 7),o_ 41 (ix 1 39 40),o_ 42 (ld 41),o_ 43 (.buildSlice 1 1 [(.int .u64 0)] [(0,1,(t_ 42))]),o_ 44 (.append 1 (t_ 38) (t_ 43)),o_ 6 (mv 44)])) (.reg [] [o_ 31 (mv 7),o_ 32 (mv 3),o_ 33 (mv 7),o_ 34 (ix 10 32 33),o_ 35 (fa 1 34),o_ 36 (ld 35),o_ 37 (bi .add 31 36),o_ 7 (mv 37)])))
@[reducible] def m_Q63_0:List Bool:=mb 56 [3,4,5,6,7]
@[reducible] def b_Q63_2:List Bool:=mb 56 [3,4,5,6]
def l_Q63_1:ICode:=(.seq (.seq (.reg [] [o_ 16 (mv 5),o_ 17 (bj .geq 16 0)]) (.cond (t_ 17) .skip (.exit 0))) (.seq (.block 1 [] (.seq (.reg [] [o_ 6 (.mov xn)]) (.seq (.seq (.reg [] [o_ 20 (mv 5),o_ 21 (bj .add 20 1),o_ 7 (mv 21)]) (.block 2 b_Q63_2 (.loop m_Q63_0 l_Q63_0))) (.reg [] [o_ 45 (mv 4),o_ 46 (mv 5),o_ 47 (mv 3),o_ 48 (mv 5),o_ 49 (ix 10 47 48),o_ 50 (fa 5 49),o_ 51 (lw 5 50),o_ 52 (mv 6),o_ 53 (cl F_Q82 [(t_ 51),(t_ 52)]),o_ 54 (ix 1 45 46),n_ (s3 1 54 53)])))) (.reg [] [o_ 18 (mv 5),o_ 19 (bj .sub 18 1),o_ 5 (mv 19)])))
@[reducible] def m_Q63_1:List Bool:=mb 56 [3,4,5]
@[reducible] def b_Q63_0:List Bool:=mb 56 [4]
def c_Q63:ICode:=(.seq (.reg [1] [o_ 1 (.box (some 1) 5 (t_ 0)),o_ 2 (.mov xn)]) (.seq (.reg [] [o_ 8 (lw 5 1),o_ 9 (cl F_Q22 [(t_ 8)]),o_ 3 (mv 9)]) (.seq (.reg [] [o_ 10 (mv 3),o_ 11 (ll 10),o_ 12 (.mkSlice 1 [(.int .u64 0)] (t_ 11) (t_ 11)),o_ 4 (mv 12)]) (.seq (.seq (.reg [] [o_ 13 (mv 3),o_ 14 (ll 13),o_ 15 (bj .sub 14 1),o_ 5 (mv 15)]) (.block 0 b_Q63_0 (.loop m_Q63_1 l_Q63_1))) (.seq (.reg [] [o_ 55 (mv 4),o_ 2 (mv 55)]) .ret)))))
def i_Q63:IFun:=⟨1,56,[.tmp 2],c_Q63,true⟩
theorem ok_Q63:FunOK Try.prog F_Q63 i_Q63:=⟨Try.f63,[1],[(2,m_Q63_0),(1000002,b_Q63_2),(0,m_Q63_1),(1000000,b_Q63_0)],Try.func63,by kernel_rfl⟩
def c_Q64:ICode:=(.seq (.reg [6] [o_ 6 (.box (some 6) 4 (t_ 1)),o_ 7 (.mov xf)]) (.seq (.seq (.reg [] [o_ 8 (mv 0),o_ 9 (ld 2),o_ 10 (bi .eql 8 9)]) (.cond (t_ 10) (.reg [] [o_ 11 (fa 0 6),o_ 12 (ld 11),o_ 13 (nc 12),o_ 14 (lw 5 13),n_ (s3 5 3 14),n_ (.store 1 (t_ 4) xt)]) .skip)) (.seq (.reg [] [o_ 15 (ld 4),o_ 16 (.not (t_ 15)),o_ 7 (mv 16)]) .ret)))
def i_Q64:IFun:=⟨5,17,[.tmp 7],c_Q64,false⟩
theorem ok_Q64:FunOK Try.prog F_Q64 i_Q64:=⟨Try.f64,[6],[],Try.func64,by kernel_rfl⟩
def c_Q65:ICode:=(.seq (.reg [2,3,5,6] [o_ 2 (.box (some 2) 5 (t_ 0)),o_ 3 (.box (some 3) 5 (t_ 1)),o_ 4 (.mov (.const (.p .nilptr))),o_ 5 (.alloc (some 5) [(.int .i64 0),(.int .i64 0)]),o_ 6 (.alloc (some 6) [(.int .i64 0),(.int .i64 0)]),o_ 7 (.mov xf)]) (.seq (.draw [] [o_ 11 (lw 5 2),s_ 12 (cl F_Q83 [(t_ 11)]) [(11,0)],o_ 13 (lw 5 3),s_ 14 (cl F_Q83 [(t_ 13)]) [(13,2)],o_ 15 (.mkMap),s_ 16 (.build [.nilptr, .nilptr, .nilmap] [(0,1,(t_ 12)),(1,1,(t_ 14)),(2,1,(t_ 15))]) [(12,1),(14,3),(15,4)],s_ 17 (.box none 3 (t_ 16)) [(16,5)],s_ 8 (mv 17) [(17,6)]] [[⟨[0,2,4],[],(some 1)⟩,⟨[],[2,4],(some 3)⟩,⟨[5,6,7],[4],none⟩]]) (.seq (.draw [] [o_ 18 (mv 8),s_ 19 (nc 18) [(18,0)],s_ 20 (fa 0 19) [(19,1)],s_ 21 (ld 20) [(20,2)],s_ 22 (nc 21) [(21,3)],s_ 23 (fa 0 22) [(22,4)],s_ 24 (ld 23) [(23,5)],s_ 25 (ll 24) [(24,6)],o_ 26 (mv 8),s_ 27 (nc 26) [(26,8)],s_ 28 (fa 1 27) [(27,9)],s_ 29 (ld 28) [(28,10)],s_ 30 (nc 29) [(29,11)],s_ 31 (fa 0 30) [(30,12)],s_ 32 (ld 31) [(31,13)],s_ 33 (ll 32) [(32,14)],s_ 9 (mv 25) [(25,7)],s_ 10 (mv 33) [(33,15)]] [[⟨[0,1,2,3,4,5,6,7,8,9,10,11,12,13,14,15,16,17],[],none⟩]]) (.seq (.reg [] [o_ 34 (mv 8),o_ 35 (mv 9),o_ 36 (bj .sub 35 1),o_ 37 (cl F_Q84 [(k_ 0),(t_ 36)]),o_ 38 (mv 10),o_ 39 (bj .sub 38 1),o_ 40 (cl F_Q84 [(k_ 0),(t_ 39)]),o_ 41 (mv 9),o_ 42 (bj .leq 41 8),o_ 43 (mv 42),g_ 44 43 true (mv 10),g_ 45 43 true (bj .leq 44 8),o_ 46 (pa 43 45),o_ 4 (mv 34),n_ (s3 2 5 37),n_ (s3 2 6 40),o_ 7 (mv 46)]) .ret))))
def i_Q65:IFun:=⟨2,47,[.tmp 4, .cell 5 (some 2), .cell 6 (some 2), .tmp 7],c_Q65,false⟩
theorem ok_Q65:FunOK Try.prog F_Q65 i_Q65:=⟨Try.f65,[6,5,3,2],[],Try.func65,by kernel_rfl⟩
def c_Q66:ICode:=(.seq (.reg [4,5] [o_ 4 (.box (some 4) 2 (t_ 1)),o_ 5 (.box (some 5) 2 (t_ 2)),o_ 6 (.mov xn)]) (.seq (.seq (.draw [] [o_ 9 (lw 2 4),o_ 10 (cl F_Q85 []),s_ 11 (.eqv false ⟨true,[.int, .int]⟩ (t_ 9) (t_ 10)) [(9,0),(10,1)],s_ 12 (mv 11) [(11,2)],q_ 13 12 false (lw 2 5) [(12,3)],q_ 14 12 false (cl F_Q85 []) [(12,3)],⟨(some 15), .eqv false ⟨true,[.int, .int]⟩ (t_ 13) (t_ 14),(some (12,false)),[(13,4),(14,5),(12,3)]⟩,s_ 16 (po 12 15) [(12,3),(15,6)]] [[⟨[0],[],(some 1)⟩,⟨[2,3,4],[0],(some 5)⟩,⟨[6,7],[4],none⟩]]) (.cond (t_ 16) (.seq (.reg [] [o_ 6 (.mov xn)]) .ret) .skip)) (.seq (.reg [] [o_ 17 (mv 0),o_ 18 (lw 2 4),o_ 19 (lw 2 5),o_ 20 (cl F_Q86 [(t_ 17),(t_ 18),(t_ 19)]),o_ 7 (mv 20)]) (.seq (.seq (.reg [] [o_ 21 (mv 7)]) (.block 0 [] (.seq (.reg [] [o_ 23 (mv 0),o_ 24 (lw 2 4),o_ 25 (lw 2 5),o_ 26 (cl F_Q87 [(t_ 23),(t_ 24),(t_ 25)]),o_ 27 (bi .eql 21 26),o_ 22 (mv 27)]) (.cond (t_ 22) (.seq (.draw [] [o_ 28 (mv 0),o_ 29 (mv 0),s_ 30 (nc 29) [(29,1)],s_ 31 (fa 0 30) [(30,2)],s_ 32 (ld 31) [(31,3)],o_ 33 (lw 2 4),s_ 34 (cl F_Q88 [(t_ 32),(t_ 33)]) [(32,4),(33,5)],o_ 35 (mv 0),s_ 36 (nc 35) [(35,7)],s_ 37 (fa 1 36) [(36,8)],s_ 38 (ld 37) [(37,9)],o_ 39 (lw 2 5),s_ 40 (cl F_Q88 [(t_ 38),(t_ 39)]) [(38,10),(39,11)],s_ 41 (cl F_Q66 [(t_ 28),(t_ 34),(t_ 40)]) [(28,0),(34,6),(40,12)],o_ 42 (mv 0),o_ 43 (mv 0),s_ 44 (nc 43) [(43,15)],s_ 45 (fa 0 44) [(44,16)],s_ 46 (ld 45) [(45,17)],o_ 47 (lw 2 4),s_ 48 (cl F_Q89 [(t_ 46),(t_ 47)]) [(46,18),(47,19)],o_ 49 (mv 0),s_ 50 (nc 49) [(49,21)],s_ 51 (fa 1 50) [(50,22)],s_ 52 (ld 51) [(51,23)],o_ 53 (lw 2 5),s_ 54 (cl F_Q89 [(t_ 52),(t_ 53)]) [(52,24),(53,25)],s_ 55 (cl F_Q66 [(t_ 42),(t_ 48),(t_ 54)]) [(42,14),(48,20),(54,26)],s_ 56 (.append 2 (t_ 41) (t_ 55)) [(41,13),(55,27)],s_ 8 (mv 56) [(56,28)]] [[⟨[0,1,2,3,4,5,7,8,9,10,11,14,15,16,17,18,19,21,22,23,24,25],[],(some 6)⟩,⟨[],[10,11,18,19,24,25],(some 12)⟩,⟨[],[18,19,24,25],(some 13)⟩,⟨[],[18,19,24,25],(some 20)⟩,⟨[],[24,25],(some 26)⟩,⟨[],[],(some 27)⟩,⟨[],[],(some 28)⟩,⟨[29],[],none⟩]]) (.seq (.seq (.draw [] [o_ 57 (mv 0),s_ 58 (nc 57) [(57,0)],s_ 59 (fa 0 58) [(58,1)],
 s_ 60 (ld 59) [(59,2)],s_ 61 (nc 60) [(60,3)],s_ 62 (fa 0 61) [(61,4)],s_ 63 (ld 62) [(62,5)],o_ 64 (.idxArr 2 1 (t_ 4) (k_ 1)),s_ 65 (ld 64) [(64,7)],s_ 66 (ix 5 63 65) [(63,6),(65,8)],s_ 67 (lw 5 66) [(66,9)],o_ 68 (mv 0),s_ 69 (nc 68) [(68,11)],s_ 70 (fa 1 69) [(69,12)],s_ 71 (ld 70) [(70,13)],s_ 72 (nc 71) [(71,14)],s_ 73 (fa 0 72) [(72,15)],s_ 74 (ld 73) [(73,16)],o_ 75 (.idxArr 2 1 (t_ 5) (k_ 1)),s_ 76 (ld 75) [(75,18)],s_ 77 (ix 5 74 76) [(74,17),(76,19)],s_ 78 (lw 5 77) [(77,20)],s_ 79 (cl F_Q90 [(t_ 67),(t_ 78)]) [(67,10),(78,21)],s_ 80 (bj .lss 79 3) [(79,22)]] [[⟨[0,1,2,3,4,5,6,7,8,9,10,11,12,13,14,15,16,17,18,19,20,21],[],(some 22)⟩,⟨[23],[],none⟩]]) (.cond (t_ 80) (.draw [] [o_ 81 (mv 8),o_ 82 (mv 0),s_ 83 (nc 82) [(82,1)],s_ 84 (fa 0 83) [(83,2)],s_ 85 (ld 84) [(84,3)],s_ 86 (nc 85) [(85,4)],s_ 87 (fa 1 86) [(86,5)],s_ 88 (ld 87) [(87,6)],o_ 89 (.idxArr 2 1 (t_ 4) (k_ 1)),s_ 90 (ld 89) [(89,8)],s_ 91 (ix 1 88 90) [(88,7),(90,9)],s_ 92 (ld 91) [(91,10)],o_ 93 (mv 0),s_ 94 (nc 93) [(93,12)],s_ 95 (fa 1 94) [(94,13)],s_ 96 (ld 95) [(95,14)],s_ 97 (nc 96) [(96,15)],s_ 98 (fa 1 97) [(97,16)],s_ 99 (ld 98) [(98,17)],o_ 100 (.idxArr 2 1 (t_ 5) (k_ 1)),s_ 101 (ld 100) [(100,19)],s_ 102 (ix 1 99 101) [(99,18),(101,20)],s_ 103 (ld 102) [(102,21)],s_ 104 (.build [(.int .i64 0),(.int .i64 0)] [(0,1,(t_ 92)),(1,1,(t_ 103))]) [(92,11),(103,22)],s_ 105 (.buildSlice 2 1 [(.int .i64 0),(.int .i64 0)] [(0,2,(t_ 104))]) [(104,23)],s_ 106 (.append 2 (t_ 81) (t_ 105)) [(81,0),(105,24)],s_ 8 (mv 106) [(106,25)]] [[⟨[0,1,2,3,4,5,6,7,8,9,10,11,12,13,14,15,16,17,18,19,20,21,22,23,24],[],(some 25)⟩,⟨[26],[],none⟩]]) .skip)) (.seq (.reg [] [o_ 107 (mv 8),o_ 6 (mv 107)]) .ret))) (.seq (.draw [] [o_ 109 (mv 0),o_ 110 (lw 2 4),s_ 111 (cl F_Q91 [(t_ 110)]) [(110,1)],o_ 112 (lw 2 5),s_ 113 (cl F_Q86 [(t_ 109),(t_ 111),(t_ 112)]) [(109,0),(111,2),(112,3)],s_ 114 (bj .add 113 1) [(113,4)],s_ 115 (bi .eql 21 114) [(114,5)],s_ 108 (mv 115) [(115,6)]] [[⟨[0,1,3],[],(some 2)⟩,⟨[],[3],(some 4)⟩,⟨[5,6,7],[],none⟩]]) (.cond (t_ 108) (.seq (.draw [] [o_ 116 (mv 0),o_ 117 (lw 2 4),
 s_ 118 (cl F_Q91 [(t_ 117)]) [(117,1)],o_ 119 (lw 2 5),s_ 120 (cl F_Q66 [(t_ 116),(t_ 118),(t_ 119)]) [(116,0),(118,2),(119,3)],s_ 6 (mv 120) [(120,4)]] [[⟨[0,1,3],[],(some 2)⟩,⟨[],[3],(some 4)⟩,⟨[5],[],none⟩]]) .ret) .skip)))))) (.seq (.draw [] [o_ 121 (mv 0),o_ 122 (lw 2 4),o_ 123 (lw 2 5),s_ 124 (cl F_Q91 [(t_ 123)]) [(123,2)],s_ 125 (cl F_Q66 [(t_ 121),(t_ 122),(t_ 124)]) [(121,0),(122,1),(124,3)],s_ 6 (mv 125) [(125,4)]] [[⟨[0,1,2],[],(some 3)⟩,⟨[],[1],(some 4)⟩,⟨[5],[],none⟩]]) .ret)))))
def i_Q66:IFun:=⟨3,126,[.tmp 6],c_Q66,false⟩
theorem ok_Q66:FunOK Try.prog F_Q66 i_Q66:=⟨Try.f66,[5,4],[],Try.func66,by kernel_rfl⟩
def c_Q67:ICode:=(.seq (.reg [2,3] [o_ 2 (.box (some 2) 2 (t_ 0)),o_ 3 (.box (some 3) 2 (t_ 1)),o_ 4 (.mov (k_ 0))]) (.seq (.reg [] [o_ 5 (fa 0 2),o_ 6 (ld 5),o_ 7 (fa 0 3),o_ 8 (ld 7),o_ 9 (cl F_Q33 [(t_ 6),(t_ 8)]),o_ 4 (mv 9)]) .ret))
def i_Q67:IFun:=⟨2,10,[.tmp 4],c_Q67,true⟩
theorem ok_Q67:FunOK Try.prog F_Q67 i_Q67:=⟨Try.f67,[3,2],[],Try.func67,by kernel_rfl⟩
def l_Q78_0:ICode:=(.seq (.seq (.reg [] [o_ 13 (mv 3),o_ 14 (mv 0),o_ 15 (.lenStr (t_ 14)),o_ 16 (bi .lss 13 15)]) (.cond (t_ 16) .skip (.exit 0))) (.seq (.block 1 [] (.seq (.reg [] [o_ 19 (mv 0),o_ 20 (mv 3),o_ 21 (.idxStr (t_ 19) (t_ 20)),o_ 4 (mv 21)]) (.seq (.reg [] [o_ 22 (mv 4),o_ 23 (cl F_Q97 [(t_ 22)]),o_ 24 (mv 23),g_ 25 24 false (mv 4),g_ 26 24 false (.bin .eql (t_ 25) (.const (.p (.int .u8 0)))),o_ 27 (po 24 26),o_ 28 (mv 27),g_ 29 28 false (mv 4),g_ 30 28 false (.bin .eql (t_ 29) (.const (.p (.int .u8 34)))),o_ 31 (po 28 30),o_ 32 (mv 31),g_ 33 32 false (mv 4),g_ 34 32 false (.bin .eql (t_ 33) (.const (.p (.int .u8 39)))),o_ 35 (po 32 34),o_ 36 (mv 35),g_ 37 36 false (mv 4),g_ 38 36 false (.bin .eql (t_ 37) (.const (.p (.int .u8 62)))),o_ 39 (po 36 38),o_ 40 (mv 39),g_ 41 40 false (mv 4),g_ 42 40 false (.bin .eql (t_ 41) (.const (.p (.int .u8 47)))),o_ 43 (po 40 42),o_ 44 (mv 43),g_ 45 44 false (mv 4),g_ 46 44 false (.bin .eql (t_ 45) (.const (.p (.int .u8 61)))),o_ 47 (po 44 46),o_ 48 (mv 47),g_ 49 48 false (mv 4),g_ 50 48 false (.bin .eql (t_ 49) (.const (.p (.int .u8 60)))),o_ 51 (po 48 50),o_ 52 (mv 51),g_ 53 52 false (mv 4),g_ 54 52 false (.bin .geq (t_ 53) (.const (.p (.int .u8 65)))),g_ 55 52 false (mv 54),g_ 56 55 true (mv 4),g_ 57 55 true (.bin .leq (t_ 56) (.const (.p (.int .u8 90)))),g_ 58 52 false (pa 55 57),o_ 59 (po 52 58)]) (.cond (t_ 59) (.seq (.reg [] [o_ 2 (.mov xf)]) .ret) .skip)))) (.reg [] [o_ 17 (mv 3),o_ 18 (bj .add 17 1),o_ 3 (mv 18)])))
@[reducible] def m_Q78_0:List Bool:=mb 60 [0,3]
@[reducible] def b_Q78_0:List Bool:=mb 60 []
def c_Q78:ICode:=(.seq (.reg [] [o_ 2 (.mov xf)]) (.seq (.seq (.reg [] [o_ 5 (mv 0),o_ 6 (.lenStr (t_ 5)),o_ 7 (bj .lss 6 1),o_ 8 (mv 7),g_ 9 8 false (mv 0),g_ 10 8 false (.lenStr (t_ 9)),g_ 11 8 false (bj .gtr 10 32),o_ 12 (po 8 11)]) (.cond (t_ 12) (.seq (.reg [] [o_ 2 (.mov xf)]) .ret) .skip)) (.seq (.seq (.reg [] [o_ 3 (.mov (k_ 0))]) (.block 0 b_Q78_0 (.loop m_Q78_0 l_Q78_0))) (.seq (.reg [] [o_ 2 (.mov xt)]) .ret))))
def i_Q78:IFun:=⟨1,60,[.tmp 2],c_Q78,true⟩
theorem ok_Q78:FunOK Try.prog F_Q78 i_Q78:=⟨Try.f78,[],[(0,m_Q78_0),(1000000,b_Q78_0)],Try.func78,by kernel_rfl⟩
def l_Q79_0:ICode:=(.seq (.seq (.reg [] [o_ 7 (mv 3),o_ 8 (mv 0),o_ 9 (ll 8),o_ 10 (bi .lss 7 9)]) (.cond (t_ 10) .skip (.exit 0))) (.seq (.block 1 [] (.seq (.draw [] [o_ 13 (mv 0),o_ 14 (mv 3),s_ 15 (ix 2 13 14) [(13,0),(14,1)],s_ 16 (fa 0 15) [(15,2)],s_ 17 (ld 16) [(16,3)],s_ 18 (cl F_Q78 [(t_ 17)]) [(17,4)],s_ 19 (.not (t_ 18)) [(18,5)],s_ 20 (mv 19) [(19,6)],q_ 21 20 false (mv 0) [(20,7)],q_ 22 20 false (mv 3) [(20,7)],q_ 23 20 false (ix 2 21 22) [(21,8),(22,9),(20,7)],q_ 24 20 false (fa 1 23) [(23,10),(20,7)],q_ 25 20 false (ld 24) [(24,11),(20,7)],q_ 26 20 false (.lenStr (t_ 25)) [(25,12),(20,7)],q_ 27 20 false (bj .gtr 26 4096) [(26,13),(20,7)],s_ 28 (po 20 27) [(20,7),(27,14)],s_ 29 (mv 28) [(28,15)],q_ 30 29 false (mv 3) [(29,16)],q_ 31 29 false (bj .gtr 30 0) [(30,17),(29,16)],q_ 32 29 false (mv 31) [(31,18),(29,16)],q_ 33 32 true (mv 0) [(32,19)],q_ 34 32 true (mv 3) [(32,19)],q_ 35 32 true (ix 2 33 34) [(33,20),(34,21),(32,19)],q_ 36 32 true (fa 0 35) [(35,22),(32,19)],q_ 37 32 true (ld 36) [(36,23),(32,19)],q_ 38 32 true (mv 0) [(32,19)],q_ 39 32 true (mv 3) [(32,19)],q_ 40 32 true (bj .sub 39 1) [(39,26),(32,19)],q_ 41 32 true (ix 2 38 40) [(38,25),(40,27),(32,19)],q_ 42 32 true (fa 0 41) [(41,28),(32,19)],q_ 43 32 true (ld 42) [(42,29),(32,19)],q_ 44 32 true (bi .leq 37 43) [(37,24),(43,30),(32,19)],q_ 45 29 false (pa 32 44) [(32,19),(44,31),(29,16)],s_ 46 (po 29 45) [(29,16),(45,32)]] [[⟨[0,1,2,3,4],[],(some 5)⟩,⟨[6,7,8,9,10,11,12,13,14,15,16,17,18,19,20,21,22,23,24,25,26,27,28,29,30,31,32,33],[],none⟩]]) (.cond (t_ 46) (.seq (.reg [] [o_ 2 (.mov xf)]) .ret) .skip))) (.reg [] [o_ 11 (mv 3),o_ 12 (bj .add 11 1),o_ 3 (mv 12)])))
@[reducible] def m_Q79_0:List Bool:=mb 47 [0,3]
@[reducible] def b_Q79_0:List Bool:=mb 47 []
def c_Q79:ICode:=(.seq (.reg [] [o_ 2 (.mov xf)]) (.seq (.seq (.reg [] [o_ 4 (mv 0),o_ 5 (ll 4),o_ 6 (bj .gtr 5 12)]) (.cond (t_ 6) (.seq (.reg [] [o_ 2 (.mov xf)]) .ret) .skip)) (.seq (.seq (.reg [] [o_ 3 (.mov (k_ 0))]) (.block 0 b_Q79_0 (.loop m_Q79_0 l_Q79_0))) (.seq (.reg [] [o_ 2 (.mov xt)]) .ret))))
def i_Q79:IFun:=⟨1,47,[.tmp 2],c_Q79,true⟩
theorem ok_Q79:FunOK Try.prog F_Q79 i_Q79:=⟨Try.f79,[],[(0,m_Q79_0),(1000000,b_Q79_0)],Try.func79,by kernel_rfl⟩
def l_Q80_0:ICode:=(.seq (.reg [] [o_ 15 (bi .lss 14 13)]) (.seq (.cond (t_ 15) .skip (.exit 0)) (.seq (.block 1 [] (.seq (.reg [] [o_ 16 (mv 14),o_ 3 (mv 16)]) (.seq (.reg [] [o_ 17 (mv 0),o_ 18 (mv 3),o_ 19 (.idxStr (t_ 17) (t_ 18)),o_ 4 (mv 19)]) (.seq (.reg [] [o_ 20 (mv 4)]) (.block 2 [] (.seq (.seq (.reg [] [o_ 28 (.bin .eql (t_ 20) (.const (.p (.int .u8 9)))),o_ 27 (mv 28)]) (.cond (t_ 27) .skip (.seq (.reg [] [o_ 29 (.bin .eql (t_ 20) (.const (.p (.int .u8 10)))),o_ 27 (mv 29)]) (.cond (t_ 27) .skip (.seq (.reg [] [o_ 30 (.bin .eql (t_ 20) (.const (.p (.int .u8 12)))),o_ 27 (mv 30)]) (.cond (t_ 27) .skip (.seq (.reg [] [o_ 31 (.bin .eql (t_ 20) (.const (.p (.int .u8 32)))),o_ 27 (mv 31)]) (.cond (t_ 27) .skip (.seq (.reg [] [o_ 32 (.bin .eql (t_ 20) (.const (.p (.int .u8 0)))),o_ 27 (mv 32)]) (.cond (t_ 27) .skip (.seq (.reg [] [o_ 33 (.bin .eql (t_ 20) (.const (.p (.int .u8 34)))),o_ 27 (mv 33)]) (.cond (t_ 27) .skip (.seq (.reg [] [o_ 34 (.bin .eql (t_ 20) (.const (.p (.int .u8 39)))),o_ 27 (mv 34)]) (.cond (t_ 27) .skip (.seq (.reg [] [o_ 35 (.bin .eql (t_ 20) (.const (.p (.int .u8 62)))),o_ 27 (mv 35)]) (.cond (t_ 27) .skip (.seq (.reg [] [o_ 36 (.bin .eql (t_ 20) (.const (.p (.int .u8 47)))),o_ 27 (mv 36)]) (.cond (t_ 27) .skip (.seq (.reg [] [o_ 37 (.bin .eql (t_ 20) (.const (.p (.int .u8 61)))),o_ 27 (mv 37)]) (.cond (t_ 27) .skip (.reg [] [o_ 38 (.bin .eql (t_ 20) (.const (.p (.int .u8 60)))),o_ 27 (mv 38)]))))))))))))))))))))) (.cond (t_ 27) (.seq (.reg [] [o_ 2 (.mov xf)]) .ret) (.seq (.reg [] [o_ 21 (mv 4),o_ 22 (.bin .geq (t_ 21) (.const (.p (.int .u8 65)))),o_ 23 (mv 22),g_ 24 23 true (mv 4),g_ 25 23 true (.bin .leq (t_ 24) (.const (.p (.int .u8 90)))),o_ 26 (pa 23 25)]) (.cond (t_ 26) (.seq (.reg [] [o_ 2 (.mov xf)]) .ret) .skip))))))))) (.reg [] [o_ 39 (bj .add 14 1),o_ 14 (mv 39)]))))
@[reducible] def m_Q80_0:List Bool:=mb 40 [0,13,14]
@[reducible] def b_Q80_0:List Bool:=mb 40 []
def c_Q80:ICode:=(.seq (.reg [] [o_ 2 (.mov xf)]) (.seq (.seq (.reg [] [o_ 5 (mv 0),o_ 6 (.bin .eql (t_ 5) (.const (.p (.str [])))),o_ 7 (mv 6),g_ 8 7 false (mv 0),g_ 9 7 false (.lenStr (t_ 8)),g_ 10 7 false (bj .gtr 9 32),o_ 11 (po 7 10)]) (.cond (t_ 11) (.seq (.reg [] [o_ 2 (.mov xf)]) .ret) .skip)) (.seq (.seq (.reg [] [o_ 12 (mv 0),o_ 13 (.lenStr (t_ 12)),o_ 14 (.mov (k_ 0))]) (.block 0 b_Q80_0 (.loop m_Q80_0 l_Q80_0))) (.seq (.reg [] [o_ 2 (.mov xt)]) .ret))))
def i_Q80:IFun:=⟨1,40,[.tmp 2],c_Q80,true⟩
theorem ok_Q80:FunOK Try.prog F_Q80 i_Q80:=⟨Try.f80,[],[(0,m_Q80_0),(1000000,b_Q80_0)],Try.func80,by kernel_rfl⟩
def l_Q81_0:ICode:=(.seq (.reg [] [o_ 12 (bi .lss 11 10)]) (.seq (.cond (t_ 12) .skip (.exit 0)) (.seq (.block 1 [] (.seq (.reg [5] [o_ 13 (ix 2 9 11),o_ 14 (lw 2 13),o_ 5 (.alloc (some 5) [(.str []),(.str [])]),n_ (s3 2 5 14)]) (.seq (.seq (.reg [] [o_ 15 (fa 0 5),o_ 16 (ld 15),o_ 17 (mv 3),o_ 18 (bi .leq 16 17),o_ 19 (mv 18),g_ 20 19 false (fa 0 5),g_ 21 19 false (ld 20),g_ 22 19 false (cl F_Q80 [(t_ 21)]),g_ 23 19 false (.not (t_ 22)),o_ 24 (po 19 23),o_ 25 (mv 24),g_ 26 25 false (fa 1 5),g_ 27 25 false (ld 26),g_ 28 25 false (.lenStr (t_ 27)),g_ 29 25 false (bj .gtr 28 4096),o_ 30 (po 25 29)]) (.cond (t_ 30) (.seq (.reg [] [o_ 2 (.mov xf)]) .ret) .skip)) (.reg [] [o_ 31 (fa 0 5),o_ 32 (ld 31),o_ 3 (mv 32)])))) (.reg [] [o_ 33 (bj .add 11 1),o_ 11 (mv 33)]))))
@[reducible] def m_Q81_0:List Bool:=mb 34 [3,9,10,11]
@[reducible] def b_Q81_0:List Bool:=mb 34 []
def c_Q81:ICode:=(.seq (.reg [] [o_ 2 (.mov xf)]) (.seq (.seq (.reg [] [o_ 6 (mv 0),o_ 7 (ll 6),o_ 8 (bj .gtr 7 12)]) (.cond (t_ 8) (.seq (.reg [] [o_ 2 (.mov xf)]) .ret) .skip)) (.seq (.reg [] [o_ 3 (.mov (.const (.p (.str []))))]) (.seq (.seq (.reg [] [o_ 9 (mv 0),o_ 10 (ll 9),o_ 11 (.mov (k_ 0))]) (.block 0 b_Q81_0 (.loop m_Q81_0 l_Q81_0))) (.seq (.reg [] [o_ 2 (.mov xt)]) .ret)))))
def i_Q81:IFun:=⟨1,34,[.tmp 2],c_Q81,true⟩
theorem ok_Q81:FunOK Try.prog F_Q81 i_Q81:=⟨Try.f81,[5],[(0,m_Q81_0),(1000000,b_Q81_0)],Try.func81,by kernel_rfl⟩
def l_Q82_0:ICode:=(.seq (.reg [] [o_ 33 (bi .lss 32 31)]) (.seq (.cond (t_ 33) .skip (.exit 0)) (.seq (.block 1 [] (.seq (.reg [7] [o_ 34 (ix 2 30 32),o_ 35 (lw 2 34),o_ 7 (.alloc (some 7) [(.str []),(.str [])]),n_ (s3 2 7 35)]) (.seq (.reg [] [o_ 36 (mv 5),o_ 37 (fa 0 7),o_ 38 (ld 37),o_ 39 (cl F_Q99 [(t_ 38)]),o_ 40 (cl F_Q98 [(t_ 36),(t_ 39)]),o_ 5 (mv 40)]) (.reg [] [o_ 41 (mv 5),o_ 42 (fa 1 7),o_ 43 (ld 42),o_ 44 (cl F_Q99 [(t_ 43)]),o_ 45 (cl F_Q98 [(t_ 41),(t_ 44)]),o_ 5 (mv 45)])))) (.reg [] [o_ 46 (bj .add 32 1),o_ 32 (mv 46)]))))
@[reducible] def m_Q82_0:List Bool:=mb 63 [1,5,30,31,32]
@[reducible] def b_Q82_0:List Bool:=mb 63 [1,5]
def l_Q82_1:ICode:=(.seq (.reg [] [o_ 55 (bi .lss 54 53)]) (.seq (.cond (t_ 55) .skip (.exit 2)) (.seq (.block 3 [] (.seq (.reg [] [o_ 56 (ix 1 52 54),o_ 57 (ld 56),o_ 9 (mv 57)]) (.reg [] [o_ 58 (mv 5),o_ 59 (mv 9),o_ 60 (cl F_Q98 [(t_ 58),(t_ 59)]),o_ 5 (mv 60)]))) (.reg [] [o_ 61 (bj .add 54 1),o_ 54 (mv 61)]))))
@[reducible] def m_Q82_1:List Bool:=mb 63 [5,52,53,54]
@[reducible] def b_Q82_2:List Bool:=mb 63 [5]
def c_Q82:ICode:=(.seq (.reg [2] [o_ 2 (.box (some 2) 5 (t_ 0)),o_ 4 (.mov (.const (.p (.int .u64 0))))]) (.seq (.reg [] [o_ 10 (fa 0 2),o_ 11 (ld 10),o_ 12 (.conv .u64 (t_ 11)),o_ 5 (mv 12)]) (.seq (.reg [] [o_ 13 (mv 5),o_ 14 (fa 1 2),o_ 15 (ld 14),o_ 16 (cl F_Q99 [(t_ 15)]),o_ 17 (cl F_Q98 [(t_ 13),(t_ 16)]),o_ 5 (mv 17)]) (.seq (.reg [] [o_ 18 (mv 5),o_ 19 (fa 2 2),o_ 20 (ld 19),o_ 21 (cl F_Q99 [(t_ 20)]),o_ 22 (cl F_Q98 [(t_ 18),(t_ 21)]),o_ 5 (mv 22)]) (.seq (.reg [] [o_ 23 (mv 5),o_ 24 (fa 3 2),o_ 25 (ld 24),o_ 26 (ll 25),o_ 27 (.conv .u64 (t_ 26)),o_ 28 (cl F_Q98 [(t_ 23),(t_ 27)]),o_ 5 (mv 28)]) (.seq (.seq (.reg [] [o_ 29 (fa 3 2),o_ 30 (ld 29),o_ 31 (ll 30),o_ 32 (.mov (k_ 0))]) (.block 0 b_Q82_0 (.loop m_Q82_0 l_Q82_0))) (.seq (.reg [] [o_ 47 (mv 5),o_ 48 (mv 1),o_ 49 (ll 48),o_ 50 (.conv .u64 (t_ 49)),o_ 51 (cl F_Q98 [(t_ 47),(t_ 50)]),o_ 5 (mv 51)]) (.seq (.seq (.reg [] [o_ 52 (mv 1),o_ 53 (ll 52),o_ 54 (.mov (k_ 0))]) (.block 2 b_Q82_2 (.loop m_Q82_1 l_Q82_1))) (.seq (.reg [] [o_ 62 (mv 5),o_ 4 (mv 62)]) .ret)))))))))
def i_Q82:IFun:=⟨2,63,[.tmp 4],c_Q82,true⟩
theorem ok_Q82:FunOK Try.prog F_Q82 i_Q82:=⟨Try.f82,[7,2],[(0,m_Q82_0),(1000000,b_Q82_0),(2,m_Q82_1),(1000002,b_Q82_2)],Try.func82,by kernel_rfl⟩
def l_Q83_0:ICode:=(.seq (.reg [] [o_ 19 (bi .lss 18 17)]) (.seq (.cond (t_ 19) .skip (.exit 0)) (.seq (.block 1 [] (.seq (.reg [] [o_ 20 (mv 18),o_ 21 (ix 1 16 18),o_ 22 (ld 21),o_ 5 (mv 20),o_ 6 (mv 22)]) (.seq (.draw [] [o_ 23 (mv 4),s_ 24 (nc 23) [(23,0)],s_ 25 (fa 0 24) [(24,1)],s_ 26 (ld 25) [(25,2)],o_ 27 (mv 3),o_ 28 (mv 6),s_ 29 (ix 10 27 28) [(27,4),(28,5)],s_ 30 (fa 5 29) [(29,6)],s_ 31 (lw 5 30) [(30,7)],s_ 32 (ll 26) [(26,3)],o_ 33 (.buildSlice 5 1 [(.int .i64 0),(.str []),(.str []), .nilslice, .nilslice] [(0,5,(.const (.agg [(J4 0),(.p (.str [])),(.p (.str [])),(.p .nilslice),(.p .nilslice)])))]),s_ 34 (.append 5 (t_ 26) (t_ 33)) [(26,3),(33,10)],s_ 35 (ix 5 34 32) [(34,11),(32,9)],e_ (s3 5 35 31) [(35,12),(31,8)],s_ 36 (nc 23) [(23,0)],s_ 37 (fa 0 36) [(36,14)],e_ (s3 1 37 34) [(37,15),(34,11)]] [[⟨[0,1,2,3,4,5,6,7,8,9,10],[],(some 11)⟩,⟨[12,14,15],[],(some 13)⟩,⟨[],[],(some 16)⟩,⟨[],[],none⟩],[⟨[0,1,2,3,4,5,6,7,8,9,10],[],(some 11)⟩,⟨[12,14,15],[],(some 16)⟩,⟨[],[],(some 13)⟩,⟨[],[],none⟩]]) (.draw [] [o_ 38 (mv 4),o_ 39 (mv 4),s_ 40 (nc 39) [(39,1)],s_ 41 (fa 2 40) [(40,2)],s_ 42 (ld 41) [(41,3)],o_ 43 (mv 5),s_ 44 (bj .add 43 1) [(43,5)],o_ 45 (mv 3),o_ 46 (mv 6),s_ 47 (ix 10 45 46) [(45,7),(46,8)],s_ 48 (fa 1 47) [(47,9)],s_ 49 (ld 48) [(48,10)],s_ 50 (bi .sub 44 49) [(44,6),(49,11)],s_ 51 (.buildSlice 1 1 [(.int .i64 0)] [(0,1,(t_ 50))]) [(50,12)],s_ 52 (.append 1 (t_ 42) (t_ 51)) [(42,4),(51,13)],s_ 53 (nc 38) [(38,0)],s_ 54 (fa 2 53) [(53,15)],e_ (s3 1 54 52) [(54,16),(52,14)]] [[⟨[0,1,2,3,4,5,6,7,8,9,10,11,12,13],[],(some 14)⟩,⟨[15,16],[],(some 17)⟩,⟨[],[],none⟩]])))) (.reg [] [o_ 55 (bj .add 18 1),o_ 18 (mv 55)]))))
@[reducible] def m_Q83_0:List Bool:=mb 57 [3,4,16,17,18]
@[reducible] def b_Q83_0:List Bool:=mb 57 [4]
def c_Q83:ICode:=(.seq (.reg [1] [o_ 1 (.box (some 1) 5 (t_ 0)),o_ 2 (.mov (.const (.p .nilptr)))]) (.seq (.reg [] [o_ 7 (lw 5 1),o_ 8 (cl F_Q22 [(t_ 7)]),o_ 3 (mv 8)]) (.seq (.reg [] [o_ 9 (lw 5 1),o_ 10 (cl F_Q26 [(t_ 9)]),o_ 11 (.build [.nilslice, .nilslice, .nilslice] [(1,1,(t_ 10))]),o_ 12 (.box none 3 (t_ 11)),o_ 4 (mv 12)]) (.seq (.seq (.reg [] [o_ 13 (mv 4),o_ 14 (nc 13),o_ 15 (fa 1 14),o_ 16 (ld 15),o_ 17 (ll 16),o_ 18 (.mov (k_ 0))]) (.block 0 b_Q83_0 (.loop m_Q83_0 l_Q83_0))) (.seq (.reg [] [o_ 56 (mv 4),o_ 2 (mv 56)]) .ret)))))
def i_Q83:IFun:=⟨1,57,[.tmp 2],c_Q83,false⟩
theorem ok_Q83:FunOK Try.prog F_Q83 i_Q83:=⟨Try.f83,[1],[(0,m_Q83_0),(1000000,b_Q83_0)],Try.func83,by kernel_rfl⟩
def c_Q84:ICode:=(.seq (.reg [4] [o_ 4 (.alloc (some 4) [(.int .i64 0),(.int .i64 0)])]) (.seq (.seq (.reg [] [o_ 5 (mv 0),o_ 6 (mv 1),o_ 7 (bi .gtr 5 6)]) (.cond (t_ 7) (.seq (.reg [] [o_ 8 (cl F_Q85 []),n_ (s3 2 4 8)]) .ret) .skip)) (.seq (.reg [] [o_ 9 (mv 0),o_ 10 (mv 1),o_ 11 (.build [(.int .i64 0),(.int .i64 0)] [(0,1,(t_ 9)),(1,1,(t_ 10))]),n_ (s3 2 4 11)]) .ret)))
def i_Q84:IFun:=⟨2,12,[.cell 4 (some 2)],c_Q84,true⟩
theorem ok_Q84:FunOK Try.prog F_Q84 i_Q84:=⟨Try.f84,[4],[],Try.func84,by kernel_rfl⟩
def c_Q85:ICode:=(.seq (.reg [0] [o_ 0 (.alloc (some 0) [(.int .i64 0),(.int .i64 0)])]) (.seq (.reg [] [o_ 1 (.build [(.int .i64 0),(.int .i64 0)] [(0,1,(k_ 0)),(1,1,(k_ (-1)))]),n_ (s3 2 0 1)]) .ret))
def i_Q85:IFun:=⟨0,2,[.cell 0 (some 2)],c_Q85,true⟩
theorem ok_Q85:FunOK Try.prog F_Q85 i_Q85:=⟨Try.f85,[0],[],Try.func85,by kernel_rfl⟩
def c_Q86:ICode:=(.seq (.reg [4,5] [o_ 4 (.box (some 4) 2 (t_ 1)),o_ 5 (.box (some 5) 2 (t_ 2)),o_ 6 (.mov (k_ 0))]) (.seq (.block 0 [] (.seq (.draw [] [o_ 11 (lw 2 4),o_ 12 (cl F_Q85 []),s_ 13 (.eqv false ⟨true,[.int, .int]⟩ (t_ 11) (t_ 12)) [(11,0),(12,1)],s_ 14 (mv 13) [(13,2)],q_ 15 14 true (lw 2 5) [(14,3)],q_ 16 14 true (cl F_Q85 []) [(14,3)],⟨(some 17), .eqv false ⟨true,[.int, .int]⟩ (t_ 15) (t_ 16),(some (14,true)),[(15,4),(16,5),(14,3)]⟩,s_ 18 (pa 14 17) [(14,3),(17,6)],s_ 10 (mv 18) [(18,7)]] [[⟨[0],[],(some 1)⟩,⟨[2,3,4],[0],(some 5)⟩,⟨[6,7,8],[4],none⟩]]) (.cond (t_ 10) (.seq (.reg [] [o_ 6 (.mov (k_ 0))]) .ret) (.seq (.draw [] [o_ 20 (lw 2 4),o_ 21 (cl F_Q85 []),s_ 22 (.eqv false ⟨true,[.int, .int]⟩ (t_ 20) (t_ 21)) [(20,0),(21,1)],s_ 19 (mv 22) [(22,2)]] [[⟨[0],[],(some 1)⟩,⟨[2,3],[0],none⟩]]) (.cond (t_ 19) (.seq (.reg [] [o_ 23 (.idxArr 2 1 (t_ 5) (k_ 1)),o_ 24 (ld 23),o_ 25 (.idxArr 2 1 (t_ 5) (k_ 0)),o_ 26 (ld 25),o_ 27 (bi .sub 24 26),o_ 28 (bj .add 27 1),o_ 6 (mv 28)]) .ret) (.seq (.draw [] [o_ 30 (lw 2 5),o_ 31 (cl F_Q85 []),s_ 32 (.eqv false ⟨true,[.int, .int]⟩ (t_ 30) (t_ 31)) [(30,0),(31,1)],s_ 29 (mv 32) [(32,2)]] [[⟨[0],[],(some 1)⟩,⟨[2,3],[0],none⟩]]) (.cond (t_ 29) (.seq (.reg [] [o_ 33 (.idxArr 2 1 (t_ 4) (k_ 1)),o_ 34 (ld 33),o_ 35 (.idxArr 2 1 (t_ 4) (k_ 0)),o_ 36 (ld 35),o_ 37 (bi .sub 34 36),o_ 38 (bj .add 37 1),o_ 6 (mv 38)]) .ret) .skip))))))) (.seq (.reg [7] [o_ 39 (lw 2 4),o_ 40 (lw 2 5),o_ 41 (.build [(.int .i64 0),(.int .i64 0),(.int .i64 0),(.int .i64 0)] [(0,2,(t_ 39)),(2,2,(t_ 40))]),o_ 7 (.alloc (some 7) [(.int .i64 0),(.int .i64 0),(.int .i64 0),(.int .i64 0)]),n_ (s3 4 7 41)]) (.seq (.draw [] [o_ 43 (mv 0),s_ 44 (nc 43) [(43,0)],s_ 45 (fa 2 44) [(44,1)],s_ 46 (ld 45) [(45,2)],o_ 47 (lw 4 7),s_ 48 (.lookup true (J4 0) ⟨true,[.int, .int, .int, .int]⟩ (t_ 46) (t_ 47)) [(46,3),(47,4)],s_ 42 (mv 48) [(48,5)],s_ 49 (et 42 0) [(42,6)],s_ 50 (et 42 1) [(42,6)],s_ 8 (mv 49) [(49,7)],s_ 9 (mv 50) [(50,8)]] [[⟨[0,1,2,3,4,5,6,7,8,9,10],[],none⟩]]) (.seq (.seq (.reg [] [o_ 51 (mv 9),o_ 52 (.not (t_ 51))]) (.cond (t_ 52) (.seq (.draw [] [o_ 53 (mv 0),o_ 54 (lw 2 4),o_ 55 (lw 2 5),
 s_ 56 (cl F_Q87 [(t_ 53),(t_ 54),(t_ 55)]) [(53,0),(54,1),(55,2)],o_ 57 (mv 0),o_ 58 (lw 2 4),s_ 59 (cl F_Q91 [(t_ 58)]) [(58,5)],o_ 60 (lw 2 5),s_ 61 (cl F_Q86 [(t_ 57),(t_ 59),(t_ 60)]) [(57,4),(59,6),(60,7)],s_ 62 (bj .add 61 1) [(61,8)],o_ 63 (mv 0),o_ 64 (lw 2 4),o_ 65 (lw 2 5),s_ 66 (cl F_Q91 [(t_ 65)]) [(65,12)],s_ 67 (cl F_Q86 [(t_ 63),(t_ 64),(t_ 66)]) [(63,10),(64,11),(66,13)],s_ 68 (bj .add 67 1) [(67,14)],s_ 69 (.mini [(t_ 56),(t_ 62),(t_ 68)]) [(56,3),(62,9),(68,15)],s_ 8 (mv 69) [(69,16)]] [[⟨[0,1,2,4,5,7,10,11,12],[],(some 3)⟩,⟨[],[5,7,11,12],(some 6)⟩,⟨[],[7,11,12],(some 8)⟩,⟨[9],[11,12],(some 13)⟩,⟨[],[11],(some 14)⟩,⟨[15,16,17],[],none⟩]]) (.draw [] [o_ 70 (mv 0),s_ 71 (nc 70) [(70,0)],s_ 72 (fa 2 71) [(71,1)],s_ 73 (ld 72) [(72,2)],o_ 74 (lw 4 7),o_ 75 (mv 8),e_ (.mapUpd ⟨true,[.int, .int, .int, .int]⟩ (t_ 73) (t_ 74) (t_ 75)) [(73,3),(74,4),(75,5)]] [[⟨[0,1,2,3,4,5],[],(some 6)⟩,⟨[],[],none⟩]])) .skip)) (.seq (.reg [] [o_ 76 (mv 8),o_ 6 (mv 76)]) .ret))))))
def i_Q86:IFun:=⟨3,77,[.tmp 6],c_Q86,false⟩
theorem ok_Q86:FunOK Try.prog F_Q86 i_Q86:=⟨Try.f86,[7,5,4],[],Try.func86,by kernel_rfl⟩
def c_Q87:ICode:=(.seq (.reg [4,5] [o_ 4 (.box (some 4) 2 (t_ 1)),o_ 5 (.box (some 5) 2 (t_ 2)),o_ 6 (.mov (k_ 0))]) (.seq (.draw [] [o_ 7 (mv 0),o_ 8 (mv 0),s_ 9 (nc 8) [(8,1)],s_ 10 (fa 0 9) [(9,2)],s_ 11 (ld 10) [(10,3)],o_ 12 (lw 2 4),s_ 13 (cl F_Q88 [(t_ 11),(t_ 12)]) [(11,4),(12,5)],o_ 14 (mv 0),s_ 15 (nc 14) [(14,7)],s_ 16 (fa 1 15) [(15,8)],s_ 17 (ld 16) [(16,9)],o_ 18 (lw 2 5),s_ 19 (cl F_Q88 [(t_ 17),(t_ 18)]) [(17,10),(18,11)],s_ 20 (cl F_Q86 [(t_ 7),(t_ 13),(t_ 19)]) [(7,0),(13,6),(19,12)],o_ 21 (mv 0),o_ 22 (mv 0),s_ 23 (nc 22) [(22,15)],s_ 24 (fa 0 23) [(23,16)],s_ 25 (ld 24) [(24,17)],o_ 26 (lw 2 4),s_ 27 (cl F_Q89 [(t_ 25),(t_ 26)]) [(25,18),(26,19)],o_ 28 (mv 0),s_ 29 (nc 28) [(28,21)],s_ 30 (fa 1 29) [(29,22)],s_ 31 (ld 30) [(30,23)],o_ 32 (lw 2 5),s_ 33 (cl F_Q89 [(t_ 31),(t_ 32)]) [(31,24),(32,25)],s_ 34 (cl F_Q86 [(t_ 21),(t_ 27),(t_ 33)]) [(21,14),(27,20),(33,26)],s_ 35 (bi .add 20 34) [(20,13),(34,27)],o_ 36 (mv 0),s_ 37 (nc 36) [(36,29)],s_ 38 (fa 0 37) [(37,30)],s_ 39 (ld 38) [(38,31)],s_ 40 (nc 39) [(39,32)],s_ 41 (fa 0 40) [(40,33)],s_ 42 (ld 41) [(41,34)],o_ 43 (.idxArr 2 1 (t_ 4) (k_ 1)),s_ 44 (ld 43) [(43,36)],s_ 45 (ix 5 42 44) [(42,35),(44,37)],s_ 46 (lw 5 45) [(45,38)],o_ 47 (mv 0),s_ 48 (nc 47) [(47,40)],s_ 49 (fa 1 48) [(48,41)],s_ 50 (ld 49) [(49,42)],s_ 51 (nc 50) [(50,43)],s_ 52 (fa 0 51) [(51,44)],s_ 53 (ld 52) [(52,45)],o_ 54 (.idxArr 2 1 (t_ 5) (k_ 1)),s_ 55 (ld 54) [(54,47)],s_ 56 (ix 5 53 55) [(53,46),(55,48)],s_ 57 (lw 5 56) [(56,49)],s_ 58 (cl F_Q90 [(t_ 46),(t_ 57)]) [(46,39),(57,50)],s_ 59 (bi .add 35 58) [(35,28),(58,51)],s_ 6 (mv 59) [(59,52)]] [[⟨[0,1,2,3,4,5,7,8,9,10,11,14,15,16,17,18,19,21,22,23,24,25,29,30,31,32,33,34,35,36,37,38,39,40,41,42,43,44,45,46,47,48,49,50],[],(some 6)⟩,⟨[],[10,11,18,19,24,25,32,35,37,39,43,46,48,50],(some 12)⟩,⟨[],[18,19,24,25,32,35,37,39,43,46,48,50],(some 13)⟩,⟨[],[18,19,24,25,32,35,37,39,43,46,48,50],(some 20)⟩,⟨[],[24,25,32,35,37,39,43,46,48,50],(some 26)⟩,⟨[],[32,35,37,39,43,46,48,50],(some 27)⟩,⟨[28],[32,35,37,39,43,46,48,50],(some 51)⟩,⟨[52,53],[],none⟩]])
 .ret))
def i_Q87:IFun:=⟨3,60,[.tmp 6],c_Q87,false⟩
theorem ok_Q87:FunOK Try.prog F_Q87 i_Q87:=⟨Try.f87,[5,4],[],Try.func87,by kernel_rfl⟩
def c_Q88:ICode:=(.seq (.reg [3,4] [o_ 3 (.box (some 3) 2 (t_ 1)),o_ 4 (.alloc (some 4) [(.int .i64 0),(.int .i64 0)])]) (.seq (.draw [] [o_ 5 (mv 0),s_ 6 (nc 5) [(5,0)],s_ 7 (fa 2 6) [(6,1)],s_ 8 (ld 7) [(7,2)],o_ 9 (.idxArr 2 1 (t_ 3) (k_ 1)),s_ 10 (ld 9) [(9,4)],s_ 11 (ix 1 8 10) [(8,3),(10,5)],s_ 12 (ld 11) [(11,6)],o_ 13 (.idxArr 2 1 (t_ 3) (k_ 1)),s_ 14 (ld 13) [(13,8)],s_ 15 (bj .sub 14 1) [(14,9)],s_ 16 (cl F_Q84 [(t_ 12),(t_ 15)]) [(12,7),(15,10)],e_ (s3 2 4 16) [(16,11)]] [[⟨[0,1,2,3,4,5,6,7,8,9,10],[],(some 11)⟩,⟨[],[],(some 12)⟩,⟨[],[],none⟩]]) .ret))
def i_Q88:IFun:=⟨2,17,[.cell 4 (some 2)],c_Q88,false⟩
theorem ok_Q88:FunOK Try.prog F_Q88 i_Q88:=⟨Try.f88,[4,3],[],Try.func88,by kernel_rfl⟩
def c_Q89:ICode:=(.seq (.reg [3,4] [o_ 3 (.box (some 3) 2 (t_ 1)),o_ 4 (.alloc (some 4) [(.int .i64 0),(.int .i64 0)])]) (.seq (.draw [] [o_ 5 (.idxArr 2 1 (t_ 3) (k_ 0)),s_ 6 (ld 5) [(5,0)],o_ 7 (mv 0),s_ 8 (nc 7) [(7,2)],s_ 9 (fa 2 8) [(8,3)],s_ 10 (ld 9) [(9,4)],o_ 11 (.idxArr 2 1 (t_ 3) (k_ 1)),s_ 12 (ld 11) [(11,6)],s_ 13 (ix 1 10 12) [(10,5),(12,7)],s_ 14 (ld 13) [(13,8)],s_ 15 (bj .sub 14 1) [(14,9)],s_ 16 (cl F_Q84 [(t_ 6),(t_ 15)]) [(6,1),(15,10)],e_ (s3 2 4 16) [(16,11)]] [[⟨[0,1,2,3,4,5,6,7,8,9,10],[],(some 11)⟩,⟨[],[],(some 12)⟩,⟨[],[],none⟩]]) .ret))
def i_Q89:IFun:=⟨2,17,[.cell 4 (some 2)],c_Q89,false⟩
theorem ok_Q89:FunOK Try.prog F_Q89 i_Q89:=⟨Try.f89,[4,3],[],Try.func89,by kernel_rfl⟩
def c_Q90:ICode:=(.seq (.reg [2,3] [o_ 2 (.box (some 2) 5 (t_ 0)),o_ 3 (.box (some 3) 5 (t_ 1)),o_ 4 (.mov (k_ 0))]) (.seq (.block 0 [] (.seq (.reg [] [o_ 6 (fa 0 2),o_ 7 (ld 6),o_ 8 (fa 0 3),o_ 9 (ld 8),o_ 10 (bi .neq 7 9),o_ 11 (mv 10),g_ 12 11 false (fa 1 2),g_ 13 11 false (ld 12),g_ 14 11 false (fa 1 3),g_ 15 11 false (ld 14),g_ 16 11 false (bi .neq 13 15),o_ 17 (po 11 16),o_ 5 (mv 17)]) (.cond (t_ 5) (.seq (.reg [] [o_ 4 (.mov (k_ 3))]) .ret) (.seq (.reg [] [o_ 19 (fa 2 2),o_ 20 (ld 19),o_ 21 (fa 2 3),o_ 22 (ld 21),o_ 23 (bi .neq 20 22),o_ 24 (mv 23),g_ 25 24 false (fa 3 2),g_ 26 24 false (ld 25),g_ 27 24 false (fa 3 3),g_ 28 24 false (ld 27),g_ 29 24 false (cl F_Q100 [(t_ 26),(t_ 28)]),g_ 30 24 false (.not (t_ 29)),o_ 31 (po 24 30),o_ 18 (mv 31)]) (.cond (t_ 18) (.seq (.reg [] [o_ 4 (.mov (k_ 1))]) .ret) .skip))))) (.seq (.reg [] [o_ 4 (.mov (k_ 0))]) .ret)))
def i_Q90:IFun:=⟨2,32,[.tmp 4],c_Q90,true⟩
theorem ok_Q90:FunOK Try.prog F_Q90 i_Q90:=⟨Try.f90,[3,2],[],Try.func90,by kernel_rfl⟩
def c_Q91:ICode:=(.seq (.reg [1,2] [o_ 1 (.box (some 1) 2 (t_ 0)),o_ 2 (.alloc (some 2) [(.int .i64 0),(.int .i64 0)])]) (.seq (.reg [] [o_ 3 (.idxArr 2 1 (t_ 1) (k_ 0)),o_ 4 (ld 3),o_ 5 (.idxArr 2 1 (t_ 1) (k_ 1)),o_ 6 (ld 5),o_ 7 (bj .sub 6 1),o_ 8 (cl F_Q84 [(t_ 4),(t_ 7)]),n_ (s3 2 2 8)]) .ret))
def i_Q91:IFun:=⟨1,9,[.cell 2 (some 2)],c_Q91,true⟩
theorem ok_Q91:FunOK Try.prog F_Q91 i_Q91:=⟨Try.f91,[2,1],[],Try.func91,by kernel_rfl⟩
def c_Q97:ICode:=(.seq (.reg [] [o_ 2 (.mov xf)]) (.seq (.reg [] [o_ 3 (mv 0),o_ 4 (.bin .eql (t_ 3) (.const (.p (.int .u8 9)))),o_ 5 (mv 4),g_ 6 5 false (mv 0),g_ 7 5 false (.bin .eql (t_ 6) (.const (.p (.int .u8 10)))),o_ 8 (po 5 7),o_ 9 (mv 8),g_ 10 9 false (mv 0),g_ 11 9 false (.bin .eql (t_ 10) (.const (.p (.int .u8 12)))),o_ 12 (po 9 11),o_ 13 (mv 12),g_ 14 13 false (mv 0),g_ 15 13 false (.bin .eql (t_ 14) (.const (.p (.int .u8 32)))),o_ 16 (po 13 15),o_ 2 (mv 16)]) .ret))
def i_Q97:IFun:=⟨1,17,[.tmp 2],c_Q97,true⟩
theorem ok_Q97:FunOK Try.prog F_Q97 i_Q97:=⟨Try.f97,[],[],Try.func97,by kernel_rfl⟩
def c_Q98:ICode:=(.seq (.reg [] [o_ 4 (.mov (.const (.p (.int .u64 0))))]) (.seq (.reg [] [o_ 5 (mv 0),o_ 6 (mv 1),o_ 7 (bi .xor 5 6),o_ 8 (.bin .mul (t_ 7) (.const (.p (.int .u64 11400714819323198485)))),o_ 0 (mv 8)]) (.seq (.reg [] [o_ 9 (mv 0),o_ 10 (mv 0),o_ 11 (.bin .shr (t_ 10) (.const (.p (.int .u64 29)))),o_ 12 (bi .xor 9 11),o_ 13 (cl F_Q102 [(t_ 12),(k_ 31)]),o_ 4 (mv 13)]) .ret)))
def i_Q98:IFun:=⟨2,14,[.tmp 4],c_Q98,true⟩
theorem ok_Q98:FunOK Try.prog F_Q98 i_Q98:=⟨Try.f98,[],[],Try.func98,by kernel_rfl⟩
def l_Q99_0:ICode:=(.seq (.seq (.reg [] [o_ 9 (mv 4),o_ 10 (mv 0),o_ 11 (.lenStr (t_ 10)),o_ 12 (bi .lss 9 11)]) (.cond (t_ 12) .skip (.exit 0))) (.seq (.block 1 [] (.seq (.reg [] [o_ 5 (.allocA [(.int .u8 0),(.int .u8 0),(.int .u8 0),(.int .u8 0),(.int .u8 0),(.int .u8 0),(.int .u8 0),(.int .u8 0)] 1)]) (.seq (.draw [] [o_ 15 (.sliceArr 8 1 (t_ 5) none none),o_ 16 (mv 0),o_ 17 (mv 4),s_ 18 (.sliceStr (t_ 16) (some (t_ 17)) none) [(16,1),(17,2)],s_ 19 (.copy 1 (t_ 15) (t_ 18)) [(15,0),(18,3)]] [[⟨[0,1,2,3],[],(some 4)⟩,⟨[],[],none⟩]]) (.reg [] [o_ 20 (mv 3),o_ 21 (lw 8 5),o_ 22 (cl F_Q103 [(t_ 21)]),o_ 23 (cl F_Q98 [(t_ 20),(t_ 22)]),o_ 3 (mv 23)])))) (.reg [] [o_ 13 (mv 4),o_ 14 (bj .add 13 8),o_ 4 (mv 14)])))
@[reducible] def m_Q99_0:List Bool:=mb 25 [0,3,4]
@[reducible] def b_Q99_0:List Bool:=mb 25 [3]
def c_Q99:ICode:=(.seq (.reg [] [o_ 2 (.mov (.const (.p (.int .u64 0))))]) (.seq (.reg [] [o_ 6 (mv 0),o_ 7 (.lenStr (t_ 6)),o_ 8 (.conv .u64 (t_ 7)),o_ 3 (mv 8)]) (.seq (.seq (.reg [] [o_ 4 (.mov (k_ 0))]) (.block 0 b_Q99_0 (.loop m_Q99_0 l_Q99_0))) (.seq (.reg [] [o_ 24 (mv 3),o_ 2 (mv 24)]) .ret))))
def i_Q99:IFun:=⟨1,25,[.tmp 2],c_Q99,true⟩
theorem ok_Q99:FunOK Try.prog F_Q99 i_Q99:=⟨Try.f99,[],[(0,m_Q99_0),(1000000,b_Q99_0)],Try.func99,by kernel_rfl⟩
def l_Q100_0:ICode:=(.seq (.reg [] [o_ 14 (bi .lss 13 12)]) (.seq (.cond (t_ 14) .skip (.exit 0)) (.seq (.block 1 [] (.seq (.reg [] [o_ 15 (mv 13),o_ 5 (mv 15)]) (.seq (.draw [] [o_ 16 (mv 0),o_ 17 (mv 5),s_ 18 (ix 2 16 17) [(16,0),(17,1)],s_ 19 (lw 2 18) [(18,2)],o_ 20 (mv 1),o_ 21 (mv 5),s_ 22 (ix 2 20 21) [(20,4),(21,5)],s_ 23 (lw 2 22) [(22,6)],s_ 24 (.eqv true ⟨true,[.str, .str]⟩ (t_ 19) (t_ 23)) [(19,3),(23,7)]] [[⟨[0,1,2,3,4,5,6,7,8],[],none⟩]]) (.cond (t_ 24) (.seq (.reg [] [o_ 4 (.mov xf)]) .ret) .skip)))) (.reg [] [o_ 25 (bj .add 13 1),o_ 13 (mv 25)]))))
@[reducible] def m_Q100_0:List Bool:=mb 26 [0,1,12,13]
@[reducible] def b_Q100_0:List Bool:=mb 26 []
def c_Q100:ICode:=(.seq (.reg [] [o_ 4 (.mov xf)]) (.seq (.seq (.reg [] [o_ 6 (mv 0),o_ 7 (ll 6),o_ 8 (mv 1),o_ 9 (ll 8),o_ 10 (bi .neq 7 9)]) (.cond (t_ 10) (.seq (.reg [] [o_ 4 (.mov xf)]) .ret) .skip)) (.seq (.seq (.reg [] [o_ 11 (mv 0),o_ 12 (ll 11),o_ 13 (.mov (k_ 0))]) (.block 0 b_Q100_0 (.loop m_Q100_0 l_Q100_0))) (.seq (.reg [] [o_ 4 (.mov xt)]) .ret))))
def i_Q100:IFun:=⟨2,26,[.tmp 4],c_Q100,true⟩
theorem ok_Q100:FunOK Try.prog F_Q100 i_Q100:=⟨Try.f100,[],[(0,m_Q100_0),(1000000,b_Q100_0)],Try.func100,by kernel_rfl⟩
def c_Q102:ICode:=(.seq (.reg [] [o_ 4 (.mov (.const (.p (.int .u64 0))))]) (.seq (.reg [] [o_ 6 (mv 1),o_ 7 (.conv .u64 (t_ 6)),o_ 8 (.bin .and (t_ 7) (.const (.p (.int .u64 63)))),o_ 5 (mv 8)]) (.seq (.reg [] [o_ 9 (mv 0),o_ 10 (mv 5),o_ 11 (bi .shl 9 10),o_ 12 (mv 0),o_ 13 (mv 5),o_ 14 (.bin .sub (.const (.p (.int .u64 64))) (t_ 13)),o_ 15 (bi .shr 12 14),o_ 16 (bi .or 11 15),o_ 4 (mv 16)]) .ret)))
def i_Q102:IFun:=⟨2,17,[.tmp 4],c_Q102,true⟩
theorem ok_Q102:FunOK Try.prog F_Q102 i_Q102:=⟨Try.f102,[],[],Try.func102,by kernel_rfl⟩
def l_Q103_0:ICode:=(.seq (.reg [] [o_ 6 (bj .lss 5 8)]) (.seq (.cond (t_ 6) .skip (.exit 0)) (.seq (.block 1 [] (.seq (.reg [] [o_ 7 (mv 5),o_ 4 (mv 7)]) (.reg [] [o_ 8 (mv 3),o_ 9 (mv 4),o_ 10 (.idxArr 8 1 (t_ 1) (t_ 9)),o_ 11 (ld 10),o_ 12 (.conv .u64 (t_ 11)),o_ 13 (mv 4),o_ 14 (.bin .mul (k_ 8) (t_ 13)),o_ 15 (bi .shl 12 14),o_ 16 (bi .or 8 15),o_ 3 (mv 16)]))) (.reg [] [o_ 17 (bj .add 5 1),o_ 5 (mv 17)]))))
@[reducible] def m_Q103_0:List Bool:=mb 19 [1,3,5]
@[reducible] def b_Q103_0:List Bool:=mb 19 [3]
def c_Q103:ICode:=(.seq (.reg [1] [o_ 1 (.box (some 1) 8 (t_ 0)),o_ 2 (.mov (.const (.p (.int .u64 0))))]) (.seq (.reg [] [o_ 3 (.mov (.const (.p (.int .u64 0))))]) (.seq (.seq (.reg [] [o_ 5 (.mov (k_ 0))]) (.block 0 b_Q103_0 (.loop m_Q103_0 l_Q103_0))) (.seq (.reg [] [o_ 18 (mv 3),o_ 2 (mv 18)]) .ret))))
def i_Q103:IFun:=⟨1,19,[.tmp 2],c_Q103,true⟩
theorem ok_Q103:FunOK Try.prog F_Q103 i_Q103:=⟨Try.f103,[1],[(0,m_Q103_0),(1000000,b_Q103_0)],Try.func103,by kernel_rfl⟩
def tr:Tr:=(.node 47 (.node 24 (.node 13 (.node 7 (.node 4 (.node 3 .leaf .leaf) (.node 5 .leaf (.node 6 .leaf (.one F_Q6 i_Q6)))) (.node 10 (.node 8 .leaf .leaf) (.node 11 (.one F_Q10 i_Q10) (.node 12 (.one F_Q11 i_Q11) (.one F_Q12 i_Q12))))) (.node 18 (.node 15 (.node 14 (.one F_Q13 i_Q13) .leaf) (.node 16 (.one F_Q15 i_Q15) (.node 17 .leaf .leaf))) (.node 21 (.node 19 .leaf (.node 20 (.one F_Q19 i_Q19) (.one F_Q20 i_Q20))) (.node 22 (.one F_Q21 i_Q21) (.node 23 (.one F_Q22 i_Q22) (.one F_Q23 i_Q23)))))) (.node 36 (.node 29 (.node 26 (.node 25 (.one F_Q24 i_Q24) (.one F_Q25 i_Q25)) (.node 27 (.one F_Q26 i_Q26) (.node 28 (.one F_Q27 i_Q27) (.one F_Q28 i_Q28)))) (.node 33 (.node 30 (.one F_Q29 i_Q29) (.node 32 (.one F_Q30 i_Q30) (.one F_Q32 i_Q32))) (.node 34 (.one F_Q33 i_Q33) (.node 35 (.one F_Q34 i_Q34) (.one F_Q35 i_Q35))))) (.node 41 (.node 38 (.node 37 (.one F_Q36 i_Q36) (.one F_Q37 i_Q37)) (.node 39 (.one F_Q38 i_Q38) (.node 40 (.one F_Q39 i_Q39) (.one F_Q40 i_Q40)))) (.node 44 (.node 42 (.one F_Q41 i_Q41) (.node 43 (.one F_Q42 i_Q42) (.one F_Q43 i_Q43))) (.node 45 (.one F_Q44 i_Q44) (.node 46 (.one F_Q45 i_Q45) (.one F_Q46 i_Q46))))))) (.node 78 (.node 59 (.node 52 (.node 49 (.node 48 (.one F_Q47 i_Q47) (.one F_Q48 i_Q48)) (.node 50 (.one F_Q49 i_Q49) (.node 51 (.one F_Q50 i_Q50) (.one F_Q51 i_Q51)))) (.node 55 (.node 53 (.one F_Q52 i_Q52) (.node 54 (.one F_Q53 i_Q53) (.one F_Q54 i_Q54))) (.node 56 (.one F_Q55 i_Q55) (.node 58 (.one F_Q56 i_Q56) .leaf)))) (.node 64 (.node 61 (.node 60 (.one F_Q59 i_Q59) (.one F_Q60 i_Q60)) (.node 62 (.one F_Q61 i_Q61) (.node 63 (.one F_Q62 i_Q62) (.one F_Q63 i_Q63)))) (.node 67 (.node 65 (.one F_Q64 i_Q64) (.node 66 (.one F_Q65 i_Q65) (.one F_Q66 i_Q66))) (.node 76 (.one F_Q67 i_Q67) (.node 77 .leaf .leaf))))) (.node 89 (.node 83 (.node 80 (.node 79 (.one F_Q78 i_Q78) (.one F_Q79 i_Q79)) (.node 81 (.one F_Q80 i_Q80) (.node 82 (.one F_Q81 i_Q81) (.one F_Q82 i_Q82)))) (.node 86 (.node 84 (.one F_Q83 i_Q83) (.node 85 (.one F_Q84 i_Q84) (.one F_Q85 i_Q85))) (.node 87 (.one F_Q86 i_Q86) (.node 88 (.one F_Q87 i_Q87) (.one F_Q88 i_Q88))))) (.node 97 (.node 91 (.node 90 (.one F_Q89 i_Q89) (.one F_Q90 i_Q90)) (.node 93 (.one F_Q91 i_Q91) (.node 94 .leaf .leaf))) (.node 100 (.node 98 (.one F_Q97 i_Q97) (.node 99 (.one F_Q98 i_Q98) (.one F_Q99 i_Q99))) (.node 102 (.one F_Q100 i_Q100) (.node 103 (.one F_Q102 i_Q102) (.one F_Q103 i_Q103))))))))
theorem tr_all:tr.all (FunOK Try.prog):=⟨⟨⟨⟨⟨⟨trivial,trivial⟩,⟨trivial,⟨trivial,ok_Q6⟩⟩⟩,⟨⟨trivial,trivial⟩,⟨ok_Q10,⟨ok_Q11,ok_Q12⟩⟩⟩⟩,⟨⟨⟨ok_Q13,trivial⟩,⟨ok_Q15,⟨trivial,trivial⟩⟩⟩,⟨⟨trivial,⟨ok_Q19,ok_Q20⟩⟩,⟨ok_Q21,⟨ok_Q22,ok_Q23⟩⟩⟩⟩⟩,⟨⟨⟨⟨ok_Q24,ok_Q25⟩,⟨ok_Q26,⟨ok_Q27,ok_Q28⟩⟩⟩,⟨⟨ok_Q29,⟨ok_Q30,ok_Q32⟩⟩,⟨ok_Q33,⟨ok_Q34,ok_Q35⟩⟩⟩⟩,⟨⟨⟨ok_Q36,ok_Q37⟩,⟨ok_Q38,⟨ok_Q39,ok_Q40⟩⟩⟩,⟨⟨ok_Q41,⟨ok_Q42,ok_Q43⟩⟩,⟨ok_Q44,⟨ok_Q45,ok_Q46⟩⟩⟩⟩⟩⟩,⟨⟨⟨⟨⟨ok_Q47,ok_Q48⟩,⟨ok_Q49,⟨ok_Q50,ok_Q51⟩⟩⟩,⟨⟨ok_Q52,⟨ok_Q53,ok_Q54⟩⟩,⟨ok_Q55,⟨ok_Q56,trivial⟩⟩⟩⟩,⟨⟨⟨ok_Q59,ok_Q60⟩,⟨ok_Q61,⟨ok_Q62,ok_Q63⟩⟩⟩,⟨⟨ok_Q64,⟨ok_Q65,ok_Q66⟩⟩,⟨ok_Q67,⟨trivial,trivial⟩⟩⟩⟩⟩,⟨⟨⟨⟨ok_Q78,ok_Q79⟩,⟨ok_Q80,⟨ok_Q81,ok_Q82⟩⟩⟩,⟨⟨ok_Q83,⟨ok_Q84,ok_Q85⟩⟩,⟨ok_Q86,⟨ok_Q87,ok_Q88⟩⟩⟩⟩,⟨⟨⟨ok_Q89,ok_Q90⟩,⟨ok_Q91,⟨trivial,trivial⟩⟩⟩,⟨⟨ok_Q97,⟨ok_Q98,ok_Q99⟩⟩,⟨ok_Q100,⟨ok_Q102,ok_Q103⟩⟩⟩⟩⟩⟩⟩
theorem tr_prog:ProgOK Try.prog tr.look:=zadf tr_all
theorem tr_mixed:Try.prog.follows .mixedOrders=true:=by kernel_rfl
theorem look_Q6:tr.look F_Q6=some i_Q6:=rfl
theorem none_Q9:tr.look F_Q9=none:=rfl
theorem look_Q10:tr.look F_Q10=some i_Q10:=rfl
theorem look_Q11:tr.look F_Q11=some i_Q11:=rfl
theorem look_Q12:tr.look F_Q12=some i_Q12:=rfl
theorem look_Q13:tr.look F_Q13=some i_Q13:=rfl
theorem look_Q15:tr.look F_Q15=some i_Q15:=rfl
theorem look_Q21:tr.look F_Q21=some i_Q21:=rfl
theorem look_Q22:tr.look F_Q22=some i_Q22:=rfl
theorem look_Q23:tr.look F_Q23=some i_Q23:=rfl
theorem look_Q24:tr.look F_Q24=some i_Q24:=rfl
theorem look_Q25:tr.look F_Q25=some i_Q25:=rfl
theorem look_Q26:tr.look F_Q26=some i_Q26:=rfl
theorem look_Q27:tr.look F_Q27=some i_Q27:=rfl
theorem look_Q28:tr.look F_Q28=some i_Q28:=rfl
theorem look_Q29:tr.look F_Q29=some i_Q29:=rfl
theorem look_Q30:tr.look F_Q30=some i_Q30:=rfl
theorem look_Q32:tr.look F_Q32=some i_Q32:=rfl
theorem look_Q33:tr.look F_Q33=some i_Q33:=rfl
theorem look_Q34:tr.look F_Q34=some i_Q34:=rfl
theorem look_Q35:tr.look F_Q35=some i_Q35:=rfl
theorem look_Q36:tr.look F_Q36=some i_Q36:=rfl
theorem look_Q39:tr.look F_Q39=some i_Q39:=rfl
theorem look_Q40:tr.look F_Q40=some i_Q40:=rfl
theorem look_Q41:tr.look F_Q41=some i_Q41:=rfl
theorem look_Q42:tr.look F_Q42=some i_Q42:=rfl
theorem look_Q43:tr.look F_Q43=some i_Q43:=rfl
theorem look_Q44:tr.look F_Q44=some i_Q44:=rfl
theorem look_Q45:tr.look F_Q45=some i_Q45:=rfl
theorem look_Q46:tr.look F_Q46=some i_Q46:=rfl
theorem look_Q47:tr.look F_Q47=some i_Q47:=rfl
theorem look_Q48:tr.look F_Q48=some i_Q48:=rfl
theorem look_Q49:tr.look F_Q49=some i_Q49:=rfl
theorem look_Q50:tr.look F_Q50=some i_Q50:=rfl
theorem look_Q51:tr.look F_Q51=some i_Q51:=rfl
theorem look_Q52:tr.look F_Q52=some i_Q52:=rfl
theorem look_Q53:tr.look F_Q53=some i_Q53:=rfl
theorem look_Q54:tr.look F_Q54=some i_Q54:=rfl
theorem look_Q55:tr.look F_Q55=some i_Q55:=rfl
theorem look_Q56:tr.look F_Q56=some i_Q56:=rfl
theorem look_Q59:tr.look F_Q59=some i_Q59:=rfl
theorem look_Q60:tr.look F_Q60=some i_Q60:=rfl
theorem look_Q62:tr.look F_Q62=some i_Q62:=rfl
theorem look_Q63:tr.look F_Q63=some i_Q63:=rfl
theorem look_Q64:tr.look F_Q64=some i_Q64:=rfl
theorem look_Q65:tr.look F_Q65=some i_Q65:=rfl
theorem look_Q66:tr.look F_Q66=some i_Q66:=rfl
theorem look_Q67:tr.look F_Q67=some i_Q67:=rfl
theorem look_Q80:tr.look F_Q80=some i_Q80:=rfl
theorem look_Q81:tr.look F_Q81=some i_Q81:=rfl
theorem look_Q82:tr.look F_Q82=some i_Q82:=rfl
theorem look_Q83:tr.look F_Q83=some i_Q83:=rfl
theorem look_Q84:tr.look F_Q84=some i_Q84:=rfl
theorem look_Q85:tr.look F_Q85=some i_Q85:=rfl
theorem look_Q86:tr.look F_Q86=some i_Q86:=rfl
theorem look_Q87:tr.look F_Q87=some i_Q87:=rfl
theorem look_Q88:tr.look F_Q88=some i_Q88:=rfl
theorem look_Q89:tr.look F_Q89=some i_Q89:=rfl
theorem look_Q90:tr.look F_Q90=some i_Q90:=rfl
theorem look_Q91:tr.look F_Q91=some i_Q91:=rfl
theorem look_Q98:tr.look F_Q98=some i_Q98:=rfl
theorem look_Q99:tr.look F_Q99=some i_Q99:=rfl
theorem look_Q100:tr.look F_Q100=some i_Q100:=rfl
theorem look_Q102:tr.look F_Q102=some i_Q102:=rfl
theorem look_Q103:tr.look F_Q103=some i_Q103:=rfl
theorem none_Q31:tr.look F_Q31=none:=rfl
end Go.Ideal
