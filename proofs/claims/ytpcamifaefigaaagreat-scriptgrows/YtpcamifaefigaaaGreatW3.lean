import Derived.Test.YtpcamifaefigaaaGreatW2
import Derived.Carry
import Derived.OpenShut
import Derived.Test.YtpcamifaefigaaaGreatW1
namespace Go.Ideal
open Go Go.ChangeShapes Go.WideShapes Go.RowKit
set_option linter.unusedSectionVars false
section
variable [Tabs]
theorem zaaw{H:Type}{enc:TypeId×Value->H}{P:Program}{f:Func}{s:ChangeSpec}{apart fresh handsOn again:Bool}{W W':World}{args:Array Value}{v:Value}{ds gs:List (DataW H)}{before pa pv:List MemPlace}
 (hW:DataW.Whole enc P f.params.toList s.vars apart W args.toList ds gs before)
 (hres:∀(b:Nat)(sp:Nat->Bool)(hd:Bool),DataW.TrodAll enc P W' b sp hd f.resultTypes.toList (v.resultList f.resultTypes.size) (s.fn H (ds++gs)).results [])
 (hargs:∀sp:Nat->Bool,(∀ p∈before,sp p.block=true)->DataW.TrodAll enc P W' 0 sp true f.params.toList args.toList (s.fn H (ds++gs)).args pa)
 (hvars:∀sp:Nat->Bool,(∀ p∈before,sp p.block=true)->DataW.TrodVars enc P W' sp s.vars (s.fn H (ds++gs)).vars pv)
 (hps:before=pa++pv)(hk:W.keptBut W' (· ∈ before))(hfz:∀a:Addr,a.block<W.heap.size->W'.frozen? a=W.frozen? a)
 (hok:∀(j:Nat)(t:TypeId)(r:Value),f.resultTypes[j]? = some t->(v.resultList f.resultTypes.size)[j]? = some r->Value.okWide P W' .any 0 t r) :
 s.post enc P f apart fresh handsOn again W args v W':=by
 have hlt:∀p∈before,p.block<W.heap.size:=fun p hp=>hW.lt p hp;have hold:∀p∈before,(fun b=>decide (b<W.heap.size)) p.block=true:=fun p hp=>by simpa using hlt p hp
 refine⟨ds,gs,before,[],pa,pv,hW,hres _ _ _,hargs _ hold,hvars _ hold,World.keptBut_mono (fun p hp=>⟨hp,?_⟩) hk,fun _=>?_⟩
 ·rw[hps,AB]at hp;exact Or.inr hp
 ·obtain⟨_,_,_,_,_,hz,hn⟩:=hW;refine⟨hok,_,_,([]++pa)++pv,⟨[]++pa,pv,trodAll_append (hargs _ (fun _ _=>rfl)) (hres _ _ _),hvars _ (fun _ _=>rfl),rfl,?_,?_⟩,?_⟩
  ·intro b off hp;have hm:MemPlace.cell b off∈before:=(by rw[hps];simpa using hp);rw[hfz _ (hlt _ hm)];exact hz b off hm
  ·intro ha;have:=hn ha;rw[hps]at this
   simpa using this
  ·intro p hp _;rw[hps]
   simpa using hp
theorem zalb{W W':World}(h:Grown W W'){x:MemPlace}(hx:x.block<W.heap.size):W.sameAt W' x:=by
 have h1:=h.1.2.2 x.block hx;have hs:∃o,W.heap[x.block]? = some o:=⟨_,BJ hx⟩;obtain⟨o,ho⟩:=hs;rw[ho]at h1;cases x with
 |cell b off =>
  simp only[MemPlace.block]at ho h1;simp only[World.sameAt,World.cell?,ho];cases o with
  |cells c t fr =>
   cases h2:W'.heap[b]? with
   |none=>rw[h2]at h1;simp at h1
   |some o' =>
    rw[h2]at h1;cases o' with
    |cells c' t' fr'=>simp at h1 ⊢;exact h1.2.2.2 off
    |_=>simp at h1
  |map es ck =>
   cases h2:W'.heap[b]? with
   |none=>rfl
   |some o' =>
    rw[h2]at h1;cases o' with
    |map es' ck'=>rfl
    |_=>simp at h1
  |_ =>
   simp only[]at h1;rw[h1]
 |map b =>
  simp only[MemPlace.block]at ho h1;simp only[World.sameAt,ho];cases h2:W'.heap[b]? with
  |none=>rw[h2]at h1;cases o<;>simp at h1
  |some o' =>
   rw[h2]at h1;cases o with
   |cells c t fr =>
    cases o' with
    |cells c' t' fr' =>
     simp at h1;obtain⟨rfl,rfl,hl,hc⟩:=h1;have:c'=c:=Array.ext_getElem? hc;rw[this]
    |_=>simp at h1
   |map es ck =>
    cases o' with
    |map es' ck'=>simp at h1;rw[h1.1,h1.2]
    |_=>simp at h1
   |_=>simpa using h1
section
variable {H:Type}{enc:TypeId×Value->H}{P:Program}{W W':World}
theorem zqm(hl:laidOutB P=true){sp:Nat->Bool}:∀ {ts:List TypeId}{vs:List Value}{ds:List (DataW H)}{ps:List MemPlace},(∀ t∈ts,P.readableRec t=true/\t<P.types.size) ->
 DataW.TrodAll enc P W 0 (fun _=>true) true ts vs ds ps->(∀ x∈ps,W.sameAt W' x)->(∀ x∈ps,sp x.block=true)->DataW.TrodAll enc P W' 0 sp true ts vs ds ps
 | [],[],[],_,_,h,_,_=>h
 |t::ts,v::vs,d::ds,ps,ht,h,hs,hb=>by
  obtain⟨p,q,h1,h2,rfl⟩:=h;refine⟨p,q,?_,?_,rfl⟩
  ·exact WideElems.Trod_stays hl (ht t (by simp)).1 (ht t (by simp)).2 h1 (fun x hx=>hs x (by simp[hx])) (fun x hx=>hb x (by simp[hx]))
  ·exact zqm hl (fun t' h'=>ht t' (by simp[h'])) h2 (fun x hx=>hs x (by simp[hx])) (fun x hx=>hb x (by simp[hx]))
 | [],_::_,_,_,_,h,_,_=>by simp[DataW.TrodAll]at h
 | [],[],_::_,_,_,h,_,_=>by simp[DataW.TrodAll]at h
 |_::_,[],_,_,_,h,_,_=>by simp[DataW.TrodAll]at h
 |_::_,_::_,[],_,_,h,_,_=>by simp[DataW.TrodAll]at h
def ZW(W:World):Cells:=fun b o=>W.cell? ⟨b,o,none⟩
def CRel(W:World):List Value->List PVal->Prop
 | [],[]=>True
 |r::rs,v::vs=>PRel (ZW W) v r/\CRel W rs vs
 |_,_=>False
theorem CRel.len:∀ {rs:List Value}{vs:List PVal},CRel W rs vs->rs.length=vs.length
 | [],[],_=>rfl
 |_::_,_::_,h=>by simp[h.2.len]
theorem zadx{b:Nat}:∀ {rs:List Value}{vs:List PVal}{o:Nat},CRel W rs vs->(∀(i:Nat)(r:Value),rs[i]? = some r->W.cell? ⟨b,o+i,none⟩=some r)->PCells (ZW W) b o vs
 | [],[],o,_,_=>by simp[PCells]
 |r::rs,v::vs,o,h,hc=>by
  simp only[PCells];refine⟨⟨r,by have:=hc 0 r rfl;simpa[ZW]using this,h.1⟩,zadx h.2 fun i x hx=>?_⟩;have:=hc (i+1) x (by simpa using hx);rw[<- this];congr 2;omega
theorem zqn{z:Cells}{b:Nat}:∀ {x y:List PVal}{o:Nat},PCells z b o x->PCells z b (o+x.length) y->PCells z b o (x++y)
 | [],y,o,_,h=>by simpa using h
 |v::x,y,o,h1,h2=>by
  simp only[PCells,Au]at h1 ⊢;refine⟨h1.1,zqn h1.2 ?_⟩;simp only[Ay]at h2;rw[show o+1+x.length=o+(x.length+1)by omega];exact h2
variable (enc P W) in
def Opn(n:Nat)(t:TypeId) {α:Type}(e:α->List PVal):Prop:=∀cs x,DataW.trod enc P W 0 (fun _=>true) true n t cs=some x->∃a,CRel W cs (e a)
theorem zazv{n:Nat}{t:TypeId}{k:IntKind}(ht:P.underlying t=some (.int k)):Opn enc P W n t (fun i:{ i:Int // (Lit.int k i).wf=true }=>[.int k i.1]):=by
 intro cs x h;obtain⟨i,rfl,_,hw⟩:=DataW.trod_int ht h;exact⟨⟨i,hw⟩,by simp[CRel,PRel]⟩
theorem zajc{a:Addr}{m:Nat}{rs:List Value}(h:W.cells? 0 a m=some rs):rs.length=m/\∀(i:Nat)(r:Value),rs[i]? = some r->W.cell? (a.add i)=some r:=by
 unfold World.cells? at h;rw[if_pos (A9 _)]at h;have hl:=mapM_some_length h;refine⟨by simpa using hl,fun i r hr=>?_⟩
 have hi:i<m:=by
  have:=(Aa.1 hr).1;simp at hl;omega
 rw[mapM_some_get h i i (by simp[hi]),hr]
theorem zanp{a:Addr}{v:Value}(h:W.cell? a=some v):a=⟨a.block,a.off,none⟩:=by
 cases a with
 |mk b o s =>
  cases s with
  |none=>rfl
  |some s =>
   simp only[World.cell?]at h;split at h<;>simp at h
theorem add_add{a:Addr}{n m:Nat}(h:a.spot=none):(a.add n).add m=⟨a.block,a.off+n+m,none⟩:=by
 obtain⟨b,o,s⟩:=a;simp only at h;subst h;unfold Addr.add;by_cases h1:n=0<;>by_cases h2:m=0<;>simp[h1,h2]
def slval{α:Type}(esz:Nat)(e:α->List PVal):Option (List α)->PVal
 |none=>.nilslice
 |some l=>.slice esz l.length (l.flatMap e)
theorem zanq{n:Nat}{t u:TypeId} {α:Type}{e:α->List PVal}(ht:P.underlying t=some (.slice u))(he:∀a,(e a).length=P.cellsOf u)(hpos:0<P.cellsOf u)(h:Opn enc P W n u e):Opn enc P W (n+1) t (fun o:Option (List α)=>[slval (P.cellsOf u) e o]):=by
 intro cs x hx;rcases DataW.trod_slice ht hx with⟨rfl,_⟩|⟨a,len,cap,elems,rest,m,hm,rfl,_,_,hc1,hc2,hlen,hE,_,_⟩
 ·exact⟨none,by simp[CRel,PRel,slval]⟩
 ·obtain rfl:n=m:=by omega
  ·have hc:len<=cap/\cap<=maxLen:=⟨hc1,hc2⟩
   have hel:∀i,i<len->∃rs b,W.cells? 0 (a.add (i*P.cellsOf u)) (P.cellsOf u)=some rs/\CRel W rs (e b):=by
    intro i hi;have:=hE i hi;rw[Ae (by omega)]at this;simp only[Option.bind_eq_some_iff]at this;obtain⟨rs,h1,h2⟩:=this;obtain⟨b,hb⟩:=h _ _ h2;exact⟨rs,b,h1,hb⟩
   have hsp:0<len->a.spot=none:=by
    intro h0;obtain⟨rs,b,h1,h2⟩:=hel 0 h0;obtain⟨hl,hc⟩:=zajc h1;have h3:0<rs.length:=(by omega);have:=zanp (hc 0 _ (Ae h3));rw[Ca]at this;have e0:(a.add 0).add 0=a:=rfl;rw[e0]at this;rw[this]
   have key:∀m,m<=len->∃l:List α,l.length=m/\(m=0\/PCells (ZW W) a.block a.off (l.flatMap e)):=by
    intro m
    induction m with
    |zero=>intro _;exact⟨[],rfl, .inl rfl⟩
    |succ m ih =>
     intro hm;obtain⟨l,hl,hp⟩:=ih (by omega);obtain⟨rs,b,h1,h2⟩:=hel m (by omega);obtain⟨hl2,hc2⟩:=zajc h1;have hs:=hsp (by omega);refine⟨l++[b],by simp[hl], .inr ?_⟩
     have hfl:(l.flatMap e).length=m*P.cellsOf u:=by
      rw[<- hl];clear hl hp
      induction l with
      |nil=>simp
      |cons x l ih2=>simp only[A0,Ah,he,ih2,Ay];rw[Di,B3]
     have hpc:PCells (ZW W) a.block (a.off+m*P.cellsOf u) (e b):=by
      refine zadx h2 fun i r hr=>?_;have:=hc2 i r hr;rw[add_add hs]at this;exact this
     rw[Cm];refine zqn ?_ ?_
     ·rcases hp with h0|hp
      ·subst h0;have:l=[]:=Av.1 hl;subst this;simp[PCells]
      ·exact hp
     ·rw[hfl];simpa using hpc
   obtain⟨l,hl,hp⟩:=key len (Ak _);refine⟨some l,?_,trivial⟩;simp only[slval,PRel];refine⟨a,cap,by rw[hl],by rw[hl];exact hc.1,?_,?_⟩
   ·clear hp hl
    induction l with
    |nil=>simp
    |cons x l ih2=>simp only[A0,Ah,he,ih2,Ay];rw[Di,B3]
   ·rw[hl];rcases hp with h0|hp
    ·exact .inl h0
    ·by_cases h0:len=0
     ·exact .inl h0
     ·have hs:=hsp (by omega);exact .inr ⟨a.block,a.off,by obtain⟨b,o,s⟩:=a;simp only at hs;subst hs;rfl,hp⟩
variable (W) in
def Stands(v:IVal)(r:Value):Prop:=v.passOK=true/\∀tz:TabZ (ZW W),VRel { M:=⟨[],[]⟩,m:=fun _=>none,z:=ZW W,tab:=tz } v r
theorem zady{t u:TypeId} {α:Type}{e:α->List PVal}(ht:P.underlying t=some (.slice u))(he:∀a,(e a).length=P.cellsOf u)(hpos:0<P.cellsOf u)(ho:∀n,Opn enc P W n u e){v:Value}{base:Nat}{d:DataW H}{ps:List MemPlace}
 (hv:Value.okWide P W .any base t v)(h:DataW.Trod enc P W 0 (fun _=>true) true t v d ps):∃o:Option (List α),Stands W (.p (slval (P.cellsOf u) e o)) v:=by
 obtain⟨a,len,cap,rfl⟩:=okWide_slice ht hv;obtain⟨n,hn⟩:=h;cases n with
 |zero=>simp[DataW.trod]at hn
 |succ n =>
  obtain⟨o,h1⟩:=zanq ht he hpos (ho n) _ _ hn;exact⟨o,rfl,fun _=>by simp only[VRel];exact h1.1⟩
theorem zanr[B:Base] {Γ:Prog}(hm:P.follows .mixedOrders=true)(hΓ:ProgOK P Γ)(hB:BaseOK P){f:FuncId}{vs:J3}{rs:List Value}(h:CW Γ f vs []=some (.p (.bool true),[]))(tz:TabZ (ZW W))(hs:TsRel { M:=⟨[],[]⟩,m:=fun _=>none,z:=ZW W,tab:=tz } vs rs) :
 Calls P f rs.toArray W fun e W'=>e = .returned (.bool true)/\Grown W W':=by
 refine Calls.mono (OracleOK.calls (CW_ok hm hΓ hB) h tz (fun _ _ _ e=>e) hs) ?_;rintro e w' ⟨rv,d,rfl,hv,hg⟩;simp only[VRel,PRel]at hv;rw[hv];exact⟨rfl,hg⟩
end
end
end Go.Ideal
namespace Go.Ideal
open Go Go.ChangeMaps
set_option linter.unusedSectionVars false
section
variable [Tabs]
section
variable {P:Program}
theorem zans{f:FuncId}{args az:J3}{r:IVal}
 (hbody:∀(c:Ctx)(w:World)(l:List Value),c.M=⟨[],[]⟩->WRel c w->TsRel c az l->Calls P f l.toArray w fun e w'=>∃rv d v' H1,freezeRes H1 v'=some r/\freshRes H1 v'=true/\e = .returned rv/\d.M=⟨[],H1⟩/\Step c w d w'/\Un c d/\v'.passOK=true/\VRel d v' rv)
 {H:J2}(has:freezeAll H args=some az)(c:Ctx)(w:World)(l:List Value)(hM:c.M=⟨[],H⟩)(hW:WRel c w)(hl:TsRel c args l) :
 Calls P f l.toArray w fun e w'=>∃rv d,e = .returned rv/\d.M=⟨[],H⟩/\Step c w d w'/\Un c d/\r.passOK=true/\VRel d r rv:=by
 have hH:c.M.heap=H:=(by rw[hM]);rw[<- hH]at has
 let z0:Cells:=fun b o=>w.cell? ⟨b,o,none⟩
 have t0:TabZ z0:=TabZ.mono c.tab fun b o u hu=>hW.z b o u hu
 have hW0:WRel { M:=⟨[],[]⟩,m:=fun _=>none,z:=z0,tab:=t0 } w :=
  ⟨fun b o u hu=>hu,fun k cs e v op b q K _ h2=>(by cases h2),fun k es ck b q K _ h2=>(by cases h2),fun k l b q K q' K' _ _ h3 _=>(by cases h3),fun k b q K _ h2=>(by cases h2),fun k x h2=>(by cases h2)⟩
 have hargs:TsRel { M:=⟨[],[]⟩,m:=fun _=>none,z:=z0,tab:=t0 } az l:=zfd (z1:=z0) hW (fun b o u hu=>hW.z b o u hu) (fun b _ o u hu=>hu) rfl has hl;refine Calls.mono (hbody _ w l rfl hW0 hargs) ?_;rintro e w' ⟨rv,d,v',H1,hr,hfr,rfl,hd,hs,_,hp,hv⟩;have hno:∀b,¬Ctx.Own { M:=⟨[],[]⟩,m:=fun _=>none,z:=z0,tab:=t0 } b:=fun b ⟨k,q,K,hk⟩=>(by cases hk);have hsame:∀b,b<w.heap.size->w'.heap[b]? = w.heap[b]? := fun b hb=>hs.same b hb (hno b)
 let z1:Cells:=fun b o=>match c.z b o with|some u=>some u|none=>if w.heap.size<=b then w'.cell? ⟨b,o,none⟩else none
 have hz1:∀b o u,c.z b o=some u->z1 b o=some u:=fun b o u hu=>by simp[z1,hu]
 have t1:TabZ z1:=TabZ.mono c.tab hz1
 have hcz:∀b o,w.heap.size<=b->c.z b o=none:=by
  intro b o hb;cases hu:c.z b o with
  |none=>rfl
  |some u=>exact absurd (zcf (hW.z _ _ _ hu)) (by omega)
 have hstep:Step c w { M:=c.M,m:=c.m,z:=z1,tab:=t1 } w':=by
  have hext:c.Ext { M:=c.M,m:=c.m,z:=z1,tab:=t1 }:=⟨fun k cs e v o hk=>⟨cs,v,o,hk,Ak _,fun _ x hx=>hx⟩,fun k es ck hk=>⟨es,ck,hk,fun x hx=>hx⟩,hz1⟩;refine⟨hext,⟨fun b o u hu=>?_,fun k cs e v op b q K h1 h2=>?_,fun k es ck b q K h1 h2=>?_,hW.inj,fun k b q K h1 h2 o=>?_,hW.dom⟩,hs.size,fun b hb _=>hsame b hb,fun b ho _=>ho,fun b o u hu hb=>?_,hs.also⟩
  ·simp only[z1]at hu;split at hu
   ·rename_i u' hu';injection hu with hu;subst hu;have:=hW.z _ _ _ hu';exact zhf (hsame b (zcf this)) this
   ·split at hu
    ·exact hu
    ·cases hu
  ·obtain⟨C',T,h3,h4,h5,h6,h7⟩:=hW.blk k cs e v op b q K h1 h2;exact⟨C',T,by rw[hsame b (hW.bound (hW.dom _ _ h2) h2)];exact h3,h4,h5,h6,fun j x hx=>by obtain⟨r',g1,g2,g3⟩:=h7 j x hx;exact⟨r',g1,g2,g3.ext hext⟩⟩
  ·obtain⟨ents,h3,h4⟩:=hW.mp k es ck b q K h1 h2;exact⟨ents,by rw[hsame b (hW.bound (hW.dom _ _ h2) h2)];exact h3,h4.ext hext⟩
  ·have hb:=hW.bound h1 h2;simp only[z1,hW.zdis k b q K h1 h2 o];rw[if_neg (by omega)]
  ·simp only[z1]at hu;split at hu
   ·rename_i u' hu';rw[hu'];exact hu
   ·rw[if_neg (by omega)]at hu;cases hu
 have hdH:d.M.heap=H1:=(by rw[hd]);rw[<- hdH]at hr hfr
 have hvr:=zoh (z1:=z1) (d:={ M:=c.M,m:=c.m,z:=z1,tab:=t1 }) hs.rel (fun b ho o u hu=>by
  have hb:w.heap.size<=b:=by
   rcases AV b w.heap.size with h'|h'
   ·exact absurd (hs.own b ho h') (hno b)
   ·exact h'
  simp only[z1,hcz b o hb];rw[if_pos hb]
  exact hu) rfl hr hfr hv
 exact⟨rv,{ M:=c.M,m:=c.m,z:=z1,tab:=t1 },rfl,hM,hstep,fun _ _ h=>h,hvr.2,hvr.1⟩
structure RCut where
 pre:ICode
 x:Opd
 it:Nat
 nx:Nat
 mo:Nat
 en:Nat
 mB:List Bool
 nb:Nat
 mN:List Bool
 az:List IOper
 body:ICode
 mO:List Bool
 rest:ICode
def RCut.on(F:RCut)(k v:IVal)(T:J3):J3:=((T.set F.nx (.tup [.p (.bool true),k,v])).set F.mo (.p (.bool true))).set F.en (.tup [k,v])
def RCut.off(F:RCut)(T:J3):J3:=(T.set F.nx .undef).set F.mo (.p (.bool false))
def RCut.round(F:RCut):ICode := .block F.nb F.mN (.seq (.reg [] F.az) F.body)
def rangeParts(P:Program)(loc:List Nat)(mk:List (Nat×List Bool))(cur:Nat)(a b:Code):Option RCut :=
 match a with
 | .seq (.region _ rops false) (.block ob (.loop (.seq (.region _ sops false) (.seq (.cond (.tmp mo) .skip (.exit oe)) (.block nb (.seq (.region _ aops false) body)))))) =>
   match rops.toList.reverse,sops.toList,aops.toList with
   |⟨some it, .range t (.tmp x),_,_,_,none⟩::pr,[⟨some nx, .next (.tmp i1) false,_,_,_,none⟩,⟨some mo1, .extract (.tmp n1) 0,_,_,_,none⟩],⟨some en, .entry (.tmp i2),_,_,_,none⟩::az =>
    match decide (i1=it/\i2=it/\mo1=mo/\n1=nx/\oe=ob/\nx≠it/\mo≠it/\mo≠nx)&&(isMapT P t&&((freshOf loc rops.toList).isEmpty&&(freshOf loc aops.toList).isEmpty))with
    |true=>match compSeq P loc rops.toList pr.reverse,compSeq P loc aops.toList az,compCode P loc mk nb body,compCode P loc mk cur b with
     |some ip,some ia,some ib,some ir=>some ⟨.reg [] ip, .tmp x,it,nx,mo,en,maskOf mk ob,nb,maskOf mk (nb+1000000),ia,ib,maskOf mk (ob+1000000),ir⟩
     |_,_,_,_=>none
    |false=>none
   |_,_,_=>none
 |_=>none
def cutComp(P:Program)(loc:List Nat)(mk:List (Nat×List Bool))(cur:Nat):Code->Option RCut
 | .seq a b=>match rangeParts P loc mk cur a b with
   |some F=>some F
   |none=>match compCode P loc mk cur a,cutComp P loc mk cur b with
    |some x,some F=>some { F with pre := .seq x F.pre }
    |_,_=>none
 |_=>none
def RRounds(C:Oracle)(F:RCut)(n i:Nat)(blk:IBlk)(K:IExit->St->Prop):List Ent->St->Prop
 | [],S=>F.nx<S.T.length/\F.mo<S.T.length/\(maskT F.mB S.T)[F.it]? = some (.opq n)/\∃e S',evalCode C loopW F.rest ⟨maskT F.mO (F.off (maskT F.mB S.T)),S.M⟩=some (e,S')/\K e S'
 |(k,v,_)::r,S=>F.nx<S.T.length/\F.mo<S.T.length/\(maskT F.mB S.T)[F.it]? = some (.opq n)/\∃S',evalCode C loopW F.round ⟨F.on k v (maskT F.mB S.T),S.M⟩=some (.normal,S')/\S'.M.heap[i]? = some blk/\RRounds C F n i blk K r S'
def stamps(es:List Ent)(ck:Nat):Prop:=(es.map (·.2.2)).Nodup/\∀e∈es,e.2.2<ck
def RBody(C:Oracle)(F:RCut)(S:St)(K:IExit->St->Prop):Prop :=
 ∃e S1,evalCode C loopW F.pre S=some (e,S1)/\match e with
  | .normal=>∃i es ck,evalOpd S1.T [] [] F.x = .map i/\S1.M.heap[i]? = some (.map es ck)/\stamps es ck/\∀n σ,σ.Perm es->RRounds C F n i (.map es ck) K σ ⟨S1.T.set F.it (.opq n),S1.M⟩
  |e=>K e S1
theorem zvv{C:Oracle}{F:RCut}{p:ICode}{n i:Nat}{blk:IBlk}{K:IExit->St->Prop}:∀ {σ:List Ent}{S:St},RRounds C { F with pre:=p } n i blk K σ S->RRounds C F n i blk K σ S
 | [],_,h=>h
 |(_,_,_)::_,_,⟨h1,h2,h3,S',h4,h5,h6⟩=>⟨h1,h2,h3,S',h4,h5,zvv h6⟩
def left(es:List Ent)(seen:Array Nat):List Ent:=es.filter fun e=>decide (e.2.2∉seen)
theorem zadz{x:Ent}:∀ {L:List Ent},(L.map (·.2.2)).Nodup->x∈L->(x::L.filter (fun e=>decide (e.2.2≠x.2.2))).Perm L
 | [],_,h=>by simp at h
 |y::L,hn,h=>by
  rw[At,Bm]at hn;rcases Am.1 h with rfl|h
  ·have e1:(x::L).filter (fun e=>decide (e.2.2≠x.2.2))=L:=by
    rw[CX (by simp)];refine Cn.2 fun z hz=>?_;have:z.2.2≠x.2.2:=fun e=>hn.1 (by rw[<- e];exact AZ.2 ⟨z,hz,rfl⟩)
    simpa using this
   rw[e1]
  ·have hne:y.2.2≠x.2.2:=fun e=>hn.1 (by rw[e];exact AZ.2 ⟨x,h,rfl⟩);rw[CY (by simpa using hne)];exact(List.Perm.swap _ _ _).trans ((zadz hn.2 h).cons y)
theorem zant{es:List Ent}{seen:Array Nat}{x:Ent}(hn:(es.map (·.2.2)).Nodup)(hx:x∈left es seen):(x::left es (seen.push x.2.2)).Perm (left es seen):=by
 have e:left es (seen.push x.2.2)=(left es seen).filter (fun e=>decide (e.2.2≠x.2.2)):=by
  unfold left;rw[CU];congr 1;funext z;by_cases h1:z.2.2=x.2.2<;>by_cases h2:z.2.2∈seen<;>simp[h1,h2]
 rw[e];refine zadz ?_ hx;exact hn.sublist ((List.filter_sublist).map _)
section
variable {C:Oracle}{loc:List Nat}{mk:List (Nat×List Bool)}{F:RCut}{n i bm q Kq ob sid aid:Nat}{es:List Ent}{ck:Nat}{K:IExit->St->Prop}{Q:Exit->Act->World->Prop}{c0:Ctx}{w0:World}{sops aops:Array Oper}{asl:List Oper}{body rest:Code}{t1 t2 t3:TypeId}{p1 p2 p3:String}{e1 e2 e3:Array Edge}{dfs:List Deferred}
theorem zqo(hC:OracleOK P C)(hD:DrawOK P C loc)(hst:stamps es ck)
 (hs:sops.toList=[⟨some F.nx, .next (.tmp F.it) false,t1,p1,e1,none⟩,⟨some F.mo, .extract (.tmp F.nx) 0,t2,p2,e2,none⟩])
 (ha:aops.toList=⟨some F.en, .entry (.tmp F.it),t3,p3,e3,none⟩::asl)(hca:compSeq P loc aops.toList asl=some F.az)(hcb:compCode P loc mk F.nb body=some F.body)
 (hni:F.nx≠F.it)(hmi:F.mo≠F.it)(hmn:F.mo≠F.nx)
 (hrest:∀(c':Ctx)(a':Act)(w':World)(S':St),FStep c0 w0 c' w'->c'.M=S'.M->TRel c' S'.T a'.tmps->a'.defers=dfs->(∃ e S2,evalCode C loopW F.rest S'=some (e,S2)/\K e S2)->rest.wp P Q a' w') :
 ∀(m:Nat)(seen:Array Nat)(S:St)(c:Ctx)(a:Act)(w:World),(left es seen).length<m->(∀ σ,σ.Perm (left es seen)->RRounds C F n i (.map es ck) K σ S)->c.M=S.M->TRel c S.T a.tmps->a.defers=dfs->RSt c0 w0 n i bm q Kq es ck seen c w ->
  Code.rounds P (.seq (.region sid sops false) (.seq (.cond (.tmp F.mo) .skip (.exit ob)) (.block F.nb (.seq (.region aid aops false) body)))) (Exit.inBlock ob (Exit.then (fun a w=>rest.wp P Q a w) Q)) m a w
 |0,seen,S,c,a,w,hm,_,_,_,_,_=>by omega
 |m+1,seen,S,c,a,w,hm,hR,hM,hT,hdf,hS=>by
  rw[rounds_succ];obtain⟨ents,hents,hrel⟩:=hS.fs.rel.mp _ _ _ _ _ _ hS.mp hS.ad;have hborn:=hrel.born
  have hold:∀x∈ents.toList,x.born<ck:=fun x hx=>by
   obtain⟨k,v,h1,_⟩:=hrel.mem hx;exact hst.2 _ h1
  have hTm:=hT.masked F.mB
  have hl1:F.nx<S.T.length/\F.mo<S.T.length/\(maskT F.mB S.T)[F.it]? = some (.opq n):=by
   have:=hR _ (.refl _);cases hle:left es seen with
   |nil=>rw[hle]at this;exact⟨this.1,this.2.1,this.2.2.1⟩
   |cons x r=>obtain⟨k,v,b⟩:=x;rw[hle]at this;exact⟨this.1,this.2.1,this.2.2.1⟩
  obtain⟨hnl,hml,hit⟩:=hl1;have hlen:=hT.1
  have hitv:a.eval (.tmp F.it) = .pointer (some ⟨n,0,none⟩):=by
   have:=hTm.opds (.tmp F.it) (.tmp F.it) rfl;simp only[evalOpd,Ideal.look,AA,hit,Bv]at this;exact this
  have hs0:sops[0]? = some ⟨some F.nx, .next (.tmp F.it) false,t1,p1,e1,none⟩:=(by rw[<- AY,hs];rfl);have hs1:sops[1]? = some ⟨some F.mo, .extract (.tmp F.nx) 0,t2,p2,e2,none⟩:=(by rw[<- AY,hs];rfl);have hsz:sops.size=2:=(by rw[<- Bj,hs];rfl);refine Go.wp_seq (wp_region ?_);rw[hsz];show wpOps P sops _ [0,1] a w;rcases run_next_at (P:=P) w t1 n bm ck ck seen ents ck hS.it hents hold (Ak _)with⟨h0,hrun⟩|⟨e,he,w1,hw1,hrun⟩
  ·
   have hle:left es seen=[]:=by
    refine BK.2 fun x hx=>?_;have hb:x.2.2∈ents.toList.map (·.born):=(by rw[hborn];exact AZ.2 ⟨x,hx,rfl⟩);obtain⟨y,hy,hyb⟩:=AZ.1 hb
    have:y∉leftOf ents seen:=fun hm=>by
     have:=(Array.mem_iff_getElem.1 hm);obtain⟨j,hj,_⟩:=this;omega
    have hc:seen.contains y.born=true:=by
     cases hcc:seen.contains y.born with
     |true=>rfl
     |false=>exact absurd (by unfold leftOf;simp;exact⟨by simpa using hy,by simpa using hcc⟩) this
    rw[hyb]at hc
    simpa using hc
   have hR0:=hR [] (by rw[hle]);obtain⟨_,_,_,e,S2,hev,hK⟩:=hR0;refine zjo hs0 rfl (rv := .tuple #[.bool false]) (w':=w) ?_ ?_
   ·simp only[execOp,hitv,Sem.run_bind,hrun,Result.andThen];rfl
   have ha1:(a.put (some F.nx) (.tuple #[.bool false])).eval (.tmp F.nx) = .tuple #[.bool false]:=eval_put (by omega);refine zjo hs1 rfl (rv := .bool false) (w':=w) ?_ ?_
   ·simp only[execOp,ha1,Instr.extract];rfl
   have ha2:((a.put (some F.nx) (.tuple #[.bool false])).put (some F.mo) (.bool false)).eval (.tmp F.mo) = .bool false:=eval_put (by simp[Act.put];omega);have hTo:TRel c (F.off (maskT F.mB S.T)) ((a.put (some F.nx) (.tuple #[.bool false])).put (some F.mo) (.bool false)).tmps:=(hTm.put (v := .undef) (r := .tuple #[.bool false]) (by simp only[VRel]) (some F.nx)).put (v := .p (.bool false)) (r := .bool false) (by simp only[VRel,PRel]) (some F.mo);show Exit.then _ _ .normal _ _;simp only[Exit.then];refine Go.wp_seq (wp_cond_false ha2 (Go.wp_exit ?_));simp only[Exit.then,Exit.inBlock,if_true];exact hrest c _ w ⟨maskT F.mO (F.off (maskT F.mB S.T)),S.M⟩ hS.fs hM (hTo.masked _) (by simp[Act.put,hdf]) ⟨e,S2,hev,hK⟩
  ·
   have heM:e∈ents.toList/\e.born∉seen:=by
    have:e∈leftOf ents seen:=(by simpa using he);unfold leftOf at this;simp at this;exact⟨by simpa using this.1,by simpa using this.2⟩
   obtain⟨k,v,hmem,kp,kr,vp,vr⟩:=hrel.mem heM.1;have hx:(k,v,e.born)∈left es seen:=Cd.2 ⟨hmem,by simpa using heM.2⟩;have hperm:=zant hst.1 hx;have hS1:=hS.step (seen':=seen.push e.born) hw1
   obtain⟨S',hround,hheap,_⟩:∃S',evalCode C loopW F.round ⟨F.on k v (maskT F.mB S.T),S.M⟩=some (.normal,S')/\S'.M.heap[i]? = some (.map es ck)/\True:=by
    obtain⟨_,_,_,S',g1,g2,_⟩:=hR _ hperm;exact⟨S',g1,g2,trivial⟩
   have hR':∀σ,σ.Perm (left es (seen.push e.born))->RRounds C F n i (.map es ck) K σ S':=fun σ hσ=>by
    obtain⟨_,_,_,S2,g1,_,g3⟩:=hR _ ((hσ.cons (k,v,e.born)).trans hperm);rw[hround]at g1;injection g1 with g1;injection g1 with _ g1;rw[g1];exact g3
   have hlen':(left es (seen.push e.born)).length<m:=by
    have:=hperm.length_eq;simp at this;omega
   generalize hw2:setBlock w1 n (.mapIter (some bm) ck (seen.push e.born) ck)=w2 at hS1 hrun;refine zjo hs0 rfl (rv := .tuple #[.bool true,e.key,e.val]) (w':=w2) ?_ ?_
   ·simp only[execOp,hitv,Sem.run_bind,hrun,Result.andThen];rfl
   have ha1:(a.put (some F.nx) (.tuple #[.bool true,e.key,e.val])).eval (.tmp F.nx) = .tuple #[.bool true,e.key,e.val]:=eval_put (by omega);refine zjo hs1 rfl (rv := .bool true) (w':=w2) ?_ ?_
   ·simp only[execOp,ha1,Instr.extract];rfl
   have ha2:((a.put (some F.nx) (.tuple #[.bool true,e.key,e.val])).put (some F.mo) (.bool true)).eval (.tmp F.mo) = .bool true:=eval_put (by simp[Act.put];omega)
   have htup:VRel c (.tup [.p (.bool true),k,v]) (.tuple #[.bool true,e.key,e.val]):=by
    simp only[VRel,TsRel];exact⟨[.bool true,e.key,e.val],rfl,_,_,rfl,rfl,by simp only[PRel],_,_,rfl,kp,kr,_,_,rfl,vp,vr,rfl⟩
   have hTo:=(hTm.put htup (some F.nx)).put (v := .p (.bool true)) (r := .bool true) (by simp only[VRel,PRel]) (some F.mo);generalize haa:(a.put (some F.nx) (.tuple #[.bool true,e.key,e.val])).put (some F.mo) (.bool true)=a2 at ha2 hTo ⊢;have hdf2:a2.defers=dfs:=(by rw[<- haa];simp[Act.put,hdf]);show Exit.then _ _ .normal _ _;simp only[Exit.then];refine Go.wp_seq (wp_cond_true ha2 (Go.wp_skip ?_));simp only[Exit.then];refine Go.wp_block (Go.wp_seq (wp_region ?_));have hasz:aops.size=asl.length+1:=(by rw[<- Bj,ha];rfl);have ha0:aops[0]? = some ⟨some F.en, .entry (.tmp F.it),t3,p3,e3,none⟩:=(by rw[<- AY,ha];rfl);rw[hasz,CG,Cq]
   have hit2:a2.eval (.tmp F.it) = .pointer (some ⟨n,0,none⟩):=by
    rw[<- haa];simp only[Act.put,Act.eval,Bu]at hitv ⊢;rw[Bb (by omega),Bb (by omega)];exact hitv
   have hbn:bm≠n:=fun e=>hS.no ⟨_,_,_,by rw[<- e];exact hS.ad⟩
   have hents2:w2.heap[bm]? = some (.map ents ck):=by
    have hh:w1.heap=w.heap:=(by rcases hw1 with rfl|rfl<;>rfl);rw[<- hw2];simp only[setBlock,hh];rw[Bb (Ne.symm hbn)];exact hents
   have hent:=run_entry_at (P:=P) w2 n bm ck seen ents ck e hS1.it hents2 heM.1 (by rw[hborn];exact hst.1);refine zjo ha0 rfl (rv := .tuple #[e.key,e.val]) (w':=w2) ?_ ?_
   ·simp only[execOp,hit2,Sem.run_bind,hent,Result.andThen];rfl
   have htup2:VRel c (.tup [k,v]) (.tuple #[e.key,e.val]):=by
    simp only[VRel,TsRel];exact⟨[e.key,e.val],rfl,_,_,rfl,kp,kr,_,_,rfl,vp,vr,rfl⟩
   have hT3:TRel c (F.on k v (maskT F.mB S.T)) (a2.put (some F.en) (.tuple #[e.key,e.val])).tmps:=hTo.put htup2 (some F.en);unfold RCut.round at hround;simp only[evalCode,freshen]at hround
   have hfin:∀(ex:IExit)(S3:St),(match some (ex,S3)with|some (.exit i,S'')=>(match Nat.beq i F.nb with|true=>some (.normal,⟨maskT F.mN S''.T,S''.M⟩)|false=>some (.exit i,S''))|r=>r)=some (IExit.normal,S')->∀c' a' w',c'.M=S3.M->FStep c w2 c' w'->TRel c' S3.T a'.tmps->a'.defers=dfs ->
    Exit.inBlock F.nb (Exit.then (Code.rounds P (.seq (.region sid sops false) (.seq (.cond (.tmp F.mo) .skip (.exit ob)) (.block F.nb (.seq (.region aid aops false) body)))) (Exit.inBlock ob (Exit.then (fun a w=>rest.wp P Q a w) Q)) m) (Exit.inBlock ob (Exit.then (fun a w=>rest.wp P Q a w) Q))) ex.out a' w':=by
    intro ex S3 hex c' a' w' g1 g2 g3 g4
    have go:∀(a':Act),c'.M=S'.M->TRel c' S'.T a'.tmps->a'.defers=dfs->Code.rounds P (.seq (.region sid sops false) (.seq (.cond (.tmp F.mo) .skip (.exit ob)) (.block F.nb (.seq (.region aid aops false) body)))) (Exit.inBlock ob (Exit.then (fun a w=>rest.wp P Q a w) Q)) m a' w':=fun a' g1 g3 g4 =>
     zqo hC hD hst hs ha hca hcb hni hmi hmn hrest m (seen.push e.born) S' c' a' w' hlen' hR' g1 g3 g4 (hS1.body g2 (by rw[g1];exact hheap))
    cases ex with
    |normal =>
     injection hex with hex;injection hex with _ hex;subst hex;exact go a' g1 g3 g4
    |ret =>
     injection hex with hex;injection hex with hex _;cases hex
    |exit j =>
     simp only at hex;cases hj:Nat.beq j F.nb with
     |true =>
      rw[hj]at hex;injection hex with hex;injection hex with _ hex;have:=Af hj;subst this;simp only[IExit.out,Exit.inBlock,if_true];exact go a' (by rw[g1,<-hex]) (by rw[<- hex];exact g3.masked _) g4
     |false =>
      rw[hj]at hex;injection hex with hex;injection hex with hex _;cases hex
   cases hreg:evalReg C ⟨F.on k v (maskT F.mB S.T),S.M⟩ F.az with
   |none=>rw[hreg]at hround;cases hround
   |some S3 =>
    rw[hreg]at hround;simp only at hround;cases hbd:evalCode C loopW F.body S3 with
    |none=>rw[hbd]at hround;cases hround
    |some p =>
     obtain⟨ex,S4⟩:=p;rw[hbd]at hround
     have hreg2:=zpw (P:=P) (Q:=Exit.then (fun a w=>body.wp P (Exit.inBlock F.nb (Exit.then (Code.rounds P (.seq (.region sid sops false) (.seq (.cond (.tmp F.mo) .skip (.exit ob)) (.block F.nb (.seq (.region aid aops false) body)))) (Exit.inBlock ob (Exit.then (fun a w=>rest.wp P Q a w) Q)) m) (Exit.inBlock ob (Exit.then (fun a w=>rest.wp P Q a w) Q)))) a w) (Exit.inBlock F.nb (Exit.then (Code.rounds P (.seq (.region sid sops false) (.seq (.cond (.tmp F.mo) .skip (.exit ob)) (.block F.nb (.seq (.region aid aops false) body)))) (Exit.inBlock ob (Exit.then (fun a w=>rest.wp P Q a w) Q)) m) (Exit.inBlock ob (Exit.then (fun a w=>rest.wp P Q a w) Q))))) hC asl 1 F.az (all:=aops.toList) (fun j=>by rw[ha,B3,Ar]) (J:=fun z=>z.defers=(a2.put (some F.en) (.tuple #[e.key,e.val])).defers) hca (fun o _ a v h=>by rw[put_defers];exact h) hreg hM hS1.fs.rel hT3 rfl fun c' a' w' h1 h2 h3 h4=>by
      simp only[Exit.then];exact zhs hC ziq hD body F.nb F.body hcb hbd h1 h2.rel h3 fun c2 a4 w4 k1 k2 k3 k4=>hfin ex S4 hround c2 a4 w4 k1 (h2.trans k2) k3 (by rw[k4,h4];simp[Act.put,hdf2])
     simpa using hreg2
end
theorem zxy{loc:List Nat}{mk:List (Nat×List Bool)}{cur:Nat}{a b:Code}{F:RCut}(h:rangeParts P loc mk cur a b=some F) :
 ∃rid sid aid ob rops sops aops body t x pr asl ip t0 p0 e0 t1 p1 e1 t2 p2 e2 t3 p3 e3,a = .seq (.region rid rops false) (.block ob (.loop (.seq (.region sid sops false) (.seq (.cond (.tmp F.mo) .skip (.exit ob)) (.block F.nb (.seq (.region aid aops false) body)))))) /\
  rops.toList=pr++[⟨some F.it, .range t (.tmp x),t0,p0,e0,none⟩]/\F.x = .tmp x /\
  sops.toList=[⟨some F.nx, .next (.tmp F.it) false,t1,p1,e1,none⟩,⟨some F.mo, .extract (.tmp F.nx) 0,t2,p2,e2,none⟩] /\
  aops.toList=⟨some F.en, .entry (.tmp F.it),t3,p3,e3,none⟩::asl/\isMapT P t=true/\compSeq P loc rops.toList pr=some ip/\F.pre = .reg [] ip/\compSeq P loc aops.toList asl=some F.az /\
  compCode P loc mk F.nb body=some F.body/\compCode P loc mk cur b=some F.rest/\F.nx≠F.it/\F.mo≠F.it/\F.mo≠F.nx:=by
 unfold rangeParts at h;split at h
 ·rename_i rid rops ob sid sops mo oe nb aid aops body;split at h
  ·rename_i it t x t0 p0 e0 pr nx i1 t1 p1 e1 mo1 n1 t2 p2 e2 en i2 t3 p3 e3 asl hr hs ha;split at h
   ·rename_i hd;simp only[Aj,decide_eq_true_eq]at hd;obtain⟨⟨d1,d2,d3,d4,d5,d6,d7,d8⟩,hm,_⟩:=hd;split at h
    ·rename_i ip ia ib ir c1 c2 c3 c4;injection h with h;subst h;subst d1 d2 d3 d4 d5
     have hr':rops.toList=pr.reverse++[⟨some i2, .range t (.tmp x),t0,p0,e0,none⟩]:=by
      rw[<- CI rops.toList,hr,By]
     exact⟨rid,sid,aid,oe,rops,sops,aops,body,t,x,pr.reverse,asl,ip,t0,p0,e0,t1,p1,e1,t2,p2,e2,t3,p3,e3,rfl,hr',rfl,hs,ha,hm,c1,rfl,c2,c3,c4,d6,d7,d8⟩
    ·cases h
   ·cases h
  ·cases h
 ·cases h
theorem zanu{C:Oracle}(hC:OracleOK P C){loc:List Nat}{mk:List (Nat×List Bool)}(hD:DrawOK P C loc){K:IExit->St->Prop}:∀(code:Code)(cur:Nat)(F:RCut),cutComp P loc mk cur code=some F ->
 ∀ {S:St}{c:Ctx}{a:Act}{w:World}{Q:Exit->Act->World->Prop},RBody C F S K->c.M=S.M->WRel c w->TRel c S.T a.tmps ->
 (∀ e S' c' a' w',K e S'->c'.M=S'.M->FStep c w c' w'->TRel c' S'.T a'.tmps->a'.defers=a.defers->Q e.out a' w')->code.wp P Q a w:=by
 intro code
 induction code with
 |seq x y ihx ihy =>
  intro cur F hc S c a w Q hB hM hW hT hQ;simp only[cutComp]at hc;split at hc
  ·rename_i F' hp;injection hc with hc;subst hc;obtain⟨rid,sid,aid,ob,rops,sops,aops,body,t,xs,pr,asl,ip,t0,p0,e0,t1,p1,e1,t2,p2,e2,t3,p3,e3,rfl,hr,hx,hs,ha,hm,c1,hpre,c2,c3,c4,d6,d7,d8⟩:=zxy hp;obtain⟨ex,S1,hev,hS1⟩:=hB;rw[hpre]at hev;simp only[evalCode,freshen]at hev;cases hreg:evalReg C S ip with
   |none=>rw[hreg]at hev;cases hev
   |some S1' =>
    rw[hreg]at hev;injection hev with hev;injection hev with e1 e2;subst e1 e2;obtain⟨i,es,ck,hxv,hmap,hst,hR⟩:=hS1;refine Go.wp_seq (Go.wp_seq (wp_region ?_));have hsz:rops.size=pr.length+1:=(by rw[<- Bj,hr,Ah];rfl)
    have hrng:List.range rops.size=List.range' 0 pr.length++[pr.length]:=by
     rw[hsz,Db,CG]
    rw[hrng]
    have hregs:=zru (P:=P) (Q:=Exit.then (fun a w=>(Code.block ob (.loop (.seq (.region sid sops false) (.seq (.cond (.tmp F'.mo) .skip (.exit ob)) (.block F'.nb (.seq (.region aid aops false) body)))))).wp P (Exit.then (fun a w=>y.wp P Q a w) Q) a w) (Exit.then (fun a w=>y.wp P Q a w) Q)) hC pr 0 ip [pr.length] (all:=rops.toList) (fun j hj=>by rw[hr,As,Ac hj]) c1 (J:=fun z=>z.defers=a.defers) (fun o _ a v h=>by rw[put_defers];exact h) hreg hM hW hT rfl fun c1 a1 w1 h1 h2 h3 h4=>by
     have hxr:=h3.opds (.tmp xs) (.tmp xs) rfl;rw[hx]at hxv;rw[hxv]at hxr;simp only[VRel]at hxr;obtain⟨es',ck',hg,bm,q,Kq,had,hxe⟩:=hxr;have hg':c1.M.get (.heap i)=some (.map es ck):=(by rw[h1];exact hmap);rw[hg']at hg;injection hg with hg;injection hg with g1 g2;subst g1 g2;obtain⟨ents,hents,_⟩:=h2.rel.mp _ _ _ _ _ _ hg' had;unfold isMapT at hm;split at hm
     ·rename_i kt et hu;have hrun:=run_range_map (P:=P) w1 t kt et bm ents ck hu hents;refine zjo (o:=⟨some F'.it, .range t (.tmp xs),t0,p0,e0,none⟩) (by rw[A4,<-AY,hr,Ad (Ak _),A6];rfl) rfl (rv := .pointer (some ⟨w1.heap.size,0,none⟩)) (w':=w1.alloc (.mapIter (some bm) ck #[] ck)) ?_ ?_
      ·simp only[execOp,hxe,Sem.run_bind,hrun,Result.andThen];rfl
      have hRS:=RSt.start h2.rel hg' had;show Exit.then _ _ .normal _ _;simp only[Exit.then];refine Go.wp_block (wp_loop_rounds (es.length+1) ?_);have hle:left es #[]=es:=(by unfold left;exact Cn.2 (fun x _=>by simp));refine zqo (P:=P) (K:=K) (dfs:=a.defers) hC hD hst hs ha c2 c3 d6 d7 d8 (fun c' a' w' S' k1 k2 k3 k4 ⟨e,S2,k5,k6⟩=>?_) (es.length+1) #[] ⟨S1'.T.set F'.it (.opq w1.heap.size),S1'.M⟩ c1 _ _ (by rw[hle];omega) (fun σ hσ=>by rw[hle]at hσ;exact hR _ σ hσ) h1 (h3.put (v := .opq w1.heap.size) (by simp only[VRel]) (some F'.it)) (by simp[Act.put,h4]) hRS;exact zhs hC ziq hD y cur F'.rest c4 k5 k2 k1.rel k3 fun c2 a2 w2 l1 l2 l3 l4=>hQ e S2 c2 a2 w2 k6 l1 ((h2.trans k1).trans l2) l3 (by rw[l4,k4])
     ·cases hm
    simpa using hregs
  ·split at hc
   ·rename_i ix F' hcx hcy;injection hc with hc;subst hc;obtain⟨ex,S1,hev,hS1⟩:=hB;simp only[evalCode]at hev;refine Go.wp_seq ?_;split at hev
    ·rename_i S2 hev2;refine zhs hC ziq hD x cur ix hcx hev2 hM hW hT fun c1 a1 w1 h1 h2 h3 h4=>?_;simp only[IExit.out,Exit.then]
     have hB2:RBody C F' S2 K:=by
      refine⟨ex,S1,hev,?_⟩;cases ex with
      |normal =>
       obtain⟨i,es,ck,g1,g2,g3,g4⟩:=hS1;exact⟨i,es,ck,g1,g2,g3,fun n σ hσ=>zvv (g4 n σ hσ)⟩
      |exit _=>exact hS1
      |ret=>exact hS1
     exact ihy cur F' hcy hB2 h1 h2.rel h3 fun e S' c' a' w' k0 k1 k2 k3 k4=>hQ e S' c' a' w' k0 k1 (h2.trans k2) k3 (by rw[k4,h4])
    ·rename_i hne;refine zhs hC ziq hD x cur ix hcx hev hM hW hT fun c1 a1 w1 h1 h2 h3 h4=>?_;cases ex with
     |normal=>exact absurd hev (hne _)
     |exit j=>exact hQ _ S1 c1 a1 w1 hS1 h1 h2 h3 h4
     |ret=>exact hQ _ S1 c1 a1 w1 hS1 h1 h2 h3 h4
   ·cases hc
 |_=>intro cur F hc;simp[cutComp]at hc
end
end
end Go.Ideal
namespace Go.Ideal
open Go
set_option linter.unusedSectionVars false
section
variable [Tabs]
structure RFun where
 np:Nat
 nt:Nat
 res:List IRes
 cut:RCut
def compRange(P:Program)(loc:List Nat)(mk:List (Nat×List Bool))(np:Nat)(f:Func):Option RFun :=
 if f.name = "runtime.NumGoroutine" then none else
 match f.body with
 |some c=>match cutComp P loc mk 0 c,compRes P f.results.toList with
  |some ic,some rs=>some ⟨np,f.ntmps,rs,ic⟩
  |_,_=>none
 |none=>none
def ROK(P:Program)(f:FuncId)(F:RFun):Prop:=∃fn loc mk,P.funcs[f]? = some fn/\compRange P loc mk F.np fn=some F
def RFinal(F:RFun)(r:IVal)(e:IExit)(S:St):Prop:=(e = .ret\/e = .normal)/\∃v,results S F.res=some v/\freezeRes S.M.heap v=some r/\freshRes S.M.heap v=true
def RangePure(C:Oracle)(F:RFun)(args:J3)(H:J2)(r:IVal×J2):Prop :=
 r.2=H/\∃az,freezeAll H args=some az/\az.length=F.np/\RBody C F.cut ⟨az++List.replicate (F.nt-az.length) skipped,⟨[],[]⟩⟩ (RFinal F r.1)
theorem RRounds.both{C:Oracle}{F:RCut}{n i:Nat}{blk:IBlk}{K L:IExit->St->Prop}:∀ {σ:List Ent}{S:St},RRounds C F n i blk K σ S->RRounds C F n i blk L σ S->∃e S',K e S'/\L e S'
 | [],S,⟨_,_,_,e,S1,h1,h2⟩,⟨_,_,_,e',S1',g1,g2⟩=>by
   rw[h1]at g1;injection g1 with g1;injection g1 with g1 g3;subst g1 g3;exact⟨e,S1,h2,g2⟩
 |(_,_,_)::_,S,⟨_,_,_,S1,h1,_,h2⟩,⟨_,_,_,S1',g1,_,g2⟩=>by
  rw[h1]at g1;injection g1 with g1;injection g1 with _ g1;subst g1;exact RRounds.both h2 g2
theorem RBody.both{C:Oracle}{F:RCut}{S:St}{K L:IExit->St->Prop}(h:RBody C F S K)(g:RBody C F S L):∃e S',K e S'/\L e S':=by
 obtain⟨e,S1,h1,h2⟩:=h;obtain⟨e',S1',g1,g2⟩:=g;rw[h1]at g1;injection g1 with g1;injection g1 with g1 g3;subst g1 g3;cases e with
 |normal =>
  obtain⟨i,es,ck,h3,h4,_,h5⟩:=h2;obtain⟨i',es',ck',g3,g4,_,g5⟩:=g2;rw[h3]at g3;injection g3 with g3;subst g3;rw[h4]at g4;injection g4 with g4;injection g4 with g4 g6;subst g4 g6;exact RRounds.both (h5 0 es (.refl _)) (g5 0 es (.refl _))
 |exit j=>exact⟨_,_,h2,g2⟩
 |ret=>exact⟨_,_,h2,g2⟩
theorem RRounds.mono{C D:Oracle}(hC:C.Le D){F:RCut}{n i:Nat}{blk:IBlk}{K:IExit->St->Prop}:∀ {σ:List Ent}{S:St},RRounds C F n i blk K σ S->RRounds D F n i blk K σ S
 | [],_,⟨h1,h2,h3,e,S1,h4,h5⟩=>⟨h1,h2,h3,e,S1,zbc hC zjr h4,h5⟩
 |(_,_,_)::_,_,⟨h1,h2,h3,S1,h4,h5,h6⟩=>⟨h1,h2,h3,S1,zbc hC zjr h4,h5,RRounds.mono hC h6⟩
theorem RBody.mono{C D:Oracle}(hC:C.Le D){F:RCut}{S:St}{K:IExit->St->Prop}(h:RBody C F S K):RBody D F S K:=by
 obtain⟨e,S1,h1,h2⟩:=h;refine⟨e,S1,zbc hC zjr h1,?_⟩;cases e with
 |normal =>
  obtain⟨i,es,ck,h3,h4,h5,h6⟩:=h2;exact⟨i,es,ck,h3,h4,h5,fun n σ hσ=>(h6 n σ hσ).mono hC⟩
 |exit j=>exact h2
 |ret=>exact h2
theorem RangePure.det{C:Oracle}{F:RFun}{args:J3}{H:J2}{r s:IVal×J2}(h:RangePure C F args H r)(g:RangePure C F args H s):r=s:=by
 obtain⟨h1,az,h2,h3,h4⟩:=h;obtain⟨g1,as',g2,g3,g4⟩:=g;rw[h2]at g2;injection g2 with g2;subst g2;obtain⟨e,S,⟨_,v,q1,q2,_⟩,⟨_,v',p1,p2,_⟩⟩:=h4.both g4;rw[q1]at p1;injection p1 with p1;subst p1;rw[q2]at p2;injection p2 with p2;exact Prod.ext p2 (h1.trans g1.symm)
theorem RangePure.mono{C D:Oracle}(hC:C.Le D){F:RFun}{args:J3}{H:J2}{r:IVal×J2}(h:RangePure C F args H r):RangePure D F args H r:=by
 obtain⟨h1,az,h2,h3,h4⟩:=h;exact⟨h1,az,h2,h3,h4.mono hC⟩
theorem zaea{P:Program}(hm:P.follows .mixedOrders=true){C:Oracle}(hC:OracleOK P C){f:FuncId}{F:RFun}(hF:ROK P f F){args:J3}{H H':J2}{r:IVal}(h:RangePure C F args H (r,H')) :
 Enters P f/\∀(c:Ctx)(w:World)(l:List Value),c.M=⟨[],H⟩->WRel c w->TsRel c args l ->
  Calls P f l.toArray w fun e w'=>∃rv d,e = .returned rv/\d.M=⟨[],H'⟩/\Step c w d w'/\Un c d/\r.passOK=true/\VRel d r rv:=by
 obtain⟨fn,loc,mk,hf,hcomp⟩:=hF;unfold compRange at hcomp;split at hcomp
 ·cases hcomp
 ·rename_i hname;split at hcomp
  ·rename_i code hb;split at hcomp
   ·rename_i ic rs hic hrs;injection hcomp with hcomp;have hnt:F.nt=fn.ntmps:=(by rw[<- hcomp]);have hcut:F.cut=ic:=(by rw[<- hcomp]);have hres:F.res=rs:=(by rw[<- hcomp]);obtain⟨hH,az,has,hnp,hB⟩:=h;simp only at hH;subst hH;refine⟨fun args w=>by simp[callFunc,hf,hname,hb],fun c w l hM hW hl=>zans (az:=az) (fun c w l hM hW hl=>?_) has c w l hM hW hl⟩;rw[hcut,hnt]at hB;refine calls_of_wp hf hb ?_
    have hTR:TRel c (az++List.replicate (fn.ntmps-az.length) skipped) (l.toArray++Array.replicate (fn.ntmps-l.toArray.size) undef):=by
     have hll:=hl.length;refine⟨by simp[hll],fun t u hu=>?_⟩;by_cases ht:t<az.length
     ·rw[Ac ht]at hu;obtain⟨r,e,_,hr⟩:=hl.at t u hu;refine⟨r,?_,hr⟩;rw[BO (by simpa[hll]using ht)]
      simpa using e
     ·rw[Ad (by omega),Cs]at hu;split at hu
      ·rename_i hlt;injection hu with hu;subst hu;refine⟨undef,?_,zfz c⟩;rw[Dh (by simp;omega),CQ,if_pos (by simp;omega)]
      ·cases hu
    refine zanu hC (zagn hm hC loc) code 0 ic hic hB hM hW hTR fun e S c' a' w' hK h1 h2 h3 h4=>?_;obtain⟨hex,v,hv,hfz,hfr⟩:=hK;rw[hres]at hv;obtain⟨rv,g1,g2,g3⟩:=zpz (P:=P) h1 h2.rel h3 hrs hv
    have hfin:a'.defers=[]/\∃v,(Go.results fn a'.tmps).run P w' = .ok v w'/\(∃ rv d v' H1,freezeRes H1 v'=some r/\freshRes H1 v'=true/\Ending.returned v = .returned rv/\d.M=⟨[],H1⟩/\Step c w d w'/\Un c d/\v'.passOK=true/\VRel d v' rv) :=
     ⟨h4,rv,g1,rv,c'.inner,v,S.M.heap,hfz,hfr,rfl,by simp[Ctx.inner,h1],FStep.call hM hW h2,FStep.callUn hM h2,g3,VRel.inner v rv g3 g2⟩
    rcases hex with rfl|rfl<;>exact hfin
   ·cases hcomp
  ·cases hcomp
def maskS'(m:List Bool)(T:Env)(M:KM)(k:Env->KM->Prop):Prop:=match m with|[]=>k T M|m=>maskS m T M k
def rndK(C:Oracle)(F:RFun)(n i:Nat)(blk:IBlk)(Q:IVal->J2->Prop):List Ent->Env->KM->Prop
 | [],T,M=>maskS F.cut.mB T M fun T M=>lookE T F.cut.it = .v (.opq n)/\maskS' F.cut.mO (putK F.nt (putK F.nt T (some F.cut.nx) .U) (some F.cut.mo) (.bool false)) M fun T M=>wp C F.nt F.cut.rest (retK F.res Q) T M
 |(k,v,_)::r,T,M=>maskS F.cut.mB T M fun T M=>lookE T F.cut.it = .v (.opq n)/\wp C F.nt F.cut.round (fun e T M=>e = .normal/\M.H[i]? = some blk/\rndK C F n i blk Q r T M) (putK F.nt (putK F.nt (putK F.nt T (some F.cut.nx) (up (.tup [.p (.bool true),k,v]))) (some F.cut.mo) (.bool true)) (some F.cut.en) (up (.tup [k,v]))) M
def rngK(C:Oracle)(F:RFun)(Q:IVal->J2->Prop)(e:IExit)(T:Env)(M:KM):Prop :=
 match e with
 | .normal=>∃i es ck,(opdK T [] [] F.cut.x).den = .map i/\M.H[i]? = some (.map es ck)/\stamps es ck/\F.cut.nx<F.nt/\F.cut.mo<F.nt/\∀n σ,σ.Perm es->rndK C F n i (.map es ck) Q σ (putK F.nt T (some F.cut.it) (.v (.opq n))) M
 |e=>retK F.res Q e T M
theorem zaeb{n:Nat}{T:Env}{R:J3}{i m:Nat}(h:RelE n T R)(e:lookE T i = .v (.opq m)):R[i]? = some (.opq m):=by
 have:=(h.at' i).eq (by rw[e];simp[SV.den]);rw[e,AA]at this;cases hg:R[i]? with
 |none=>rw[hg]at this;simp[SV.den]at this
 |some x=>rw[hg]at this;simp[SV.den]at this;rw[this]
theorem zsa{C:Oracle}{F:RFun}{n i:Nat}{blk:IBlk}{r:IVal}(hx:F.cut.nx<F.nt)(ho:F.cut.mo<F.nt):∀ {σ:List Ent}{T:Env}{M:KM}{S:St},rndK C F n i blk (fun v H'=>freezeRes H' v=some r/\freshRes H' v=true) σ T M->RelE F.nt T S.T->RelM M S.M->RRounds C F.cut n i blk (RFinal F r) σ S
 | [],T,M,S,h,hT,hM=>by
   obtain⟨h1,h2⟩:=h;have hm:=zks (m:=F.cut.mB) hT;refine⟨by rw[hT.len];exact hx,by rw[hT.len];exact ho,zaeb hm.2 h1,?_⟩;have hp:=(hm.2.put (d:=some F.cut.nx) (s := .U) (v := .undef) (.inl rfl)).put (d:=some F.cut.mo) (s := .bool false) (v := .p (.bool false)) (.inr rfl)
   have key:∃T2 M2,RelE F.nt T2 (maskT F.cut.mO (F.cut.off (maskT F.cut.mB S.T)))/\RelM M2 S.M/\wp C F.nt F.cut.rest (retK F.res fun v H'=>freezeRes H' v=some r/\freshRes H' v=true) T2 M2:=by
    unfold maskS' at h2;split at h2
    ·rename_i e;rw[e];exact⟨_,_,zajb hp,ziv hM,h2⟩
    ·exact⟨_,_,(zks hp).2,ziv (ziv hM),h2⟩
   obtain⟨T2,M2,k1,k2,k3⟩:=key;obtain⟨e,S',g1,T3,M3,g2,g3,g4⟩:=zen k3 (S:=⟨_,S.M⟩) k1 k2;obtain⟨he,v,g5,g6⟩:=zju g4 g2 g3;exact⟨e,S',g1,he,v,g5,g6⟩
 |(k,v,_)::σ,T,M,S,h,hT,hM=>by
  obtain⟨h1,h2⟩:=h;have hm:=zks (m:=F.cut.mB) hT;refine⟨by rw[hT.len];exact hx,by rw[hT.len];exact ho,zaeb hm.2 h1,?_⟩;have hp:=((hm.2.put (d:=some F.cut.nx) (RelV.up (.tup [.p (.bool true),k,v]))).put (d:=some F.cut.mo) (s := .bool true) (v := .p (.bool true)) (.inr rfl)).put (d:=some F.cut.en) (RelV.up (.tup [k,v]));obtain⟨e,S',g1,T3,M3,g2,g3,rfl,g4,g5⟩:=zen h2 (S:=⟨F.cut.on k v (maskT F.cut.mB S.T),S.M⟩) hp (ziv hM);exact⟨S',g1,by rw[<- g3.heap];exact g4,zsa hx ho g5 g2 g3⟩
def rngE(C:Oracle)(F:RFun)(Q:IVal->Prop)(e:IExit)(T:Env)(M:KM):Prop :=
 match e with
 | .normal=>∃r,Q r/\rngK C F (fun v H'=>freezeRes H' v=some r/\freshRes H' v=true) .normal T M
 |e=>retK F.res (fun v H'=>∃r,freezeRes H' v=some r/\freshRes H' v=true/\Q r) e T M
theorem zanv[B:Base] {Γ:Prog}{k:Nat}{az:J3}{F:RFun}{Q:IVal->Prop}(hk:Γ k=none)(hb:∀C args H r,RangePure C F args H (r,H)->B.m C k args H (r,H))(hn:(Nat.beq az.length F.np&&Nat.ble az.length F.nt)=true)
 (h:wp (CW Γ) F.nt F.cut.pre (rngE (CW Γ) F Q) (startE 0 az) ⟨[],[]⟩):∃r,(∀ args H,freezeAll H args=some az->CW Γ k args H=some (r,H))/\Q r:=by
 obtain⟨hn,hl⟩:=(Aj _ _).mp hn;have hl:=AH hl;obtain⟨e,S',h1,T,M,h2,h3,h4⟩:=zen h (S:=⟨az++List.replicate (F.nt-az.length) skipped,⟨[],[]⟩⟩) (zql hl) ⟨fun s b hb=>(by cases hb),rfl⟩;cases e with
 |normal =>
  obtain⟨r,hQ,i,es,ck,g1,g2,g3,g4,g5,g6⟩:=h4;refine⟨r,fun args H has=>zagp hk (hb _ args H r ⟨rfl,az,has,Af hn, .normal,S',h1,i,es,ck,?_,by rw[<- h3.heap];exact g2,g3,fun n σ hσ=>zsa g4 g5 (g6 n σ hσ) (h2.put (d:=some F.cut.it) (.inr rfl)) h3⟩),hQ⟩;have:=(zhm h2 RelE.nil [] F.cut.x).eq (by rw[g1];simp);rw[<- this,g1]
 |exit j=>exact h4.elim
 |ret =>
  have h4':retK F.res (fun v H'=>∃r,freezeRes H' v=some r/\freshRes H' v=true/\Q r) .ret T M:=h4;obtain⟨he,v,h5,r,h6,h7,h8⟩:=zju h4' h2 h3;exact⟨r,fun args H has=>zagp hk (hb _ args H r ⟨rfl,az,has,Af hn, .ret,S',h1,he,v,h5,h6,h7⟩),h8⟩
end
end Go.Ideal
namespace Go.Ideal
instance noTabs:Tabs:=⟨fun _=>none⟩
end Go.Ideal
